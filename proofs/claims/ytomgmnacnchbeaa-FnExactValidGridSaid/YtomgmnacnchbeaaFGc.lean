/- Models of functions and proofs that the code runs as they say (written by program). Conditions: the model gives a value. -/
import Derived.Test.YtomgmnacnchbeaaFGb
namespace Go.E
open Go.RowKit Go.Proofs
set_option linter.unusedVariables false
set_option linter.unusedSimpArgs false
set_option maxHeartbeats 2000000

theorem enters208 : Enters Try.prog 208 := ⟨_, _, Try.func208, rfl, by kernel_rfl⟩
def m_impl_auxStatements_j1 (fuel : Nat) (t7 : (List D.statement)) : Option (List D.statement) := some t7
def m_impl_auxStatements_j2 (fuel : Nat) (s6 : (List D.statement) × Int) (t42 : (List D.statement)) : Option (Rd ((List D.statement) × Int) ((List D.statement)) ((List D.statement))) := some (.next (t42, w64 (s6.2 + 1)))
def m_impl_auxStatements_b1 (fuel : Nat) (x0 : D.Address) (x1 : (List D.Address)) (s6 : (List D.statement) × Int) : Option (Rd ((List D.statement) × Int) ((List D.statement)) ((List D.statement))) := (if (decide (s6.2 < (x1.length : Int))) = true then ((idx x1 s6.2).bind fun x28 => ((m_impl_port fuel x0 (w64 (s6.2 + 1))).bind fun r50 => (if decide ((s6.1.length : Int) + (([(⟨(⟨(⟨r50.at_.Machine, r50.at_.Kind, r50.at_.Index⟩ : D.Address), r50.slot, r50.own⟩ : D.thing), (⟨(⟨x28.Machine, x28.Kind, x28.Index⟩ : D.Address), 0, false⟩ : D.thing)⟩ : D.statement)] : (List D.statement)).length : Int) ≤ 4294967296) = true then m_impl_auxStatements_j2 fuel s6 (s6.1 ++ ([(⟨(⟨(⟨r50.at_.Machine, r50.at_.Kind, r50.at_.Index⟩ : D.Address), r50.slot, r50.own⟩ : D.thing), (⟨(⟨x28.Machine, x28.Kind, x28.Index⟩ : D.Address), 0, false⟩ : D.thing)⟩ : D.statement)] : (List D.statement))) else none))) else some (.brk s6.1))
def m_impl_auxStatements (fuel : Nat) (x0 : D.Address) (x1 : (List D.Address)) : Option ((List D.statement)) := ((iter (m_impl_auxStatements_b1 fuel x0 x1) fuel ([], 0)).bind fun o => aft o (m_impl_auxStatements_j1 fuel))

set_option maxRecDepth 100000 in
theorem impl_auxStatements_ok {W w : World} (hE : Ext W w) {c0_ : List Value} {x0 : D.Address} {A1_ : Option Addr} {k1_ : Nat} {x1 : (List D.Address)} (h0_ : ty62.ro W c0_ x0) (h1_ : ty246.ro W [.slice A1_ x1.length k1_] x1) {fuel : Nat} {r : (List D.statement)} (hm : m_impl_auxStatements fuel x0 x1 = some r) :
    Calls Try.prog 208 ⟨[.agg ⟨c0_⟩, .slice A1_ x1.length k1_]⟩ w (Ret fun v w8 => ∃ A0 k0, v = .slice A0 r.length k0 ∧ St w w8 [Own ty202 [.slice A0 r.length k0] r]) := by
  have e1 := ty62_open h0_; subst e1
  refine Calls.into Try.func208 rfl 27 rfl rfl _ rfl ?_
  unfold m_impl_auxStatements at hm
  have hS := St.start w
  refine WP.seq ?_
  refine WP.region ?_
  refine RW.new ttok hS rfl rfl rfl rfl (fun g2 w3 e4 hS5 => ?_)
  refine RW.run ttok 1 rfl ?_
  refine RW.nil ?_
  refine WP.seq ?_
  refine WP.region ?_
  refine RW.run ttok 1 rfl ?_
  refine RW.nil ?_
  refine WP.seq ?_
  refine WP.seq ?_
  refine WP.region ?_
  refine RW.run ttok 3 rfl ?_
  refine RW.nil ?_
  obtain ⟨o18, hl19, hm⟩ := bind_some hm
  refine WP.cut (fun (t7 : (List D.statement)) F w9 => ∃ A15 k16, o18 = .inl t7 ∧ St w w9 [Own ty202 [.slice A15 t7.length k16] t7, Box g2 [.int .i64 x0.Machine, .int .i64 x0.Kind, .int .i64 x0.Index] 62] ∧ F = [(5, .slice A15 t7.length k16)]) ?_ ?_
  · skip
    rintro t7 F w17 ⟨A15, k16, ho21, hS20, rfl⟩
    subst ho21
    rw [aft_inl] at hm
    unfold m_impl_auxStatements_j1 at hm
    refine WP.seq ?_
    refine WP.region ?_
    refine RW.run ttok 2 rfl ?_
    refine RW.nil ?_
    refine WP.ret ?_
    cases hm
    exact ⟨_, .cons (.tmp rfl) .nil, A15, k16, rfl, (hS20.taken 1)⟩
  · skip
    refine WP.block ?_
    have hS22 := hS5.nilSl ty273 273
    refine WP.weak [(2, .pointer (some ⟨g2, 0, none⟩)), (5, .slice none 0 0), (8, .slice A1_ x1.length k1_), (9, .int .i64 (x1.length : Int)), (10, .int .i64 0)] ⟨rfl, rfl, rfl, rfl, rfl, trivial⟩ ?_
    refine WP.iter (fun (s6 : (List D.statement) × Int) F w9 => ∃ A13 k14, St w w9 [Own ty202 [.slice A13 s6.1.length k14] s6.1, Box g2 [.int .i64 x0.Machine, .int .i64 x0.Kind, .int .i64 x0.Index] 62] ∧ F = [(2, .pointer (some ⟨g2, 0, none⟩)), (5, .slice A13 s6.1.length k14), (8, .slice A1_ x1.length k1_), (9, .int .i64 (x1.length : Int)), (10, .int .i64 s6.2)]) _ hl19 ⟨none, 0, hS22, rfl⟩ ?_
    rintro s6 F w27 _ o25 ⟨A13, k14, hS26, rfl⟩ hb23 ho24
    unfold m_impl_auxStatements_b1 at hb23
    refine WP.seq ?_
    refine WP.region ?_
    refine RW.run ttok 1 rfl ?_
    refine RW.nil ?_
    refine WP.seq ?_
    refine WP.cond (decide (s6.2 < (x1.length : Int))) rfl (fun hc => ?_) (fun hc => ?_)
    · skip
      rw [if_pos hc] at hb23
      refine WP.skip ?_
      refine WP.seq ?_
      refine WP.block ?_
      refine WP.seq ?_
      refine WP.region ?_
      refine RW.run ttok 1 rfl ?_
      obtain ⟨x28, hx29, hb23⟩ := bind_some hb23
      refine RW.idx ttok (hE.trans hS26.ext) rfl rfl rfl rfl rfl rfl (by decide) rfl rfl h1_ (idx_some hx29).1 (idx_some hx29).2 rfl rfl (fun p30 es31 ha32 hr33 => ?_)
      have e34 := ty62_open hr33; subst e34
      refine RW.loadN ttok rfl rfl rfl rfl rfl (At.ext (hE.trans hS26.ext) ha32) rfl rfl rfl ?_
      refine RW.new ttok hS26 rfl rfl rfl rfl (fun g35 w36 e37 hS38 => ?_)
      refine RW.run ttok 1 rfl ?_
      have hS39 := hS38.bring 0 rfl
      refine RW.store ttok (A := []) hS39 rfl rfl rfl rfl rfl 0 rfl rfl rfl rfl rfl (fun w40 hS41 => ?_)
      refine RW.nil ?_
      refine WP.cut (fun (t42 : (List D.statement)) F w9 => ∃ A43 k44, m_impl_auxStatements_j2 fuel s6 t42 = some o25 ∧ St w w9 [Box g35 [.int .i64 x28.Machine, .int .i64 x28.Kind, .int .i64 x28.Index] 62, Own ty202 [.slice A43 t42.length k44] t42, Box g2 [.int .i64 x0.Machine, .int .i64 x0.Kind, .int .i64 x0.Index] 62] ∧ F = [(2, .pointer (some ⟨g2, 0, none⟩)), (5, .slice A43 t42.length k44), (8, .slice A1_ x1.length k1_), (9, .int .i64 (x1.length : Int)), (10, .int .i64 s6.2)]) ?_ ?_
      · skip
        rintro t42 F w46 ⟨A43, k44, hb23, hS45, rfl⟩
        unfold m_impl_auxStatements_j2 at hb23
        refine WP.region ?_
        refine RW.run ttok 2 rfl ?_
        refine RW.nil ?_
        cases hb23
        exact ⟨_, [(2, .pointer (some ⟨g2, 0, none⟩)), (5, .slice A43 t42.length k44), (8, .slice A1_ x1.length k1_), (9, .int .i64 (x1.length : Int)), (10, .int .i64 (w64 (s6.2 + 1)))], ⟨rfl, rfl, rfl, rfl, rfl, trivial⟩, rfl, A43, k44, (hS45.bring 0 rfl).drop, rfl⟩
      · skip
        refine WP.drawnM 512 mixed 11 (by kernel_rfl) (by kernel_rfl) [([], 2047), ([], 2047), ([], 2047), ([2], 2043), ([1, 3], 2037), ([], 2047), ([5], 2015), ([4, 6], 1967), ([7], 1919), ([0, 8, 4], 1790), ([9, 9, 0, 1, 2, 3, 4, 5, 6, 7, 8, 9], 1534)] (by kernel_rfl) hS41.ext (fun hsk48 => ?_)
        have hS49 := hS41.step (Ext.draw _)
        refine DM.run (fuel := 8) ttok hsk48 [0, 2, 3] 13 (by kernel_rfl) (by kernel_rfl) rfl ?_
        refine DM.weak [(2, .pointer (some ⟨g2, 0, none⟩)), (5, .slice A13 s6.1.length k14), (7, .pointer (some ⟨g35, 0, none⟩)), (8, .slice A1_ x1.length k1_), (9, .int .i64 (x1.length : Int)), (10, .int .i64 s6.2), (15, .slice A13 s6.1.length k14), (18, .int .i64 (w64 (s6.2 + 1)))] ⟨rfl, rfl, rfl, rfl, rfl, rfl, rfl, rfl, trivial⟩ ?_
        obtain ⟨r50, hx51, hb23⟩ := bind_some hb23
        by_cases hk63 : decide ((s6.1.length : Int) + (([(⟨(⟨(⟨r50.at_.Machine, r50.at_.Kind, r50.at_.Index⟩ : D.Address), r50.slot, r50.own⟩ : D.thing), (⟨(⟨x28.Machine, x28.Kind, x28.Index⟩ : D.Address), 0, false⟩ : D.thing)⟩ : D.statement)] : (List D.statement)).length : Int) ≤ 4294967296) = true
        case neg => rw [if_neg hk63] at hb23; cases hb23
        rw [if_pos hk63] at hb23
        refine DM.all hsk48 [1, 5] (by kernel_rfl) (by simp) ?_
        intro i69 hi70
        simp only [List.mem_cons, List.not_mem_nil, or_false] at hi70
        rcases hi70 with rfl | rfl
        · skip
          refine LM.quietL hsk48 15 (by kernel_rfl) (by kernel_rfl) rfl rfl (Quiet.loadN ttok rfl rfl rfl rfl ((hS49.bring 2 rfl).box) rfl) rfl rfl ?_
          refine DM.all hsk48 [4, 5] (by kernel_rfl) (by simp) ?_
          intro i71 hi72
          simp only [List.mem_cons, List.not_mem_nil, or_false] at hi72
          rcases hi72 with rfl | rfl
          · skip
            refine LM.call hsk48 31 (by kernel_rfl) (by kernel_rfl) rfl rfl rfl rfl enters207 (impl_port_ok (hE.trans hS49.ext) h0_ hx51) (fun v73 w74 hR75 => ?_)
            obtain ⟨rfl, hR76⟩ := hR75
            refine ⟨hR76.ext, ?_⟩
            have hS77 := hS49.join hR76
            refine DM.one hsk48 5 (by kernel_rfl) (LM.quietL hsk48 63 (by kernel_rfl) (by kernel_rfl) rfl rfl (Quiet.loadN ttok rfl rfl rfl rfl ((hS77.bring 0 rfl).box) rfl) rfl rfl ?_)
            refine DM.quietP hsk48 6 127 (by kernel_rfl) (by kernel_rfl) rfl (by kernel_rfl) rfl (fun _ => Quiet.build ttok rfl rfl rfl rfl rfl) rfl rfl ?_
            refine DM.quietP hsk48 7 255 (by kernel_rfl) (by kernel_rfl) rfl (by kernel_rfl) rfl (fun _ => Quiet.build ttok rfl rfl rfl rfl rfl) rfl rfl ?_
            refine DM.one hsk48 8 (by kernel_rfl) (LM.newSlice (U := ty273) (els := [.int .i64 r50.at_.Machine, .int .i64 r50.at_.Kind, .int .i64 r50.at_.Index, .int .i64 r50.slot, .bool r50.own, .int .i64 x28.Machine, .int .i64 x28.Kind, .int .i64 x28.Index, .int .i64 0, .bool false]) (ys := [(⟨(⟨(⟨r50.at_.Machine, r50.at_.Kind, r50.at_.Index⟩ : D.Address), r50.slot, r50.own⟩ : D.thing), (⟨(⟨x28.Machine, x28.Kind, x28.Index⟩ : D.Address), 0, false⟩ : D.thing)⟩ : D.statement)]) ttok (hS77.flatEls (U := ty273) (els := [.int .i64 r50.at_.Machine, .int .i64 r50.at_.Kind, .int .i64 r50.at_.Index, .int .i64 r50.slot, .bool r50.own, .int .i64 x28.Machine, .int .i64 x28.Kind, .int .i64 x28.Index, .int .i64 0, .bool false]) (ys := [(⟨(⟨(⟨r50.at_.Machine, r50.at_.Kind, r50.at_.Index⟩ : D.Address), r50.slot, r50.own⟩ : D.thing), (⟨(⟨x28.Machine, x28.Kind, x28.Index⟩ : D.Address), 0, false⟩ : D.thing)⟩ : D.statement)]) ⟨[.int .i64 r50.at_.Machine, .int .i64 r50.at_.Kind, .int .i64 r50.at_.Index, .int .i64 r50.slot, .bool r50.own, .int .i64 x28.Machine, .int .i64 x28.Kind, .int .i64 x28.Index, .int .i64 0, .bool false], _, [], [], rfl, rfl, (ty273_ownI (c := (⟨(⟨(⟨r50.at_.Machine, r50.at_.Kind, r50.at_.Index⟩ : D.Address), r50.slot, r50.own⟩ : D.thing), (⟨(⟨x28.Machine, x28.Kind, x28.Index⟩ : D.Address), 0, false⟩ : D.thing)⟩ : D.statement)) rfl), ⟨rfl, rfl⟩⟩) hsk48 511 (by kernel_rfl) (by kernel_rfl) rfl rfl rfl rfl rfl rfl rfl rfl rfl rfl rfl rfl rfl (fun A78 k79 w80 e81 hS82 => ?_))
            have hS83 := hS82.bring 2 rfl
            refine DM.one hsk48 9 (by kernel_rfl) (LM.appendRo ttok (Flat.map (Flat.pair (Flat.map (Flat.pair (Flat.map (Flat.pair Flat.int (Flat.pair Flat.int (Flat.pair Flat.int Flat.unit)))) (Flat.pair Flat.int (Flat.pair Flat.bool Flat.unit)))) (Flat.pair (Flat.map (Flat.pair (Flat.map (Flat.pair Flat.int (Flat.pair Flat.int (Flat.pair Flat.int Flat.unit)))) (Flat.pair Flat.int (Flat.pair Flat.bool Flat.unit)))) Flat.unit))) hS83 hsk48 1023 (by kernel_rfl) (by kernel_rfl) rfl rfl rfl rfl rfl rfl rfl (by decide) rfl rfl ((hS83.bring 1 rfl).own) (of_decide_eq_true hk63) (by decide) rfl rfl (fun A84 k85 w86 hS87 => ?_))
            refine DM.run (fuel := 0) ttok hsk48 [10] 2047 (by kernel_rfl) (by kernel_rfl) rfl ?_
            refine DM.weak [(2, .pointer (some ⟨g2, 0, none⟩)), (5, .slice A84 (s6.1 ++ ([(⟨(⟨(⟨r50.at_.Machine, r50.at_.Kind, r50.at_.Index⟩ : D.Address), r50.slot, r50.own⟩ : D.thing), (⟨(⟨x28.Machine, x28.Kind, x28.Index⟩ : D.Address), 0, false⟩ : D.thing)⟩ : D.statement)] : (List D.statement))).length k85), (8, .slice A1_ x1.length k1_), (9, .int .i64 (x1.length : Int)), (10, .int .i64 s6.2)] ⟨rfl, rfl, rfl, rfl, rfl, trivial⟩ ?_
            refine DM.done hsk48 (by kernel_rfl) ?_
            exact ⟨(s6.1 ++ ([(⟨(⟨(⟨r50.at_.Machine, r50.at_.Kind, r50.at_.Index⟩ : D.Address), r50.slot, r50.own⟩ : D.thing), (⟨(⟨x28.Machine, x28.Kind, x28.Index⟩ : D.Address), 0, false⟩ : D.thing)⟩ : D.statement)] : (List D.statement))), [(2, .pointer (some ⟨g2, 0, none⟩)), (5, .slice A84 (s6.1 ++ ([(⟨(⟨(⟨r50.at_.Machine, r50.at_.Kind, r50.at_.Index⟩ : D.Address), r50.slot, r50.own⟩ : D.thing), (⟨(⟨x28.Machine, x28.Kind, x28.Index⟩ : D.Address), 0, false⟩ : D.thing)⟩ : D.statement)] : (List D.statement))).length k85), (8, .slice A1_ x1.length k1_), (9, .int .i64 (x1.length : Int)), (10, .int .i64 s6.2)], ⟨rfl, rfl, rfl, rfl, rfl, trivial⟩, A84, k85, hb23, ((((hS87.bring 3 rfl).bring 1 rfl).bring 3 rfl).taken 3), rfl⟩
          · skip
            refine LM.quietL hsk48 47 (by kernel_rfl) (by kernel_rfl) rfl rfl (Quiet.loadN ttok rfl rfl rfl rfl ((hS49.bring 0 rfl).box) rfl) rfl rfl ?_
            refine DM.quietP hsk48 6 111 (by kernel_rfl) (by kernel_rfl) rfl (by kernel_rfl) rfl (fun _ => Quiet.build ttok rfl rfl rfl rfl rfl) rfl rfl ?_
            refine DM.one hsk48 4 (by kernel_rfl) (LM.call hsk48 127 (by kernel_rfl) (by kernel_rfl) rfl rfl rfl rfl enters207 (impl_port_ok (hE.trans hS49.ext) h0_ hx51) (fun v88 w89 hR90 => ?_))
            obtain ⟨rfl, hR91⟩ := hR90
            refine ⟨hR91.ext, ?_⟩
            have hS92 := hS49.join hR91
            refine DM.quietP hsk48 7 255 (by kernel_rfl) (by kernel_rfl) rfl (by kernel_rfl) rfl (fun _ => Quiet.build ttok rfl rfl rfl rfl rfl) rfl rfl ?_
            refine DM.one hsk48 8 (by kernel_rfl) (LM.newSlice (U := ty273) (els := [.int .i64 r50.at_.Machine, .int .i64 r50.at_.Kind, .int .i64 r50.at_.Index, .int .i64 r50.slot, .bool r50.own, .int .i64 x28.Machine, .int .i64 x28.Kind, .int .i64 x28.Index, .int .i64 0, .bool false]) (ys := [(⟨(⟨(⟨r50.at_.Machine, r50.at_.Kind, r50.at_.Index⟩ : D.Address), r50.slot, r50.own⟩ : D.thing), (⟨(⟨x28.Machine, x28.Kind, x28.Index⟩ : D.Address), 0, false⟩ : D.thing)⟩ : D.statement)]) ttok (hS92.flatEls (U := ty273) (els := [.int .i64 r50.at_.Machine, .int .i64 r50.at_.Kind, .int .i64 r50.at_.Index, .int .i64 r50.slot, .bool r50.own, .int .i64 x28.Machine, .int .i64 x28.Kind, .int .i64 x28.Index, .int .i64 0, .bool false]) (ys := [(⟨(⟨(⟨r50.at_.Machine, r50.at_.Kind, r50.at_.Index⟩ : D.Address), r50.slot, r50.own⟩ : D.thing), (⟨(⟨x28.Machine, x28.Kind, x28.Index⟩ : D.Address), 0, false⟩ : D.thing)⟩ : D.statement)]) ⟨[.int .i64 r50.at_.Machine, .int .i64 r50.at_.Kind, .int .i64 r50.at_.Index, .int .i64 r50.slot, .bool r50.own, .int .i64 x28.Machine, .int .i64 x28.Kind, .int .i64 x28.Index, .int .i64 0, .bool false], _, [], [], rfl, rfl, (ty273_ownI (c := (⟨(⟨(⟨r50.at_.Machine, r50.at_.Kind, r50.at_.Index⟩ : D.Address), r50.slot, r50.own⟩ : D.thing), (⟨(⟨x28.Machine, x28.Kind, x28.Index⟩ : D.Address), 0, false⟩ : D.thing)⟩ : D.statement)) rfl), ⟨rfl, rfl⟩⟩) hsk48 511 (by kernel_rfl) (by kernel_rfl) rfl rfl rfl rfl rfl rfl rfl rfl rfl rfl rfl rfl rfl (fun A93 k94 w95 e96 hS97 => ?_))
            have hS98 := hS97.bring 2 rfl
            refine DM.one hsk48 9 (by kernel_rfl) (LM.appendRo ttok (Flat.map (Flat.pair (Flat.map (Flat.pair (Flat.map (Flat.pair Flat.int (Flat.pair Flat.int (Flat.pair Flat.int Flat.unit)))) (Flat.pair Flat.int (Flat.pair Flat.bool Flat.unit)))) (Flat.pair (Flat.map (Flat.pair (Flat.map (Flat.pair Flat.int (Flat.pair Flat.int (Flat.pair Flat.int Flat.unit)))) (Flat.pair Flat.int (Flat.pair Flat.bool Flat.unit)))) Flat.unit))) hS98 hsk48 1023 (by kernel_rfl) (by kernel_rfl) rfl rfl rfl rfl rfl rfl rfl (by decide) rfl rfl ((hS98.bring 1 rfl).own) (of_decide_eq_true hk63) (by decide) rfl rfl (fun A99 k100 w101 hS102 => ?_))
            refine DM.run (fuel := 0) ttok hsk48 [10] 2047 (by kernel_rfl) (by kernel_rfl) rfl ?_
            refine DM.weak [(2, .pointer (some ⟨g2, 0, none⟩)), (5, .slice A99 (s6.1 ++ ([(⟨(⟨(⟨r50.at_.Machine, r50.at_.Kind, r50.at_.Index⟩ : D.Address), r50.slot, r50.own⟩ : D.thing), (⟨(⟨x28.Machine, x28.Kind, x28.Index⟩ : D.Address), 0, false⟩ : D.thing)⟩ : D.statement)] : (List D.statement))).length k100), (8, .slice A1_ x1.length k1_), (9, .int .i64 (x1.length : Int)), (10, .int .i64 s6.2)] ⟨rfl, rfl, rfl, rfl, rfl, trivial⟩ ?_
            refine DM.done hsk48 (by kernel_rfl) ?_
            exact ⟨(s6.1 ++ ([(⟨(⟨(⟨r50.at_.Machine, r50.at_.Kind, r50.at_.Index⟩ : D.Address), r50.slot, r50.own⟩ : D.thing), (⟨(⟨x28.Machine, x28.Kind, x28.Index⟩ : D.Address), 0, false⟩ : D.thing)⟩ : D.statement)] : (List D.statement))), [(2, .pointer (some ⟨g2, 0, none⟩)), (5, .slice A99 (s6.1 ++ ([(⟨(⟨(⟨r50.at_.Machine, r50.at_.Kind, r50.at_.Index⟩ : D.Address), r50.slot, r50.own⟩ : D.thing), (⟨(⟨x28.Machine, x28.Kind, x28.Index⟩ : D.Address), 0, false⟩ : D.thing)⟩ : D.statement)] : (List D.statement))).length k100), (8, .slice A1_ x1.length k1_), (9, .int .i64 (x1.length : Int)), (10, .int .i64 s6.2)], ⟨rfl, rfl, rfl, rfl, rfl, trivial⟩, A99, k100, hb23, ((((hS102.bring 3 rfl).bring 1 rfl).bring 3 rfl).taken 3), rfl⟩
        · skip
          refine LM.quietL hsk48 45 (by kernel_rfl) (by kernel_rfl) rfl rfl (Quiet.loadN ttok rfl rfl rfl rfl ((hS49.bring 0 rfl).box) rfl) rfl rfl ?_
          refine DM.quietP hsk48 6 109 (by kernel_rfl) (by kernel_rfl) rfl (by kernel_rfl) rfl (fun _ => Quiet.build ttok rfl rfl rfl rfl rfl) rfl rfl ?_
          refine DM.one hsk48 1 (by kernel_rfl) (LM.quietL hsk48 111 (by kernel_rfl) (by kernel_rfl) rfl rfl (Quiet.loadN ttok rfl rfl rfl rfl ((hS49.bring 2 rfl).box) rfl) rfl rfl ?_)
          refine DM.one hsk48 4 (by kernel_rfl) (LM.call hsk48 127 (by kernel_rfl) (by kernel_rfl) rfl rfl rfl rfl enters207 (impl_port_ok (hE.trans hS49.ext) h0_ hx51) (fun v103 w104 hR105 => ?_))
          obtain ⟨rfl, hR106⟩ := hR105
          refine ⟨hR106.ext, ?_⟩
          have hS107 := hS49.join hR106
          refine DM.quietP hsk48 7 255 (by kernel_rfl) (by kernel_rfl) rfl (by kernel_rfl) rfl (fun _ => Quiet.build ttok rfl rfl rfl rfl rfl) rfl rfl ?_
          refine DM.one hsk48 8 (by kernel_rfl) (LM.newSlice (U := ty273) (els := [.int .i64 r50.at_.Machine, .int .i64 r50.at_.Kind, .int .i64 r50.at_.Index, .int .i64 r50.slot, .bool r50.own, .int .i64 x28.Machine, .int .i64 x28.Kind, .int .i64 x28.Index, .int .i64 0, .bool false]) (ys := [(⟨(⟨(⟨r50.at_.Machine, r50.at_.Kind, r50.at_.Index⟩ : D.Address), r50.slot, r50.own⟩ : D.thing), (⟨(⟨x28.Machine, x28.Kind, x28.Index⟩ : D.Address), 0, false⟩ : D.thing)⟩ : D.statement)]) ttok (hS107.flatEls (U := ty273) (els := [.int .i64 r50.at_.Machine, .int .i64 r50.at_.Kind, .int .i64 r50.at_.Index, .int .i64 r50.slot, .bool r50.own, .int .i64 x28.Machine, .int .i64 x28.Kind, .int .i64 x28.Index, .int .i64 0, .bool false]) (ys := [(⟨(⟨(⟨r50.at_.Machine, r50.at_.Kind, r50.at_.Index⟩ : D.Address), r50.slot, r50.own⟩ : D.thing), (⟨(⟨x28.Machine, x28.Kind, x28.Index⟩ : D.Address), 0, false⟩ : D.thing)⟩ : D.statement)]) ⟨[.int .i64 r50.at_.Machine, .int .i64 r50.at_.Kind, .int .i64 r50.at_.Index, .int .i64 r50.slot, .bool r50.own, .int .i64 x28.Machine, .int .i64 x28.Kind, .int .i64 x28.Index, .int .i64 0, .bool false], _, [], [], rfl, rfl, (ty273_ownI (c := (⟨(⟨(⟨r50.at_.Machine, r50.at_.Kind, r50.at_.Index⟩ : D.Address), r50.slot, r50.own⟩ : D.thing), (⟨(⟨x28.Machine, x28.Kind, x28.Index⟩ : D.Address), 0, false⟩ : D.thing)⟩ : D.statement)) rfl), ⟨rfl, rfl⟩⟩) hsk48 511 (by kernel_rfl) (by kernel_rfl) rfl rfl rfl rfl rfl rfl rfl rfl rfl rfl rfl rfl rfl (fun A108 k109 w110 e111 hS112 => ?_))
          have hS113 := hS112.bring 2 rfl
          refine DM.one hsk48 9 (by kernel_rfl) (LM.appendRo ttok (Flat.map (Flat.pair (Flat.map (Flat.pair (Flat.map (Flat.pair Flat.int (Flat.pair Flat.int (Flat.pair Flat.int Flat.unit)))) (Flat.pair Flat.int (Flat.pair Flat.bool Flat.unit)))) (Flat.pair (Flat.map (Flat.pair (Flat.map (Flat.pair Flat.int (Flat.pair Flat.int (Flat.pair Flat.int Flat.unit)))) (Flat.pair Flat.int (Flat.pair Flat.bool Flat.unit)))) Flat.unit))) hS113 hsk48 1023 (by kernel_rfl) (by kernel_rfl) rfl rfl rfl rfl rfl rfl rfl (by decide) rfl rfl ((hS113.bring 1 rfl).own) (of_decide_eq_true hk63) (by decide) rfl rfl (fun A114 k115 w116 hS117 => ?_))
          refine DM.run (fuel := 0) ttok hsk48 [10] 2047 (by kernel_rfl) (by kernel_rfl) rfl ?_
          refine DM.weak [(2, .pointer (some ⟨g2, 0, none⟩)), (5, .slice A114 (s6.1 ++ ([(⟨(⟨(⟨r50.at_.Machine, r50.at_.Kind, r50.at_.Index⟩ : D.Address), r50.slot, r50.own⟩ : D.thing), (⟨(⟨x28.Machine, x28.Kind, x28.Index⟩ : D.Address), 0, false⟩ : D.thing)⟩ : D.statement)] : (List D.statement))).length k115), (8, .slice A1_ x1.length k1_), (9, .int .i64 (x1.length : Int)), (10, .int .i64 s6.2)] ⟨rfl, rfl, rfl, rfl, rfl, trivial⟩ ?_
          refine DM.done hsk48 (by kernel_rfl) ?_
          exact ⟨(s6.1 ++ ([(⟨(⟨(⟨r50.at_.Machine, r50.at_.Kind, r50.at_.Index⟩ : D.Address), r50.slot, r50.own⟩ : D.thing), (⟨(⟨x28.Machine, x28.Kind, x28.Index⟩ : D.Address), 0, false⟩ : D.thing)⟩ : D.statement)] : (List D.statement))), [(2, .pointer (some ⟨g2, 0, none⟩)), (5, .slice A114 (s6.1 ++ ([(⟨(⟨(⟨r50.at_.Machine, r50.at_.Kind, r50.at_.Index⟩ : D.Address), r50.slot, r50.own⟩ : D.thing), (⟨(⟨x28.Machine, x28.Kind, x28.Index⟩ : D.Address), 0, false⟩ : D.thing)⟩ : D.statement)] : (List D.statement))).length k115), (8, .slice A1_ x1.length k1_), (9, .int .i64 (x1.length : Int)), (10, .int .i64 s6.2)], ⟨rfl, rfl, rfl, rfl, rfl, trivial⟩, A114, k115, hb23, ((((hS117.bring 3 rfl).bring 1 rfl).bring 3 rfl).taken 3), rfl⟩
    · skip
      rw [if_neg (not_t hc)] at hb23
      refine WP.exit ?_
      cases hb23
      exact ⟨_, [(5, .slice A13 s6.1.length k14)], ⟨rfl, trivial⟩, A13, k14, ho24, hS26, rfl⟩

theorem enters206 : Enters Try.prog 206 := ⟨_, _, Try.func206, rfl, by kernel_rfl⟩
def m_impl_varAddress (fuel : Nat) (x0 : Int) (x1 : Int) : Option (D.Address) := some (⟨x0, 2, x1⟩ : D.Address)

set_option maxRecDepth 100000 in
theorem impl_varAddress_ok {W w : World} (hE : Ext W w) {x0 : Int} {x1 : Int}  {fuel : Nat} {r : D.Address} (hm : m_impl_varAddress fuel x0 x1 = some r) :
    Calls Try.prog 206 ⟨[.int .i64 x0, .int .i64 x1]⟩ w (Ret fun v w8 => v = .agg ⟨[.int .i64 r.Machine, .int .i64 r.Kind, .int .i64 r.Index]⟩ ∧ St w w8 []) := by
  refine Calls.into Try.func206 rfl 8 rfl rfl _ rfl ?_
  unfold m_impl_varAddress at hm
  have hS := St.start w
  refine WP.seq ?_
  refine WP.region ?_
  refine RW.new ttok hS rfl rfl rfl rfl (fun g1 w2 e3 hS4 => ?_)
  refine RW.nil ?_
  refine WP.seq ?_
  refine WP.region ?_
  refine RW.run ttok 2 rfl ?_
  refine RW.quiet rfl (Quiet.build ttok rfl rfl rfl rfl rfl) rfl rfl ?_
  have hS5 := hS4.bring 0 rfl
  refine RW.store ttok (A := []) hS5 rfl rfl rfl rfl rfl 0 rfl rfl rfl rfl rfl (fun w6 hS7 => ?_)
  refine RW.nil ?_
  refine WP.ret ?_
  cases hm
  exact ⟨_, .cons (ResIs.agg ttok rfl rfl rfl ((hS7.bring 0 rfl).box) rfl) .nil, rfl, (hS7.taken 0)⟩

theorem enters140 : Enters Try.prog 140 := ⟨_, _, Try.func140, rfl, by kernel_rfl⟩
def m_impl_Grid_statements_j1 (fuel : Nat) (t22 : (List D.statement)) : Option (List D.statement) := some t22
def m_impl_Grid_statements_j4 (fuel : Nat) (s21 : Int × (List D.statement)) (t93 : (List D.statement)) : Option (Rd (Int × (List D.statement)) ((List D.statement)) ((List D.statement))) := some (.next (w64 (s21.1 + 1), t93))
def m_impl_Grid_statements_j5 (fuel : Nat) (s92 : Int × (List D.statement)) (t125 : (List D.statement)) : Option (Rd (Int × (List D.statement)) ((List D.statement)) (Rd (Int × (List D.statement)) ((List D.statement)) ((List D.statement)))) := some (.next (w64 (s92.1 + 1), t125))
def m_impl_Grid_statements_j6 (fuel : Nat) (s92 : Int × (List D.statement)) (t131 : (List D.statement)) : Option (Rd (Int × (List D.statement)) ((List D.statement)) (Rd (Int × (List D.statement)) ((List D.statement)) ((List D.statement)))) := m_impl_Grid_statements_j5 fuel s92 t131
def m_impl_Grid_statements_b4 (fuel : Nat) (s21 : Int × (List D.statement)) (x40 : D.Shard) (s92 : Int × (List D.statement)) : Option (Rd (Int × (List D.statement)) ((List D.statement)) (Rd (Int × (List D.statement)) ((List D.statement)) ((List D.statement)))) := (if (decide (s92.1 < (x40.Vars.length : Int))) = true then ((idx x40.Vars s92.1).bind fun x111 => (if x111.Full = true then ((m_impl_varAddress fuel s21.1 s92.1).bind fun r139 => (if decide ((s92.2.length : Int) + (([(⟨(⟨(⟨r139.Machine, r139.Kind, r139.Index⟩ : D.Address), 0, false⟩ : D.thing), (⟨(⟨x111.Held.Machine, x111.Held.Kind, x111.Held.Index⟩ : D.Address), 0, false⟩ : D.thing)⟩ : D.statement)] : (List D.statement)).length : Int) ≤ 4294967296) = true then m_impl_Grid_statements_j6 fuel s92 (s92.2 ++ ([(⟨(⟨(⟨r139.Machine, r139.Kind, r139.Index⟩ : D.Address), 0, false⟩ : D.thing), (⟨(⟨x111.Held.Machine, x111.Held.Kind, x111.Held.Index⟩ : D.Address), 0, false⟩ : D.thing)⟩ : D.statement)] : (List D.statement))) else none)) else m_impl_Grid_statements_j5 fuel s92 s92.2)) else some (.brk s92.2))
def m_impl_Grid_statements_j3 (fuel : Nat) (s21 : Int × (List D.statement)) (x40 : D.Shard) (t79 : (List D.statement)) : Option (Rd (Int × (List D.statement)) ((List D.statement)) ((List D.statement))) := ((iter (m_impl_Grid_statements_b4 fuel s21 x40) fuel (0, t79)).bind fun o => aft o (m_impl_Grid_statements_j4 fuel s21))
def m_impl_Grid_statements_b3 (fuel : Nat) (x40 : D.Shard) (s78 : Int × (List D.statement)) : Option (Rd (Int × (List D.statement)) ((List D.statement)) (Rd (Int × (List D.statement)) ((List D.statement)) ((List D.statement)))) := (if (decide (s78.1 < (x40.Redexes.length : Int))) = true then ((idx x40.Redexes s78.1).bind fun x194 => (if decide ((s78.2.length : Int) + (([(⟨(⟨(⟨x194.A.Machine, x194.A.Kind, x194.A.Index⟩ : D.Address), 0, false⟩ : D.thing), (⟨(⟨x194.B.Machine, x194.B.Kind, x194.B.Index⟩ : D.Address), 0, false⟩ : D.thing)⟩ : D.statement)] : (List D.statement)).length : Int) ≤ 4294967296) = true then some (.next (w64 (s78.1 + 1), (s78.2 ++ ([(⟨(⟨(⟨x194.A.Machine, x194.A.Kind, x194.A.Index⟩ : D.Address), 0, false⟩ : D.thing), (⟨(⟨x194.B.Machine, x194.B.Kind, x194.B.Index⟩ : D.Address), 0, false⟩ : D.thing)⟩ : D.statement)] : (List D.statement))))) else none)) else some (.brk s78.2))
def m_impl_Grid_statements_j2 (fuel : Nat) (s21 : Int × (List D.statement)) (x40 : D.Shard) (t65 : (List D.statement)) : Option (Rd (Int × (List D.statement)) ((List D.statement)) ((List D.statement))) := ((iter (m_impl_Grid_statements_b3 fuel x40) fuel (0, t65)).bind fun o => aft o (m_impl_Grid_statements_j3 fuel s21 x40))
def m_impl_Grid_statements_j7 (fuel : Nat) (s63 : Int × (List D.statement)) (t244 : (List D.statement)) : Option (Rd (Int × (List D.statement)) ((List D.statement)) (Rd (Int × (List D.statement)) ((List D.statement)) ((List D.statement)))) := some (.next (w64 (s63.1 + 1), t244))
def m_impl_Grid_statements_b2 (fuel : Nat) (s21 : Int × (List D.statement)) (x40 : D.Shard) (s63 : Int × (List D.statement)) : Option (Rd (Int × (List D.statement)) ((List D.statement)) (Rd (Int × (List D.statement)) ((List D.statement)) ((List D.statement)))) := (if (decide (s63.1 < (x40.Cells.length : Int))) = true then ((idx x40.Cells s63.1).bind fun x224 => ((m_impl_cellAddress fuel s21.1 s63.1).bind fun r252 => ((m_impl_auxStatements fuel r252 x224.Aux).bind fun r259 => (if decide ((s63.2.length : Int) + (r259.length : Int) ≤ 4294967296) = true then m_impl_Grid_statements_j7 fuel s63 (s63.2 ++ r259) else none)))) else some (.brk s63.2))
def m_impl_Grid_statements_b1 (fuel : Nat) (x0 : D.Grid) (s21 : Int × (List D.statement)) : Option (Rd (Int × (List D.statement)) ((List D.statement)) ((List D.statement))) := (if (decide (s21.1 < (x0.Shards.length : Int))) = true then ((idx x0.Shards s21.1).bind fun x40 => ((iter (m_impl_Grid_statements_b2 fuel s21 x40) fuel (0, s21.2)).bind fun o => aft o (m_impl_Grid_statements_j2 fuel s21 x40))) else some (.brk s21.2))
def m_impl_Grid_statements (fuel : Nat) (x0 : D.Grid) : Option ((List D.statement)) := ((m_impl_port fuel (⟨0, 0, 0⟩ : D.Address) 0).bind fun r7 => ((iter (m_impl_Grid_statements_b1 fuel x0) fuel (0, ([(⟨(⟨(⟨r7.at_.Machine, r7.at_.Kind, r7.at_.Index⟩ : D.Address), r7.slot, r7.own⟩ : D.thing), (⟨(⟨x0.Root.Machine, x0.Root.Kind, x0.Root.Index⟩ : D.Address), 0, false⟩ : D.thing)⟩ : D.statement)] : (List D.statement)))).bind fun o => aft o (m_impl_Grid_statements_j1 fuel)))

set_option maxRecDepth 100000 in
theorem impl_Grid_statements_ok {W w : World} (hE : Ext W w) {p0_ : Addr} {c0_ : List Value} {x0 : D.Grid} (h0_ : ty64.ro W c0_ x0) (g0_ : At W p0_ c0_) {fuel : Nat} {r : (List D.statement)} (hm : m_impl_Grid_statements fuel x0 = some r) :
    Calls Try.prog 140 ⟨[.pointer (some p0_)]⟩ w (Ret fun v w8 => ∃ A0 k0, v = .slice A0 r.length k0 ∧ St w w8 [Own ty202 [.slice A0 r.length k0] r]) := by
  obtain ⟨A1, k2, e4, h3⟩ := ty64_open h0_; subst e4
  refine Calls.into Try.func140 rfl 90 rfl rfl _ rfl ?_
  unfold m_impl_Grid_statements at hm
  have hS := St.start w
  refine WP.seq ?_
  refine WP.region ?_
  refine RW.run ttok 1 rfl ?_
  refine RW.nil ?_
  refine WP.seq ?_
  refine WP.drawnM 0 mixed 10 (by kernel_rfl) (by kernel_rfl) [([], 1023), ([0], 1022), ([], 1023), ([2], 1019), ([3], 1015), ([4], 1007), ([5], 991), ([1, 6], 957), ([7], 895), ([8, 1, 0, 1, 2, 3, 4, 5, 6, 7, 8], 767)] (by kernel_rfl) hS.ext (fun hsk5 => ?_)
  have hS6 := hS.step (Ext.draw _)
  refine DM.run (fuel := 7) ttok hsk5 [2, 3, 4] 28 (by kernel_rfl) (by kernel_rfl) rfl ?_
  refine DM.quietP hsk5 0 29 (by kernel_rfl) (by kernel_rfl) rfl (by kernel_rfl) rfl (fun _ => Quiet.build ttok rfl rfl rfl rfl rfl) rfl rfl ?_
  refine DM.loadN ttok hsk5 5 61 (by kernel_rfl) (by kernel_rfl) (by kernel_rfl) (by kernel_rfl) rfl (by kernel_rfl) rfl rfl rfl rfl rfl (At.sub (At.ext (hE.trans hS.ext) g0_) 1 3) rfl rfl rfl ?_
  refine DM.quietP hsk5 6 125 (by kernel_rfl) (by kernel_rfl) rfl (by kernel_rfl) rfl (fun _ => Quiet.build ttok rfl rfl rfl rfl rfl) rfl rfl ?_
  obtain ⟨r7, hx10, hm⟩ := bind_some hm
  refine DM.one hsk5 1 (by kernel_rfl) (LM.call hsk5 127 (by kernel_rfl) (by kernel_rfl) rfl rfl rfl rfl enters207 (impl_port_ok (hE.trans hS6.ext) (ty62_shut (⟨0, 0, 0⟩ : D.Address)) hx10) (fun v11 w12 hR13 => ?_))
  obtain ⟨rfl, hR14⟩ := hR13
  refine ⟨hR14.ext, ?_⟩
  have hS15 := hS6.join hR14
  refine DM.quietP hsk5 7 255 (by kernel_rfl) (by kernel_rfl) rfl (by kernel_rfl) rfl (fun _ => Quiet.build ttok rfl rfl rfl rfl rfl) rfl rfl ?_
  refine DM.one hsk5 8 (by kernel_rfl) (LM.newSlice (U := ty273) (els := [.int .i64 r7.at_.Machine, .int .i64 r7.at_.Kind, .int .i64 r7.at_.Index, .int .i64 r7.slot, .bool r7.own, .int .i64 x0.Root.Machine, .int .i64 x0.Root.Kind, .int .i64 x0.Root.Index, .int .i64 0, .bool false]) (ys := [(⟨(⟨(⟨r7.at_.Machine, r7.at_.Kind, r7.at_.Index⟩ : D.Address), r7.slot, r7.own⟩ : D.thing), (⟨(⟨x0.Root.Machine, x0.Root.Kind, x0.Root.Index⟩ : D.Address), 0, false⟩ : D.thing)⟩ : D.statement)]) ttok (hS15.flatEls (U := ty273) (els := [.int .i64 r7.at_.Machine, .int .i64 r7.at_.Kind, .int .i64 r7.at_.Index, .int .i64 r7.slot, .bool r7.own, .int .i64 x0.Root.Machine, .int .i64 x0.Root.Kind, .int .i64 x0.Root.Index, .int .i64 0, .bool false]) (ys := [(⟨(⟨(⟨r7.at_.Machine, r7.at_.Kind, r7.at_.Index⟩ : D.Address), r7.slot, r7.own⟩ : D.thing), (⟨(⟨x0.Root.Machine, x0.Root.Kind, x0.Root.Index⟩ : D.Address), 0, false⟩ : D.thing)⟩ : D.statement)]) ⟨[.int .i64 r7.at_.Machine, .int .i64 r7.at_.Kind, .int .i64 r7.at_.Index, .int .i64 r7.slot, .bool r7.own, .int .i64 x0.Root.Machine, .int .i64 x0.Root.Kind, .int .i64 x0.Root.Index, .int .i64 0, .bool false], _, [], [], rfl, rfl, (ty273_ownI (c := (⟨(⟨(⟨r7.at_.Machine, r7.at_.Kind, r7.at_.Index⟩ : D.Address), r7.slot, r7.own⟩ : D.thing), (⟨(⟨x0.Root.Machine, x0.Root.Kind, x0.Root.Index⟩ : D.Address), 0, false⟩ : D.thing)⟩ : D.statement)) rfl), ⟨rfl, rfl⟩⟩) hsk5 511 (by kernel_rfl) (by kernel_rfl) rfl rfl rfl rfl rfl rfl rfl rfl rfl rfl rfl rfl rfl (fun A16 k17 w18 e19 hS20 => ?_))
  refine DM.run (fuel := 0) ttok hsk5 [9] 1023 (by kernel_rfl) (by kernel_rfl) rfl ?_
  refine DM.weak [(0, .pointer (some p0_)), (3, .slice A16 ([(⟨(⟨(⟨r7.at_.Machine, r7.at_.Kind, r7.at_.Index⟩ : D.Address), r7.slot, r7.own⟩ : D.thing), (⟨(⟨x0.Root.Machine, x0.Root.Kind, x0.Root.Index⟩ : D.Address), 0, false⟩ : D.thing)⟩ : D.statement)] : (List D.statement)).length k17)] ⟨rfl, rfl, trivial⟩ ?_
  refine DM.done hsk5 (by kernel_rfl) ?_
  refine WP.seq ?_
  refine WP.seq ?_
  refine WP.region ?_
  refine RW.run ttok 3 rfl ?_
  refine RW.load1 ttok rfl rfl rfl rfl rfl (At.ext (hE.trans hS20.ext) g0_) 0 rfl rfl rfl rfl ?_
  refine RW.run ttok 2 rfl ?_
  refine RW.nil ?_
  obtain ⟨o31, hl32, hm⟩ := bind_some hm
  refine WP.cut (fun (t22 : (List D.statement)) F w9 => ∃ A28 k29, o31 = .inl t22 ∧ St w w9 [Own ty202 [.slice A28 t22.length k29] t22] ∧ F = [(3, .slice A28 t22.length k29)]) ?_ ?_
  · skip
    rintro t22 F w30 ⟨A28, k29, ho34, hS33, rfl⟩
    subst ho34
    rw [aft_inl] at hm
    unfold m_impl_Grid_statements_j1 at hm
    refine WP.seq ?_
    refine WP.region ?_
    refine RW.run ttok 2 rfl ?_
    refine RW.nil ?_
    refine WP.ret ?_
    cases hm
    exact ⟨_, .cons (.tmp rfl) .nil, A28, k29, rfl, hS33⟩
  · skip
    refine WP.block ?_
    refine WP.weak [(3, .slice A16 ([(⟨(⟨(⟨r7.at_.Machine, r7.at_.Kind, r7.at_.Index⟩ : D.Address), r7.slot, r7.own⟩ : D.thing), (⟨(⟨x0.Root.Machine, x0.Root.Kind, x0.Root.Index⟩ : D.Address), 0, false⟩ : D.thing)⟩ : D.statement)] : (List D.statement)).length k17), (24, .slice A1 x0.Shards.length k2), (25, .int .i64 (x0.Shards.length : Int)), (26, .int .i64 0)] ⟨rfl, rfl, rfl, rfl, trivial⟩ ?_
    refine WP.iter (fun (s21 : Int × (List D.statement)) F w9 => ∃ A26 k27, St w w9 [Own ty202 [.slice A26 s21.2.length k27] s21.2] ∧ F = [(3, .slice A26 s21.2.length k27), (24, .slice A1 x0.Shards.length k2), (25, .int .i64 (x0.Shards.length : Int)), (26, .int .i64 s21.1)]) _ hl32 ⟨A16, k17, hS20, rfl⟩ ?_
    rintro s21 F w39 _ o37 ⟨A26, k27, hS38, rfl⟩ hb35 ho36
    unfold m_impl_Grid_statements_b1 at hb35
    refine WP.seq ?_
    refine WP.region ?_
    refine RW.run ttok 1 rfl ?_
    refine RW.nil ?_
    refine WP.seq ?_
    refine WP.cond (decide (s21.1 < (x0.Shards.length : Int))) rfl (fun hc => ?_) (fun hc => ?_)
    · skip
      rw [if_pos hc] at hb35
      refine WP.skip ?_
      refine WP.seq ?_
      refine WP.block ?_
      refine WP.seq ?_
      refine WP.region ?_
      refine RW.run ttok 1 rfl ?_
      obtain ⟨x40, hx41, hb35⟩ := bind_some hb35
      refine RW.idx ttok (hE.trans hS38.ext) rfl rfl rfl rfl rfl rfl (by decide) rfl rfl h3 (idx_some hx41).1 (idx_some hx41).2 rfl rfl (fun p42 es43 ha44 hr45 => ?_)
      obtain ⟨A46, k47, A49, k50, A52, k53, e55, h48, h51, h54⟩ := ty200_open hr45; subst e55
      refine RW.loadN ttok rfl rfl rfl rfl rfl (At.ext (hE.trans hS38.ext) ha44) rfl rfl rfl ?_
      refine RW.new ttok hS38 rfl rfl rfl rfl (fun g56 w57 e58 hS59 => ?_)
      refine RW.run ttok 1 rfl ?_
      have hS60 := hS59.bring 0 rfl
      refine RW.store ttok (A := []) hS60 rfl rfl rfl rfl rfl 0 rfl rfl rfl rfl rfl (fun w61 hS62 => ?_)
      refine RW.nil ?_
      refine WP.seq ?_
      refine WP.seq ?_
      refine WP.region ?_
      refine RW.run ttok 1 rfl ?_
      refine RW.load1 ttok rfl rfl rfl rfl rfl ((hS62.bring 0 rfl).box) 0 rfl rfl rfl rfl ?_
      refine RW.run ttok 2 rfl ?_
      refine RW.nil ?_
      obtain ⟨o74, hl75, hb35⟩ := bind_some hb35
      refine WP.cut (fun (t65 : (List D.statement)) F w9 => ∃ A71 k72, o74 = .inl t65 ∧ St w w9 [Box g56 [.slice A46 x40.Cells.length k47, .slice A49 x40.Vars.length k50, .slice A52 x40.Redexes.length k53] 200, Own ty202 [.slice A71 t65.length k72] t65] ∧ F = [(3, .slice A71 t65.length k72), (4, .int .i64 s21.1), (5, .pointer (some ⟨g56, 0, none⟩)), (24, .slice A1 x0.Shards.length k2), (25, .int .i64 (x0.Shards.length : Int)), (26, .int .i64 s21.1)]) ?_ ?_
      · skip
        rintro t65 F w73 ⟨A71, k72, ho77, hS76, rfl⟩
        subst ho77
        rw [aft_inl] at hb35
        unfold m_impl_Grid_statements_j2 at hb35
        refine WP.seq ?_
        refine WP.seq ?_
        refine WP.region ?_
        refine RW.run ttok 1 rfl ?_
        refine RW.load1 ttok rfl rfl rfl rfl rfl ((hS76.bring 0 rfl).box) 2 rfl rfl rfl rfl ?_
        refine RW.run ttok 2 rfl ?_
        refine RW.nil ?_
        obtain ⟨o88, hl89, hb35⟩ := bind_some hb35
        refine WP.cut (fun (t79 : (List D.statement)) F w9 => ∃ A85 k86, o88 = .inl t79 ∧ St w w9 [Box g56 [.slice A46 x40.Cells.length k47, .slice A49 x40.Vars.length k50, .slice A52 x40.Redexes.length k53] 200, Own ty202 [.slice A85 t79.length k86] t79] ∧ F = [(3, .slice A85 t79.length k86), (4, .int .i64 s21.1), (5, .pointer (some ⟨g56, 0, none⟩)), (24, .slice A1 x0.Shards.length k2), (25, .int .i64 (x0.Shards.length : Int)), (26, .int .i64 s21.1)]) ?_ ?_
        · skip
          rintro t79 F w87 ⟨A85, k86, ho91, hS90, rfl⟩
          subst ho91
          rw [aft_inl] at hb35
          unfold m_impl_Grid_statements_j3 at hb35
          refine WP.seq ?_
          refine WP.region ?_
          refine RW.run ttok 1 rfl ?_
          refine RW.load1 ttok rfl rfl rfl rfl rfl ((hS90.bring 0 rfl).box) 1 rfl rfl rfl rfl ?_
          refine RW.run ttok 2 rfl ?_
          refine RW.nil ?_
          obtain ⟨o102, hl103, hb35⟩ := bind_some hb35
          refine WP.cut (fun (t93 : (List D.statement)) F w9 => ∃ A99 k100, o102 = .inl t93 ∧ St w w9 [Box g56 [.slice A46 x40.Cells.length k47, .slice A49 x40.Vars.length k50, .slice A52 x40.Redexes.length k53] 200, Own ty202 [.slice A99 t93.length k100] t93] ∧ F = [(3, .slice A99 t93.length k100), (24, .slice A1 x0.Shards.length k2), (25, .int .i64 (x0.Shards.length : Int)), (26, .int .i64 s21.1)]) ?_ ?_
          · skip
            rintro t93 F w101 ⟨A99, k100, ho105, hS104, rfl⟩
            subst ho105
            rw [aft_inl] at hb35
            unfold m_impl_Grid_statements_j4 at hb35
            refine WP.region ?_
            refine RW.run ttok 2 rfl ?_
            refine RW.nil ?_
            cases hb35
            exact ⟨_, [(3, .slice A99 t93.length k100), (24, .slice A1 x0.Shards.length k2), (25, .int .i64 (x0.Shards.length : Int)), (26, .int .i64 (w64 (s21.1 + 1)))], ⟨rfl, rfl, rfl, rfl, trivial⟩, rfl, A99, k100, ((hS104.bring 1 rfl).taken 1), rfl⟩
          · skip
            refine WP.block ?_
            refine WP.weak [(3, .slice A85 t79.length k86), (4, .int .i64 s21.1), (24, .slice A1 x0.Shards.length k2), (25, .int .i64 (x0.Shards.length : Int)), (26, .int .i64 s21.1), (67, .slice A49 x40.Vars.length k50), (68, .int .i64 (x40.Vars.length : Int)), (69, .int .i64 0)] ⟨rfl, rfl, rfl, rfl, rfl, rfl, rfl, rfl, trivial⟩ ?_
            refine WP.iter (fun (s92 : Int × (List D.statement)) F w9 => ∃ A97 k98, St w w9 [Box g56 [.slice A46 x40.Cells.length k47, .slice A49 x40.Vars.length k50, .slice A52 x40.Redexes.length k53] 200, Own ty202 [.slice A97 s92.2.length k98] s92.2] ∧ F = [(3, .slice A97 s92.2.length k98), (4, .int .i64 s21.1), (24, .slice A1 x0.Shards.length k2), (25, .int .i64 (x0.Shards.length : Int)), (26, .int .i64 s21.1), (67, .slice A49 x40.Vars.length k50), (68, .int .i64 (x40.Vars.length : Int)), (69, .int .i64 s92.1)]) _ hl103 ⟨A85, k86, hS90, rfl⟩ ?_
            rintro s92 F w110 _ o108 ⟨A97, k98, hS109, rfl⟩ hb106 ho107
            unfold m_impl_Grid_statements_b4 at hb106
            refine WP.seq ?_
            refine WP.region ?_
            refine RW.run ttok 1 rfl ?_
            refine RW.nil ?_
            refine WP.seq ?_
            refine WP.cond (decide (s92.1 < (x40.Vars.length : Int))) rfl (fun hc => ?_) (fun hc => ?_)
            · skip
              rw [if_pos hc] at hb106
              refine WP.skip ?_
              refine WP.seq ?_
              refine WP.block ?_
              refine WP.seq ?_
              refine WP.region ?_
              refine RW.run ttok 1 rfl ?_
              obtain ⟨x111, hx112, hb106⟩ := bind_some hb106
              refine RW.idx ttok (hE.trans hS109.ext) rfl rfl rfl rfl rfl rfl (by decide) rfl rfl h51 (idx_some hx112).1 (idx_some hx112).2 rfl rfl (fun p113 es114 ha115 hr116 => ?_)
              have e117 := ty250_open hr116; subst e117
              refine RW.loadN ttok rfl rfl rfl rfl rfl (At.ext (hE.trans hS109.ext) ha115) rfl rfl rfl ?_
              refine RW.new ttok hS109 rfl rfl rfl rfl (fun g118 w119 e120 hS121 => ?_)
              refine RW.run ttok 1 rfl ?_
              have hS122 := hS121.bring 0 rfl
              refine RW.store ttok (A := []) hS122 rfl rfl rfl rfl rfl 0 rfl rfl rfl rfl rfl (fun w123 hS124 => ?_)
              refine RW.nil ?_
              refine WP.seq ?_
              refine WP.region ?_
              refine RW.run ttok 1 rfl ?_
              refine RW.load1 ttok rfl rfl rfl rfl rfl ((hS124.bring 0 rfl).box) 1 rfl rfl rfl rfl ?_
              refine RW.nil ?_
              refine WP.cut (fun (t125 : (List D.statement)) F w9 => ∃ A126 k127, m_impl_Grid_statements_j5 fuel s92 t125 = some o108 ∧ St w w9 [Box g118 [.bool x111.Used, .bool x111.Full, .int .i64 x111.Held.Machine, .int .i64 x111.Held.Kind, .int .i64 x111.Held.Index] 250, Box g56 [.slice A46 x40.Cells.length k47, .slice A49 x40.Vars.length k50, .slice A52 x40.Redexes.length k53] 200, Own ty202 [.slice A126 t125.length k127] t125] ∧ F = [(3, .slice A126 t125.length k127), (4, .int .i64 s21.1), (24, .slice A1 x0.Shards.length k2), (25, .int .i64 (x0.Shards.length : Int)), (26, .int .i64 s21.1), (67, .slice A49 x40.Vars.length k50), (68, .int .i64 (x40.Vars.length : Int)), (69, .int .i64 s92.1)]) ?_ ?_
              · skip
                rintro t125 F w129 ⟨A126, k127, hb106, hS128, rfl⟩
                unfold m_impl_Grid_statements_j5 at hb106
                refine WP.region ?_
                refine RW.run ttok 2 rfl ?_
                refine RW.nil ?_
                cases hb106
                exact ⟨_, [(3, .slice A126 t125.length k127), (4, .int .i64 s21.1), (24, .slice A1 x0.Shards.length k2), (25, .int .i64 (x0.Shards.length : Int)), (26, .int .i64 s21.1), (67, .slice A49 x40.Vars.length k50), (68, .int .i64 (x40.Vars.length : Int)), (69, .int .i64 (w64 (s92.1 + 1)))], ⟨rfl, rfl, rfl, rfl, rfl, rfl, rfl, rfl, trivial⟩, rfl, A126, k127, (hS128.bring 0 rfl).drop, rfl⟩
              · skip
                refine WP.cond x111.Full rfl (fun hc => ?_) (fun hc => ?_)
                · skip
                  rw [if_pos hc] at hb106
                  refine WP.cut (fun (t131 : (List D.statement)) F w9 => ∃ A132 k133, m_impl_Grid_statements_j6 fuel s92 t131 = some o108 ∧ St w w9 [Box g118 [.bool x111.Used, .bool x111.Full, .int .i64 x111.Held.Machine, .int .i64 x111.Held.Kind, .int .i64 x111.Held.Index] 250, Box g56 [.slice A46 x40.Cells.length k47, .slice A49 x40.Vars.length k50, .slice A52 x40.Redexes.length k53] 200, Own ty202 [.slice A132 t131.length k133] t131] ∧ F = [(3, .slice A132 t131.length k133), (4, .int .i64 s21.1), (24, .slice A1 x0.Shards.length k2), (25, .int .i64 (x0.Shards.length : Int)), (26, .int .i64 s21.1), (67, .slice A49 x40.Vars.length k50), (68, .int .i64 (x40.Vars.length : Int)), (69, .int .i64 s92.1)]) ?_ ?_
                  · skip
                    rintro t131 F w135 ⟨A132, k133, hb106, hS134, rfl⟩
                    unfold m_impl_Grid_statements_j6 at hb106
                    exact ⟨t131, [(3, .slice A132 t131.length k133), (4, .int .i64 s21.1), (24, .slice A1 x0.Shards.length k2), (25, .int .i64 (x0.Shards.length : Int)), (26, .int .i64 s21.1), (67, .slice A49 x40.Vars.length k50), (68, .int .i64 (x40.Vars.length : Int)), (69, .int .i64 s92.1)], ⟨rfl, rfl, rfl, rfl, rfl, rfl, rfl, rfl, trivial⟩, A132, k133, hb106, hS134, rfl⟩
                  · skip
                    refine WP.drawnM 1024 mixed 12 (by kernel_rfl) (by kernel_rfl) [([], 4095), ([], 4095), ([], 4095), ([1, 2], 4089), ([3], 4087), ([], 4095), ([5], 4063), ([6], 4031), ([4, 7], 3951), ([8], 3839), ([0, 9, 3], 3582), ([10, 10, 0, 1, 2, 3, 4, 5, 6, 7, 8, 9, 10], 3070)] (by kernel_rfl) hS124.ext (fun hsk137 => ?_)
                    have hS138 := hS124.step (Ext.draw _)
                    refine DM.run (fuel := 8) ttok hsk137 [0, 1, 2, 5] 39 (by kernel_rfl) (by kernel_rfl) rfl ?_
                    refine DM.weak [(3, .slice A97 s92.2.length k98), (4, .int .i64 s21.1), (24, .slice A1 x0.Shards.length k2), (25, .int .i64 (x0.Shards.length : Int)), (26, .int .i64 s21.1), (67, .slice A49 x40.Vars.length k50), (68, .int .i64 (x40.Vars.length : Int)), (69, .int .i64 s92.1), (76, .slice A97 s92.2.length k98), (77, .int .i64 s21.1), (78, .int .i64 s92.1), (81, .pointer (some ⟨g118, 2, none⟩))] ⟨rfl, rfl, rfl, rfl, rfl, rfl, rfl, rfl, rfl, rfl, rfl, rfl, trivial⟩ ?_
                    obtain ⟨r139, hx140, hb106⟩ := bind_some hb106
                    by_cases hk152 : decide ((s92.2.length : Int) + (([(⟨(⟨(⟨r139.Machine, r139.Kind, r139.Index⟩ : D.Address), 0, false⟩ : D.thing), (⟨(⟨x111.Held.Machine, x111.Held.Kind, x111.Held.Index⟩ : D.Address), 0, false⟩ : D.thing)⟩ : D.statement)] : (List D.statement)).length : Int) ≤ 4294967296) = true
                    case neg => rw [if_neg hk152] at hb106; cases hb106
                    rw [if_pos hk152] at hb106
                    refine DM.all hsk137 [3, 6] (by kernel_rfl) (by simp) ?_
                    intro i157 hi158
                    simp only [List.mem_cons, List.not_mem_nil, or_false] at hi158
                    rcases hi158 with rfl | rfl
                    · skip
                      refine LM.call hsk137 47 (by kernel_rfl) (by kernel_rfl) rfl rfl rfl rfl enters206 (impl_varAddress_ok (hE.trans hS138.ext)  hx140) (fun v159 w160 hR161 => ?_)
                      obtain ⟨rfl, hR162⟩ := hR161
                      refine ⟨hR162.ext, ?_⟩
                      have hS163 := hS138.join hR162
                      refine DM.quietP hsk137 4 63 (by kernel_rfl) (by kernel_rfl) rfl (by kernel_rfl) rfl (fun _ => Quiet.build ttok rfl rfl rfl rfl rfl) rfl rfl ?_
                      refine DM.one hsk137 6 (by kernel_rfl) (LM.quietL hsk137 127 (by kernel_rfl) (by kernel_rfl) rfl rfl (Quiet.loadN ttok rfl rfl rfl rfl (At.sub ((hS163.bring 0 rfl).box) 2 3) rfl) rfl rfl ?_)
                      refine DM.quietP hsk137 7 255 (by kernel_rfl) (by kernel_rfl) rfl (by kernel_rfl) rfl (fun _ => Quiet.build ttok rfl rfl rfl rfl rfl) rfl rfl ?_
                      refine DM.quietP hsk137 8 511 (by kernel_rfl) (by kernel_rfl) rfl (by kernel_rfl) rfl (fun _ => Quiet.build ttok rfl rfl rfl rfl rfl) rfl rfl ?_
                      refine DM.one hsk137 9 (by kernel_rfl) (LM.newSlice (U := ty273) (els := [.int .i64 r139.Machine, .int .i64 r139.Kind, .int .i64 r139.Index, .int .i64 0, .bool false, .int .i64 x111.Held.Machine, .int .i64 x111.Held.Kind, .int .i64 x111.Held.Index, .int .i64 0, .bool false]) (ys := [(⟨(⟨(⟨r139.Machine, r139.Kind, r139.Index⟩ : D.Address), 0, false⟩ : D.thing), (⟨(⟨x111.Held.Machine, x111.Held.Kind, x111.Held.Index⟩ : D.Address), 0, false⟩ : D.thing)⟩ : D.statement)]) ttok (hS163.flatEls (U := ty273) (els := [.int .i64 r139.Machine, .int .i64 r139.Kind, .int .i64 r139.Index, .int .i64 0, .bool false, .int .i64 x111.Held.Machine, .int .i64 x111.Held.Kind, .int .i64 x111.Held.Index, .int .i64 0, .bool false]) (ys := [(⟨(⟨(⟨r139.Machine, r139.Kind, r139.Index⟩ : D.Address), 0, false⟩ : D.thing), (⟨(⟨x111.Held.Machine, x111.Held.Kind, x111.Held.Index⟩ : D.Address), 0, false⟩ : D.thing)⟩ : D.statement)]) ⟨[.int .i64 r139.Machine, .int .i64 r139.Kind, .int .i64 r139.Index, .int .i64 0, .bool false, .int .i64 x111.Held.Machine, .int .i64 x111.Held.Kind, .int .i64 x111.Held.Index, .int .i64 0, .bool false], _, [], [], rfl, rfl, (ty273_ownI (c := (⟨(⟨(⟨r139.Machine, r139.Kind, r139.Index⟩ : D.Address), 0, false⟩ : D.thing), (⟨(⟨x111.Held.Machine, x111.Held.Kind, x111.Held.Index⟩ : D.Address), 0, false⟩ : D.thing)⟩ : D.statement)) rfl), ⟨rfl, rfl⟩⟩) hsk137 1023 (by kernel_rfl) (by kernel_rfl) rfl rfl rfl rfl rfl rfl rfl rfl rfl rfl rfl rfl rfl (fun A164 k165 w166 e167 hS168 => ?_))
                      have hS169 := hS168.bring 3 rfl
                      refine DM.one hsk137 10 (by kernel_rfl) (LM.appendRo ttok (Flat.map (Flat.pair (Flat.map (Flat.pair (Flat.map (Flat.pair Flat.int (Flat.pair Flat.int (Flat.pair Flat.int Flat.unit)))) (Flat.pair Flat.int (Flat.pair Flat.bool Flat.unit)))) (Flat.pair (Flat.map (Flat.pair (Flat.map (Flat.pair Flat.int (Flat.pair Flat.int (Flat.pair Flat.int Flat.unit)))) (Flat.pair Flat.int (Flat.pair Flat.bool Flat.unit)))) Flat.unit))) hS169 hsk137 2047 (by kernel_rfl) (by kernel_rfl) rfl rfl rfl rfl rfl rfl rfl (by decide) rfl rfl ((hS169.bring 1 rfl).own) (of_decide_eq_true hk152) (by decide) rfl rfl (fun A170 k171 w172 hS173 => ?_))
                      refine DM.run (fuel := 0) ttok hsk137 [11] 4095 (by kernel_rfl) (by kernel_rfl) rfl ?_
                      refine DM.weak [(3, .slice A170 (s92.2 ++ ([(⟨(⟨(⟨r139.Machine, r139.Kind, r139.Index⟩ : D.Address), 0, false⟩ : D.thing), (⟨(⟨x111.Held.Machine, x111.Held.Kind, x111.Held.Index⟩ : D.Address), 0, false⟩ : D.thing)⟩ : D.statement)] : (List D.statement))).length k171), (4, .int .i64 s21.1), (24, .slice A1 x0.Shards.length k2), (25, .int .i64 (x0.Shards.length : Int)), (26, .int .i64 s21.1), (67, .slice A49 x40.Vars.length k50), (68, .int .i64 (x40.Vars.length : Int)), (69, .int .i64 s92.1)] ⟨rfl, rfl, rfl, rfl, rfl, rfl, rfl, rfl, trivial⟩ ?_
                      refine DM.done hsk137 (by kernel_rfl) ?_
                      exact ⟨(s92.2 ++ ([(⟨(⟨(⟨r139.Machine, r139.Kind, r139.Index⟩ : D.Address), 0, false⟩ : D.thing), (⟨(⟨x111.Held.Machine, x111.Held.Kind, x111.Held.Index⟩ : D.Address), 0, false⟩ : D.thing)⟩ : D.statement)] : (List D.statement))), [(3, .slice A170 (s92.2 ++ ([(⟨(⟨(⟨r139.Machine, r139.Kind, r139.Index⟩ : D.Address), 0, false⟩ : D.thing), (⟨(⟨x111.Held.Machine, x111.Held.Kind, x111.Held.Index⟩ : D.Address), 0, false⟩ : D.thing)⟩ : D.statement)] : (List D.statement))).length k171), (4, .int .i64 s21.1), (24, .slice A1 x0.Shards.length k2), (25, .int .i64 (x0.Shards.length : Int)), (26, .int .i64 s21.1), (67, .slice A49 x40.Vars.length k50), (68, .int .i64 (x40.Vars.length : Int)), (69, .int .i64 s92.1)], ⟨rfl, rfl, rfl, rfl, rfl, rfl, rfl, rfl, trivial⟩, A170, k171, hb106, ((((hS173.bring 0 rfl).bring 3 rfl).bring 3 rfl).taken 3), rfl⟩
                    · skip
                      refine LM.quietL hsk137 103 (by kernel_rfl) (by kernel_rfl) rfl rfl (Quiet.loadN ttok rfl rfl rfl rfl (At.sub ((hS138.bring 0 rfl).box) 2 3) rfl) rfl rfl ?_
                      refine DM.quietP hsk137 7 231 (by kernel_rfl) (by kernel_rfl) rfl (by kernel_rfl) rfl (fun _ => Quiet.build ttok rfl rfl rfl rfl rfl) rfl rfl ?_
                      refine DM.one hsk137 3 (by kernel_rfl) (LM.call hsk137 239 (by kernel_rfl) (by kernel_rfl) rfl rfl rfl rfl enters206 (impl_varAddress_ok (hE.trans hS138.ext)  hx140) (fun v174 w175 hR176 => ?_))
                      obtain ⟨rfl, hR177⟩ := hR176
                      refine ⟨hR177.ext, ?_⟩
                      have hS178 := hS138.join hR177
                      refine DM.quietP hsk137 4 255 (by kernel_rfl) (by kernel_rfl) rfl (by kernel_rfl) rfl (fun _ => Quiet.build ttok rfl rfl rfl rfl rfl) rfl rfl ?_
                      refine DM.quietP hsk137 8 511 (by kernel_rfl) (by kernel_rfl) rfl (by kernel_rfl) rfl (fun _ => Quiet.build ttok rfl rfl rfl rfl rfl) rfl rfl ?_
                      refine DM.one hsk137 9 (by kernel_rfl) (LM.newSlice (U := ty273) (els := [.int .i64 r139.Machine, .int .i64 r139.Kind, .int .i64 r139.Index, .int .i64 0, .bool false, .int .i64 x111.Held.Machine, .int .i64 x111.Held.Kind, .int .i64 x111.Held.Index, .int .i64 0, .bool false]) (ys := [(⟨(⟨(⟨r139.Machine, r139.Kind, r139.Index⟩ : D.Address), 0, false⟩ : D.thing), (⟨(⟨x111.Held.Machine, x111.Held.Kind, x111.Held.Index⟩ : D.Address), 0, false⟩ : D.thing)⟩ : D.statement)]) ttok (hS178.flatEls (U := ty273) (els := [.int .i64 r139.Machine, .int .i64 r139.Kind, .int .i64 r139.Index, .int .i64 0, .bool false, .int .i64 x111.Held.Machine, .int .i64 x111.Held.Kind, .int .i64 x111.Held.Index, .int .i64 0, .bool false]) (ys := [(⟨(⟨(⟨r139.Machine, r139.Kind, r139.Index⟩ : D.Address), 0, false⟩ : D.thing), (⟨(⟨x111.Held.Machine, x111.Held.Kind, x111.Held.Index⟩ : D.Address), 0, false⟩ : D.thing)⟩ : D.statement)]) ⟨[.int .i64 r139.Machine, .int .i64 r139.Kind, .int .i64 r139.Index, .int .i64 0, .bool false, .int .i64 x111.Held.Machine, .int .i64 x111.Held.Kind, .int .i64 x111.Held.Index, .int .i64 0, .bool false], _, [], [], rfl, rfl, (ty273_ownI (c := (⟨(⟨(⟨r139.Machine, r139.Kind, r139.Index⟩ : D.Address), 0, false⟩ : D.thing), (⟨(⟨x111.Held.Machine, x111.Held.Kind, x111.Held.Index⟩ : D.Address), 0, false⟩ : D.thing)⟩ : D.statement)) rfl), ⟨rfl, rfl⟩⟩) hsk137 1023 (by kernel_rfl) (by kernel_rfl) rfl rfl rfl rfl rfl rfl rfl rfl rfl rfl rfl rfl rfl (fun A179 k180 w181 e182 hS183 => ?_))
                      have hS184 := hS183.bring 3 rfl
                      refine DM.one hsk137 10 (by kernel_rfl) (LM.appendRo ttok (Flat.map (Flat.pair (Flat.map (Flat.pair (Flat.map (Flat.pair Flat.int (Flat.pair Flat.int (Flat.pair Flat.int Flat.unit)))) (Flat.pair Flat.int (Flat.pair Flat.bool Flat.unit)))) (Flat.pair (Flat.map (Flat.pair (Flat.map (Flat.pair Flat.int (Flat.pair Flat.int (Flat.pair Flat.int Flat.unit)))) (Flat.pair Flat.int (Flat.pair Flat.bool Flat.unit)))) Flat.unit))) hS184 hsk137 2047 (by kernel_rfl) (by kernel_rfl) rfl rfl rfl rfl rfl rfl rfl (by decide) rfl rfl ((hS184.bring 1 rfl).own) (of_decide_eq_true hk152) (by decide) rfl rfl (fun A185 k186 w187 hS188 => ?_))
                      refine DM.run (fuel := 0) ttok hsk137 [11] 4095 (by kernel_rfl) (by kernel_rfl) rfl ?_
                      refine DM.weak [(3, .slice A185 (s92.2 ++ ([(⟨(⟨(⟨r139.Machine, r139.Kind, r139.Index⟩ : D.Address), 0, false⟩ : D.thing), (⟨(⟨x111.Held.Machine, x111.Held.Kind, x111.Held.Index⟩ : D.Address), 0, false⟩ : D.thing)⟩ : D.statement)] : (List D.statement))).length k186), (4, .int .i64 s21.1), (24, .slice A1 x0.Shards.length k2), (25, .int .i64 (x0.Shards.length : Int)), (26, .int .i64 s21.1), (67, .slice A49 x40.Vars.length k50), (68, .int .i64 (x40.Vars.length : Int)), (69, .int .i64 s92.1)] ⟨rfl, rfl, rfl, rfl, rfl, rfl, rfl, rfl, trivial⟩ ?_
                      refine DM.done hsk137 (by kernel_rfl) ?_
                      exact ⟨(s92.2 ++ ([(⟨(⟨(⟨r139.Machine, r139.Kind, r139.Index⟩ : D.Address), 0, false⟩ : D.thing), (⟨(⟨x111.Held.Machine, x111.Held.Kind, x111.Held.Index⟩ : D.Address), 0, false⟩ : D.thing)⟩ : D.statement)] : (List D.statement))), [(3, .slice A185 (s92.2 ++ ([(⟨(⟨(⟨r139.Machine, r139.Kind, r139.Index⟩ : D.Address), 0, false⟩ : D.thing), (⟨(⟨x111.Held.Machine, x111.Held.Kind, x111.Held.Index⟩ : D.Address), 0, false⟩ : D.thing)⟩ : D.statement)] : (List D.statement))).length k186), (4, .int .i64 s21.1), (24, .slice A1 x0.Shards.length k2), (25, .int .i64 (x0.Shards.length : Int)), (26, .int .i64 s21.1), (67, .slice A49 x40.Vars.length k50), (68, .int .i64 (x40.Vars.length : Int)), (69, .int .i64 s92.1)], ⟨rfl, rfl, rfl, rfl, rfl, rfl, rfl, rfl, trivial⟩, A185, k186, hb106, ((((hS188.bring 0 rfl).bring 3 rfl).bring 3 rfl).taken 3), rfl⟩
                · skip
                  rw [if_neg (not_t hc)] at hb106
                  refine WP.skip ?_
                  exact ⟨s92.2, [(3, .slice A97 s92.2.length k98), (4, .int .i64 s21.1), (24, .slice A1 x0.Shards.length k2), (25, .int .i64 (x0.Shards.length : Int)), (26, .int .i64 s21.1), (67, .slice A49 x40.Vars.length k50), (68, .int .i64 (x40.Vars.length : Int)), (69, .int .i64 s92.1)], ⟨rfl, rfl, rfl, rfl, rfl, rfl, rfl, rfl, trivial⟩, A97, k98, hb106, hS124, rfl⟩
            · skip
              rw [if_neg (not_t hc)] at hb106
              refine WP.exit ?_
              cases hb106
              exact ⟨_, [(3, .slice A97 s92.2.length k98), (24, .slice A1 x0.Shards.length k2), (25, .int .i64 (x0.Shards.length : Int)), (26, .int .i64 s21.1)], ⟨rfl, rfl, rfl, rfl, trivial⟩, A97, k98, ho107, hS109, rfl⟩
        · skip
          refine WP.block ?_
          refine WP.weak [(3, .slice A71 t65.length k72), (4, .int .i64 s21.1), (5, .pointer (some ⟨g56, 0, none⟩)), (24, .slice A1 x0.Shards.length k2), (25, .int .i64 (x0.Shards.length : Int)), (26, .int .i64 s21.1), (49, .slice A52 x40.Redexes.length k53), (50, .int .i64 (x40.Redexes.length : Int)), (51, .int .i64 0)] ⟨rfl, rfl, rfl, rfl, rfl, rfl, rfl, rfl, rfl, trivial⟩ ?_
          refine WP.iter (fun (s78 : Int × (List D.statement)) F w9 => ∃ A83 k84, St w w9 [Box g56 [.slice A46 x40.Cells.length k47, .slice A49 x40.Vars.length k50, .slice A52 x40.Redexes.length k53] 200, Own ty202 [.slice A83 s78.2.length k84] s78.2] ∧ F = [(3, .slice A83 s78.2.length k84), (4, .int .i64 s21.1), (5, .pointer (some ⟨g56, 0, none⟩)), (24, .slice A1 x0.Shards.length k2), (25, .int .i64 (x0.Shards.length : Int)), (26, .int .i64 s21.1), (49, .slice A52 x40.Redexes.length k53), (50, .int .i64 (x40.Redexes.length : Int)), (51, .int .i64 s78.1)]) _ hl89 ⟨A71, k72, hS76, rfl⟩ ?_
          rintro s78 F w193 _ o191 ⟨A83, k84, hS192, rfl⟩ hb189 ho190
          unfold m_impl_Grid_statements_b3 at hb189
          refine WP.seq ?_
          refine WP.region ?_
          refine RW.run ttok 1 rfl ?_
          refine RW.nil ?_
          refine WP.seq ?_
          refine WP.cond (decide (s78.1 < (x40.Redexes.length : Int))) rfl (fun hc => ?_) (fun hc => ?_)
          · skip
            rw [if_pos hc] at hb189
            refine WP.skip ?_
            refine WP.seq ?_
            refine WP.block ?_
            refine WP.seq ?_
            refine WP.region ?_
            obtain ⟨x194, hx195, hb189⟩ := bind_some hb189
            refine RW.idx ttok (hE.trans hS192.ext) rfl rfl rfl rfl rfl rfl (by decide) rfl rfl h54 (idx_some hx195).1 (idx_some hx195).2 rfl rfl (fun p196 es197 ha198 hr199 => ?_)
            have e200 := ty261_open hr199; subst e200
            refine RW.loadN ttok rfl rfl rfl rfl rfl (At.ext (hE.trans hS192.ext) ha198) rfl rfl rfl ?_
            refine RW.new ttok hS192 rfl rfl rfl rfl (fun g201 w202 e203 hS204 => ?_)
            have hS205 := hS204.bring 0 rfl
            refine RW.store ttok (A := []) hS205 rfl rfl rfl rfl rfl 0 rfl rfl rfl rfl rfl (fun w206 hS207 => ?_)
            refine RW.nil ?_
            refine WP.region ?_
            refine RW.run ttok 2 rfl ?_
            refine RW.loadN ttok rfl rfl rfl rfl rfl (At.sub ((hS207.bring 0 rfl).box) 0 3) rfl rfl rfl ?_
            refine RW.quiet rfl (Quiet.build ttok rfl rfl rfl rfl rfl) rfl rfl ?_
            refine RW.run ttok 1 rfl ?_
            refine RW.loadN ttok rfl rfl rfl rfl rfl (At.sub ((hS207.bring 0 rfl).box) 3 3) rfl rfl rfl ?_
            refine RW.quiet rfl (Quiet.build ttok rfl rfl rfl rfl rfl) rfl rfl ?_
            refine RW.quiet rfl (Quiet.build ttok rfl rfl rfl rfl rfl) rfl rfl ?_
            refine RW.newSlice (U := ty273) (els := [.int .i64 x194.A.Machine, .int .i64 x194.A.Kind, .int .i64 x194.A.Index, .int .i64 0, .bool false, .int .i64 x194.B.Machine, .int .i64 x194.B.Kind, .int .i64 x194.B.Index, .int .i64 0, .bool false]) (ys := [(⟨(⟨(⟨x194.A.Machine, x194.A.Kind, x194.A.Index⟩ : D.Address), 0, false⟩ : D.thing), (⟨(⟨x194.B.Machine, x194.B.Kind, x194.B.Index⟩ : D.Address), 0, false⟩ : D.thing)⟩ : D.statement)]) ttok (hS207.flatEls (U := ty273) (els := [.int .i64 x194.A.Machine, .int .i64 x194.A.Kind, .int .i64 x194.A.Index, .int .i64 0, .bool false, .int .i64 x194.B.Machine, .int .i64 x194.B.Kind, .int .i64 x194.B.Index, .int .i64 0, .bool false]) (ys := [(⟨(⟨(⟨x194.A.Machine, x194.A.Kind, x194.A.Index⟩ : D.Address), 0, false⟩ : D.thing), (⟨(⟨x194.B.Machine, x194.B.Kind, x194.B.Index⟩ : D.Address), 0, false⟩ : D.thing)⟩ : D.statement)]) ⟨[.int .i64 x194.A.Machine, .int .i64 x194.A.Kind, .int .i64 x194.A.Index, .int .i64 0, .bool false, .int .i64 x194.B.Machine, .int .i64 x194.B.Kind, .int .i64 x194.B.Index, .int .i64 0, .bool false], _, [], [], rfl, rfl, (ty273_ownI (c := (⟨(⟨(⟨x194.A.Machine, x194.A.Kind, x194.A.Index⟩ : D.Address), 0, false⟩ : D.thing), (⟨(⟨x194.B.Machine, x194.B.Kind, x194.B.Index⟩ : D.Address), 0, false⟩ : D.thing)⟩ : D.statement)) rfl), ⟨rfl, rfl⟩⟩) rfl rfl rfl rfl rfl rfl rfl rfl rfl rfl rfl rfl (fun A208 k209 w210 e211 hS212 => ?_)
            have hS213 := hS212.bring 3 rfl
            by_cases hk214 : decide ((s78.2.length : Int) + (([(⟨(⟨(⟨x194.A.Machine, x194.A.Kind, x194.A.Index⟩ : D.Address), 0, false⟩ : D.thing), (⟨(⟨x194.B.Machine, x194.B.Kind, x194.B.Index⟩ : D.Address), 0, false⟩ : D.thing)⟩ : D.statement)] : (List D.statement)).length : Int) ≤ 4294967296) = true
            case neg => rw [if_neg hk214] at hb189; cases hb189
            rw [if_pos hk214] at hb189
            refine RW.appendRo ttok (Flat.map (Flat.pair (Flat.map (Flat.pair (Flat.map (Flat.pair Flat.int (Flat.pair Flat.int (Flat.pair Flat.int Flat.unit)))) (Flat.pair Flat.int (Flat.pair Flat.bool Flat.unit)))) (Flat.pair (Flat.map (Flat.pair (Flat.map (Flat.pair Flat.int (Flat.pair Flat.int (Flat.pair Flat.int Flat.unit)))) (Flat.pair Flat.int (Flat.pair Flat.bool Flat.unit)))) Flat.unit))) hS213 rfl rfl rfl rfl rfl rfl (by decide) rfl rfl ((hS213.bring 1 rfl).own) (of_decide_eq_true hk214) (by decide) rfl rfl (fun A215 k216 w217 hS218 => ?_)
            refine RW.run ttok 1 rfl ?_
            refine RW.nil ?_
            refine WP.region ?_
            refine RW.run ttok 2 rfl ?_
            refine RW.nil ?_
            cases hb189
            exact ⟨_, [(3, .slice A215 (s78.2 ++ ([(⟨(⟨(⟨x194.A.Machine, x194.A.Kind, x194.A.Index⟩ : D.Address), 0, false⟩ : D.thing), (⟨(⟨x194.B.Machine, x194.B.Kind, x194.B.Index⟩ : D.Address), 0, false⟩ : D.thing)⟩ : D.statement)] : (List D.statement))).length k216), (4, .int .i64 s21.1), (5, .pointer (some ⟨g56, 0, none⟩)), (24, .slice A1 x0.Shards.length k2), (25, .int .i64 (x0.Shards.length : Int)), (26, .int .i64 s21.1), (49, .slice A52 x40.Redexes.length k53), (50, .int .i64 (x40.Redexes.length : Int)), (51, .int .i64 (w64 (s78.1 + 1)))], ⟨rfl, rfl, rfl, rfl, rfl, rfl, rfl, rfl, rfl, trivial⟩, rfl, A215, k216, (((hS218.bring 0 rfl).bring 3 rfl).taken 2), rfl⟩
          · skip
            rw [if_neg (not_t hc)] at hb189
            refine WP.exit ?_
            cases hb189
            exact ⟨_, [(3, .slice A83 s78.2.length k84), (4, .int .i64 s21.1), (5, .pointer (some ⟨g56, 0, none⟩)), (24, .slice A1 x0.Shards.length k2), (25, .int .i64 (x0.Shards.length : Int)), (26, .int .i64 s21.1)], ⟨rfl, rfl, rfl, rfl, rfl, rfl, trivial⟩, A83, k84, ho190, hS192, rfl⟩
      · skip
        refine WP.block ?_
        refine WP.weak [(3, .slice A26 s21.2.length k27), (4, .int .i64 s21.1), (5, .pointer (some ⟨g56, 0, none⟩)), (24, .slice A1 x0.Shards.length k2), (25, .int .i64 (x0.Shards.length : Int)), (26, .int .i64 s21.1), (32, .slice A46 x40.Cells.length k47), (33, .int .i64 (x40.Cells.length : Int)), (34, .int .i64 0)] ⟨rfl, rfl, rfl, rfl, rfl, rfl, rfl, rfl, rfl, trivial⟩ ?_
        refine WP.iter (fun (s63 : Int × (List D.statement)) F w9 => ∃ A69 k70, St w w9 [Box g56 [.slice A46 x40.Cells.length k47, .slice A49 x40.Vars.length k50, .slice A52 x40.Redexes.length k53] 200, Own ty202 [.slice A69 s63.2.length k70] s63.2] ∧ F = [(3, .slice A69 s63.2.length k70), (4, .int .i64 s21.1), (5, .pointer (some ⟨g56, 0, none⟩)), (24, .slice A1 x0.Shards.length k2), (25, .int .i64 (x0.Shards.length : Int)), (26, .int .i64 s21.1), (32, .slice A46 x40.Cells.length k47), (33, .int .i64 (x40.Cells.length : Int)), (34, .int .i64 s63.1)]) _ hl75 ⟨A26, k27, hS62, rfl⟩ ?_
        rintro s63 F w223 _ o221 ⟨A69, k70, hS222, rfl⟩ hb219 ho220
        unfold m_impl_Grid_statements_b2 at hb219
        refine WP.seq ?_
        refine WP.region ?_
        refine RW.run ttok 1 rfl ?_
        refine RW.nil ?_
        refine WP.seq ?_
        refine WP.cond (decide (s63.1 < (x40.Cells.length : Int))) rfl (fun hc => ?_) (fun hc => ?_)
        · skip
          rw [if_pos hc] at hb219
          refine WP.skip ?_
          refine WP.seq ?_
          refine WP.block ?_
          refine WP.seq ?_
          refine WP.region ?_
          refine RW.run ttok 1 rfl ?_
          obtain ⟨x224, hx225, hb219⟩ := bind_some hb219
          refine RW.idx ttok (hE.trans hS222.ext) rfl rfl rfl rfl rfl rfl (by decide) rfl rfl h48 (idx_some hx225).1 (idx_some hx225).2 rfl rfl (fun p226 es227 ha228 hr229 => ?_)
          obtain ⟨A230, k231, A233, k234, e236, h232, h235⟩ := ty248_open hr229; subst e236
          refine RW.loadN ttok rfl rfl rfl rfl rfl (At.ext (hE.trans hS222.ext) ha228) rfl rfl rfl ?_
          refine RW.new ttok hS222 rfl rfl rfl rfl (fun g237 w238 e239 hS240 => ?_)
          refine RW.run ttok 1 rfl ?_
          have hS241 := hS240.bring 0 rfl
          refine RW.store ttok (A := []) hS241 rfl rfl rfl rfl rfl 0 rfl rfl rfl rfl rfl (fun w242 hS243 => ?_)
          refine RW.nil ?_
          refine WP.cut (fun (t244 : (List D.statement)) F w9 => ∃ A245 k246, m_impl_Grid_statements_j7 fuel s63 t244 = some o221 ∧ St w w9 [Box g237 [.int .i64 x224.Kind, .int .i64 x224.Level, .int .i64 x224.Value, .slice A230 x224.Data.length k231, .slice A233 x224.Aux.length k234] 248, Box g56 [.slice A46 x40.Cells.length k47, .slice A49 x40.Vars.length k50, .slice A52 x40.Redexes.length k53] 200, Own ty202 [.slice A245 t244.length k246] t244] ∧ F = [(3, .slice A245 t244.length k246), (4, .int .i64 s21.1), (5, .pointer (some ⟨g56, 0, none⟩)), (24, .slice A1 x0.Shards.length k2), (25, .int .i64 (x0.Shards.length : Int)), (26, .int .i64 s21.1), (32, .slice A46 x40.Cells.length k47), (33, .int .i64 (x40.Cells.length : Int)), (34, .int .i64 s63.1)]) ?_ ?_
          · skip
            rintro t244 F w248 ⟨A245, k246, hb219, hS247, rfl⟩
            unfold m_impl_Grid_statements_j7 at hb219
            refine WP.region ?_
            refine RW.run ttok 2 rfl ?_
            refine RW.nil ?_
            cases hb219
            exact ⟨_, [(3, .slice A245 t244.length k246), (4, .int .i64 s21.1), (5, .pointer (some ⟨g56, 0, none⟩)), (24, .slice A1 x0.Shards.length k2), (25, .int .i64 (x0.Shards.length : Int)), (26, .int .i64 s21.1), (32, .slice A46 x40.Cells.length k47), (33, .int .i64 (x40.Cells.length : Int)), (34, .int .i64 (w64 (s63.1 + 1)))], ⟨rfl, rfl, rfl, rfl, rfl, rfl, rfl, rfl, rfl, trivial⟩, rfl, A245, k246, (hS247.bring 0 rfl).drop, rfl⟩
          · skip
            refine WP.drawnM 128 mixed 9 (by kernel_rfl) (by kernel_rfl) [([], 511), ([], 511), ([], 511), ([1, 2], 505), ([], 511), ([4], 495), ([3, 5, 3], 471), ([0, 6, 6], 446), ([7, 7, 0, 1, 2, 3, 4, 5, 6, 7], 382)] (by kernel_rfl) hS243.ext (fun hsk250 => ?_)
            have hS251 := hS243.step (Ext.draw _)
            refine DM.run (fuel := 5) ttok hsk250 [0, 1, 2, 4] 23 (by kernel_rfl) (by kernel_rfl) rfl ?_
            refine DM.weak [(3, .slice A69 s63.2.length k70), (4, .int .i64 s21.1), (5, .pointer (some ⟨g56, 0, none⟩)), (24, .slice A1 x0.Shards.length k2), (25, .int .i64 (x0.Shards.length : Int)), (26, .int .i64 s21.1), (32, .slice A46 x40.Cells.length k47), (33, .int .i64 (x40.Cells.length : Int)), (34, .int .i64 s63.1), (39, .slice A69 s63.2.length k70), (40, .int .i64 s21.1), (41, .int .i64 s63.1), (43, .pointer (some ⟨g237, 4, none⟩))] ⟨rfl, rfl, rfl, rfl, rfl, rfl, rfl, rfl, rfl, rfl, rfl, rfl, rfl, trivial⟩ ?_
            obtain ⟨r252, hx253, hb219⟩ := bind_some hb219
            obtain ⟨r259, hx260, hb219⟩ := bind_some hb219
            by_cases hk269 : decide ((s63.2.length : Int) + (r259.length : Int) ≤ 4294967296) = true
            case neg => rw [if_neg hk269] at hb219; cases hb219
            rw [if_pos hk269] at hb219
            refine DM.all hsk250 [3, 5] (by kernel_rfl) (by simp) ?_
            intro i274 hi275
            simp only [List.mem_cons, List.not_mem_nil, or_false] at hi275
            rcases hi275 with rfl | rfl
            · skip
              refine LM.call hsk250 31 (by kernel_rfl) (by kernel_rfl) rfl rfl rfl rfl enters205 (impl_cellAddress_ok (hE.trans hS251.ext)  hx253) (fun v276 w277 hR278 => ?_)
              obtain ⟨rfl, hR279⟩ := hR278
              refine ⟨hR279.ext, ?_⟩
              have hS280 := hS251.join hR279
              refine DM.one hsk250 5 (by kernel_rfl) (LM.quietL hsk250 63 (by kernel_rfl) (by kernel_rfl) rfl rfl (Quiet.load1 ttok rfl rfl rfl rfl ((hS280.bring 0 rfl).box) 4 rfl rfl) rfl rfl ?_)
              refine DM.one hsk250 6 (by kernel_rfl) (LM.call hsk250 127 (by kernel_rfl) (by kernel_rfl) rfl rfl rfl rfl enters208 (impl_auxStatements_ok (hE.trans hS280.ext) (ty62_shut r252) h235 hx260) (fun v281 w282 hR283 => ?_))
              obtain ⟨A284, k285, rfl, hR286⟩ := hR283
              refine ⟨hR286.ext, ?_⟩
              have hS287 := hS280.join hR286
              have hS288 := hS287.bring 3 rfl
              refine DM.one hsk250 7 (by kernel_rfl) (LM.appendRo ttok (Flat.map (Flat.pair (Flat.map (Flat.pair (Flat.map (Flat.pair Flat.int (Flat.pair Flat.int (Flat.pair Flat.int Flat.unit)))) (Flat.pair Flat.int (Flat.pair Flat.bool Flat.unit)))) (Flat.pair (Flat.map (Flat.pair (Flat.map (Flat.pair Flat.int (Flat.pair Flat.int (Flat.pair Flat.int Flat.unit)))) (Flat.pair Flat.int (Flat.pair Flat.bool Flat.unit)))) Flat.unit))) hS288 hsk250 255 (by kernel_rfl) (by kernel_rfl) rfl rfl rfl rfl rfl rfl rfl (by decide) rfl rfl ((hS288.bring 1 rfl).own) (of_decide_eq_true hk269) (by decide) rfl rfl (fun A289 k290 w291 hS292 => ?_))
              refine DM.run (fuel := 0) ttok hsk250 [8] 511 (by kernel_rfl) (by kernel_rfl) rfl ?_
              refine DM.weak [(3, .slice A289 (s63.2 ++ r259).length k290), (4, .int .i64 s21.1), (5, .pointer (some ⟨g56, 0, none⟩)), (24, .slice A1 x0.Shards.length k2), (25, .int .i64 (x0.Shards.length : Int)), (26, .int .i64 s21.1), (32, .slice A46 x40.Cells.length k47), (33, .int .i64 (x40.Cells.length : Int)), (34, .int .i64 s63.1)] ⟨rfl, rfl, rfl, rfl, rfl, rfl, rfl, rfl, rfl, trivial⟩ ?_
              refine DM.done hsk250 (by kernel_rfl) ?_
              exact ⟨(s63.2 ++ r259), [(3, .slice A289 (s63.2 ++ r259).length k290), (4, .int .i64 s21.1), (5, .pointer (some ⟨g56, 0, none⟩)), (24, .slice A1 x0.Shards.length k2), (25, .int .i64 (x0.Shards.length : Int)), (26, .int .i64 s21.1), (32, .slice A46 x40.Cells.length k47), (33, .int .i64 (x40.Cells.length : Int)), (34, .int .i64 s63.1)], ⟨rfl, rfl, rfl, rfl, rfl, rfl, rfl, rfl, rfl, trivial⟩, A289, k290, hb219, ((((hS292.bring 0 rfl).bring 3 rfl).bring 3 rfl).taken 3), rfl⟩
            · skip
              refine LM.quietL hsk250 55 (by kernel_rfl) (by kernel_rfl) rfl rfl (Quiet.load1 ttok rfl rfl rfl rfl ((hS251.bring 0 rfl).box) 4 rfl rfl) rfl rfl ?_
              refine DM.one hsk250 3 (by kernel_rfl) (LM.call hsk250 63 (by kernel_rfl) (by kernel_rfl) rfl rfl rfl rfl enters205 (impl_cellAddress_ok (hE.trans hS251.ext)  hx253) (fun v293 w294 hR295 => ?_))
              obtain ⟨rfl, hR296⟩ := hR295
              refine ⟨hR296.ext, ?_⟩
              have hS297 := hS251.join hR296
              refine DM.one hsk250 6 (by kernel_rfl) (LM.call hsk250 127 (by kernel_rfl) (by kernel_rfl) rfl rfl rfl rfl enters208 (impl_auxStatements_ok (hE.trans hS297.ext) (ty62_shut r252) h235 hx260) (fun v298 w299 hR300 => ?_))
              obtain ⟨A301, k302, rfl, hR303⟩ := hR300
              refine ⟨hR303.ext, ?_⟩
              have hS304 := hS297.join hR303
              have hS305 := hS304.bring 3 rfl
              refine DM.one hsk250 7 (by kernel_rfl) (LM.appendRo ttok (Flat.map (Flat.pair (Flat.map (Flat.pair (Flat.map (Flat.pair Flat.int (Flat.pair Flat.int (Flat.pair Flat.int Flat.unit)))) (Flat.pair Flat.int (Flat.pair Flat.bool Flat.unit)))) (Flat.pair (Flat.map (Flat.pair (Flat.map (Flat.pair Flat.int (Flat.pair Flat.int (Flat.pair Flat.int Flat.unit)))) (Flat.pair Flat.int (Flat.pair Flat.bool Flat.unit)))) Flat.unit))) hS305 hsk250 255 (by kernel_rfl) (by kernel_rfl) rfl rfl rfl rfl rfl rfl rfl (by decide) rfl rfl ((hS305.bring 1 rfl).own) (of_decide_eq_true hk269) (by decide) rfl rfl (fun A306 k307 w308 hS309 => ?_))
              refine DM.run (fuel := 0) ttok hsk250 [8] 511 (by kernel_rfl) (by kernel_rfl) rfl ?_
              refine DM.weak [(3, .slice A306 (s63.2 ++ r259).length k307), (4, .int .i64 s21.1), (5, .pointer (some ⟨g56, 0, none⟩)), (24, .slice A1 x0.Shards.length k2), (25, .int .i64 (x0.Shards.length : Int)), (26, .int .i64 s21.1), (32, .slice A46 x40.Cells.length k47), (33, .int .i64 (x40.Cells.length : Int)), (34, .int .i64 s63.1)] ⟨rfl, rfl, rfl, rfl, rfl, rfl, rfl, rfl, rfl, trivial⟩ ?_
              refine DM.done hsk250 (by kernel_rfl) ?_
              exact ⟨(s63.2 ++ r259), [(3, .slice A306 (s63.2 ++ r259).length k307), (4, .int .i64 s21.1), (5, .pointer (some ⟨g56, 0, none⟩)), (24, .slice A1 x0.Shards.length k2), (25, .int .i64 (x0.Shards.length : Int)), (26, .int .i64 s21.1), (32, .slice A46 x40.Cells.length k47), (33, .int .i64 (x40.Cells.length : Int)), (34, .int .i64 s63.1)], ⟨rfl, rfl, rfl, rfl, rfl, rfl, rfl, rfl, rfl, trivial⟩, A306, k307, hb219, ((((hS309.bring 0 rfl).bring 3 rfl).bring 3 rfl).taken 3), rfl⟩
        · skip
          rw [if_neg (not_t hc)] at hb219
          refine WP.exit ?_
          cases hb219
          exact ⟨_, [(3, .slice A69 s63.2.length k70), (4, .int .i64 s21.1), (5, .pointer (some ⟨g56, 0, none⟩)), (24, .slice A1 x0.Shards.length k2), (25, .int .i64 (x0.Shards.length : Int)), (26, .int .i64 s21.1)], ⟨rfl, rfl, rfl, rfl, rfl, rfl, trivial⟩, A69, k70, ho220, hS222, rfl⟩
    · skip
      rw [if_neg (not_t hc)] at hb35
      refine WP.exit ?_
      cases hb35
      exact ⟨_, [(3, .slice A26 s21.2.length k27)], ⟨rfl, trivial⟩, A26, k27, ho36, hS38, rfl⟩

theorem enters203 : Enters Try.prog 203 := ⟨_, _, Try.func203, rfl, by kernel_rfl⟩
def m_impl_Grid_names_j1 (fuel : Nat) (x0 : D.Grid) (x1 : D.Address) (t12 : Bool) : Option Bool := (if t12 = true then some false else ((idx x0.Shards x1.Machine).bind fun x19 => (if (x1.Kind == 1) = true then (if (decide (x1.Index < (x19.Cells.length : Int))) = true then ((idx x19.Cells x1.Index).bind fun x43 => some (x43.Kind != 0)) else some false) else (if (x1.Kind == 2) = true then (if (decide (x1.Index < (x19.Vars.length : Int))) = true then ((idx x19.Vars x1.Index).bind fun x57 => some x57.Used) else some false) else some false))))
def m_impl_Grid_names (fuel : Nat) (x0 : D.Grid) (x1 : D.Address) : Option (Bool) := (if (decide (x1.Machine < 0)) = true then m_impl_Grid_names_j1 fuel x0 x1 true else (if (decide (x1.Machine ≥ (x0.Shards.length : Int))) = true then m_impl_Grid_names_j1 fuel x0 x1 true else m_impl_Grid_names_j1 fuel x0 x1 (decide (x1.Index < 0))))

set_option maxRecDepth 100000 in
theorem impl_Grid_names_ok {W w : World} (hE : Ext W w) {p0_ : Addr} {c0_ : List Value} {x0 : D.Grid} {c1_ : List Value} {x1 : D.Address} (h0_ : ty64.ro W c0_ x0) (g0_ : At W p0_ c0_) (h1_ : ty62.ro W c1_ x1) {fuel : Nat} {r : Bool} (hm : m_impl_Grid_names fuel x0 x1 = some r) :
    Calls Try.prog 203 ⟨[.pointer (some p0_), .agg ⟨c1_⟩]⟩ w (Ret fun v w8 => v = .bool r ∧ St w w8 []) := by
  obtain ⟨A1, k2, e4, h3⟩ := ty64_open h0_; subst e4
  have e5 := ty62_open h1_; subst e5
  refine Calls.into Try.func203 rfl 69 rfl rfl _ rfl ?_
  unfold m_impl_Grid_names at hm
  have hS := St.start w
  refine WP.seq ?_
  refine WP.region ?_
  refine RW.new ttok hS rfl rfl rfl rfl (fun g6 w7 e10 hS11 => ?_)
  refine RW.run ttok 1 rfl ?_
  refine RW.nil ?_
  refine WP.seq ?_
  refine WP.seq ?_
  refine WP.cut (fun (t12 : Bool) F w9 => m_impl_Grid_names_j1 fuel x0 x1 t12 = some r ∧ Ext w7 w9 ∧ St w w9 [Box g6 [.int .i64 x1.Machine, .int .i64 x1.Kind, .int .i64 x1.Index] 62] ∧ F = [(0, .pointer (some p0_)), (3, .pointer (some ⟨g6, 0, none⟩)), (23, .bool t12)]) ?_ ?_
  · skip
    rintro t12 F w15 ⟨hm, hE13, hS14, rfl⟩
    unfold m_impl_Grid_names_j1 at hm
    refine WP.cond t12 rfl (fun hc => ?_) (fun hc => ?_)
    · skip
      rw [if_pos hc] at hm
      refine WP.seq ?_
      refine WP.region ?_
      refine RW.run ttok 1 rfl ?_
      refine RW.nil ?_
      refine WP.ret ?_
      cases hm
      exact ⟨_, .cons (.tmp rfl) .nil, rfl, (hS14.taken 0)⟩
    · skip
      rw [if_neg (not_t hc)] at hm
      refine WP.skip ?_
      refine WP.seq ?_
      refine WP.drawnM 512 mixed 10 (by kernel_rfl) (by kernel_rfl) [([], 1023), ([0], 1022), ([1], 1021), ([2], 1019), ([], 1023), ([4], 1007), ([3, 5], 983), ([6], 959), ([], 1023), ([8, 7, 0, 1, 2, 3, 4, 5, 6, 7, 8], 639)] (by kernel_rfl) hS14.ext (fun hsk17 => ?_)
      have hS18 := hS14.step (Ext.draw _)
      refine DM.run (fuel := 6) ttok hsk17 [0, 1, 2, 4] 23 (by kernel_rfl) (by kernel_rfl) rfl ?_
      refine DM.load1 ttok hsk17 3 31 (by kernel_rfl) (by kernel_rfl) (by kernel_rfl) (by kernel_rfl) rfl (by kernel_rfl) rfl rfl rfl rfl rfl (At.ext (hE.trans hS14.ext) g0_) 0 rfl rfl rfl rfl ?_
      refine DM.load1 ttok hsk17 5 63 (by kernel_rfl) (by kernel_rfl) (by kernel_rfl) (by kernel_rfl) rfl (by kernel_rfl) rfl rfl rfl rfl rfl ((hS14.bring 0 rfl).box) 0 rfl rfl rfl rfl ?_
      obtain ⟨x19, hx20, hm⟩ := bind_some hm
      refine DM.idx ttok (hE.trans hS14.ext) hsk17 6 127 (by kernel_rfl) (by kernel_rfl) (by kernel_rfl) (by kernel_rfl) rfl (by kernel_rfl) rfl rfl rfl rfl rfl rfl (by decide) rfl rfl h3 (idx_some hx20).1 (idx_some hx20).2 rfl rfl (fun p21 es22 ha23 hr24 => ?_)
      obtain ⟨A25, k26, A28, k29, A31, k32, e34, h27, h30, h33⟩ := ty200_open hr24; subst e34
      refine DM.loadN ttok hsk17 7 255 (by kernel_rfl) (by kernel_rfl) (by kernel_rfl) (by kernel_rfl) rfl (by kernel_rfl) rfl rfl rfl rfl rfl (At.ext (hE.trans hS14.ext) ha23) rfl rfl rfl ?_
      refine DM.one hsk17 8 (by kernel_rfl) (LM.new ttok hsk17 hS18 511 (by kernel_rfl) (by kernel_rfl) rfl rfl rfl rfl rfl (fun g35 w36 e37 hS38 => ?_))
      have hS39 := hS38.bring 0 rfl
      refine DM.one hsk17 9 (by kernel_rfl) (LM.store ttok (A := []) hS39 hsk17 1023 (by kernel_rfl) (by kernel_rfl) rfl rfl rfl rfl rfl rfl 0 rfl rfl rfl rfl rfl (fun w40 hS41 => ?_))
      refine DM.done hsk17 (by kernel_rfl) ?_
      refine WP.seq ?_
      refine WP.seq ?_
      refine WP.region ?_
      refine RW.run ttok 1 rfl ?_
      refine RW.load1 ttok rfl rfl rfl rfl rfl ((hS41.bring 1 rfl).box) 1 rfl rfl rfl rfl ?_
      refine RW.nil ?_
      refine WP.block ?_
      refine WP.seq ?_
      refine WP.region ?_
      refine RW.run ttok 2 rfl ?_
      refine RW.nil ?_
      refine WP.cond (x1.Kind == 1) rfl (fun hc => ?_) (fun hc => ?_)
      · skip
        rw [if_pos hc] at hm
        refine WP.seq ?_
        refine WP.region ?_
        refine RW.run ttok 1 rfl ?_
        refine RW.load1 ttok rfl rfl rfl rfl rfl ((hS41.bring 1 rfl).box) 2 rfl rfl rfl rfl ?_
        refine RW.run ttok 1 rfl ?_
        refine RW.load1 ttok rfl rfl rfl rfl rfl ((hS41.bring 0 rfl).box) 0 rfl rfl rfl rfl ?_
        refine RW.run ttok 3 rfl ?_
        by_cases hg42 : (decide (x1.Index < (x19.Cells.length : Int))) = true
        · skip
          rw [if_pos hg42] at hm
          refine RW.know 42 rfl (congrArg Value.bool hg42) ?_
          refine RW.run ttok 1 rfl ?_
          refine RW.load1 ttok rfl rfl rfl rfl rfl ((hS41.bring 0 rfl).box) 0 rfl rfl rfl rfl ?_
          refine RW.run ttok 1 rfl ?_
          refine RW.load1 ttok rfl rfl rfl rfl rfl ((hS41.bring 1 rfl).box) 2 rfl rfl rfl rfl ?_
          obtain ⟨x43, hx44, hm⟩ := bind_some hm
          refine RW.idx ttok (hE.trans hS41.ext) rfl rfl rfl rfl rfl rfl (by decide) rfl rfl h27 (idx_some hx44).1 (idx_some hx44).2 rfl rfl (fun p45 es46 ha47 hr48 => ?_)
          obtain ⟨A49, k50, A52, k53, e55, h51, h54⟩ := ty248_open hr48; subst e55
          refine RW.run ttok 1 rfl ?_
          refine RW.load1 ttok rfl rfl rfl rfl rfl (At.ext (hE.trans hS41.ext) ha47) 0 rfl rfl rfl rfl ?_
          refine RW.run ttok 3 rfl ?_
          refine RW.nil ?_
          refine WP.ret ?_
          cases hm
          exact ⟨_, .cons (.tmp rfl) .nil, rfl, (hS41.taken 0)⟩
        · skip
          rw [if_neg hg42] at hm
          refine RW.know 42 rfl (congrArg Value.bool (Bool.eq_false_iff.2 hg42)) ?_
          refine RW.run ttok 10 rfl ?_
          refine RW.nil ?_
          refine WP.ret ?_
          cases hm
          exact ⟨_, .cons (.tmp rfl) .nil, rfl, (hS41.taken 0)⟩
      · skip
        rw [if_neg (not_t hc)] at hm
        refine WP.seq ?_
        refine WP.region ?_
        refine RW.run ttok 2 rfl ?_
        refine RW.nil ?_
        refine WP.cond (x1.Kind == 2) rfl (fun hc => ?_) (fun hc => ?_)
        · skip
          rw [if_pos hc] at hm
          refine WP.seq ?_
          refine WP.region ?_
          refine RW.run ttok 1 rfl ?_
          refine RW.load1 ttok rfl rfl rfl rfl rfl ((hS41.bring 1 rfl).box) 2 rfl rfl rfl rfl ?_
          refine RW.run ttok 1 rfl ?_
          refine RW.load1 ttok rfl rfl rfl rfl rfl ((hS41.bring 0 rfl).box) 1 rfl rfl rfl rfl ?_
          refine RW.run ttok 3 rfl ?_
          by_cases hg56 : (decide (x1.Index < (x19.Vars.length : Int))) = true
          · skip
            rw [if_pos hg56] at hm
            refine RW.know 60 rfl (congrArg Value.bool hg56) ?_
            refine RW.run ttok 1 rfl ?_
            refine RW.load1 ttok rfl rfl rfl rfl rfl ((hS41.bring 0 rfl).box) 1 rfl rfl rfl rfl ?_
            refine RW.run ttok 1 rfl ?_
            refine RW.load1 ttok rfl rfl rfl rfl rfl ((hS41.bring 1 rfl).box) 2 rfl rfl rfl rfl ?_
            obtain ⟨x57, hx58, hm⟩ := bind_some hm
            refine RW.idx ttok (hE.trans hS41.ext) rfl rfl rfl rfl rfl rfl (by decide) rfl rfl h30 (idx_some hx58).1 (idx_some hx58).2 rfl rfl (fun p59 es60 ha61 hr62 => ?_)
            have e63 := ty250_open hr62; subst e63
            refine RW.run ttok 1 rfl ?_
            refine RW.load1 ttok rfl rfl rfl rfl rfl (At.ext (hE.trans hS41.ext) ha61) 0 rfl rfl rfl rfl ?_
            refine RW.run ttok 2 rfl ?_
            refine RW.nil ?_
            refine WP.ret ?_
            cases hm
            exact ⟨_, .cons (.tmp rfl) .nil, rfl, (hS41.taken 0)⟩
          · skip
            rw [if_neg hg56] at hm
            refine RW.know 60 rfl (congrArg Value.bool (Bool.eq_false_iff.2 hg56)) ?_
            refine RW.run ttok 9 rfl ?_
            refine RW.nil ?_
            refine WP.ret ?_
            cases hm
            exact ⟨_, .cons (.tmp rfl) .nil, rfl, (hS41.taken 0)⟩
        · skip
          rw [if_neg (not_t hc)] at hm
          refine WP.skip ?_
          refine WP.seq ?_
          refine WP.region ?_
          refine RW.run ttok 1 rfl ?_
          refine RW.nil ?_
          refine WP.ret ?_
          cases hm
          exact ⟨_, .cons (.tmp rfl) .nil, rfl, (hS41.taken 0)⟩
  · skip
    refine WP.drawnM 0 mixed 18 (by kernel_rfl) (by kernel_rfl) [([], 262143), ([0], 262142), ([1], 262141), ([2], 262139), ([3], 262135), ([4, 3], 262119), ([3], 262135), ([6, 3], 262071), ([7, 3], 262007), ([8, 3], 261879), ([9, 3], 261623), ([5, 10, 3], 261079), ([3, 11], 260087), ([12, 3], 258047), ([13], 253951), ([14, 13], 237567), ([15, 13], 221183), ([13, 16], 188415)] (by kernel_rfl) hS11.ext (fun hsk65 => ?_)
    have hS66 := hS11.step (Ext.draw _)
    refine DM.run (fuel := 17) ttok hsk65 [0] 1 (by kernel_rfl) (by kernel_rfl) rfl ?_
    refine DM.load1 ttok hsk65 1 3 (by kernel_rfl) (by kernel_rfl) (by kernel_rfl) (by kernel_rfl) rfl (by kernel_rfl) rfl rfl rfl rfl rfl ((hS11.bring 0 rfl).box) 0 rfl rfl rfl rfl ?_
    refine DM.run (fuel := 14) ttok hsk65 [2, 3] 15 (by kernel_rfl) (by kernel_rfl) rfl ?_
    by_cases hg67 : (decide (x1.Machine < 0)) = true
    · skip
      rw [if_pos hg67] at hm
      refine DM.know 9 rfl (congrArg Value.bool hg67) ?_
      refine DM.run (fuel := 0) ttok hsk65 [4, 5, 6, 7, 8, 9, 10, 11, 12, 13, 14, 15, 16, 17] 262143 (by kernel_rfl) (by kernel_rfl) rfl ?_
      refine DM.weak [(0, .pointer (some p0_)), (3, .pointer (some ⟨g6, 0, none⟩)), (23, .bool true)] ⟨rfl, rfl, rfl, trivial⟩ ?_
      refine DM.done hsk65 (by kernel_rfl) ?_
      exact ⟨true, [(0, .pointer (some p0_)), (3, .pointer (some ⟨g6, 0, none⟩)), (23, .bool true)], ⟨rfl, rfl, rfl, trivial⟩, hm, (Ext.draw _), hS66, rfl⟩
    · skip
      rw [if_neg hg67] at hm
      refine DM.know 9 rfl (congrArg Value.bool (Bool.eq_false_iff.2 hg67)) ?_
      refine DM.run (fuel := 10) ttok hsk65 [4, 6, 7, 8] 479 (by kernel_rfl) (by kernel_rfl) rfl ?_
      refine DM.weak [(0, .pointer (some p0_)), (3, .pointer (some ⟨g6, 0, none⟩)), (9, .bool false), (10, .pointer (some ⟨g6, 0, none⟩)), (14, .pointer (some p0_))] ⟨rfl, rfl, rfl, rfl, rfl, trivial⟩ ?_
      refine DM.load1 ttok hsk65 5 511 (by kernel_rfl) (by kernel_rfl) (by kernel_rfl) (by kernel_rfl) rfl (by kernel_rfl) rfl rfl rfl rfl rfl ((hS11.bring 0 rfl).box) 0 rfl rfl rfl rfl ?_
      refine DM.load1 ttok hsk65 9 1023 (by kernel_rfl) (by kernel_rfl) (by kernel_rfl) (by kernel_rfl) rfl (by kernel_rfl) rfl rfl rfl rfl rfl (At.ext (hE.trans hS11.ext) g0_) 0 rfl rfl rfl rfl ?_
      refine DM.run (fuel := 4) ttok hsk65 [10, 11, 12, 13] 16383 (by kernel_rfl) (by kernel_rfl) rfl ?_
      refine DM.weak [(0, .pointer (some p0_)), (3, .pointer (some ⟨g6, 0, none⟩)), (19, .bool (decide (x1.Machine ≥ (x0.Shards.length : Int))))] ⟨rfl, rfl, rfl, trivial⟩ ?_
      by_cases hg68 : (decide (x1.Machine ≥ (x0.Shards.length : Int))) = true
      · skip
        rw [if_pos hg68] at hm
        refine DM.know 19 rfl (congrArg Value.bool hg68) ?_
        refine DM.run (fuel := 0) ttok hsk65 [14, 15, 16, 17] 262143 (by kernel_rfl) (by kernel_rfl) rfl ?_
        refine DM.done hsk65 (by kernel_rfl) ?_
        exact ⟨true, [(0, .pointer (some p0_)), (3, .pointer (some ⟨g6, 0, none⟩)), (23, .bool true)], ⟨rfl, rfl, rfl, trivial⟩, hm, (Ext.draw _), hS66, rfl⟩
      · skip
        rw [if_neg hg68] at hm
        refine DM.know 19 rfl (congrArg Value.bool (Bool.eq_false_iff.2 hg68)) ?_
        refine DM.run (fuel := 3) ttok hsk65 [14] 32767 (by kernel_rfl) (by kernel_rfl) rfl ?_
        refine DM.load1 ttok hsk65 15 65535 (by kernel_rfl) (by kernel_rfl) (by kernel_rfl) (by kernel_rfl) rfl (by kernel_rfl) rfl rfl rfl rfl rfl ((hS11.bring 0 rfl).box) 2 rfl rfl rfl rfl ?_
        refine DM.run (fuel := 0) ttok hsk65 [16, 17] 262143 (by kernel_rfl) (by kernel_rfl) rfl ?_
        refine DM.done hsk65 (by kernel_rfl) ?_
        exact ⟨decide (x1.Index < 0), [(0, .pointer (some p0_)), (3, .pointer (some ⟨g6, 0, none⟩)), (23, .bool (decide (x1.Index < 0)))], ⟨rfl, rfl, rfl, trivial⟩, hm, (Ext.draw _), hS66, rfl⟩

theorem enters204 : Enters Try.prog 204 := ⟨_, _, Try.func204, rfl, by kernel_rfl⟩
def m_impl_named_j1 (fuel : Nat) (t6 : (List (D.Address × Int))) : Option (List (D.Address × Int)) := some t6
def m_impl_named_j2 (fuel : Nat) (s5 : Int × (List (D.Address × Int))) (t40 : (List (D.Address × Int))) : Option (Rd (Int × (List (D.Address × Int))) ((List (D.Address × Int))) ((List (D.Address × Int)))) := some (.next (w64 (s5.1 + 1), t40))
def m_impl_named_j3 (fuel : Nat) (s39 : Int × (List (D.Address × Int))) (t67 : (List (D.Address × Int))) : Option (Rd (Int × (List (D.Address × Int))) ((List (D.Address × Int))) (Rd (Int × (List (D.Address × Int))) ((List (D.Address × Int))) ((List (D.Address × Int))))) := some (.next (w64 (s39.1 + 1), t67))
def m_impl_named_j4 (fuel : Nat) (s39 : Int × (List (D.Address × Int))) (t71 : (List (D.Address × Int))) : Option (Rd (Int × (List (D.Address × Int))) ((List (D.Address × Int))) (Rd (Int × (List (D.Address × Int))) ((List (D.Address × Int))) ((List (D.Address × Int))))) := m_impl_named_j3 fuel s39 t71
def m_impl_named_b2 (fuel : Nat) (x20 : D.statement) (s39 : Int × (List (D.Address × Int))) : Option (Rd (Int × (List (D.Address × Int))) ((List (D.Address × Int))) (Rd (Int × (List (D.Address × Int))) ((List (D.Address × Int))) ((List (D.Address × Int))))) := (if (decide (s39.1 < (([x20.a, x20.b] : (List D.thing)).length : Int))) = true then ((idx ([x20.a, x20.b] : (List D.thing)) s39.1).bind fun x52 => (if (!x52.own) = true then m_impl_named_j4 fuel s39 (mput s39.2 x52.at_ (w64 (((mget s39.2 x52.at_).getD (0 : Int)) + 1))) else m_impl_named_j3 fuel s39 s39.2)) else some (.brk s39.2))
def m_impl_named_b1 (fuel : Nat) (x0 : (List D.statement)) (s5 : Int × (List (D.Address × Int))) : Option (Rd (Int × (List (D.Address × Int))) ((List (D.Address × Int))) ((List (D.Address × Int)))) := (if (decide (s5.1 < (x0.length : Int))) = true then ((idx x0 s5.1).bind fun x20 => ((iter (m_impl_named_b2 fuel x20) fuel (0, s5.2)).bind fun o => aft o (m_impl_named_j2 fuel s5))) else some (.brk s5.2))
def m_impl_named (fuel : Nat) (x0 : (List D.statement)) : Option ((List (D.Address × Int))) := ((iter (m_impl_named_b1 fuel x0) fuel (0, ([] : (List (D.Address × Int))))).bind fun o => aft o (m_impl_named_j1 fuel))

set_option maxRecDepth 100000 in
theorem impl_named_ok {W w : World} (hE : Ext W w) {A0_ : Option Addr} {k0_ : Nat} {x0 : (List D.statement)} (h0_ : ty202.ro W [.slice A0_ x0.length k0_] x0) {fuel : Nat} {r : (List (D.Address × Int))} (hm : m_impl_named fuel x0 = some r) :
    Calls Try.prog 204 ⟨[.slice A0_ x0.length k0_]⟩ w (Ret fun v w8 => ∃ A0, v = .map (some A0) ∧ St w w8 [Own ty275 [.map (some A0)] r]) := by
  refine Calls.into Try.func204 rfl 38 rfl rfl _ rfl ?_
  unfold m_impl_named at hm
  have hS := St.start w
  refine WP.seq ?_
  refine WP.region ?_
  refine RW.run ttok 1 rfl ?_
  refine RW.nil ?_
  refine WP.seq ?_
  refine WP.region ?_
  refine RW.makeMap enc62 (Value.int .i64) hS rfl rfl rfl rfl (fun g1 w2 e3 hS4 => ?_)
  refine RW.run ttok 1 rfl ?_
  refine RW.nil ?_
  refine WP.seq ?_
  refine WP.seq ?_
  refine WP.region ?_
  refine RW.run ttok 3 rfl ?_
  refine RW.nil ?_
  obtain ⟨o11, hl12, hm⟩ := bind_some hm
  refine WP.cut (fun (t6 : (List (D.Address × Int))) F w9 => o11 = .inl t6 ∧ St w w9 [Own ty275 [.map (some g1)] t6] ∧ F = [(3, .map (some g1))]) ?_ ?_
  · skip
    rintro t6 F w10 ⟨ho14, hS13, rfl⟩
    subst ho14
    rw [aft_inl] at hm
    unfold m_impl_named_j1 at hm
    refine WP.seq ?_
    refine WP.region ?_
    refine RW.run ttok 2 rfl ?_
    refine RW.nil ?_
    refine WP.ret ?_
    cases hm
    exact ⟨_, .cons (.tmp rfl) .nil, g1, rfl, hS13⟩
  · skip
    refine WP.block ?_
    refine WP.weak [(3, .map (some g1)), (9, .slice A0_ x0.length k0_), (10, .int .i64 (x0.length : Int)), (11, .int .i64 0)] ⟨rfl, rfl, rfl, rfl, trivial⟩ ?_
    refine WP.iter (fun (s5 : Int × (List (D.Address × Int))) F w9 => St w w9 [Own ty275 [.map (some g1)] s5.2] ∧ F = [(3, .map (some g1)), (9, .slice A0_ x0.length k0_), (10, .int .i64 (x0.length : Int)), (11, .int .i64 s5.1)]) _ hl12 ⟨hS4, rfl⟩ ?_
    rintro s5 F w19 _ o17 ⟨hS18, rfl⟩ hb15 ho16
    unfold m_impl_named_b1 at hb15
    refine WP.seq ?_
    refine WP.region ?_
    refine RW.run ttok 1 rfl ?_
    refine RW.nil ?_
    refine WP.seq ?_
    refine WP.cond (decide (s5.1 < (x0.length : Int))) rfl (fun hc => ?_) (fun hc => ?_)
    · skip
      rw [if_pos hc] at hb15
      refine WP.skip ?_
      refine WP.seq ?_
      refine WP.block ?_
      refine WP.seq ?_
      refine WP.region ?_
      obtain ⟨x20, hx21, hb15⟩ := bind_some hb15
      refine RW.idx ttok (hE.trans hS18.ext) rfl rfl rfl rfl rfl rfl (by decide) rfl rfl h0_ (idx_some hx21).1 (idx_some hx21).2 rfl rfl (fun p22 es23 ha24 hr25 => ?_)
      have e26 := ty273_open hr25; subst e26
      refine RW.loadN ttok rfl rfl rfl rfl rfl (At.ext (hE.trans hS18.ext) ha24) rfl rfl rfl ?_
      refine RW.new ttok hS18 rfl rfl rfl rfl (fun g27 w28 e29 hS30 => ?_)
      have hS31 := hS30.bring 0 rfl
      refine RW.store ttok (A := []) hS31 rfl rfl rfl rfl rfl 0 rfl rfl rfl rfl rfl (fun w32 hS33 => ?_)
      refine RW.nil ?_
      refine WP.seq ?_
      refine WP.region ?_
      refine RW.run ttok 1 rfl ?_
      refine RW.loadN ttok rfl rfl rfl rfl rfl (At.sub ((hS33.bring 0 rfl).box) 0 5) rfl rfl rfl ?_
      refine RW.run ttok 1 rfl ?_
      refine RW.loadN ttok rfl rfl rfl rfl rfl (At.sub ((hS33.bring 0 rfl).box) 5 5) rfl rfl rfl ?_
      refine RW.newSlice (U := ty271) (els := [.int .i64 x20.a.at_.Machine, .int .i64 x20.a.at_.Kind, .int .i64 x20.a.at_.Index, .int .i64 x20.a.slot, .bool x20.a.own, .int .i64 x20.b.at_.Machine, .int .i64 x20.b.at_.Kind, .int .i64 x20.b.at_.Index, .int .i64 x20.b.slot, .bool x20.b.own]) (ys := [x20.a, x20.b]) ttok (hS33.flatEls (U := ty271) (els := [.int .i64 x20.a.at_.Machine, .int .i64 x20.a.at_.Kind, .int .i64 x20.a.at_.Index, .int .i64 x20.a.slot, .bool x20.a.own, .int .i64 x20.b.at_.Machine, .int .i64 x20.b.at_.Kind, .int .i64 x20.b.at_.Index, .int .i64 x20.b.slot, .bool x20.b.own]) (ys := [x20.a, x20.b]) ⟨[.int .i64 x20.a.at_.Machine, .int .i64 x20.a.at_.Kind, .int .i64 x20.a.at_.Index, .int .i64 x20.a.slot, .bool x20.a.own], _, [], [], rfl, rfl, (ty271_ownI (c := x20.a) rfl), ⟨[.int .i64 x20.b.at_.Machine, .int .i64 x20.b.at_.Kind, .int .i64 x20.b.at_.Index, .int .i64 x20.b.slot, .bool x20.b.own], _, [], [], rfl, rfl, (ty271_ownI (c := x20.b) rfl), ⟨rfl, rfl⟩⟩⟩) rfl rfl rfl rfl rfl rfl rfl rfl rfl rfl rfl rfl (fun A34 k35 w36 e37 hS38 => ?_)
      refine RW.run ttok 2 rfl ?_
      refine RW.nil ?_
      obtain ⟨o43, hl44, hb15⟩ := bind_some hb15
      refine WP.cut (fun (t40 : (List (D.Address × Int))) F w9 => o43 = .inl t40 ∧ St w w9 [Own ty319 [.slice A34 ([x20.a, x20.b] : (List D.thing)).length k35] ([x20.a, x20.b] : (List D.thing)), Box g27 [.int .i64 x20.a.at_.Machine, .int .i64 x20.a.at_.Kind, .int .i64 x20.a.at_.Index, .int .i64 x20.a.slot, .bool x20.a.own, .int .i64 x20.b.at_.Machine, .int .i64 x20.b.at_.Kind, .int .i64 x20.b.at_.Index, .int .i64 x20.b.slot, .bool x20.b.own] 273, Own ty275 [.map (some g1)] t40] ∧ F = [(3, .map (some g1)), (9, .slice A0_ x0.length k0_), (10, .int .i64 (x0.length : Int)), (11, .int .i64 s5.1)]) ?_ ?_
      · skip
        rintro t40 F w42 ⟨ho46, hS45, rfl⟩
        subst ho46
        rw [aft_inl] at hb15
        unfold m_impl_named_j2 at hb15
        refine WP.region ?_
        refine RW.run ttok 2 rfl ?_
        refine RW.nil ?_
        cases hb15
        exact ⟨_, [(3, .map (some g1)), (9, .slice A0_ x0.length k0_), (10, .int .i64 (x0.length : Int)), (11, .int .i64 (w64 (s5.1 + 1)))], ⟨rfl, rfl, rfl, rfl, trivial⟩, rfl, ((hS45.bring 2 rfl).taken 1), rfl⟩
      · skip
        refine WP.block ?_
        refine WP.weak [(3, .map (some g1)), (9, .slice A0_ x0.length k0_), (10, .int .i64 (x0.length : Int)), (11, .int .i64 s5.1), (19, .slice A34 ([x20.a, x20.b] : (List D.thing)).length k35), (20, .int .i64 (([x20.a, x20.b] : (List D.thing)).length : Int)), (21, .int .i64 0)] ⟨rfl, rfl, rfl, rfl, rfl, rfl, rfl, trivial⟩ ?_
        refine WP.iter (fun (s39 : Int × (List (D.Address × Int))) F w9 => St w w9 [Own ty319 [.slice A34 ([x20.a, x20.b] : (List D.thing)).length k35] ([x20.a, x20.b] : (List D.thing)), Box g27 [.int .i64 x20.a.at_.Machine, .int .i64 x20.a.at_.Kind, .int .i64 x20.a.at_.Index, .int .i64 x20.a.slot, .bool x20.a.own, .int .i64 x20.b.at_.Machine, .int .i64 x20.b.at_.Kind, .int .i64 x20.b.at_.Index, .int .i64 x20.b.slot, .bool x20.b.own] 273, Own ty275 [.map (some g1)] s39.2] ∧ F = [(3, .map (some g1)), (9, .slice A0_ x0.length k0_), (10, .int .i64 (x0.length : Int)), (11, .int .i64 s5.1), (19, .slice A34 ([x20.a, x20.b] : (List D.thing)).length k35), (20, .int .i64 (([x20.a, x20.b] : (List D.thing)).length : Int)), (21, .int .i64 s39.1)]) _ hl44 ⟨hS38, rfl⟩ ?_
        rintro s39 F w51 _ o49 ⟨hS50, rfl⟩ hb47 ho48
        unfold m_impl_named_b2 at hb47
        refine WP.seq ?_
        refine WP.region ?_
        refine RW.run ttok 1 rfl ?_
        refine RW.nil ?_
        refine WP.seq ?_
        refine WP.cond (decide (s39.1 < (([x20.a, x20.b] : (List D.thing)).length : Int))) rfl (fun hc => ?_) (fun hc => ?_)
        · skip
          rw [if_pos hc] at hb47
          refine WP.skip ?_
          refine WP.seq ?_
          refine WP.block ?_
          refine WP.seq ?_
          refine WP.region ?_
          obtain ⟨x52, hx53, hb47⟩ := bind_some hb47
          refine RW.idx ttok (Ext.refl _) rfl rfl rfl rfl rfl rfl (by decide) rfl rfl ((hS50.bring 0 rfl).own) (idx_some hx53).1 (idx_some hx53).2 rfl rfl (fun p54 es55 ha56 hr57 => ?_)
          have e58 := ty271_open hr57; subst e58
          refine RW.loadN ttok rfl rfl rfl rfl rfl ha56 rfl rfl rfl ?_
          refine RW.new ttok hS50 rfl rfl rfl rfl (fun g59 w60 e61 hS62 => ?_)
          have hS63 := hS62.bring 0 rfl
          refine RW.store ttok (A := []) hS63 rfl rfl rfl rfl rfl 0 rfl rfl rfl rfl rfl (fun w65 hS66 => ?_)
          refine RW.nil ?_
          refine WP.seq ?_
          refine WP.region ?_
          refine RW.run ttok 1 rfl ?_
          refine RW.load1 ttok rfl rfl rfl rfl rfl ((hS66.bring 0 rfl).box) 4 rfl rfl rfl rfl ?_
          refine RW.run ttok 1 rfl ?_
          refine RW.nil ?_
          refine WP.cut (fun (t67 : (List (D.Address × Int))) F w9 => m_impl_named_j3 fuel s39 t67 = some o49 ∧ St w w9 [Box g59 [.int .i64 x52.at_.Machine, .int .i64 x52.at_.Kind, .int .i64 x52.at_.Index, .int .i64 x52.slot, .bool x52.own] 271, Own ty319 [.slice A34 ([x20.a, x20.b] : (List D.thing)).length k35] ([x20.a, x20.b] : (List D.thing)), Box g27 [.int .i64 x20.a.at_.Machine, .int .i64 x20.a.at_.Kind, .int .i64 x20.a.at_.Index, .int .i64 x20.a.slot, .bool x20.a.own, .int .i64 x20.b.at_.Machine, .int .i64 x20.b.at_.Kind, .int .i64 x20.b.at_.Index, .int .i64 x20.b.slot, .bool x20.b.own] 273, Own ty275 [.map (some g1)] t67] ∧ F = [(3, .map (some g1)), (9, .slice A0_ x0.length k0_), (10, .int .i64 (x0.length : Int)), (11, .int .i64 s5.1), (19, .slice A34 ([x20.a, x20.b] : (List D.thing)).length k35), (20, .int .i64 (([x20.a, x20.b] : (List D.thing)).length : Int)), (21, .int .i64 s39.1)]) ?_ ?_
          · skip
            rintro t67 F w69 ⟨hb47, hS68, rfl⟩
            unfold m_impl_named_j3 at hb47
            refine WP.region ?_
            refine RW.run ttok 2 rfl ?_
            refine RW.nil ?_
            cases hb47
            exact ⟨_, [(3, .map (some g1)), (9, .slice A0_ x0.length k0_), (10, .int .i64 (x0.length : Int)), (11, .int .i64 s5.1), (19, .slice A34 ([x20.a, x20.b] : (List D.thing)).length k35), (20, .int .i64 (([x20.a, x20.b] : (List D.thing)).length : Int)), (21, .int .i64 (w64 (s39.1 + 1)))], ⟨rfl, rfl, rfl, rfl, rfl, rfl, rfl, trivial⟩, rfl, (hS68.bring 0 rfl).drop, rfl⟩
          · skip
            refine WP.cond (!x52.own) rfl (fun hc => ?_) (fun hc => ?_)
            · skip
              rw [if_pos hc] at hb47
              refine WP.cut (fun (t71 : (List (D.Address × Int))) F w9 => m_impl_named_j4 fuel s39 t71 = some o49 ∧ St w w9 [Box g59 [.int .i64 x52.at_.Machine, .int .i64 x52.at_.Kind, .int .i64 x52.at_.Index, .int .i64 x52.slot, .bool x52.own] 271, Own ty319 [.slice A34 ([x20.a, x20.b] : (List D.thing)).length k35] ([x20.a, x20.b] : (List D.thing)), Box g27 [.int .i64 x20.a.at_.Machine, .int .i64 x20.a.at_.Kind, .int .i64 x20.a.at_.Index, .int .i64 x20.a.slot, .bool x20.a.own, .int .i64 x20.b.at_.Machine, .int .i64 x20.b.at_.Kind, .int .i64 x20.b.at_.Index, .int .i64 x20.b.slot, .bool x20.b.own] 273, Own ty275 [.map (some g1)] t71] ∧ F = [(3, .map (some g1)), (9, .slice A0_ x0.length k0_), (10, .int .i64 (x0.length : Int)), (11, .int .i64 s5.1), (19, .slice A34 ([x20.a, x20.b] : (List D.thing)).length k35), (20, .int .i64 (([x20.a, x20.b] : (List D.thing)).length : Int)), (21, .int .i64 s39.1)]) ?_ ?_
              · skip
                rintro t71 F w73 ⟨hb47, hS72, rfl⟩
                unfold m_impl_named_j4 at hb47
                exact ⟨t71, [(3, .map (some g1)), (9, .slice A0_ x0.length k0_), (10, .int .i64 (x0.length : Int)), (11, .int .i64 s5.1), (19, .slice A34 ([x20.a, x20.b] : (List D.thing)).length k35), (20, .int .i64 (([x20.a, x20.b] : (List D.thing)).length : Int)), (21, .int .i64 s39.1)], ⟨rfl, rfl, rfl, rfl, rfl, rfl, rfl, trivial⟩, hb47, hS72, rfl⟩
              · skip
                refine WP.drawnM 160 mixed 8 (by kernel_rfl) (by kernel_rfl) [([], 255), ([], 255), ([1], 253), ([0, 2], 250), ([3], 247), ([0, 2, 0, 1, 2], 250), ([5], 223), ([0, 6, 4, 5, 0, 1, 2, 3, 4, 5, 6], 174)] (by kernel_rfl) hS66.ext (fun hsk75 => ?_)
                have hS76 := hS66.step (Ext.draw _)
                refine DM.run (fuel := 6) ttok hsk75 [0, 1] 3 (by kernel_rfl) (by kernel_rfl) rfl ?_
                refine DM.weak [(3, .map (some g1)), (9, .slice A0_ x0.length k0_), (10, .int .i64 (x0.length : Int)), (11, .int .i64 s5.1), (19, .slice A34 ([x20.a, x20.b] : (List D.thing)).length k35), (20, .int .i64 (([x20.a, x20.b] : (List D.thing)).length : Int)), (21, .int .i64 s39.1), (28, .map (some g1)), (29, .pointer (some ⟨g59, 0, none⟩))] ⟨rfl, rfl, rfl, rfl, rfl, rfl, rfl, rfl, rfl, trivial⟩ ?_
                refine DM.loadN ttok hsk75 2 7 (by kernel_rfl) (by kernel_rfl) (by kernel_rfl) (by kernel_rfl) rfl (by kernel_rfl) rfl rfl rfl rfl rfl (At.sub ((hS66.bring 0 rfl).box) 0 3) rfl rfl rfl ?_
                refine DM.all hsk75 [3, 5] (by kernel_rfl) (by simp) ?_
                intro i84 hi85
                simp only [List.mem_cons, List.not_mem_nil, or_false] at hi85
                rcases hi85 with rfl | rfl
                · skip
                  refine LM.quietL hsk75 15 (by kernel_rfl) (by kernel_rfl) rfl rfl ((Quiet.lookup mapOk275 (kk := x52.at_) ((hS76.bring 3 rfl).own) rfl rfl rfl).later (Ext.refl _)) rfl rfl ?_
                  refine DM.run (fuel := 3) ttok hsk75 [4] 31 (by kernel_rfl) (by kernel_rfl) rfl ?_
                  have hS88 := hS76.bring 3 rfl
                  refine DM.one hsk75 5 (by kernel_rfl) (LM.mapEntry mapOk275 hS88 hsk75 63 (by kernel_rfl) (by kernel_rfl) rfl rfl rfl rfl (kk := x52.at_) rfl rfl rfl (fun c89 w86 hS87 => ?_))
                  refine DM.run (fuel := 1) ttok hsk75 [6] 127 (by kernel_rfl) (by kernel_rfl) rfl ?_
                  have hS92 := hS87.bring 0 rfl
                  refine DM.one hsk75 7 (by kernel_rfl) (LM.entryStore hS92 hsk75 255 (by kernel_rfl) (by kernel_rfl) rfl rfl rfl rfl rfl rfl (v := (w64 (((mget s39.2 x52.at_).getD (0 : Int)) + 1))) rfl (fun w90 hS91 => ?_))
                  refine DM.done hsk75 (by kernel_rfl) ?_
                  exact ⟨(mput s39.2 x52.at_ (w64 (((mget s39.2 x52.at_).getD (0 : Int)) + 1))), [(3, .map (some g1)), (9, .slice A0_ x0.length k0_), (10, .int .i64 (x0.length : Int)), (11, .int .i64 s5.1), (19, .slice A34 ([x20.a, x20.b] : (List D.thing)).length k35), (20, .int .i64 (([x20.a, x20.b] : (List D.thing)).length : Int)), (21, .int .i64 s39.1)], ⟨rfl, rfl, rfl, rfl, rfl, rfl, rfl, trivial⟩, hb47, ((((hS91.bring 0 rfl).bring 3 rfl).bring 3 rfl).bring 3 rfl), rfl⟩
                · skip
                  have hS95 := hS76.bring 3 rfl
                  refine LM.mapEntry mapOk275 hS95 hsk75 39 (by kernel_rfl) (by kernel_rfl) rfl rfl rfl rfl (kk := x52.at_) rfl rfl rfl (fun c96 w93 hS94 => ?_)
                  refine DM.run (fuel := 3) ttok hsk75 [6] 103 (by kernel_rfl) (by kernel_rfl) rfl ?_
                  refine DM.one hsk75 3 (by kernel_rfl) (LM.quietL hsk75 111 (by kernel_rfl) (by kernel_rfl) rfl rfl (Quiet.lookupO mapOk275 (hS94.bring 0 rfl) rfl rfl rfl) rfl rfl ?_)
                  refine DM.run (fuel := 1) ttok hsk75 [4] 127 (by kernel_rfl) (by kernel_rfl) rfl ?_
                  have hS99 := hS94.bring 0 rfl
                  refine DM.one hsk75 7 (by kernel_rfl) (LM.entryStore hS99 hsk75 255 (by kernel_rfl) (by kernel_rfl) rfl rfl rfl rfl rfl rfl (v := (w64 (((mget s39.2 x52.at_).getD (0 : Int)) + 1))) rfl (fun w97 hS98 => ?_))
                  refine DM.done hsk75 (by kernel_rfl) ?_
                  exact ⟨(mput s39.2 x52.at_ (w64 (((mget s39.2 x52.at_).getD (0 : Int)) + 1))), [(3, .map (some g1)), (9, .slice A0_ x0.length k0_), (10, .int .i64 (x0.length : Int)), (11, .int .i64 s5.1), (19, .slice A34 ([x20.a, x20.b] : (List D.thing)).length k35), (20, .int .i64 (([x20.a, x20.b] : (List D.thing)).length : Int)), (21, .int .i64 s39.1)], ⟨rfl, rfl, rfl, rfl, rfl, rfl, rfl, trivial⟩, hb47, ((((hS98.bring 0 rfl).bring 3 rfl).bring 3 rfl).bring 3 rfl), rfl⟩
            · skip
              rw [if_neg (not_t hc)] at hb47
              refine WP.skip ?_
              exact ⟨s39.2, [(3, .map (some g1)), (9, .slice A0_ x0.length k0_), (10, .int .i64 (x0.length : Int)), (11, .int .i64 s5.1), (19, .slice A34 ([x20.a, x20.b] : (List D.thing)).length k35), (20, .int .i64 (([x20.a, x20.b] : (List D.thing)).length : Int)), (21, .int .i64 s39.1)], ⟨rfl, rfl, rfl, rfl, rfl, rfl, rfl, trivial⟩, hb47, hS66, rfl⟩
        · skip
          rw [if_neg (not_t hc)] at hb47
          refine WP.exit ?_
          cases hb47
          exact ⟨_, [(3, .map (some g1)), (9, .slice A0_ x0.length k0_), (10, .int .i64 (x0.length : Int)), (11, .int .i64 s5.1)], ⟨rfl, rfl, rfl, rfl, trivial⟩, ho48, hS50, rfl⟩
    · skip
      rw [if_neg (not_t hc)] at hb15
      refine WP.exit ?_
      cases hb15
      exact ⟨_, [(3, .map (some g1))], ⟨rfl, trivial⟩, ho16, hS18, rfl⟩

theorem enters139 : Enters Try.prog 139 := ⟨_, _, Try.func139, rfl, by kernel_rfl⟩
def m_impl_Grid_namedRight_j2 (fuel : Nat) (t24 : Unit) : Option Bool := some true
def m_impl_Grid_namedRight_j4 (fuel : Nat) (s23 : Int) (t69 : Unit) : Option (Rd (Int) (Unit) (Bool)) := some (.next (w64 (s23 + 1)))
def m_impl_Grid_namedRight_j5 (fuel : Nat) (s68 : Int) (t95 : Bool) : Option (Rd (Int) (Unit) (Rd (Int) (Unit) (Bool))) := (if t95 = true then some (.ret (.ret false)) else some (.next (w64 (s68 + 1))))
def m_impl_Grid_namedRight_b4 (fuel : Nat) (r15 : (List (D.Address × Int))) (s23 : Int) (x36 : D.Shard) (s68 : Int) : Option (Rd (Int) (Unit) (Rd (Int) (Unit) (Bool))) := (if (decide (s68 < (x36.Vars.length : Int))) = true then ((idx x36.Vars s68).bind fun x81 => (if x81.Used = true then ((m_impl_varAddress fuel s23 s68).bind fun r101 => m_impl_Grid_namedRight_j5 fuel s68 (((mget r15 r101).getD (0 : Int)) != 2)) else m_impl_Grid_namedRight_j5 fuel s68 false)) else some (.brk ()))
def m_impl_Grid_namedRight_j3 (fuel : Nat) (r15 : (List (D.Address × Int))) (s23 : Int) (x36 : D.Shard) (t60 : Unit) : Option (Rd (Int) (Unit) (Bool)) := ((iter (m_impl_Grid_namedRight_b4 fuel r15 s23 x36) fuel 0).bind fun o => aft o (m_impl_Grid_namedRight_j4 fuel s23))
def m_impl_Grid_namedRight_j6 (fuel : Nat) (s59 : Int) (t133 : Bool) : Option (Rd (Int) (Unit) (Rd (Int) (Unit) (Bool))) := (if t133 = true then some (.ret (.ret false)) else some (.next (w64 (s59 + 1))))
def m_impl_Grid_namedRight_b3 (fuel : Nat) (r15 : (List (D.Address × Int))) (s23 : Int) (x36 : D.Shard) (s59 : Int) : Option (Rd (Int) (Unit) (Rd (Int) (Unit) (Bool))) := (if (decide (s59 < (x36.Cells.length : Int))) = true then ((idx x36.Cells s59).bind fun x113 => (if (x113.Kind != 0) = true then ((m_impl_cellAddress fuel s23 s59).bind fun r139 => m_impl_Grid_namedRight_j6 fuel s59 (((mget r15 r139).getD (0 : Int)) != 1)) else m_impl_Grid_namedRight_j6 fuel s59 false)) else some (.brk ()))
def m_impl_Grid_namedRight_b2 (fuel : Nat) (x0 : D.Grid) (r15 : (List (D.Address × Int))) (s23 : Int) : Option (Rd (Int) (Unit) (Bool)) := (if (decide (s23 < (x0.Shards.length : Int))) = true then ((idx x0.Shards s23).bind fun x36 => ((iter (m_impl_Grid_namedRight_b3 fuel r15 s23 x36) fuel 0).bind fun o => aft o (m_impl_Grid_namedRight_j3 fuel r15 s23 x36))) else some (.brk ()))
def m_impl_Grid_namedRight_j1 (fuel : Nat) (x0 : D.Grid) (x1 : (List D.statement)) (t6 : Unit) : Option Bool := ((m_impl_named fuel x1).bind fun r15 => ((iter (m_impl_Grid_namedRight_b2 fuel x0 r15) fuel 0).bind fun o => aft o (m_impl_Grid_namedRight_j2 fuel)))
def m_impl_Grid_namedRight_j7 (fuel : Nat) (s5 : Int) (t165 : Bool) : Option (Rd (Int) (Unit) (Bool)) := (if t165 = true then some (.ret false) else some (.next (w64 (s5 + 1))))
def m_impl_Grid_namedRight_b1 (fuel : Nat) (x0 : D.Grid) (x1 : (List D.statement)) (s5 : Int) : Option (Rd (Int) (Unit) (Bool)) := (if (decide (s5 < (x1.length : Int))) = true then ((idx x1 s5).bind fun x151 => (if (!x151.a.own) = true then ((m_impl_Grid_names fuel x0 x151.a.at_).bind fun r171 => (if (!r171) = true then m_impl_Grid_namedRight_j7 fuel s5 true else (if (!x151.b.own) = true then ((m_impl_Grid_names fuel x0 x151.b.at_).bind fun r180 => m_impl_Grid_namedRight_j7 fuel s5 (!r180)) else m_impl_Grid_namedRight_j7 fuel s5 false))) else (if (!x151.b.own) = true then ((m_impl_Grid_names fuel x0 x151.b.at_).bind fun r188 => m_impl_Grid_namedRight_j7 fuel s5 (!r188)) else m_impl_Grid_namedRight_j7 fuel s5 false))) else some (.brk ()))
def m_impl_Grid_namedRight (fuel : Nat) (x0 : D.Grid) (x1 : (List D.statement)) : Option (Bool) := ((iter (m_impl_Grid_namedRight_b1 fuel x0 x1) fuel 0).bind fun o => aft o (m_impl_Grid_namedRight_j1 fuel x0 x1))

set_option maxRecDepth 100000 in
theorem impl_Grid_namedRight_ok {W w : World} (hE : Ext W w) {p0_ : Addr} {c0_ : List Value} {x0 : D.Grid} {A1_ : Option Addr} {k1_ : Nat} {x1 : (List D.statement)} (h0_ : ty64.ro W c0_ x0) (g0_ : At W p0_ c0_) (h1_ : ty202.ro W [.slice A1_ x1.length k1_] x1) {fuel : Nat} {r : Bool} (hm : m_impl_Grid_namedRight fuel x0 x1 = some r) :
    Calls Try.prog 139 ⟨[.pointer (some p0_), .slice A1_ x1.length k1_]⟩ w (Ret fun v w8 => v = .bool r ∧ St w w8 []) := by
  obtain ⟨A1, k2, e4, h3⟩ := ty64_open h0_; subst e4
  refine Calls.into Try.func139 rfl 99 rfl rfl _ rfl ?_
  unfold m_impl_Grid_namedRight at hm
  have hS := St.start w
  refine WP.seq ?_
  refine WP.region ?_
  refine RW.run ttok 1 rfl ?_
  refine RW.nil ?_
  refine WP.seq ?_
  refine WP.seq ?_
  refine WP.region ?_
  refine RW.run ttok 3 rfl ?_
  refine RW.nil ?_
  obtain ⟨o11, hl12, hm⟩ := bind_some hm
  refine WP.cut (fun (t6 : Unit) F w9 => o11 = .inl t6 ∧ St w w9 [] ∧ F = [(0, .pointer (some p0_)), (1, .slice A1_ x1.length k1_)]) ?_ ?_
  · skip
    rintro t6 F w10 ⟨ho14, hS13, rfl⟩
    subst ho14
    rw [aft_inl] at hm
    unfold m_impl_Grid_namedRight_j1 at hm
    refine WP.seq ?_
    refine WP.region ?_
    refine RW.run ttok 1 rfl ?_
    obtain ⟨r15, hx16, hm⟩ := bind_some hm
    refine RW.call rfl rfl rfl enters204 (impl_named_ok (hE.trans hS13.ext) h1_ hx16) (fun v17 w18 hR19 => ?_)
    obtain ⟨A20, rfl, hR21⟩ := hR19
    have hS22 := hS13.join hR21
    refine RW.run ttok 1 rfl ?_
    refine RW.nil ?_
    refine WP.seq ?_
    refine WP.seq ?_
    refine WP.region ?_
    refine RW.run ttok 3 rfl ?_
    refine RW.load1 ttok rfl rfl rfl rfl rfl (At.ext (hE.trans hS22.ext) g0_) 0 rfl rfl rfl rfl ?_
    refine RW.run ttok 2 rfl ?_
    refine RW.nil ?_
    obtain ⟨o27, hl28, hm⟩ := bind_some hm
    refine WP.cut (fun (t24 : Unit) F w9 => o27 = .inl t24 ∧ St w w9 [Own ty275 [.map (some A20)] r15] ∧ F = []) ?_ ?_
    · skip
      rintro t24 F w26 ⟨ho30, hS29, rfl⟩
      subst ho30
      rw [aft_inl] at hm
      unfold m_impl_Grid_namedRight_j2 at hm
      refine WP.seq ?_
      refine WP.region ?_
      refine RW.run ttok 1 rfl ?_
      refine RW.nil ?_
      refine WP.ret ?_
      cases hm
      exact ⟨_, .cons (.tmp rfl) .nil, rfl, (hS29.taken 0)⟩
    · skip
      refine WP.block ?_
      refine WP.weak [(7, .map (some A20)), (52, .slice A1 x0.Shards.length k2), (53, .int .i64 (x0.Shards.length : Int)), (54, .int .i64 0)] ⟨rfl, rfl, rfl, rfl, trivial⟩ ?_
      refine WP.iter (fun (s23 : Int) F w9 => St w w9 [Own ty275 [.map (some A20)] r15] ∧ F = [(7, .map (some A20)), (52, .slice A1 x0.Shards.length k2), (53, .int .i64 (x0.Shards.length : Int)), (54, .int .i64 s23)]) _ hl28 ⟨hS22, rfl⟩ ?_
      rintro s23 F w35 _ o33 ⟨hS34, rfl⟩ hb31 ho32
      unfold m_impl_Grid_namedRight_b2 at hb31
      refine WP.seq ?_
      refine WP.region ?_
      refine RW.run ttok 1 rfl ?_
      refine RW.nil ?_
      refine WP.seq ?_
      refine WP.cond (decide (s23 < (x0.Shards.length : Int))) rfl (fun hc => ?_) (fun hc => ?_)
      · skip
        rw [if_pos hc] at hb31
        refine WP.skip ?_
        refine WP.seq ?_
        refine WP.block ?_
        refine WP.seq ?_
        refine WP.region ?_
        refine RW.run ttok 1 rfl ?_
        obtain ⟨x36, hx37, hb31⟩ := bind_some hb31
        refine RW.idx ttok (hE.trans hS34.ext) rfl rfl rfl rfl rfl rfl (by decide) rfl rfl h3 (idx_some hx37).1 (idx_some hx37).2 rfl rfl (fun p38 es39 ha40 hr41 => ?_)
        obtain ⟨A42, k43, A45, k46, A48, k49, e51, h44, h47, h50⟩ := ty200_open hr41; subst e51
        refine RW.loadN ttok rfl rfl rfl rfl rfl (At.ext (hE.trans hS34.ext) ha40) rfl rfl rfl ?_
        refine RW.new ttok hS34 rfl rfl rfl rfl (fun g52 w53 e54 hS55 => ?_)
        refine RW.run ttok 1 rfl ?_
        have hS56 := hS55.bring 0 rfl
        refine RW.store ttok (A := []) hS56 rfl rfl rfl rfl rfl 0 rfl rfl rfl rfl rfl (fun w57 hS58 => ?_)
        refine RW.nil ?_
        refine WP.seq ?_
        refine WP.seq ?_
        refine WP.region ?_
        refine RW.run ttok 1 rfl ?_
        refine RW.load1 ttok rfl rfl rfl rfl rfl ((hS58.bring 0 rfl).box) 0 rfl rfl rfl rfl ?_
        refine RW.run ttok 2 rfl ?_
        refine RW.nil ?_
        obtain ⟨o63, hl65, hb31⟩ := bind_some hb31
        refine WP.cut (fun (t60 : Unit) F w9 => o63 = .inl t60 ∧ St w w9 [Box g52 [.slice A42 x36.Cells.length k43, .slice A45 x36.Vars.length k46, .slice A48 x36.Redexes.length k49] 200, Own ty275 [.map (some A20)] r15] ∧ F = [(7, .map (some A20)), (8, .int .i64 s23), (9, .pointer (some ⟨g52, 0, none⟩)), (52, .slice A1 x0.Shards.length k2), (53, .int .i64 (x0.Shards.length : Int)), (54, .int .i64 s23)]) ?_ ?_
        · skip
          rintro t60 F w62 ⟨ho67, hS66, rfl⟩
          subst ho67
          rw [aft_inl] at hb31
          unfold m_impl_Grid_namedRight_j3 at hb31
          refine WP.seq ?_
          refine WP.region ?_
          refine RW.run ttok 1 rfl ?_
          refine RW.load1 ttok rfl rfl rfl rfl rfl ((hS66.bring 0 rfl).box) 1 rfl rfl rfl rfl ?_
          refine RW.run ttok 2 rfl ?_
          refine RW.nil ?_
          obtain ⟨o72, hl73, hb31⟩ := bind_some hb31
          refine WP.cut (fun (t69 : Unit) F w9 => o72 = .inl t69 ∧ St w w9 [Box g52 [.slice A42 x36.Cells.length k43, .slice A45 x36.Vars.length k46, .slice A48 x36.Redexes.length k49] 200, Own ty275 [.map (some A20)] r15] ∧ F = [(7, .map (some A20)), (52, .slice A1 x0.Shards.length k2), (53, .int .i64 (x0.Shards.length : Int)), (54, .int .i64 s23)]) ?_ ?_
          · skip
            rintro t69 F w71 ⟨ho75, hS74, rfl⟩
            subst ho75
            rw [aft_inl] at hb31
            unfold m_impl_Grid_namedRight_j4 at hb31
            refine WP.region ?_
            refine RW.run ttok 2 rfl ?_
            refine RW.nil ?_
            cases hb31
            exact ⟨_, [(7, .map (some A20)), (52, .slice A1 x0.Shards.length k2), (53, .int .i64 (x0.Shards.length : Int)), (54, .int .i64 (w64 (s23 + 1)))], ⟨rfl, rfl, rfl, rfl, trivial⟩, rfl, ((hS74.bring 1 rfl).taken 1), rfl⟩
          · skip
            refine WP.block ?_
            refine WP.weak [(7, .map (some A20)), (8, .int .i64 s23), (52, .slice A1 x0.Shards.length k2), (53, .int .i64 (x0.Shards.length : Int)), (54, .int .i64 s23), (80, .slice A45 x36.Vars.length k46), (81, .int .i64 (x36.Vars.length : Int)), (82, .int .i64 0)] ⟨rfl, rfl, rfl, rfl, rfl, rfl, rfl, rfl, trivial⟩ ?_
            refine WP.iter (fun (s68 : Int) F w9 => St w w9 [Box g52 [.slice A42 x36.Cells.length k43, .slice A45 x36.Vars.length k46, .slice A48 x36.Redexes.length k49] 200, Own ty275 [.map (some A20)] r15] ∧ F = [(7, .map (some A20)), (8, .int .i64 s23), (52, .slice A1 x0.Shards.length k2), (53, .int .i64 (x0.Shards.length : Int)), (54, .int .i64 s23), (80, .slice A45 x36.Vars.length k46), (81, .int .i64 (x36.Vars.length : Int)), (82, .int .i64 s68)]) _ hl73 ⟨hS66, rfl⟩ ?_
            rintro s68 F w80 _ o78 ⟨hS79, rfl⟩ hb76 ho77
            unfold m_impl_Grid_namedRight_b4 at hb76
            refine WP.seq ?_
            refine WP.region ?_
            refine RW.run ttok 1 rfl ?_
            refine RW.nil ?_
            refine WP.seq ?_
            refine WP.cond (decide (s68 < (x36.Vars.length : Int))) rfl (fun hc => ?_) (fun hc => ?_)
            · skip
              rw [if_pos hc] at hb76
              refine WP.skip ?_
              refine WP.seq ?_
              refine WP.block ?_
              refine WP.seq ?_
              refine WP.region ?_
              refine RW.run ttok 1 rfl ?_
              obtain ⟨x81, hx82, hb76⟩ := bind_some hb76
              refine RW.idx ttok (hE.trans hS79.ext) rfl rfl rfl rfl rfl rfl (by decide) rfl rfl h47 (idx_some hx82).1 (idx_some hx82).2 rfl rfl (fun p83 es84 ha85 hr86 => ?_)
              have e87 := ty250_open hr86; subst e87
              refine RW.loadN ttok rfl rfl rfl rfl rfl (At.ext (hE.trans hS79.ext) ha85) rfl rfl rfl ?_
              refine RW.new ttok hS79 rfl rfl rfl rfl (fun g88 w89 e90 hS91 => ?_)
              refine RW.run ttok 1 rfl ?_
              have hS92 := hS91.bring 0 rfl
              refine RW.store ttok (A := []) hS92 rfl rfl rfl rfl rfl 0 rfl rfl rfl rfl rfl (fun w93 hS94 => ?_)
              refine RW.nil ?_
              refine WP.seq ?_
              refine WP.cut (fun (t95 : Bool) F w9 => m_impl_Grid_namedRight_j5 fuel s68 t95 = some o78 ∧ Ext w93 w9 ∧ St w w9 [Box g88 [.bool x81.Used, .bool x81.Full, .int .i64 x81.Held.Machine, .int .i64 x81.Held.Kind, .int .i64 x81.Held.Index] 250, Box g52 [.slice A42 x36.Cells.length k43, .slice A45 x36.Vars.length k46, .slice A48 x36.Redexes.length k49] 200, Own ty275 [.map (some A20)] r15] ∧ F = [(7, .map (some A20)), (8, .int .i64 s23), (52, .slice A1 x0.Shards.length k2), (53, .int .i64 (x0.Shards.length : Int)), (54, .int .i64 s23), (80, .slice A45 x36.Vars.length k46), (81, .int .i64 (x36.Vars.length : Int)), (82, .int .i64 s68), (96, .bool t95)]) ?_ ?_
              · skip
                rintro t95 F w98 ⟨hb76, hE96, hS97, rfl⟩
                unfold m_impl_Grid_namedRight_j5 at hb76
                refine WP.cond t95 rfl (fun hc => ?_) (fun hc => ?_)
                · skip
                  rw [if_pos hc] at hb76
                  refine WP.seq ?_
                  refine WP.region ?_
                  refine RW.run ttok 1 rfl ?_
                  refine RW.nil ?_
                  refine WP.ret ?_
                  cases hb76
                  cases ho77
                  have hb31 : some _ = some _ := hb31
                  cases hb31
                  cases ho32
                  have hm : some _ = some _ := hm
                  cases hm
                  exact ⟨_, .cons (.tmp rfl) .nil, rfl, (hS97.taken 0)⟩
                · skip
                  rw [if_neg (not_t hc)] at hb76
                  refine WP.skip ?_
                  refine WP.region ?_
                  refine RW.run ttok 2 rfl ?_
                  refine RW.nil ?_
                  cases hb76
                  exact ⟨_, [(7, .map (some A20)), (8, .int .i64 s23), (52, .slice A1 x0.Shards.length k2), (53, .int .i64 (x0.Shards.length : Int)), (54, .int .i64 s23), (80, .slice A45 x36.Vars.length k46), (81, .int .i64 (x36.Vars.length : Int)), (82, .int .i64 (w64 (s68 + 1)))], ⟨rfl, rfl, rfl, rfl, rfl, rfl, rfl, rfl, trivial⟩, rfl, (hS97.bring 0 rfl).drop, rfl⟩
              · skip
                refine WP.region ?_
                refine RW.run ttok 1 rfl ?_
                refine RW.load1 ttok rfl rfl rfl rfl rfl ((hS94.bring 0 rfl).box) 0 rfl rfl rfl rfl ?_
                refine RW.run ttok 1 rfl ?_
                by_cases hg100 : x81.Used = true
                · skip
                  rw [if_pos hg100] at hb76
                  refine RW.know 89 rfl (congrArg Value.bool hg100) ?_
                  refine RW.run ttok 3 rfl ?_
                  obtain ⟨r101, hx102, hb76⟩ := bind_some hb76
                  refine RW.call rfl rfl rfl enters206 (impl_varAddress_ok (hE.trans hS94.ext)  hx102) (fun v103 w104 hR105 => ?_)
                  obtain ⟨rfl, hR106⟩ := hR105
                  have hS107 := hS94.join hR106
                  refine RW.quiet rfl ((Quiet.lookup mapOk275 (kk := r101) ((hS107.bring 2 rfl).own) rfl rfl rfl).later (Ext.refl _)) rfl rfl ?_
                  refine RW.run ttok 2 rfl ?_
                  refine RW.nil ?_
                  exact ⟨(((mget r15 r101).getD (0 : Int)) != 2), [(7, .map (some A20)), (8, .int .i64 s23), (52, .slice A1 x0.Shards.length k2), (53, .int .i64 (x0.Shards.length : Int)), (54, .int .i64 s23), (80, .slice A45 x36.Vars.length k46), (81, .int .i64 (x36.Vars.length : Int)), (82, .int .i64 s68), (96, .bool (((mget r15 r101).getD (0 : Int)) != 2))], ⟨rfl, rfl, rfl, rfl, rfl, rfl, rfl, rfl, rfl, trivial⟩, hb76, hR106.ext, hS107, rfl⟩
                · skip
                  rw [if_neg hg100] at hb76
                  refine RW.know 89 rfl (congrArg Value.bool (Bool.eq_false_iff.2 hg100)) ?_
                  refine RW.run ttok 7 rfl ?_
                  refine RW.nil ?_
                  exact ⟨false, [(7, .map (some A20)), (8, .int .i64 s23), (52, .slice A1 x0.Shards.length k2), (53, .int .i64 (x0.Shards.length : Int)), (54, .int .i64 s23), (80, .slice A45 x36.Vars.length k46), (81, .int .i64 (x36.Vars.length : Int)), (82, .int .i64 s68), (96, .bool false)], ⟨rfl, rfl, rfl, rfl, rfl, rfl, rfl, rfl, rfl, trivial⟩, hb76, (Ext.refl _), hS94, rfl⟩
            · skip
              rw [if_neg (not_t hc)] at hb76
              refine WP.exit ?_
              cases hb76
              exact ⟨_, [(7, .map (some A20)), (52, .slice A1 x0.Shards.length k2), (53, .int .i64 (x0.Shards.length : Int)), (54, .int .i64 s23)], ⟨rfl, rfl, rfl, rfl, trivial⟩, ho77, hS79, rfl⟩
        · skip
          refine WP.block ?_
          refine WP.weak [(7, .map (some A20)), (8, .int .i64 s23), (9, .pointer (some ⟨g52, 0, none⟩)), (52, .slice A1 x0.Shards.length k2), (53, .int .i64 (x0.Shards.length : Int)), (54, .int .i64 s23), (60, .slice A42 x36.Cells.length k43), (61, .int .i64 (x36.Cells.length : Int)), (62, .int .i64 0)] ⟨rfl, rfl, rfl, rfl, rfl, rfl, rfl, rfl, rfl, trivial⟩ ?_
          refine WP.iter (fun (s59 : Int) F w9 => St w w9 [Box g52 [.slice A42 x36.Cells.length k43, .slice A45 x36.Vars.length k46, .slice A48 x36.Redexes.length k49] 200, Own ty275 [.map (some A20)] r15] ∧ F = [(7, .map (some A20)), (8, .int .i64 s23), (9, .pointer (some ⟨g52, 0, none⟩)), (52, .slice A1 x0.Shards.length k2), (53, .int .i64 (x0.Shards.length : Int)), (54, .int .i64 s23), (60, .slice A42 x36.Cells.length k43), (61, .int .i64 (x36.Cells.length : Int)), (62, .int .i64 s59)]) _ hl65 ⟨hS58, rfl⟩ ?_
          rintro s59 F w112 _ o110 ⟨hS111, rfl⟩ hb108 ho109
          unfold m_impl_Grid_namedRight_b3 at hb108
          refine WP.seq ?_
          refine WP.region ?_
          refine RW.run ttok 1 rfl ?_
          refine RW.nil ?_
          refine WP.seq ?_
          refine WP.cond (decide (s59 < (x36.Cells.length : Int))) rfl (fun hc => ?_) (fun hc => ?_)
          · skip
            rw [if_pos hc] at hb108
            refine WP.skip ?_
            refine WP.seq ?_
            refine WP.block ?_
            refine WP.seq ?_
            refine WP.region ?_
            refine RW.run ttok 1 rfl ?_
            obtain ⟨x113, hx114, hb108⟩ := bind_some hb108
            refine RW.idx ttok (hE.trans hS111.ext) rfl rfl rfl rfl rfl rfl (by decide) rfl rfl h44 (idx_some hx114).1 (idx_some hx114).2 rfl rfl (fun p115 es116 ha117 hr118 => ?_)
            obtain ⟨A119, k120, A122, k123, e125, h121, h124⟩ := ty248_open hr118; subst e125
            refine RW.loadN ttok rfl rfl rfl rfl rfl (At.ext (hE.trans hS111.ext) ha117) rfl rfl rfl ?_
            refine RW.new ttok hS111 rfl rfl rfl rfl (fun g126 w127 e128 hS129 => ?_)
            refine RW.run ttok 1 rfl ?_
            have hS130 := hS129.bring 0 rfl
            refine RW.store ttok (A := []) hS130 rfl rfl rfl rfl rfl 0 rfl rfl rfl rfl rfl (fun w131 hS132 => ?_)
            refine RW.nil ?_
            refine WP.seq ?_
            refine WP.cut (fun (t133 : Bool) F w9 => m_impl_Grid_namedRight_j6 fuel s59 t133 = some o110 ∧ Ext w131 w9 ∧ St w w9 [Box g126 [.int .i64 x113.Kind, .int .i64 x113.Level, .int .i64 x113.Value, .slice A119 x113.Data.length k120, .slice A122 x113.Aux.length k123] 248, Box g52 [.slice A42 x36.Cells.length k43, .slice A45 x36.Vars.length k46, .slice A48 x36.Redexes.length k49] 200, Own ty275 [.map (some A20)] r15] ∧ F = [(7, .map (some A20)), (8, .int .i64 s23), (9, .pointer (some ⟨g52, 0, none⟩)), (52, .slice A1 x0.Shards.length k2), (53, .int .i64 (x0.Shards.length : Int)), (54, .int .i64 s23), (60, .slice A42 x36.Cells.length k43), (61, .int .i64 (x36.Cells.length : Int)), (62, .int .i64 s59), (77, .bool t133)]) ?_ ?_
            · skip
              rintro t133 F w136 ⟨hb108, hE134, hS135, rfl⟩
              unfold m_impl_Grid_namedRight_j6 at hb108
              refine WP.cond t133 rfl (fun hc => ?_) (fun hc => ?_)
              · skip
                rw [if_pos hc] at hb108
                refine WP.seq ?_
                refine WP.region ?_
                refine RW.run ttok 1 rfl ?_
                refine RW.nil ?_
                refine WP.ret ?_
                cases hb108
                cases ho109
                have hb31 : some _ = some _ := hb31
                cases hb31
                cases ho32
                have hm : some _ = some _ := hm
                cases hm
                exact ⟨_, .cons (.tmp rfl) .nil, rfl, (hS135.taken 0)⟩
              · skip
                rw [if_neg (not_t hc)] at hb108
                refine WP.skip ?_
                refine WP.region ?_
                refine RW.run ttok 2 rfl ?_
                refine RW.nil ?_
                cases hb108
                exact ⟨_, [(7, .map (some A20)), (8, .int .i64 s23), (9, .pointer (some ⟨g52, 0, none⟩)), (52, .slice A1 x0.Shards.length k2), (53, .int .i64 (x0.Shards.length : Int)), (54, .int .i64 s23), (60, .slice A42 x36.Cells.length k43), (61, .int .i64 (x36.Cells.length : Int)), (62, .int .i64 (w64 (s59 + 1)))], ⟨rfl, rfl, rfl, rfl, rfl, rfl, rfl, rfl, rfl, trivial⟩, rfl, (hS135.bring 0 rfl).drop, rfl⟩
            · skip
              refine WP.region ?_
              refine RW.run ttok 1 rfl ?_
              refine RW.load1 ttok rfl rfl rfl rfl rfl ((hS132.bring 0 rfl).box) 0 rfl rfl rfl rfl ?_
              refine RW.run ttok 2 rfl ?_
              by_cases hg138 : (x113.Kind != 0) = true
              · skip
                rw [if_pos hg138] at hb108
                refine RW.know 70 rfl (congrArg Value.bool hg138) ?_
                refine RW.run ttok 3 rfl ?_
                obtain ⟨r139, hx140, hb108⟩ := bind_some hb108
                refine RW.call rfl rfl rfl enters205 (impl_cellAddress_ok (hE.trans hS132.ext)  hx140) (fun v141 w142 hR143 => ?_)
                obtain ⟨rfl, hR144⟩ := hR143
                have hS145 := hS132.join hR144
                refine RW.quiet rfl ((Quiet.lookup mapOk275 (kk := r139) ((hS145.bring 2 rfl).own) rfl rfl rfl).later (Ext.refl _)) rfl rfl ?_
                refine RW.run ttok 2 rfl ?_
                refine RW.nil ?_
                exact ⟨(((mget r15 r139).getD (0 : Int)) != 1), [(7, .map (some A20)), (8, .int .i64 s23), (9, .pointer (some ⟨g52, 0, none⟩)), (52, .slice A1 x0.Shards.length k2), (53, .int .i64 (x0.Shards.length : Int)), (54, .int .i64 s23), (60, .slice A42 x36.Cells.length k43), (61, .int .i64 (x36.Cells.length : Int)), (62, .int .i64 s59), (77, .bool (((mget r15 r139).getD (0 : Int)) != 1))], ⟨rfl, rfl, rfl, rfl, rfl, rfl, rfl, rfl, rfl, rfl, trivial⟩, hb108, hR144.ext, hS145, rfl⟩
              · skip
                rw [if_neg hg138] at hb108
                refine RW.know 70 rfl (congrArg Value.bool (Bool.eq_false_iff.2 hg138)) ?_
                refine RW.run ttok 7 rfl ?_
                refine RW.nil ?_
                exact ⟨false, [(7, .map (some A20)), (8, .int .i64 s23), (9, .pointer (some ⟨g52, 0, none⟩)), (52, .slice A1 x0.Shards.length k2), (53, .int .i64 (x0.Shards.length : Int)), (54, .int .i64 s23), (60, .slice A42 x36.Cells.length k43), (61, .int .i64 (x36.Cells.length : Int)), (62, .int .i64 s59), (77, .bool false)], ⟨rfl, rfl, rfl, rfl, rfl, rfl, rfl, rfl, rfl, rfl, trivial⟩, hb108, (Ext.refl _), hS132, rfl⟩
          · skip
            rw [if_neg (not_t hc)] at hb108
            refine WP.exit ?_
            cases hb108
            exact ⟨_, [(7, .map (some A20)), (8, .int .i64 s23), (9, .pointer (some ⟨g52, 0, none⟩)), (52, .slice A1 x0.Shards.length k2), (53, .int .i64 (x0.Shards.length : Int)), (54, .int .i64 s23)], ⟨rfl, rfl, rfl, rfl, rfl, rfl, trivial⟩, ho109, hS111, rfl⟩
      · skip
        rw [if_neg (not_t hc)] at hb31
        refine WP.exit ?_
        cases hb31
        exact ⟨_, [], trivial, ho32, hS34, rfl⟩
  · skip
    refine WP.block ?_
    refine WP.weak [(0, .pointer (some p0_)), (1, .slice A1_ x1.length k1_), (14, .slice A1_ x1.length k1_), (15, .int .i64 (x1.length : Int)), (16, .int .i64 0)] ⟨rfl, rfl, rfl, rfl, rfl, trivial⟩ ?_
    refine WP.iter (fun (s5 : Int) F w9 => St w w9 [] ∧ F = [(0, .pointer (some p0_)), (1, .slice A1_ x1.length k1_), (14, .slice A1_ x1.length k1_), (15, .int .i64 (x1.length : Int)), (16, .int .i64 s5)]) _ hl12 ⟨hS, rfl⟩ ?_
    rintro s5 F w150 _ o148 ⟨hS149, rfl⟩ hb146 ho147
    unfold m_impl_Grid_namedRight_b1 at hb146
    refine WP.seq ?_
    refine WP.region ?_
    refine RW.run ttok 1 rfl ?_
    refine RW.nil ?_
    refine WP.seq ?_
    refine WP.cond (decide (s5 < (x1.length : Int))) rfl (fun hc => ?_) (fun hc => ?_)
    · skip
      rw [if_pos hc] at hb146
      refine WP.skip ?_
      refine WP.seq ?_
      refine WP.block ?_
      refine WP.seq ?_
      refine WP.region ?_
      obtain ⟨x151, hx152, hb146⟩ := bind_some hb146
      refine RW.idx ttok (hE.trans hS149.ext) rfl rfl rfl rfl rfl rfl (by decide) rfl rfl h1_ (idx_some hx152).1 (idx_some hx152).2 rfl rfl (fun p153 es154 ha155 hr156 => ?_)
      have e157 := ty273_open hr156; subst e157
      refine RW.loadN ttok rfl rfl rfl rfl rfl (At.ext (hE.trans hS149.ext) ha155) rfl rfl rfl ?_
      refine RW.new ttok hS149 rfl rfl rfl rfl (fun g158 w159 e160 hS161 => ?_)
      have hS162 := hS161.bring 0 rfl
      refine RW.store ttok (A := []) hS162 rfl rfl rfl rfl rfl 0 rfl rfl rfl rfl rfl (fun w163 hS164 => ?_)
      refine RW.nil ?_
      refine WP.seq ?_
      refine WP.cut (fun (t165 : Bool) F w9 => m_impl_Grid_namedRight_j7 fuel s5 t165 = some o148 ∧ Ext w163 w9 ∧ St w w9 [Box g158 [.int .i64 x151.a.at_.Machine, .int .i64 x151.a.at_.Kind, .int .i64 x151.a.at_.Index, .int .i64 x151.a.slot, .bool x151.a.own, .int .i64 x151.b.at_.Machine, .int .i64 x151.b.at_.Kind, .int .i64 x151.b.at_.Index, .int .i64 x151.b.slot, .bool x151.b.own] 273] ∧ F = [(0, .pointer (some p0_)), (1, .slice A1_ x1.length k1_), (14, .slice A1_ x1.length k1_), (15, .int .i64 (x1.length : Int)), (16, .int .i64 s5), (45, .bool t165)]) ?_ ?_
      · skip
        rintro t165 F w168 ⟨hb146, hE166, hS167, rfl⟩
        unfold m_impl_Grid_namedRight_j7 at hb146
        refine WP.cond t165 rfl (fun hc => ?_) (fun hc => ?_)
        · skip
          rw [if_pos hc] at hb146
          refine WP.seq ?_
          refine WP.region ?_
          refine RW.run ttok 1 rfl ?_
          refine RW.nil ?_
          refine WP.ret ?_
          cases hb146
          cases ho147
          have hm : some _ = some _ := hm
          cases hm
          exact ⟨_, .cons (.tmp rfl) .nil, rfl, (hS167.taken 0)⟩
        · skip
          rw [if_neg (not_t hc)] at hb146
          refine WP.skip ?_
          refine WP.region ?_
          refine RW.run ttok 2 rfl ?_
          refine RW.nil ?_
          cases hb146
          exact ⟨_, [(0, .pointer (some p0_)), (1, .slice A1_ x1.length k1_), (14, .slice A1_ x1.length k1_), (15, .int .i64 (x1.length : Int)), (16, .int .i64 (w64 (s5 + 1)))], ⟨rfl, rfl, rfl, rfl, rfl, trivial⟩, rfl, (hS167.taken 0), rfl⟩
      · skip
        refine WP.region ?_
        refine RW.run ttok 2 rfl ?_
        refine RW.load1 ttok rfl rfl rfl rfl rfl ((hS164.bring 0 rfl).box) 4 rfl rfl rfl rfl ?_
        refine RW.run ttok 2 rfl ?_
        by_cases hg170 : (!x151.a.own) = true
        · skip
          rw [if_pos hg170] at hb146
          refine RW.know 24 rfl (congrArg Value.bool hg170) ?_
          refine RW.run ttok 3 rfl ?_
          refine RW.loadN ttok rfl rfl rfl rfl rfl (At.sub ((hS164.bring 0 rfl).box) 0 3) rfl rfl rfl ?_
          obtain ⟨r171, hx172, hb146⟩ := bind_some hb146
          refine RW.call rfl rfl rfl enters203 (impl_Grid_names_ok (hE.trans hS164.ext) h0_ g0_ (ty62_shut x151.a.at_) hx172) (fun v173 w174 hR175 => ?_)
          obtain ⟨rfl, hR176⟩ := hR175
          have hS177 := hS164.join hR176
          refine RW.run ttok 3 rfl ?_
          by_cases hg178 : (!r171) = true
          · skip
            rw [if_pos hg178] at hb146
            refine RW.know 32 rfl (congrArg Value.bool hg178) ?_
            refine RW.run ttok 13 rfl ?_
            refine RW.nil ?_
            exact ⟨true, [(0, .pointer (some p0_)), (1, .slice A1_ x1.length k1_), (14, .slice A1_ x1.length k1_), (15, .int .i64 (x1.length : Int)), (16, .int .i64 s5), (45, .bool true)], ⟨rfl, rfl, rfl, rfl, rfl, rfl, trivial⟩, hb146, hR176.ext, hS177, rfl⟩
          · skip
            rw [if_neg hg178] at hb146
            refine RW.know 32 rfl (congrArg Value.bool (Bool.eq_false_iff.2 hg178)) ?_
            refine RW.run ttok 2 rfl ?_
            refine RW.load1 ttok rfl rfl rfl rfl rfl ((hS177.bring 0 rfl).box) 9 rfl rfl rfl rfl ?_
            refine RW.run ttok 2 rfl ?_
            by_cases hg179 : (!x151.b.own) = true
            · skip
              rw [if_pos hg179] at hb146
              refine RW.know 37 rfl (congrArg Value.bool hg179) ?_
              refine RW.run ttok 3 rfl ?_
              refine RW.loadN ttok rfl rfl rfl rfl rfl (At.sub ((hS177.bring 0 rfl).box) 5 3) rfl rfl rfl ?_
              obtain ⟨r180, hx181, hb146⟩ := bind_some hb146
              refine RW.call rfl rfl rfl enters203 (impl_Grid_names_ok (hE.trans hS177.ext) h0_ g0_ (ty62_shut x151.b.at_) hx181) (fun v182 w183 hR184 => ?_)
              obtain ⟨rfl, hR185⟩ := hR184
              have hS186 := hS177.join hR185
              refine RW.run ttok 3 rfl ?_
              refine RW.nil ?_
              exact ⟨!r180, [(0, .pointer (some p0_)), (1, .slice A1_ x1.length k1_), (14, .slice A1_ x1.length k1_), (15, .int .i64 (x1.length : Int)), (16, .int .i64 s5), (45, .bool (!r180))], ⟨rfl, rfl, rfl, rfl, rfl, rfl, trivial⟩, hb146, (hR176.ext.trans hR185.ext), hS186, rfl⟩
            · skip
              rw [if_neg hg179] at hb146
              refine RW.know 37 rfl (congrArg Value.bool (Bool.eq_false_iff.2 hg179)) ?_
              refine RW.run ttok 8 rfl ?_
              refine RW.nil ?_
              exact ⟨false, [(0, .pointer (some p0_)), (1, .slice A1_ x1.length k1_), (14, .slice A1_ x1.length k1_), (15, .int .i64 (x1.length : Int)), (16, .int .i64 s5), (45, .bool false)], ⟨rfl, rfl, rfl, rfl, rfl, rfl, trivial⟩, hb146, hR176.ext, hS177, rfl⟩
        · skip
          rw [if_neg hg170] at hb146
          refine RW.know 24 rfl (congrArg Value.bool (Bool.eq_false_iff.2 hg170)) ?_
          refine RW.run ttok 10 rfl ?_
          refine RW.load1 ttok rfl rfl rfl rfl rfl ((hS164.bring 0 rfl).box) 9 rfl rfl rfl rfl ?_
          refine RW.run ttok 2 rfl ?_
          by_cases hg187 : (!x151.b.own) = true
          · skip
            rw [if_pos hg187] at hb146
            refine RW.know 37 rfl (congrArg Value.bool hg187) ?_
            refine RW.run ttok 3 rfl ?_
            refine RW.loadN ttok rfl rfl rfl rfl rfl (At.sub ((hS164.bring 0 rfl).box) 5 3) rfl rfl rfl ?_
            obtain ⟨r188, hx189, hb146⟩ := bind_some hb146
            refine RW.call rfl rfl rfl enters203 (impl_Grid_names_ok (hE.trans hS164.ext) h0_ g0_ (ty62_shut x151.b.at_) hx189) (fun v190 w191 hR192 => ?_)
            obtain ⟨rfl, hR193⟩ := hR192
            have hS194 := hS164.join hR193
            refine RW.run ttok 3 rfl ?_
            refine RW.nil ?_
            exact ⟨!r188, [(0, .pointer (some p0_)), (1, .slice A1_ x1.length k1_), (14, .slice A1_ x1.length k1_), (15, .int .i64 (x1.length : Int)), (16, .int .i64 s5), (45, .bool (!r188))], ⟨rfl, rfl, rfl, rfl, rfl, rfl, trivial⟩, hb146, hR193.ext, hS194, rfl⟩
          · skip
            rw [if_neg hg187] at hb146
            refine RW.know 37 rfl (congrArg Value.bool (Bool.eq_false_iff.2 hg187)) ?_
            refine RW.run ttok 8 rfl ?_
            refine RW.nil ?_
            exact ⟨false, [(0, .pointer (some p0_)), (1, .slice A1_ x1.length k1_), (14, .slice A1_ x1.length k1_), (15, .int .i64 (x1.length : Int)), (16, .int .i64 s5), (45, .bool false)], ⟨rfl, rfl, rfl, rfl, rfl, rfl, trivial⟩, hb146, (Ext.refl _), hS164, rfl⟩
    · skip
      rw [if_neg (not_t hc)] at hb146
      refine WP.exit ?_
      cases hb146
      exact ⟨_, [(0, .pointer (some p0_)), (1, .slice A1_ x1.length k1_)], ⟨rfl, rfl, trivial⟩, ho147, hS149, rfl⟩

theorem enters75 : Enters Try.prog 75 := ⟨_, _, Try.func75, rfl, by kernel_rfl⟩
def m_impl_Grid_validWith_j1 (fuel : Nat) (x0 : D.Grid) (x1 : (List D.statement)) (t5 : Bool) : Option Bool := (if t5 = true then some false else ((m_impl_Grid_statements fuel x0).bind fun r12 => (if decide ((r12.length : Int) + (x1.length : Int) ≤ 4294967296) = true then ((m_impl_Grid_namedRight fuel x0 (r12 ++ x1)).bind fun r27 => some r27) else none)))
def m_impl_Grid_validWith (fuel : Nat) (x0 : D.Grid) (x1 : (List D.statement)) : Option (Bool) := (if (decide ((x0.Shards.length : Int) < 1)) = true then m_impl_Grid_validWith_j1 fuel x0 x1 true else (if (decide ((x0.Shards.length : Int) > 4)) = true then m_impl_Grid_validWith_j1 fuel x0 x1 true else ((m_slices_ContainsFunc_impl_Shard_impl_Shard fuel x0.Shards (fun y0 => m_impl_Grid_validWith_c1 fuel y0)).bind fun r36 => m_impl_Grid_validWith_j1 fuel x0 x1 r36)))

set_option maxRecDepth 100000 in
theorem impl_Grid_validWith_ok {W w : World} (hE : Ext W w) {p0_ : Addr} {c0_ : List Value} {x0 : D.Grid} {A1_ : Option Addr} {k1_ : Nat} {x1 : (List D.statement)} (h0_ : ty64.ro W c0_ x0) (g0_ : At W p0_ c0_) (h1_ : ty202.ro W [.slice A1_ x1.length k1_] x1) {fuel : Nat} {r : Bool} (hm : m_impl_Grid_validWith fuel x0 x1 = some r) :
    Calls Try.prog 75 ⟨[.pointer (some p0_), .slice A1_ x1.length k1_]⟩ w (Ret fun v w8 => v = .bool r ∧ St w w8 []) := by
  obtain ⟨A1, k2, e4, h3⟩ := ty64_open h0_; subst e4
  refine Calls.into Try.func75 rfl 32 rfl rfl _ rfl ?_
  unfold m_impl_Grid_validWith at hm
  have hS := St.start w
  refine WP.seq ?_
  refine WP.region ?_
  refine RW.run ttok 1 rfl ?_
  refine RW.nil ?_
  refine WP.seq ?_
  refine WP.seq ?_
  refine WP.cut (fun (t5 : Bool) F w9 => m_impl_Grid_validWith_j1 fuel x0 x1 t5 = some r ∧ Ext w w9 ∧ St w w9 [] ∧ F = [(0, .pointer (some p0_)), (1, .slice A1_ x1.length k1_), (25, .bool t5)]) ?_ ?_
  · skip
    rintro t5 F w10 ⟨hm, hE6, hS7, rfl⟩
    unfold m_impl_Grid_validWith_j1 at hm
    refine WP.cond t5 rfl (fun hc => ?_) (fun hc => ?_)
    · skip
      rw [if_pos hc] at hm
      refine WP.seq ?_
      refine WP.region ?_
      refine RW.run ttok 1 rfl ?_
      refine RW.nil ?_
      refine WP.ret ?_
      cases hm
      exact ⟨_, .cons (.tmp rfl) .nil, rfl, hS7⟩
    · skip
      rw [if_neg (not_t hc)] at hm
      refine WP.skip ?_
      refine WP.seq ?_
      refine WP.region ?_
      refine RW.run ttok 2 rfl ?_
      obtain ⟨r12, hx13, hm⟩ := bind_some hm
      refine RW.call rfl rfl rfl enters140 (impl_Grid_statements_ok (hE.trans hS7.ext) h0_ g0_ hx13) (fun v14 w15 hR16 => ?_)
      obtain ⟨A17, k18, rfl, hR19⟩ := hR16
      have hS20 := hS7.join hR19
      refine RW.run ttok 1 rfl ?_
      have hS21 := hS20.bring 0 rfl
      by_cases hk22 : decide ((r12.length : Int) + (x1.length : Int) ≤ 4294967296) = true
      case neg => rw [if_neg hk22] at hm; cases hm
      rw [if_pos hk22] at hm
      refine RW.appendRo ttok (Flat.map (Flat.pair (Flat.map (Flat.pair (Flat.map (Flat.pair Flat.int (Flat.pair Flat.int (Flat.pair Flat.int Flat.unit)))) (Flat.pair Flat.int (Flat.pair Flat.bool Flat.unit)))) (Flat.pair (Flat.map (Flat.pair (Flat.map (Flat.pair Flat.int (Flat.pair Flat.int (Flat.pair Flat.int Flat.unit)))) (Flat.pair Flat.int (Flat.pair Flat.bool Flat.unit)))) Flat.unit))) hS21 rfl rfl rfl rfl rfl rfl (by decide) rfl rfl (ty202.ext (hE.trans hS21.ext) h1_) (of_decide_eq_true hk22) (by decide) rfl rfl (fun A23 k24 w25 hS26 => ?_)
      obtain ⟨r27, hx28, hm⟩ := bind_some hm
      refine RW.call rfl rfl rfl enters139 (impl_Grid_namedRight_ok (Ext.refl _) (ty64.ext (hE.trans hS26.ext) h0_) (At.ext (hE.trans hS26.ext) g0_) ((hS26.bring 0 rfl).own) hx28) (fun v29 w30 hR31 => ?_)
      obtain ⟨rfl, hR32⟩ := hR31
      have hS33 := hS26.join hR32
      refine RW.run ttok 1 rfl ?_
      refine RW.nil ?_
      refine WP.ret ?_
      cases hm
      exact ⟨_, .cons (.tmp rfl) .nil, rfl, (hS33.taken 0)⟩
  · skip
    refine WP.region ?_
    refine RW.run ttok 3 rfl ?_
    refine RW.load1 ttok rfl rfl rfl rfl rfl (At.ext (hE.trans hS.ext) g0_) 0 rfl rfl rfl rfl ?_
    refine RW.run ttok 3 rfl ?_
    by_cases hg34 : (decide ((x0.Shards.length : Int) < 1)) = true
    · skip
      rw [if_pos hg34] at hm
      refine RW.know 11 rfl (congrArg Value.bool hg34) ?_
      refine RW.run ttok 14 rfl ?_
      refine RW.nil ?_
      exact ⟨true, [(0, .pointer (some p0_)), (1, .slice A1_ x1.length k1_), (25, .bool true)], ⟨rfl, rfl, rfl, trivial⟩, hm, (Ext.refl _), hS, rfl⟩
    · skip
      rw [if_neg hg34] at hm
      refine RW.know 11 rfl (congrArg Value.bool (Bool.eq_false_iff.2 hg34)) ?_
      refine RW.run ttok 3 rfl ?_
      refine RW.load1 ttok rfl rfl rfl rfl rfl (At.ext (hE.trans hS.ext) g0_) 0 rfl rfl rfl rfl ?_
      refine RW.run ttok 4 rfl ?_
      by_cases hg35 : (decide ((x0.Shards.length : Int) > 4)) = true
      · skip
        rw [if_pos hg35] at hm
        refine RW.know 19 rfl (congrArg Value.bool hg35) ?_
        refine RW.run ttok 6 rfl ?_
        refine RW.nil ?_
        exact ⟨true, [(0, .pointer (some p0_)), (1, .slice A1_ x1.length k1_), (25, .bool true)], ⟨rfl, rfl, rfl, trivial⟩, hm, (Ext.refl _), hS, rfl⟩
      · skip
        rw [if_neg hg35] at hm
        refine RW.know 19 rfl (congrArg Value.bool (Bool.eq_false_iff.2 hg35)) ?_
        refine RW.run ttok 3 rfl ?_
        refine RW.load1 ttok rfl rfl rfl rfl rfl (At.ext (hE.trans hS.ext) g0_) 0 rfl rfl rfl rfl ?_
        obtain ⟨r36, hx37, hm⟩ := bind_some hm
        refine RW.call rfl rfl rfl enters136 (slices_ContainsFunc_impl_Shard_impl_Shard_ok (hE.trans hS.ext) h3 ⟨enters137, fun e9 => (fun a0_0 hx9 => impl_Grid_validWith_c1_ok (Ext.refl _) a0_0 hx9)⟩ hx37) (fun v38 w39 hR40 => ?_)
        obtain ⟨rfl, hR41⟩ := hR40
        have hS42 := hS.join hR41
        refine RW.run ttok 1 rfl ?_
        refine RW.nil ?_
        exact ⟨r36, [(0, .pointer (some p0_)), (1, .slice A1_ x1.length k1_), (25, .bool r36)], ⟨rfl, rfl, rfl, trivial⟩, hm, hR41.ext, hS42, rfl⟩

theorem enters33 : Enters Try.prog 33 := ⟨_, _, Try.func33, rfl, by kernel_rfl⟩
def m_impl_ValidGrid (fuel : Nat) (x0 : D.Grid) : Option (Bool) := ((m_impl_Grid_validWith fuel x0 ([] : (List D.statement))).bind fun r11 => some r11)

set_option maxRecDepth 100000 in
theorem impl_ValidGrid_ok {W w : World} (hE : Ext W w) {c0_ : List Value} {x0 : D.Grid} (h0_ : ty64.ro W c0_ x0) {fuel : Nat} {r : Bool} (hm : m_impl_ValidGrid fuel x0 = some r) :
    Calls Try.prog 33 ⟨[.agg ⟨c0_⟩]⟩ w (Ret fun v w8 => v = .bool r ∧ St w w8 []) := by
  obtain ⟨A1, k2, e4, h3⟩ := ty64_open h0_; subst e4
  refine Calls.into Try.func33 rfl 4 rfl rfl _ rfl ?_
  unfold m_impl_ValidGrid at hm
  have hS := St.start w
  refine WP.seq ?_
  refine WP.region ?_
  refine RW.new ttok hS rfl rfl rfl rfl (fun g5 w6 e7 hS10 => ?_)
  refine RW.run ttok 1 rfl ?_
  refine RW.nil ?_
  refine WP.seq ?_
  refine WP.region ?_
  obtain ⟨r11, hx12, hm⟩ := bind_some hm
  refine RW.call rfl rfl rfl enters75 (impl_Grid_validWith_ok (Ext.refl _) (ty64.ext (hE.trans hS10.ext) h0_) ((hS10.bring 0 rfl).box) (show ty202.ro _ [.slice none ([] : (List D.statement)).length 0] [] from slNil ty273 273 _) hx12) (fun v13 w14 hR15 => ?_)
  obtain ⟨rfl, hR16⟩ := hR15
  have hS17 := hS10.join hR16
  refine RW.run ttok 1 rfl ?_
  refine RW.nil ?_
  refine WP.ret ?_
  cases hm
  exact ⟨_, .cons (.tmp rfl) .nil, rfl, (hS17.taken 0)⟩

theorem enters127 : Enters Try.prog 127 := ⟨_, _, Try.func127, rfl, by kernel_rfl⟩
def m_laws_eqInt64S_j1 (fuel : Nat) (t2 : Unit) : Option Bool := some true
def m_laws_eqInt64S_b1 (fuel : Nat) (x0 : (List Int)) (x1 : (List Int)) (s1 : Int) : Option (Rd (Int) (Unit) (Bool)) := (if (decide (s1 < (x0.length : Int))) = true then ((idx x0 s1).bind fun x21 => ((idx x1 s1).bind fun x27 => (if (x21 != x27) = true then some (.ret false) else some (.next (w64 (s1 + 1)))))) else some (.brk ()))
def m_laws_eqInt64S (fuel : Nat) (x0 : (List Int)) (x1 : (List Int)) : Option (Bool) := (if ((x0.length : Int) != (x1.length : Int)) = true then some false else ((iter (m_laws_eqInt64S_b1 fuel x0 x1) fuel 0).bind fun o => aft o (m_laws_eqInt64S_j1 fuel)))

set_option maxRecDepth 100000 in
theorem laws_eqInt64S_ok {W w : World} (hE : Ext W w) {A0_ : Option Addr} {k0_ : Nat} {x0 : (List Int)} {A1_ : Option Addr} {k1_ : Nat} {x1 : (List Int)} (h0_ : ty103.ro W [.slice A0_ x0.length k0_] x0) (h1_ : ty103.ro W [.slice A1_ x1.length k1_] x1) {fuel : Nat} {r : Bool} (hm : m_laws_eqInt64S fuel x0 x1 = some r) :
    Calls Try.prog 127 ⟨[.slice A0_ x0.length k0_, .slice A1_ x1.length k1_]⟩ w (Ret fun v w8 => v = .bool r ∧ St w w8 []) := by
  refine Calls.into Try.func127 rfl 26 rfl rfl _ rfl ?_
  unfold m_laws_eqInt64S at hm
  have hS := St.start w
  refine WP.seq ?_
  refine WP.region ?_
  refine RW.run ttok 1 rfl ?_
  refine RW.nil ?_
  refine WP.seq ?_
  refine WP.seq ?_
  refine WP.region ?_
  refine RW.run ttok 5 rfl ?_
  refine RW.nil ?_
  refine WP.cond ((x0.length : Int) != (x1.length : Int)) rfl (fun hc => ?_) (fun hc => ?_)
  · skip
    rw [if_pos hc] at hm
    refine WP.seq ?_
    refine WP.region ?_
    refine RW.run ttok 1 rfl ?_
    refine RW.nil ?_
    refine WP.ret ?_
    cases hm
    exact ⟨_, .cons (.tmp rfl) .nil, rfl, hS⟩
  · skip
    rw [if_neg (not_t hc)] at hm
    refine WP.skip ?_
    refine WP.seq ?_
    refine WP.seq ?_
    refine WP.region ?_
    refine RW.run ttok 1 rfl ?_
    refine RW.nil ?_
    obtain ⟨o10, hl11, hm⟩ := bind_some hm
    refine WP.cut (fun (t2 : Unit) F w9 => o10 = .inl t2 ∧ Ext w w9 ∧ St w w9 [] ∧ F = []) ?_ ?_
    · skip
      rintro t2 F w7 ⟨ho13, hE6, hS12, rfl⟩
      subst ho13
      rw [aft_inl] at hm
      unfold m_laws_eqInt64S_j1 at hm
      refine WP.seq ?_
      refine WP.region ?_
      refine RW.run ttok 1 rfl ?_
      refine RW.nil ?_
      refine WP.ret ?_
      cases hm
      exact ⟨_, .cons (.tmp rfl) .nil, rfl, hS12⟩
    · skip
      refine WP.block ?_
      refine WP.weak [(0, .slice A0_ x0.length k0_), (1, .slice A1_ x1.length k1_), (5, .int .i64 0)] ⟨rfl, rfl, rfl, trivial⟩ ?_
      refine WP.iter (fun (s1 : Int) F w9 => Ext w w9 ∧ St w w9 [] ∧ F = [(0, .slice A0_ x0.length k0_), (1, .slice A1_ x1.length k1_), (5, .int .i64 s1)]) _ hl11 ⟨(Ext.refl _), hS, rfl⟩ ?_
      rintro s1 F w18 _ o16 ⟨hE5, hS17, rfl⟩ hb14 ho15
      unfold m_laws_eqInt64S_b1 at hb14
      refine WP.seq ?_
      refine WP.seq ?_
      refine WP.region ?_
      refine RW.run ttok 4 rfl ?_
      refine RW.nil ?_
      refine WP.cond (decide (s1 < (x0.length : Int))) rfl (fun hc => ?_) (fun hc => ?_)
      · skip
        rw [if_pos hc] at hb14
        refine WP.skip ?_
        refine WP.seq ?_
        refine WP.block ?_
        refine WP.seq ?_
        refine WP.drawnM 0 mixed 9 (by kernel_rfl) (by kernel_rfl) [([], 511), ([], 511), ([0, 1], 508), ([2], 507), ([], 511), ([], 511), ([4, 5], 463), ([6], 447), ([3, 7], 375)] (by kernel_rfl) hS17.ext (fun hsk19 => ?_)
        have hS20 := hS17.step (Ext.draw _)
        refine DM.run (fuel := 5) ttok hsk19 [0, 1, 4, 5] 51 (by kernel_rfl) (by kernel_rfl) rfl ?_
        obtain ⟨x21, hx22, hb14⟩ := bind_some hb14
        refine DM.idx ttok (hE.trans hS17.ext) hsk19 2 55 (by kernel_rfl) (by kernel_rfl) (by kernel_rfl) (by kernel_rfl) rfl (by kernel_rfl) rfl rfl rfl rfl rfl rfl (by decide) rfl rfl h0_ (idx_some hx22).1 (idx_some hx22).2 rfl rfl (fun p23 es24 ha25 hr26 => ?_)
        cases hr26
        refine DM.load1 ttok hsk19 3 63 (by kernel_rfl) (by kernel_rfl) (by kernel_rfl) (by kernel_rfl) rfl (by kernel_rfl) rfl rfl rfl rfl rfl (At.ext (hE.trans hS17.ext) ha25) 0 rfl rfl rfl rfl ?_
        obtain ⟨x27, hx28, hb14⟩ := bind_some hb14
        refine DM.idx ttok (hE.trans hS17.ext) hsk19 6 127 (by kernel_rfl) (by kernel_rfl) (by kernel_rfl) (by kernel_rfl) rfl (by kernel_rfl) rfl rfl rfl rfl rfl rfl (by decide) rfl rfl h1_ (idx_some hx28).1 (idx_some hx28).2 rfl rfl (fun p29 es30 ha31 hr32 => ?_)
        cases hr32
        refine DM.load1 ttok hsk19 7 255 (by kernel_rfl) (by kernel_rfl) (by kernel_rfl) (by kernel_rfl) rfl (by kernel_rfl) rfl rfl rfl rfl rfl (At.ext (hE.trans hS17.ext) ha31) 0 rfl rfl rfl rfl ?_
        refine DM.run (fuel := 0) ttok hsk19 [8] 511 (by kernel_rfl) (by kernel_rfl) rfl ?_
        refine DM.weak [(0, .slice A0_ x0.length k0_), (1, .slice A1_ x1.length k1_), (5, .int .i64 s1), (25, .bool (x21 != x27))] ⟨rfl, rfl, rfl, rfl, trivial⟩ ?_
        refine DM.done hsk19 (by kernel_rfl) ?_
        refine WP.cond (x21 != x27) rfl (fun hc => ?_) (fun hc => ?_)
        · skip
          rw [if_pos hc] at hb14
          refine WP.seq ?_
          refine WP.region ?_
          refine RW.run ttok 1 rfl ?_
          refine RW.nil ?_
          refine WP.ret ?_
          cases hb14
          cases ho15
          have hm : some _ = some _ := hm
          cases hm
          exact ⟨_, .cons (.tmp rfl) .nil, rfl, hS20⟩
        · skip
          rw [if_neg (not_t hc)] at hb14
          refine WP.skip ?_
          refine WP.region ?_
          refine RW.run ttok 3 rfl ?_
          refine RW.nil ?_
          cases hb14
          exact ⟨_, [(0, .slice A0_ x0.length k0_), (1, .slice A1_ x1.length k1_), (5, .int .i64 (w64 (s1 + 1)))], ⟨rfl, rfl, rfl, trivial⟩, rfl, (hE5.trans (Ext.draw _)), hS20, rfl⟩
      · skip
        rw [if_neg (not_t hc)] at hb14
        refine WP.exit ?_
        cases hb14
        exact ⟨_, [], trivial, ho15, hE5, hS17, rfl⟩

theorem enters77 : Enters Try.prog 77 := ⟨_, _, Try.func77, rfl, by kernel_rfl⟩
def m_laws_eqAddress (fuel : Nat) (x0 : D.Address) (x1 : D.Address) : Option (Bool) := (if (x0.Machine != x1.Machine) = true then some false else (if (x0.Kind != x1.Kind) = true then some false else (if (x0.Index != x1.Index) = true then some false else some true)))

set_option maxRecDepth 100000 in
theorem laws_eqAddress_ok {W w : World} (hE : Ext W w) {c0_ : List Value} {x0 : D.Address} {c1_ : List Value} {x1 : D.Address} (h0_ : ty62.ro W c0_ x0) (h1_ : ty62.ro W c1_ x1) {fuel : Nat} {r : Bool} (hm : m_laws_eqAddress fuel x0 x1 = some r) :
    Calls Try.prog 77 ⟨[.agg ⟨c0_⟩, .agg ⟨c1_⟩]⟩ w (Ret fun v w8 => v = .bool r ∧ St w w8 []) := by
  have e1 := ty62_open h0_; subst e1
  have e2 := ty62_open h1_; subst e2
  refine Calls.into Try.func77 rfl 20 rfl rfl _ rfl ?_
  unfold m_laws_eqAddress at hm
  have hS := St.start w
  refine WP.seq ?_
  refine WP.region ?_
  refine RW.new ttok hS rfl rfl rfl rfl (fun g3 w4 e5 hS6 => ?_)
  refine RW.new ttok hS6 rfl rfl rfl rfl (fun g7 w10 e11 hS12 => ?_)
  refine RW.run ttok 1 rfl ?_
  refine RW.nil ?_
  refine WP.seq ?_
  refine WP.seq ?_
  refine WP.region ?_
  refine RW.run ttok 1 rfl ?_
  refine RW.load1 ttok rfl rfl rfl rfl rfl ((hS12.bring 1 rfl).box) 0 rfl rfl rfl rfl ?_
  refine RW.run ttok 1 rfl ?_
  refine RW.load1 ttok rfl rfl rfl rfl rfl ((hS12.bring 0 rfl).box) 0 rfl rfl rfl rfl ?_
  refine RW.run ttok 1 rfl ?_
  refine RW.nil ?_
  refine WP.cond (x0.Machine != x1.Machine) rfl (fun hc => ?_) (fun hc => ?_)
  · skip
    rw [if_pos hc] at hm
    refine WP.seq ?_
    refine WP.region ?_
    refine RW.run ttok 1 rfl ?_
    refine RW.nil ?_
    refine WP.ret ?_
    cases hm
    exact ⟨_, .cons (.tmp rfl) .nil, rfl, (hS12.taken 0)⟩
  · skip
    rw [if_neg (not_t hc)] at hm
    refine WP.skip ?_
    refine WP.seq ?_
    refine WP.seq ?_
    refine WP.region ?_
    refine RW.run ttok 1 rfl ?_
    refine RW.load1 ttok rfl rfl rfl rfl rfl ((hS12.bring 1 rfl).box) 1 rfl rfl rfl rfl ?_
    refine RW.run ttok 1 rfl ?_
    refine RW.load1 ttok rfl rfl rfl rfl rfl ((hS12.bring 0 rfl).box) 1 rfl rfl rfl rfl ?_
    refine RW.run ttok 1 rfl ?_
    refine RW.nil ?_
    refine WP.cond (x0.Kind != x1.Kind) rfl (fun hc => ?_) (fun hc => ?_)
    · skip
      rw [if_pos hc] at hm
      refine WP.seq ?_
      refine WP.region ?_
      refine RW.run ttok 1 rfl ?_
      refine RW.nil ?_
      refine WP.ret ?_
      cases hm
      exact ⟨_, .cons (.tmp rfl) .nil, rfl, (hS12.taken 0)⟩
    · skip
      rw [if_neg (not_t hc)] at hm
      refine WP.skip ?_
      refine WP.seq ?_
      refine WP.seq ?_
      refine WP.region ?_
      refine RW.run ttok 1 rfl ?_
      refine RW.load1 ttok rfl rfl rfl rfl rfl ((hS12.bring 1 rfl).box) 2 rfl rfl rfl rfl ?_
      refine RW.run ttok 1 rfl ?_
      refine RW.load1 ttok rfl rfl rfl rfl rfl ((hS12.bring 0 rfl).box) 2 rfl rfl rfl rfl ?_
      refine RW.run ttok 1 rfl ?_
      refine RW.nil ?_
      refine WP.cond (x0.Index != x1.Index) rfl (fun hc => ?_) (fun hc => ?_)
      · skip
        rw [if_pos hc] at hm
        refine WP.seq ?_
        refine WP.region ?_
        refine RW.run ttok 1 rfl ?_
        refine RW.nil ?_
        refine WP.ret ?_
        cases hm
        exact ⟨_, .cons (.tmp rfl) .nil, rfl, (hS12.taken 0)⟩
      · skip
        rw [if_neg (not_t hc)] at hm
        refine WP.skip ?_
        refine WP.seq ?_
        refine WP.region ?_
        refine RW.run ttok 1 rfl ?_
        refine RW.nil ?_
        refine WP.ret ?_
        cases hm
        exact ⟨_, .cons (.tmp rfl) .nil, rfl, (hS12.taken 0)⟩

theorem enters268 : Enters Try.prog 268 := ⟨_, _, Try.func268, rfl, by kernel_rfl⟩
def m_laws_eqAddressS_j1 (fuel : Nat) (t2 : Unit) : Option Bool := some true
def m_laws_eqAddressS_b1 (fuel : Nat) (x0 : (List D.Address)) (x1 : (List D.Address)) (s1 : Int) : Option (Rd (Int) (Unit) (Bool)) := (if (decide (s1 < (x0.length : Int))) = true then ((idx x0 s1).bind fun x21 => ((idx x1 s1).bind fun x28 => ((m_laws_eqAddress fuel x21 x28).bind fun r35 => (if (!r35) = true then some (.ret false) else some (.next (w64 (s1 + 1))))))) else some (.brk ()))
def m_laws_eqAddressS (fuel : Nat) (x0 : (List D.Address)) (x1 : (List D.Address)) : Option (Bool) := (if ((x0.length : Int) != (x1.length : Int)) = true then some false else ((iter (m_laws_eqAddressS_b1 fuel x0 x1) fuel 0).bind fun o => aft o (m_laws_eqAddressS_j1 fuel)))

set_option maxRecDepth 100000 in
theorem laws_eqAddressS_ok {W w : World} (hE : Ext W w) {A0_ : Option Addr} {k0_ : Nat} {x0 : (List D.Address)} {A1_ : Option Addr} {k1_ : Nat} {x1 : (List D.Address)} (h0_ : ty246.ro W [.slice A0_ x0.length k0_] x0) (h1_ : ty246.ro W [.slice A1_ x1.length k1_] x1) {fuel : Nat} {r : Bool} (hm : m_laws_eqAddressS fuel x0 x1 = some r) :
    Calls Try.prog 268 ⟨[.slice A0_ x0.length k0_, .slice A1_ x1.length k1_]⟩ w (Ret fun v w8 => v = .bool r ∧ St w w8 []) := by
  refine Calls.into Try.func268 rfl 27 rfl rfl _ rfl ?_
  unfold m_laws_eqAddressS at hm
  have hS := St.start w
  refine WP.seq ?_
  refine WP.region ?_
  refine RW.run ttok 1 rfl ?_
  refine RW.nil ?_
  refine WP.seq ?_
  refine WP.seq ?_
  refine WP.region ?_
  refine RW.run ttok 5 rfl ?_
  refine RW.nil ?_
  refine WP.cond ((x0.length : Int) != (x1.length : Int)) rfl (fun hc => ?_) (fun hc => ?_)
  · skip
    rw [if_pos hc] at hm
    refine WP.seq ?_
    refine WP.region ?_
    refine RW.run ttok 1 rfl ?_
    refine RW.nil ?_
    refine WP.ret ?_
    cases hm
    exact ⟨_, .cons (.tmp rfl) .nil, rfl, hS⟩
  · skip
    rw [if_neg (not_t hc)] at hm
    refine WP.skip ?_
    refine WP.seq ?_
    refine WP.seq ?_
    refine WP.region ?_
    refine RW.run ttok 1 rfl ?_
    refine RW.nil ?_
    obtain ⟨o10, hl11, hm⟩ := bind_some hm
    refine WP.cut (fun (t2 : Unit) F w9 => o10 = .inl t2 ∧ Ext w w9 ∧ St w w9 [] ∧ F = []) ?_ ?_
    · skip
      rintro t2 F w7 ⟨ho13, hE6, hS12, rfl⟩
      subst ho13
      rw [aft_inl] at hm
      unfold m_laws_eqAddressS_j1 at hm
      refine WP.seq ?_
      refine WP.region ?_
      refine RW.run ttok 1 rfl ?_
      refine RW.nil ?_
      refine WP.ret ?_
      cases hm
      exact ⟨_, .cons (.tmp rfl) .nil, rfl, hS12⟩
    · skip
      refine WP.block ?_
      refine WP.weak [(0, .slice A0_ x0.length k0_), (1, .slice A1_ x1.length k1_), (5, .int .i64 0)] ⟨rfl, rfl, rfl, trivial⟩ ?_
      refine WP.iter (fun (s1 : Int) F w9 => Ext w w9 ∧ St w w9 [] ∧ F = [(0, .slice A0_ x0.length k0_), (1, .slice A1_ x1.length k1_), (5, .int .i64 s1)]) _ hl11 ⟨(Ext.refl _), hS, rfl⟩ ?_
      rintro s1 F w18 _ o16 ⟨hE5, hS17, rfl⟩ hb14 ho15
      unfold m_laws_eqAddressS_b1 at hb14
      refine WP.seq ?_
      refine WP.seq ?_
      refine WP.region ?_
      refine RW.run ttok 4 rfl ?_
      refine RW.nil ?_
      refine WP.cond (decide (s1 < (x0.length : Int))) rfl (fun hc => ?_) (fun hc => ?_)
      · skip
        rw [if_pos hc] at hb14
        refine WP.skip ?_
        refine WP.seq ?_
        refine WP.block ?_
        refine WP.seq ?_
        refine WP.drawnM 0 mixed 10 (by kernel_rfl) (by kernel_rfl) [([], 1023), ([], 1023), ([0, 1], 1020), ([2], 1019), ([], 1023), ([], 1023), ([4, 5], 975), ([6], 959), ([3, 7], 887), ([8], 767)] (by kernel_rfl) hS17.ext (fun hsk19 => ?_)
        have hS20 := hS17.step (Ext.draw _)
        refine DM.run (fuel := 6) ttok hsk19 [0, 1, 4, 5] 51 (by kernel_rfl) (by kernel_rfl) rfl ?_
        obtain ⟨x21, hx22, hb14⟩ := bind_some hb14
        refine DM.idx ttok (hE.trans hS17.ext) hsk19 2 55 (by kernel_rfl) (by kernel_rfl) (by kernel_rfl) (by kernel_rfl) rfl (by kernel_rfl) rfl rfl rfl rfl rfl rfl (by decide) rfl rfl h0_ (idx_some hx22).1 (idx_some hx22).2 rfl rfl (fun p23 es24 ha25 hr26 => ?_)
        have e27 := ty62_open hr26; subst e27
        refine DM.loadN ttok hsk19 3 63 (by kernel_rfl) (by kernel_rfl) (by kernel_rfl) (by kernel_rfl) rfl (by kernel_rfl) rfl rfl rfl rfl rfl (At.ext (hE.trans hS17.ext) ha25) rfl rfl rfl ?_
        obtain ⟨x28, hx29, hb14⟩ := bind_some hb14
        refine DM.idx ttok (hE.trans hS17.ext) hsk19 6 127 (by kernel_rfl) (by kernel_rfl) (by kernel_rfl) (by kernel_rfl) rfl (by kernel_rfl) rfl rfl rfl rfl rfl rfl (by decide) rfl rfl h1_ (idx_some hx29).1 (idx_some hx29).2 rfl rfl (fun p30 es31 ha32 hr33 => ?_)
        have e34 := ty62_open hr33; subst e34
        refine DM.loadN ttok hsk19 7 255 (by kernel_rfl) (by kernel_rfl) (by kernel_rfl) (by kernel_rfl) rfl (by kernel_rfl) rfl rfl rfl rfl rfl (At.ext (hE.trans hS17.ext) ha32) rfl rfl rfl ?_
        obtain ⟨r35, hx36, hb14⟩ := bind_some hb14
        refine DM.one hsk19 8 (by kernel_rfl) (LM.call hsk19 511 (by kernel_rfl) (by kernel_rfl) rfl rfl rfl rfl enters77 (laws_eqAddress_ok (hE.trans hS20.ext) hr26 hr33 hx36) (fun v37 w38 hR39 => ?_))
        obtain ⟨rfl, hR40⟩ := hR39
        refine ⟨hR40.ext, ?_⟩
        have hS41 := hS20.join hR40
        refine DM.run (fuel := 0) ttok hsk19 [9] 1023 (by kernel_rfl) (by kernel_rfl) rfl ?_
        refine DM.weak [(0, .slice A0_ x0.length k0_), (1, .slice A1_ x1.length k1_), (5, .int .i64 s1), (26, .bool (!r35))] ⟨rfl, rfl, rfl, rfl, trivial⟩ ?_
        refine DM.done hsk19 (by kernel_rfl) ?_
        refine WP.cond (!r35) rfl (fun hc => ?_) (fun hc => ?_)
        · skip
          rw [if_pos hc] at hb14
          refine WP.seq ?_
          refine WP.region ?_
          refine RW.run ttok 1 rfl ?_
          refine RW.nil ?_
          refine WP.ret ?_
          cases hb14
          cases ho15
          have hm : some _ = some _ := hm
          cases hm
          exact ⟨_, .cons (.tmp rfl) .nil, rfl, hS41⟩
        · skip
          rw [if_neg (not_t hc)] at hb14
          refine WP.skip ?_
          refine WP.region ?_
          refine RW.run ttok 3 rfl ?_
          refine RW.nil ?_
          cases hb14
          exact ⟨_, [(0, .slice A0_ x0.length k0_), (1, .slice A1_ x1.length k1_), (5, .int .i64 (w64 (s1 + 1)))], ⟨rfl, rfl, rfl, trivial⟩, rfl, ((hE5.trans (Ext.draw _)).trans hR40.ext), hS41, rfl⟩
      · skip
        rw [if_neg (not_t hc)] at hb14
        refine WP.exit ?_
        cases hb14
        exact ⟨_, [], trivial, ho15, hE5, hS17, rfl⟩

theorem enters253 : Enters Try.prog 253 := ⟨_, _, Try.func253, rfl, by kernel_rfl⟩
def m_laws_eqShardCell (fuel : Nat) (x0 : D.ShardCell) (x1 : D.ShardCell) : Option (Bool) := (if (x0.Kind != x1.Kind) = true then some false else (if (x0.Level != x1.Level) = true then some false else (if (x0.Value != x1.Value) = true then some false else ((m_laws_eqInt64S fuel x0.Data x1.Data).bind fun r25 => (if (!r25) = true then some false else ((m_laws_eqAddressS fuel x0.Aux x1.Aux).bind fun r32 => (if (!r32) = true then some false else some true)))))))

set_option maxRecDepth 100000 in
theorem laws_eqShardCell_ok {W w : World} (hE : Ext W w) {c0_ : List Value} {x0 : D.ShardCell} {c1_ : List Value} {x1 : D.ShardCell} (h0_ : ty248.ro W c0_ x0) (h1_ : ty248.ro W c1_ x1) {fuel : Nat} {r : Bool} (hm : m_laws_eqShardCell fuel x0 x1 = some r) :
    Calls Try.prog 253 ⟨[.agg ⟨c0_⟩, .agg ⟨c1_⟩]⟩ w (Ret fun v w8 => v = .bool r ∧ St w w8 []) := by
  obtain ⟨A1, k2, A4, k5, e7, h3, h6⟩ := ty248_open h0_; subst e7
  obtain ⟨A10, k11, A13, k14, e16, h12, h15⟩ := ty248_open h1_; subst e16
  refine Calls.into Try.func253 rfl 32 rfl rfl _ rfl ?_
  unfold m_laws_eqShardCell at hm
  have hS := St.start w
  refine WP.seq ?_
  refine WP.region ?_
  refine RW.new ttok hS rfl rfl rfl rfl (fun g17 w18 e19 hS20 => ?_)
  refine RW.new ttok hS20 rfl rfl rfl rfl (fun g21 w22 e23 hS24 => ?_)
  refine RW.run ttok 1 rfl ?_
  refine RW.nil ?_
  refine WP.seq ?_
  refine WP.seq ?_
  refine WP.region ?_
  refine RW.run ttok 1 rfl ?_
  refine RW.load1 ttok rfl rfl rfl rfl rfl ((hS24.bring 1 rfl).box) 0 rfl rfl rfl rfl ?_
  refine RW.run ttok 1 rfl ?_
  refine RW.load1 ttok rfl rfl rfl rfl rfl ((hS24.bring 0 rfl).box) 0 rfl rfl rfl rfl ?_
  refine RW.run ttok 1 rfl ?_
  refine RW.nil ?_
  refine WP.cond (x0.Kind != x1.Kind) rfl (fun hc => ?_) (fun hc => ?_)
  · skip
    rw [if_pos hc] at hm
    refine WP.seq ?_
    refine WP.region ?_
    refine RW.run ttok 1 rfl ?_
    refine RW.nil ?_
    refine WP.ret ?_
    cases hm
    exact ⟨_, .cons (.tmp rfl) .nil, rfl, (hS24.taken 0)⟩
  · skip
    rw [if_neg (not_t hc)] at hm
    refine WP.skip ?_
    refine WP.seq ?_
    refine WP.seq ?_
    refine WP.region ?_
    refine RW.run ttok 1 rfl ?_
    refine RW.load1 ttok rfl rfl rfl rfl rfl ((hS24.bring 1 rfl).box) 1 rfl rfl rfl rfl ?_
    refine RW.run ttok 1 rfl ?_
    refine RW.load1 ttok rfl rfl rfl rfl rfl ((hS24.bring 0 rfl).box) 1 rfl rfl rfl rfl ?_
    refine RW.run ttok 1 rfl ?_
    refine RW.nil ?_
    refine WP.cond (x0.Level != x1.Level) rfl (fun hc => ?_) (fun hc => ?_)
    · skip
      rw [if_pos hc] at hm
      refine WP.seq ?_
      refine WP.region ?_
      refine RW.run ttok 1 rfl ?_
      refine RW.nil ?_
      refine WP.ret ?_
      cases hm
      exact ⟨_, .cons (.tmp rfl) .nil, rfl, (hS24.taken 0)⟩
    · skip
      rw [if_neg (not_t hc)] at hm
      refine WP.skip ?_
      refine WP.seq ?_
      refine WP.seq ?_
      refine WP.region ?_
      refine RW.run ttok 1 rfl ?_
      refine RW.load1 ttok rfl rfl rfl rfl rfl ((hS24.bring 1 rfl).box) 2 rfl rfl rfl rfl ?_
      refine RW.run ttok 1 rfl ?_
      refine RW.load1 ttok rfl rfl rfl rfl rfl ((hS24.bring 0 rfl).box) 2 rfl rfl rfl rfl ?_
      refine RW.run ttok 1 rfl ?_
      refine RW.nil ?_
      refine WP.cond (x0.Value != x1.Value) rfl (fun hc => ?_) (fun hc => ?_)
      · skip
        rw [if_pos hc] at hm
        refine WP.seq ?_
        refine WP.region ?_
        refine RW.run ttok 1 rfl ?_
        refine RW.nil ?_
        refine WP.ret ?_
        cases hm
        exact ⟨_, .cons (.tmp rfl) .nil, rfl, (hS24.taken 0)⟩
      · skip
        rw [if_neg (not_t hc)] at hm
        refine WP.skip ?_
        refine WP.seq ?_
        refine WP.seq ?_
        refine WP.region ?_
        refine RW.run ttok 1 rfl ?_
        refine RW.load1 ttok rfl rfl rfl rfl rfl ((hS24.bring 1 rfl).box) 3 rfl rfl rfl rfl ?_
        refine RW.run ttok 1 rfl ?_
        refine RW.load1 ttok rfl rfl rfl rfl rfl ((hS24.bring 0 rfl).box) 3 rfl rfl rfl rfl ?_
        obtain ⟨r25, hx26, hm⟩ := bind_some hm
        refine RW.call rfl rfl rfl enters127 (laws_eqInt64S_ok (hE.trans hS24.ext) h3 h12 hx26) (fun v27 w28 hR29 => ?_)
        obtain ⟨rfl, hR30⟩ := hR29
        have hS31 := hS24.join hR30
        refine RW.run ttok 1 rfl ?_
        refine RW.nil ?_
        refine WP.cond (!r25) rfl (fun hc => ?_) (fun hc => ?_)
        · skip
          rw [if_pos hc] at hm
          refine WP.seq ?_
          refine WP.region ?_
          refine RW.run ttok 1 rfl ?_
          refine RW.nil ?_
          refine WP.ret ?_
          cases hm
          exact ⟨_, .cons (.tmp rfl) .nil, rfl, (hS31.taken 0)⟩
        · skip
          rw [if_neg (not_t hc)] at hm
          refine WP.skip ?_
          refine WP.seq ?_
          refine WP.seq ?_
          refine WP.region ?_
          refine RW.run ttok 1 rfl ?_
          refine RW.load1 ttok rfl rfl rfl rfl rfl ((hS31.bring 1 rfl).box) 4 rfl rfl rfl rfl ?_
          refine RW.run ttok 1 rfl ?_
          refine RW.load1 ttok rfl rfl rfl rfl rfl ((hS31.bring 0 rfl).box) 4 rfl rfl rfl rfl ?_
          obtain ⟨r32, hx33, hm⟩ := bind_some hm
          refine RW.call rfl rfl rfl enters268 (laws_eqAddressS_ok (hE.trans hS31.ext) h6 h15 hx33) (fun v34 w35 hR36 => ?_)
          obtain ⟨rfl, hR37⟩ := hR36
          have hS38 := hS31.join hR37
          refine RW.run ttok 1 rfl ?_
          refine RW.nil ?_
          refine WP.cond (!r32) rfl (fun hc => ?_) (fun hc => ?_)
          · skip
            rw [if_pos hc] at hm
            refine WP.seq ?_
            refine WP.region ?_
            refine RW.run ttok 1 rfl ?_
            refine RW.nil ?_
            refine WP.ret ?_
            cases hm
            exact ⟨_, .cons (.tmp rfl) .nil, rfl, (hS38.taken 0)⟩
          · skip
            rw [if_neg (not_t hc)] at hm
            refine WP.skip ?_
            refine WP.seq ?_
            refine WP.region ?_
            refine RW.run ttok 1 rfl ?_
            refine RW.nil ?_
            refine WP.ret ?_
            cases hm
            exact ⟨_, .cons (.tmp rfl) .nil, rfl, (hS38.taken 0)⟩

theorem enters209 : Enters Try.prog 209 := ⟨_, _, Try.func209, rfl, by kernel_rfl⟩
def m_laws_eqShardCellS_j1 (fuel : Nat) (t2 : Unit) : Option Bool := some true
def m_laws_eqShardCellS_b1 (fuel : Nat) (x0 : (List D.ShardCell)) (x1 : (List D.ShardCell)) (s1 : Int) : Option (Rd (Int) (Unit) (Bool)) := (if (decide (s1 < (x0.length : Int))) = true then ((idx x0 s1).bind fun x21 => ((idx x1 s1).bind fun x34 => ((m_laws_eqShardCell fuel x21 x34).bind fun r47 => (if (!r47) = true then some (.ret false) else some (.next (w64 (s1 + 1))))))) else some (.brk ()))
def m_laws_eqShardCellS (fuel : Nat) (x0 : (List D.ShardCell)) (x1 : (List D.ShardCell)) : Option (Bool) := (if ((x0.length : Int) != (x1.length : Int)) = true then some false else ((iter (m_laws_eqShardCellS_b1 fuel x0 x1) fuel 0).bind fun o => aft o (m_laws_eqShardCellS_j1 fuel)))

set_option maxRecDepth 100000 in
theorem laws_eqShardCellS_ok {W w : World} (hE : Ext W w) {A0_ : Option Addr} {k0_ : Nat} {x0 : (List D.ShardCell)} {A1_ : Option Addr} {k1_ : Nat} {x1 : (List D.ShardCell)} (h0_ : ty196.ro W [.slice A0_ x0.length k0_] x0) (h1_ : ty196.ro W [.slice A1_ x1.length k1_] x1) {fuel : Nat} {r : Bool} (hm : m_laws_eqShardCellS fuel x0 x1 = some r) :
    Calls Try.prog 209 ⟨[.slice A0_ x0.length k0_, .slice A1_ x1.length k1_]⟩ w (Ret fun v w8 => v = .bool r ∧ St w w8 []) := by
  refine Calls.into Try.func209 rfl 27 rfl rfl _ rfl ?_
  unfold m_laws_eqShardCellS at hm
  have hS := St.start w
  refine WP.seq ?_
  refine WP.region ?_
  refine RW.run ttok 1 rfl ?_
  refine RW.nil ?_
  refine WP.seq ?_
  refine WP.seq ?_
  refine WP.region ?_
  refine RW.run ttok 5 rfl ?_
  refine RW.nil ?_
  refine WP.cond ((x0.length : Int) != (x1.length : Int)) rfl (fun hc => ?_) (fun hc => ?_)
  · skip
    rw [if_pos hc] at hm
    refine WP.seq ?_
    refine WP.region ?_
    refine RW.run ttok 1 rfl ?_
    refine RW.nil ?_
    refine WP.ret ?_
    cases hm
    exact ⟨_, .cons (.tmp rfl) .nil, rfl, hS⟩
  · skip
    rw [if_neg (not_t hc)] at hm
    refine WP.skip ?_
    refine WP.seq ?_
    refine WP.seq ?_
    refine WP.region ?_
    refine RW.run ttok 1 rfl ?_
    refine RW.nil ?_
    obtain ⟨o10, hl11, hm⟩ := bind_some hm
    refine WP.cut (fun (t2 : Unit) F w9 => o10 = .inl t2 ∧ Ext w w9 ∧ St w w9 [] ∧ F = []) ?_ ?_
    · skip
      rintro t2 F w7 ⟨ho13, hE6, hS12, rfl⟩
      subst ho13
      rw [aft_inl] at hm
      unfold m_laws_eqShardCellS_j1 at hm
      refine WP.seq ?_
      refine WP.region ?_
      refine RW.run ttok 1 rfl ?_
      refine RW.nil ?_
      refine WP.ret ?_
      cases hm
      exact ⟨_, .cons (.tmp rfl) .nil, rfl, hS12⟩
    · skip
      refine WP.block ?_
      refine WP.weak [(0, .slice A0_ x0.length k0_), (1, .slice A1_ x1.length k1_), (5, .int .i64 0)] ⟨rfl, rfl, rfl, trivial⟩ ?_
      refine WP.iter (fun (s1 : Int) F w9 => Ext w w9 ∧ St w w9 [] ∧ F = [(0, .slice A0_ x0.length k0_), (1, .slice A1_ x1.length k1_), (5, .int .i64 s1)]) _ hl11 ⟨(Ext.refl _), hS, rfl⟩ ?_
      rintro s1 F w18 _ o16 ⟨hE5, hS17, rfl⟩ hb14 ho15
      unfold m_laws_eqShardCellS_b1 at hb14
      refine WP.seq ?_
      refine WP.seq ?_
      refine WP.region ?_
      refine RW.run ttok 4 rfl ?_
      refine RW.nil ?_
      refine WP.cond (decide (s1 < (x0.length : Int))) rfl (fun hc => ?_) (fun hc => ?_)
      · skip
        rw [if_pos hc] at hb14
        refine WP.skip ?_
        refine WP.seq ?_
        refine WP.block ?_
        refine WP.seq ?_
        refine WP.drawnM 0 mixed 10 (by kernel_rfl) (by kernel_rfl) [([], 1023), ([], 1023), ([0, 1], 1020), ([2], 1019), ([], 1023), ([], 1023), ([4, 5], 975), ([6], 959), ([3, 7], 887), ([8], 767)] (by kernel_rfl) hS17.ext (fun hsk19 => ?_)
        have hS20 := hS17.step (Ext.draw _)
        refine DM.run (fuel := 6) ttok hsk19 [0, 1, 4, 5] 51 (by kernel_rfl) (by kernel_rfl) rfl ?_
        obtain ⟨x21, hx22, hb14⟩ := bind_some hb14
        refine DM.idx ttok (hE.trans hS17.ext) hsk19 2 55 (by kernel_rfl) (by kernel_rfl) (by kernel_rfl) (by kernel_rfl) rfl (by kernel_rfl) rfl rfl rfl rfl rfl rfl (by decide) rfl rfl h0_ (idx_some hx22).1 (idx_some hx22).2 rfl rfl (fun p23 es24 ha25 hr26 => ?_)
        obtain ⟨A27, k28, A30, k31, e33, h29, h32⟩ := ty248_open hr26; subst e33
        refine DM.loadN ttok hsk19 3 63 (by kernel_rfl) (by kernel_rfl) (by kernel_rfl) (by kernel_rfl) rfl (by kernel_rfl) rfl rfl rfl rfl rfl (At.ext (hE.trans hS17.ext) ha25) rfl rfl rfl ?_
        obtain ⟨x34, hx35, hb14⟩ := bind_some hb14
        refine DM.idx ttok (hE.trans hS17.ext) hsk19 6 127 (by kernel_rfl) (by kernel_rfl) (by kernel_rfl) (by kernel_rfl) rfl (by kernel_rfl) rfl rfl rfl rfl rfl rfl (by decide) rfl rfl h1_ (idx_some hx35).1 (idx_some hx35).2 rfl rfl (fun p36 es37 ha38 hr39 => ?_)
        obtain ⟨A40, k41, A43, k44, e46, h42, h45⟩ := ty248_open hr39; subst e46
        refine DM.loadN ttok hsk19 7 255 (by kernel_rfl) (by kernel_rfl) (by kernel_rfl) (by kernel_rfl) rfl (by kernel_rfl) rfl rfl rfl rfl rfl (At.ext (hE.trans hS17.ext) ha38) rfl rfl rfl ?_
        obtain ⟨r47, hx48, hb14⟩ := bind_some hb14
        refine DM.one hsk19 8 (by kernel_rfl) (LM.call hsk19 511 (by kernel_rfl) (by kernel_rfl) rfl rfl rfl rfl enters253 (laws_eqShardCell_ok (hE.trans hS20.ext) hr26 hr39 hx48) (fun v49 w50 hR51 => ?_))
        obtain ⟨rfl, hR52⟩ := hR51
        refine ⟨hR52.ext, ?_⟩
        have hS53 := hS20.join hR52
        refine DM.run (fuel := 0) ttok hsk19 [9] 1023 (by kernel_rfl) (by kernel_rfl) rfl ?_
        refine DM.weak [(0, .slice A0_ x0.length k0_), (1, .slice A1_ x1.length k1_), (5, .int .i64 s1), (26, .bool (!r47))] ⟨rfl, rfl, rfl, rfl, trivial⟩ ?_
        refine DM.done hsk19 (by kernel_rfl) ?_
        refine WP.cond (!r47) rfl (fun hc => ?_) (fun hc => ?_)
        · skip
          rw [if_pos hc] at hb14
          refine WP.seq ?_
          refine WP.region ?_
          refine RW.run ttok 1 rfl ?_
          refine RW.nil ?_
          refine WP.ret ?_
          cases hb14
          cases ho15
          have hm : some _ = some _ := hm
          cases hm
          exact ⟨_, .cons (.tmp rfl) .nil, rfl, hS53⟩
        · skip
          rw [if_neg (not_t hc)] at hb14
          refine WP.skip ?_
          refine WP.region ?_
          refine RW.run ttok 3 rfl ?_
          refine RW.nil ?_
          cases hb14
          exact ⟨_, [(0, .slice A0_ x0.length k0_), (1, .slice A1_ x1.length k1_), (5, .int .i64 (w64 (s1 + 1)))], ⟨rfl, rfl, rfl, trivial⟩, rfl, ((hE5.trans (Ext.draw _)).trans hR52.ext), hS53, rfl⟩
      · skip
        rw [if_neg (not_t hc)] at hb14
        refine WP.exit ?_
        cases hb14
        exact ⟨_, [], trivial, ho15, hE5, hS17, rfl⟩

theorem enters254 : Enters Try.prog 254 := ⟨_, _, Try.func254, rfl, by kernel_rfl⟩
def m_laws_eqShardVar (fuel : Nat) (x0 : D.ShardVar) (x1 : D.ShardVar) : Option (Bool) := (if (!(x0.Used == x1.Used)) = true then some false else (if (!(x0.Full == x1.Full)) = true then some false else ((m_laws_eqAddress fuel x0.Held x1.Held).bind fun r13 => (if (!r13) = true then some false else some true))))

set_option maxRecDepth 100000 in
theorem laws_eqShardVar_ok {W w : World} (hE : Ext W w) {c0_ : List Value} {x0 : D.ShardVar} {c1_ : List Value} {x1 : D.ShardVar} (h0_ : ty250.ro W c0_ x0) (h1_ : ty250.ro W c1_ x1) {fuel : Nat} {r : Bool} (hm : m_laws_eqShardVar fuel x0 x1 = some r) :
    Calls Try.prog 254 ⟨[.agg ⟨c0_⟩, .agg ⟨c1_⟩]⟩ w (Ret fun v w8 => v = .bool r ∧ St w w8 []) := by
  have e1 := ty250_open h0_; subst e1
  have e2 := ty250_open h1_; subst e2
  refine Calls.into Try.func254 rfl 21 rfl rfl _ rfl ?_
  unfold m_laws_eqShardVar at hm
  have hS := St.start w
  refine WP.seq ?_
  refine WP.region ?_
  refine RW.new ttok hS rfl rfl rfl rfl (fun g3 w4 e5 hS6 => ?_)
  refine RW.new ttok hS6 rfl rfl rfl rfl (fun g7 w10 e11 hS12 => ?_)
  refine RW.run ttok 1 rfl ?_
  refine RW.nil ?_
  refine WP.seq ?_
  refine WP.seq ?_
  refine WP.region ?_
  refine RW.run ttok 1 rfl ?_
  refine RW.load1 ttok rfl rfl rfl rfl rfl ((hS12.bring 1 rfl).box) 0 rfl rfl rfl rfl ?_
  refine RW.run ttok 1 rfl ?_
  refine RW.load1 ttok rfl rfl rfl rfl rfl ((hS12.bring 0 rfl).box) 0 rfl rfl rfl rfl ?_
  refine RW.run ttok 1 rfl ?_
  refine RW.nil ?_
  refine WP.cond (!(x0.Used == x1.Used)) rfl (fun hc => ?_) (fun hc => ?_)
  · skip
    rw [if_pos hc] at hm
    refine WP.seq ?_
    refine WP.region ?_
    refine RW.run ttok 1 rfl ?_
    refine RW.nil ?_
    refine WP.ret ?_
    cases hm
    exact ⟨_, .cons (.tmp rfl) .nil, rfl, (hS12.taken 0)⟩
  · skip
    rw [if_neg (not_t hc)] at hm
    refine WP.skip ?_
    refine WP.seq ?_
    refine WP.seq ?_
    refine WP.region ?_
    refine RW.run ttok 1 rfl ?_
    refine RW.load1 ttok rfl rfl rfl rfl rfl ((hS12.bring 1 rfl).box) 1 rfl rfl rfl rfl ?_
    refine RW.run ttok 1 rfl ?_
    refine RW.load1 ttok rfl rfl rfl rfl rfl ((hS12.bring 0 rfl).box) 1 rfl rfl rfl rfl ?_
    refine RW.run ttok 1 rfl ?_
    refine RW.nil ?_
    refine WP.cond (!(x0.Full == x1.Full)) rfl (fun hc => ?_) (fun hc => ?_)
    · skip
      rw [if_pos hc] at hm
      refine WP.seq ?_
      refine WP.region ?_
      refine RW.run ttok 1 rfl ?_
      refine RW.nil ?_
      refine WP.ret ?_
      cases hm
      exact ⟨_, .cons (.tmp rfl) .nil, rfl, (hS12.taken 0)⟩
    · skip
      rw [if_neg (not_t hc)] at hm
      refine WP.skip ?_
      refine WP.seq ?_
      refine WP.seq ?_
      refine WP.region ?_
      refine RW.run ttok 1 rfl ?_
      refine RW.loadN ttok rfl rfl rfl rfl rfl (At.sub ((hS12.bring 1 rfl).box) 2 3) rfl rfl rfl ?_
      refine RW.run ttok 1 rfl ?_
      refine RW.loadN ttok rfl rfl rfl rfl rfl (At.sub ((hS12.bring 0 rfl).box) 2 3) rfl rfl rfl ?_
      obtain ⟨r13, hx14, hm⟩ := bind_some hm
      refine RW.call rfl rfl rfl enters77 (laws_eqAddress_ok (hE.trans hS12.ext) (ty62_shut x0.Held) (ty62_shut x1.Held) hx14) (fun v15 w16 hR17 => ?_)
      obtain ⟨rfl, hR18⟩ := hR17
      have hS19 := hS12.join hR18
      refine RW.run ttok 1 rfl ?_
      refine RW.nil ?_
      refine WP.cond (!r13) rfl (fun hc => ?_) (fun hc => ?_)
      · skip
        rw [if_pos hc] at hm
        refine WP.seq ?_
        refine WP.region ?_
        refine RW.run ttok 1 rfl ?_
        refine RW.nil ?_
        refine WP.ret ?_
        cases hm
        exact ⟨_, .cons (.tmp rfl) .nil, rfl, (hS19.taken 0)⟩
      · skip
        rw [if_neg (not_t hc)] at hm
        refine WP.skip ?_
        refine WP.seq ?_
        refine WP.region ?_
        refine RW.run ttok 1 rfl ?_
        refine RW.nil ?_
        refine WP.ret ?_
        cases hm
        exact ⟨_, .cons (.tmp rfl) .nil, rfl, (hS19.taken 0)⟩

theorem enters210 : Enters Try.prog 210 := ⟨_, _, Try.func210, rfl, by kernel_rfl⟩
def m_laws_eqShardVarS_j1 (fuel : Nat) (t2 : Unit) : Option Bool := some true
def m_laws_eqShardVarS_b1 (fuel : Nat) (x0 : (List D.ShardVar)) (x1 : (List D.ShardVar)) (s1 : Int) : Option (Rd (Int) (Unit) (Bool)) := (if (decide (s1 < (x0.length : Int))) = true then ((idx x0 s1).bind fun x21 => ((idx x1 s1).bind fun x28 => ((m_laws_eqShardVar fuel x21 x28).bind fun r35 => (if (!r35) = true then some (.ret false) else some (.next (w64 (s1 + 1))))))) else some (.brk ()))
def m_laws_eqShardVarS (fuel : Nat) (x0 : (List D.ShardVar)) (x1 : (List D.ShardVar)) : Option (Bool) := (if ((x0.length : Int) != (x1.length : Int)) = true then some false else ((iter (m_laws_eqShardVarS_b1 fuel x0 x1) fuel 0).bind fun o => aft o (m_laws_eqShardVarS_j1 fuel)))

set_option maxRecDepth 100000 in
theorem laws_eqShardVarS_ok {W w : World} (hE : Ext W w) {A0_ : Option Addr} {k0_ : Nat} {x0 : (List D.ShardVar)} {A1_ : Option Addr} {k1_ : Nat} {x1 : (List D.ShardVar)} (h0_ : ty197.ro W [.slice A0_ x0.length k0_] x0) (h1_ : ty197.ro W [.slice A1_ x1.length k1_] x1) {fuel : Nat} {r : Bool} (hm : m_laws_eqShardVarS fuel x0 x1 = some r) :
    Calls Try.prog 210 ⟨[.slice A0_ x0.length k0_, .slice A1_ x1.length k1_]⟩ w (Ret fun v w8 => v = .bool r ∧ St w w8 []) := by
  refine Calls.into Try.func210 rfl 27 rfl rfl _ rfl ?_
  unfold m_laws_eqShardVarS at hm
  have hS := St.start w
  refine WP.seq ?_
  refine WP.region ?_
  refine RW.run ttok 1 rfl ?_
  refine RW.nil ?_
  refine WP.seq ?_
  refine WP.seq ?_
  refine WP.region ?_
  refine RW.run ttok 5 rfl ?_
  refine RW.nil ?_
  refine WP.cond ((x0.length : Int) != (x1.length : Int)) rfl (fun hc => ?_) (fun hc => ?_)
  · skip
    rw [if_pos hc] at hm
    refine WP.seq ?_
    refine WP.region ?_
    refine RW.run ttok 1 rfl ?_
    refine RW.nil ?_
    refine WP.ret ?_
    cases hm
    exact ⟨_, .cons (.tmp rfl) .nil, rfl, hS⟩
  · skip
    rw [if_neg (not_t hc)] at hm
    refine WP.skip ?_
    refine WP.seq ?_
    refine WP.seq ?_
    refine WP.region ?_
    refine RW.run ttok 1 rfl ?_
    refine RW.nil ?_
    obtain ⟨o10, hl11, hm⟩ := bind_some hm
    refine WP.cut (fun (t2 : Unit) F w9 => o10 = .inl t2 ∧ Ext w w9 ∧ St w w9 [] ∧ F = []) ?_ ?_
    · skip
      rintro t2 F w7 ⟨ho13, hE6, hS12, rfl⟩
      subst ho13
      rw [aft_inl] at hm
      unfold m_laws_eqShardVarS_j1 at hm
      refine WP.seq ?_
      refine WP.region ?_
      refine RW.run ttok 1 rfl ?_
      refine RW.nil ?_
      refine WP.ret ?_
      cases hm
      exact ⟨_, .cons (.tmp rfl) .nil, rfl, hS12⟩
    · skip
      refine WP.block ?_
      refine WP.weak [(0, .slice A0_ x0.length k0_), (1, .slice A1_ x1.length k1_), (5, .int .i64 0)] ⟨rfl, rfl, rfl, trivial⟩ ?_
      refine WP.iter (fun (s1 : Int) F w9 => Ext w w9 ∧ St w w9 [] ∧ F = [(0, .slice A0_ x0.length k0_), (1, .slice A1_ x1.length k1_), (5, .int .i64 s1)]) _ hl11 ⟨(Ext.refl _), hS, rfl⟩ ?_
      rintro s1 F w18 _ o16 ⟨hE5, hS17, rfl⟩ hb14 ho15
      unfold m_laws_eqShardVarS_b1 at hb14
      refine WP.seq ?_
      refine WP.seq ?_
      refine WP.region ?_
      refine RW.run ttok 4 rfl ?_
      refine RW.nil ?_
      refine WP.cond (decide (s1 < (x0.length : Int))) rfl (fun hc => ?_) (fun hc => ?_)
      · skip
        rw [if_pos hc] at hb14
        refine WP.skip ?_
        refine WP.seq ?_
        refine WP.block ?_
        refine WP.seq ?_
        refine WP.drawnM 0 mixed 10 (by kernel_rfl) (by kernel_rfl) [([], 1023), ([], 1023), ([0, 1], 1020), ([2], 1019), ([], 1023), ([], 1023), ([4, 5], 975), ([6], 959), ([3, 7], 887), ([8], 767)] (by kernel_rfl) hS17.ext (fun hsk19 => ?_)
        have hS20 := hS17.step (Ext.draw _)
        refine DM.run (fuel := 6) ttok hsk19 [0, 1, 4, 5] 51 (by kernel_rfl) (by kernel_rfl) rfl ?_
        obtain ⟨x21, hx22, hb14⟩ := bind_some hb14
        refine DM.idx ttok (hE.trans hS17.ext) hsk19 2 55 (by kernel_rfl) (by kernel_rfl) (by kernel_rfl) (by kernel_rfl) rfl (by kernel_rfl) rfl rfl rfl rfl rfl rfl (by decide) rfl rfl h0_ (idx_some hx22).1 (idx_some hx22).2 rfl rfl (fun p23 es24 ha25 hr26 => ?_)
        have e27 := ty250_open hr26; subst e27
        refine DM.loadN ttok hsk19 3 63 (by kernel_rfl) (by kernel_rfl) (by kernel_rfl) (by kernel_rfl) rfl (by kernel_rfl) rfl rfl rfl rfl rfl (At.ext (hE.trans hS17.ext) ha25) rfl rfl rfl ?_
        obtain ⟨x28, hx29, hb14⟩ := bind_some hb14
        refine DM.idx ttok (hE.trans hS17.ext) hsk19 6 127 (by kernel_rfl) (by kernel_rfl) (by kernel_rfl) (by kernel_rfl) rfl (by kernel_rfl) rfl rfl rfl rfl rfl rfl (by decide) rfl rfl h1_ (idx_some hx29).1 (idx_some hx29).2 rfl rfl (fun p30 es31 ha32 hr33 => ?_)
        have e34 := ty250_open hr33; subst e34
        refine DM.loadN ttok hsk19 7 255 (by kernel_rfl) (by kernel_rfl) (by kernel_rfl) (by kernel_rfl) rfl (by kernel_rfl) rfl rfl rfl rfl rfl (At.ext (hE.trans hS17.ext) ha32) rfl rfl rfl ?_
        obtain ⟨r35, hx36, hb14⟩ := bind_some hb14
        refine DM.one hsk19 8 (by kernel_rfl) (LM.call hsk19 511 (by kernel_rfl) (by kernel_rfl) rfl rfl rfl rfl enters254 (laws_eqShardVar_ok (hE.trans hS20.ext) hr26 hr33 hx36) (fun v37 w38 hR39 => ?_))
        obtain ⟨rfl, hR40⟩ := hR39
        refine ⟨hR40.ext, ?_⟩
        have hS41 := hS20.join hR40
        refine DM.run (fuel := 0) ttok hsk19 [9] 1023 (by kernel_rfl) (by kernel_rfl) rfl ?_
        refine DM.weak [(0, .slice A0_ x0.length k0_), (1, .slice A1_ x1.length k1_), (5, .int .i64 s1), (26, .bool (!r35))] ⟨rfl, rfl, rfl, rfl, trivial⟩ ?_
        refine DM.done hsk19 (by kernel_rfl) ?_
        refine WP.cond (!r35) rfl (fun hc => ?_) (fun hc => ?_)
        · skip
          rw [if_pos hc] at hb14
          refine WP.seq ?_
          refine WP.region ?_
          refine RW.run ttok 1 rfl ?_
          refine RW.nil ?_
          refine WP.ret ?_
          cases hb14
          cases ho15
          have hm : some _ = some _ := hm
          cases hm
          exact ⟨_, .cons (.tmp rfl) .nil, rfl, hS41⟩
        · skip
          rw [if_neg (not_t hc)] at hb14
          refine WP.skip ?_
          refine WP.region ?_
          refine RW.run ttok 3 rfl ?_
          refine RW.nil ?_
          cases hb14
          exact ⟨_, [(0, .slice A0_ x0.length k0_), (1, .slice A1_ x1.length k1_), (5, .int .i64 (w64 (s1 + 1)))], ⟨rfl, rfl, rfl, trivial⟩, rfl, ((hE5.trans (Ext.draw _)).trans hR40.ext), hS41, rfl⟩
      · skip
        rw [if_neg (not_t hc)] at hb14
        refine WP.exit ?_
        cases hb14
        exact ⟨_, [], trivial, ho15, hE5, hS17, rfl⟩

theorem enters255 : Enters Try.prog 255 := ⟨_, _, Try.func255, rfl, by kernel_rfl⟩
def m_laws_eqShardRedex (fuel : Nat) (x0 : D.ShardRedex) (x1 : D.ShardRedex) : Option (Bool) := ((m_laws_eqAddress fuel x0.A x1.A).bind fun r13 => (if (!r13) = true then some false else ((m_laws_eqAddress fuel x0.B x1.B).bind fun r20 => (if (!r20) = true then some false else some true))))

set_option maxRecDepth 100000 in
theorem laws_eqShardRedex_ok {W w : World} (hE : Ext W w) {c0_ : List Value} {x0 : D.ShardRedex} {c1_ : List Value} {x1 : D.ShardRedex} (h0_ : ty261.ro W c0_ x0) (h1_ : ty261.ro W c1_ x1) {fuel : Nat} {r : Bool} (hm : m_laws_eqShardRedex fuel x0 x1 = some r) :
    Calls Try.prog 255 ⟨[.agg ⟨c0_⟩, .agg ⟨c1_⟩]⟩ w (Ret fun v w8 => v = .bool r ∧ St w w8 []) := by
  have e1 := ty261_open h0_; subst e1
  have e2 := ty261_open h1_; subst e2
  refine Calls.into Try.func255 rfl 17 rfl rfl _ rfl ?_
  unfold m_laws_eqShardRedex at hm
  have hS := St.start w
  refine WP.seq ?_
  refine WP.region ?_
  refine RW.new ttok hS rfl rfl rfl rfl (fun g3 w4 e5 hS6 => ?_)
  refine RW.new ttok hS6 rfl rfl rfl rfl (fun g7 w10 e11 hS12 => ?_)
  refine RW.run ttok 1 rfl ?_
  refine RW.nil ?_
  refine WP.seq ?_
  refine WP.seq ?_
  refine WP.region ?_
  refine RW.run ttok 1 rfl ?_
  refine RW.loadN ttok rfl rfl rfl rfl rfl (At.sub ((hS12.bring 1 rfl).box) 0 3) rfl rfl rfl ?_
  refine RW.run ttok 1 rfl ?_
  refine RW.loadN ttok rfl rfl rfl rfl rfl (At.sub ((hS12.bring 0 rfl).box) 0 3) rfl rfl rfl ?_
  obtain ⟨r13, hx14, hm⟩ := bind_some hm
  refine RW.call rfl rfl rfl enters77 (laws_eqAddress_ok (hE.trans hS12.ext) (ty62_shut x0.A) (ty62_shut x1.A) hx14) (fun v15 w16 hR17 => ?_)
  obtain ⟨rfl, hR18⟩ := hR17
  have hS19 := hS12.join hR18
  refine RW.run ttok 1 rfl ?_
  refine RW.nil ?_
  refine WP.cond (!r13) rfl (fun hc => ?_) (fun hc => ?_)
  · skip
    rw [if_pos hc] at hm
    refine WP.seq ?_
    refine WP.region ?_
    refine RW.run ttok 1 rfl ?_
    refine RW.nil ?_
    refine WP.ret ?_
    cases hm
    exact ⟨_, .cons (.tmp rfl) .nil, rfl, (hS19.taken 0)⟩
  · skip
    rw [if_neg (not_t hc)] at hm
    refine WP.skip ?_
    refine WP.seq ?_
    refine WP.seq ?_
    refine WP.region ?_
    refine RW.run ttok 1 rfl ?_
    refine RW.loadN ttok rfl rfl rfl rfl rfl (At.sub ((hS19.bring 1 rfl).box) 3 3) rfl rfl rfl ?_
    refine RW.run ttok 1 rfl ?_
    refine RW.loadN ttok rfl rfl rfl rfl rfl (At.sub ((hS19.bring 0 rfl).box) 3 3) rfl rfl rfl ?_
    obtain ⟨r20, hx21, hm⟩ := bind_some hm
    refine RW.call rfl rfl rfl enters77 (laws_eqAddress_ok (hE.trans hS19.ext) (ty62_shut x0.B) (ty62_shut x1.B) hx21) (fun v22 w23 hR24 => ?_)
    obtain ⟨rfl, hR25⟩ := hR24
    have hS26 := hS19.join hR25
    refine RW.run ttok 1 rfl ?_
    refine RW.nil ?_
    refine WP.cond (!r20) rfl (fun hc => ?_) (fun hc => ?_)
    · skip
      rw [if_pos hc] at hm
      refine WP.seq ?_
      refine WP.region ?_
      refine RW.run ttok 1 rfl ?_
      refine RW.nil ?_
      refine WP.ret ?_
      cases hm
      exact ⟨_, .cons (.tmp rfl) .nil, rfl, (hS26.taken 0)⟩
    · skip
      rw [if_neg (not_t hc)] at hm
      refine WP.skip ?_
      refine WP.seq ?_
      refine WP.region ?_
      refine RW.run ttok 1 rfl ?_
      refine RW.nil ?_
      refine WP.ret ?_
      cases hm
      exact ⟨_, .cons (.tmp rfl) .nil, rfl, (hS26.taken 0)⟩

theorem enters211 : Enters Try.prog 211 := ⟨_, _, Try.func211, rfl, by kernel_rfl⟩
def m_laws_eqShardRedexS_j1 (fuel : Nat) (t2 : Unit) : Option Bool := some true
def m_laws_eqShardRedexS_b1 (fuel : Nat) (x0 : (List D.ShardRedex)) (x1 : (List D.ShardRedex)) (s1 : Int) : Option (Rd (Int) (Unit) (Bool)) := (if (decide (s1 < (x0.length : Int))) = true then ((idx x0 s1).bind fun x21 => ((idx x1 s1).bind fun x28 => ((m_laws_eqShardRedex fuel x21 x28).bind fun r35 => (if (!r35) = true then some (.ret false) else some (.next (w64 (s1 + 1))))))) else some (.brk ()))
def m_laws_eqShardRedexS (fuel : Nat) (x0 : (List D.ShardRedex)) (x1 : (List D.ShardRedex)) : Option (Bool) := (if ((x0.length : Int) != (x1.length : Int)) = true then some false else ((iter (m_laws_eqShardRedexS_b1 fuel x0 x1) fuel 0).bind fun o => aft o (m_laws_eqShardRedexS_j1 fuel)))

set_option maxRecDepth 100000 in
theorem laws_eqShardRedexS_ok {W w : World} (hE : Ext W w) {A0_ : Option Addr} {k0_ : Nat} {x0 : (List D.ShardRedex)} {A1_ : Option Addr} {k1_ : Nat} {x1 : (List D.ShardRedex)} (h0_ : ty198.ro W [.slice A0_ x0.length k0_] x0) (h1_ : ty198.ro W [.slice A1_ x1.length k1_] x1) {fuel : Nat} {r : Bool} (hm : m_laws_eqShardRedexS fuel x0 x1 = some r) :
    Calls Try.prog 211 ⟨[.slice A0_ x0.length k0_, .slice A1_ x1.length k1_]⟩ w (Ret fun v w8 => v = .bool r ∧ St w w8 []) := by
  refine Calls.into Try.func211 rfl 27 rfl rfl _ rfl ?_
  unfold m_laws_eqShardRedexS at hm
  have hS := St.start w
  refine WP.seq ?_
  refine WP.region ?_
  refine RW.run ttok 1 rfl ?_
  refine RW.nil ?_
  refine WP.seq ?_
  refine WP.seq ?_
  refine WP.region ?_
  refine RW.run ttok 5 rfl ?_
  refine RW.nil ?_
  refine WP.cond ((x0.length : Int) != (x1.length : Int)) rfl (fun hc => ?_) (fun hc => ?_)
  · skip
    rw [if_pos hc] at hm
    refine WP.seq ?_
    refine WP.region ?_
    refine RW.run ttok 1 rfl ?_
    refine RW.nil ?_
    refine WP.ret ?_
    cases hm
    exact ⟨_, .cons (.tmp rfl) .nil, rfl, hS⟩
  · skip
    rw [if_neg (not_t hc)] at hm
    refine WP.skip ?_
    refine WP.seq ?_
    refine WP.seq ?_
    refine WP.region ?_
    refine RW.run ttok 1 rfl ?_
    refine RW.nil ?_
    obtain ⟨o10, hl11, hm⟩ := bind_some hm
    refine WP.cut (fun (t2 : Unit) F w9 => o10 = .inl t2 ∧ Ext w w9 ∧ St w w9 [] ∧ F = []) ?_ ?_
    · skip
      rintro t2 F w7 ⟨ho13, hE6, hS12, rfl⟩
      subst ho13
      rw [aft_inl] at hm
      unfold m_laws_eqShardRedexS_j1 at hm
      refine WP.seq ?_
      refine WP.region ?_
      refine RW.run ttok 1 rfl ?_
      refine RW.nil ?_
      refine WP.ret ?_
      cases hm
      exact ⟨_, .cons (.tmp rfl) .nil, rfl, hS12⟩
    · skip
      refine WP.block ?_
      refine WP.weak [(0, .slice A0_ x0.length k0_), (1, .slice A1_ x1.length k1_), (5, .int .i64 0)] ⟨rfl, rfl, rfl, trivial⟩ ?_
      refine WP.iter (fun (s1 : Int) F w9 => Ext w w9 ∧ St w w9 [] ∧ F = [(0, .slice A0_ x0.length k0_), (1, .slice A1_ x1.length k1_), (5, .int .i64 s1)]) _ hl11 ⟨(Ext.refl _), hS, rfl⟩ ?_
      rintro s1 F w18 _ o16 ⟨hE5, hS17, rfl⟩ hb14 ho15
      unfold m_laws_eqShardRedexS_b1 at hb14
      refine WP.seq ?_
      refine WP.seq ?_
      refine WP.region ?_
      refine RW.run ttok 4 rfl ?_
      refine RW.nil ?_
      refine WP.cond (decide (s1 < (x0.length : Int))) rfl (fun hc => ?_) (fun hc => ?_)
      · skip
        rw [if_pos hc] at hb14
        refine WP.skip ?_
        refine WP.seq ?_
        refine WP.block ?_
        refine WP.seq ?_
        refine WP.drawnM 0 mixed 10 (by kernel_rfl) (by kernel_rfl) [([], 1023), ([], 1023), ([0, 1], 1020), ([2], 1019), ([], 1023), ([], 1023), ([4, 5], 975), ([6], 959), ([3, 7], 887), ([8], 767)] (by kernel_rfl) hS17.ext (fun hsk19 => ?_)
        have hS20 := hS17.step (Ext.draw _)
        refine DM.run (fuel := 6) ttok hsk19 [0, 1, 4, 5] 51 (by kernel_rfl) (by kernel_rfl) rfl ?_
        obtain ⟨x21, hx22, hb14⟩ := bind_some hb14
        refine DM.idx ttok (hE.trans hS17.ext) hsk19 2 55 (by kernel_rfl) (by kernel_rfl) (by kernel_rfl) (by kernel_rfl) rfl (by kernel_rfl) rfl rfl rfl rfl rfl rfl (by decide) rfl rfl h0_ (idx_some hx22).1 (idx_some hx22).2 rfl rfl (fun p23 es24 ha25 hr26 => ?_)
        have e27 := ty261_open hr26; subst e27
        refine DM.loadN ttok hsk19 3 63 (by kernel_rfl) (by kernel_rfl) (by kernel_rfl) (by kernel_rfl) rfl (by kernel_rfl) rfl rfl rfl rfl rfl (At.ext (hE.trans hS17.ext) ha25) rfl rfl rfl ?_
        obtain ⟨x28, hx29, hb14⟩ := bind_some hb14
        refine DM.idx ttok (hE.trans hS17.ext) hsk19 6 127 (by kernel_rfl) (by kernel_rfl) (by kernel_rfl) (by kernel_rfl) rfl (by kernel_rfl) rfl rfl rfl rfl rfl rfl (by decide) rfl rfl h1_ (idx_some hx29).1 (idx_some hx29).2 rfl rfl (fun p30 es31 ha32 hr33 => ?_)
        have e34 := ty261_open hr33; subst e34
        refine DM.loadN ttok hsk19 7 255 (by kernel_rfl) (by kernel_rfl) (by kernel_rfl) (by kernel_rfl) rfl (by kernel_rfl) rfl rfl rfl rfl rfl (At.ext (hE.trans hS17.ext) ha32) rfl rfl rfl ?_
        obtain ⟨r35, hx36, hb14⟩ := bind_some hb14
        refine DM.one hsk19 8 (by kernel_rfl) (LM.call hsk19 511 (by kernel_rfl) (by kernel_rfl) rfl rfl rfl rfl enters255 (laws_eqShardRedex_ok (hE.trans hS20.ext) hr26 hr33 hx36) (fun v37 w38 hR39 => ?_))
        obtain ⟨rfl, hR40⟩ := hR39
        refine ⟨hR40.ext, ?_⟩
        have hS41 := hS20.join hR40
        refine DM.run (fuel := 0) ttok hsk19 [9] 1023 (by kernel_rfl) (by kernel_rfl) rfl ?_
        refine DM.weak [(0, .slice A0_ x0.length k0_), (1, .slice A1_ x1.length k1_), (5, .int .i64 s1), (26, .bool (!r35))] ⟨rfl, rfl, rfl, rfl, trivial⟩ ?_
        refine DM.done hsk19 (by kernel_rfl) ?_
        refine WP.cond (!r35) rfl (fun hc => ?_) (fun hc => ?_)
        · skip
          rw [if_pos hc] at hb14
          refine WP.seq ?_
          refine WP.region ?_
          refine RW.run ttok 1 rfl ?_
          refine RW.nil ?_
          refine WP.ret ?_
          cases hb14
          cases ho15
          have hm : some _ = some _ := hm
          cases hm
          exact ⟨_, .cons (.tmp rfl) .nil, rfl, hS41⟩
        · skip
          rw [if_neg (not_t hc)] at hb14
          refine WP.skip ?_
          refine WP.region ?_
          refine RW.run ttok 3 rfl ?_
          refine RW.nil ?_
          cases hb14
          exact ⟨_, [(0, .slice A0_ x0.length k0_), (1, .slice A1_ x1.length k1_), (5, .int .i64 (w64 (s1 + 1)))], ⟨rfl, rfl, rfl, trivial⟩, rfl, ((hE5.trans (Ext.draw _)).trans hR40.ext), hS41, rfl⟩
      · skip
        rw [if_neg (not_t hc)] at hb14
        refine WP.exit ?_
        cases hb14
        exact ⟨_, [], trivial, ho15, hE5, hS17, rfl⟩

theorem enters141 : Enters Try.prog 141 := ⟨_, _, Try.func141, rfl, by kernel_rfl⟩
def m_laws_eqShard (fuel : Nat) (x0 : D.Shard) (x1 : D.Shard) : Option (Bool) := ((m_laws_eqShardCellS fuel x0.Cells x1.Cells).bind fun r31 => (if (!r31) = true then some false else ((m_laws_eqShardVarS fuel x0.Vars x1.Vars).bind fun r38 => (if (!r38) = true then some false else ((m_laws_eqShardRedexS fuel x0.Redexes x1.Redexes).bind fun r45 => (if (!r45) = true then some false else some true))))))

set_option maxRecDepth 100000 in
theorem laws_eqShard_ok {W w : World} (hE : Ext W w) {c0_ : List Value} {x0 : D.Shard} {c1_ : List Value} {x1 : D.Shard} (h0_ : ty200.ro W c0_ x0) (h1_ : ty200.ro W c1_ x1) {fuel : Nat} {r : Bool} (hm : m_laws_eqShard fuel x0 x1 = some r) :
    Calls Try.prog 141 ⟨[.agg ⟨c0_⟩, .agg ⟨c1_⟩]⟩ w (Ret fun v w8 => v = .bool r ∧ St w w8 []) := by
  obtain ⟨A1, k2, A4, k5, A7, k10, e12, h3, h6, h11⟩ := ty200_open h0_; subst e12
  obtain ⟨A13, k14, A16, k17, A19, k20, e22, h15, h18, h21⟩ := ty200_open h1_; subst e22
  refine Calls.into Try.func141 rfl 23 rfl rfl _ rfl ?_
  unfold m_laws_eqShard at hm
  have hS := St.start w
  refine WP.seq ?_
  refine WP.region ?_
  refine RW.new ttok hS rfl rfl rfl rfl (fun g23 w24 e25 hS26 => ?_)
  refine RW.new ttok hS26 rfl rfl rfl rfl (fun g27 w28 e29 hS30 => ?_)
  refine RW.run ttok 1 rfl ?_
  refine RW.nil ?_
  refine WP.seq ?_
  refine WP.seq ?_
  refine WP.region ?_
  refine RW.run ttok 1 rfl ?_
  refine RW.load1 ttok rfl rfl rfl rfl rfl ((hS30.bring 1 rfl).box) 0 rfl rfl rfl rfl ?_
  refine RW.run ttok 1 rfl ?_
  refine RW.load1 ttok rfl rfl rfl rfl rfl ((hS30.bring 0 rfl).box) 0 rfl rfl rfl rfl ?_
  obtain ⟨r31, hx32, hm⟩ := bind_some hm
  refine RW.call rfl rfl rfl enters209 (laws_eqShardCellS_ok (hE.trans hS30.ext) h3 h15 hx32) (fun v33 w34 hR35 => ?_)
  obtain ⟨rfl, hR36⟩ := hR35
  have hS37 := hS30.join hR36
  refine RW.run ttok 1 rfl ?_
  refine RW.nil ?_
  refine WP.cond (!r31) rfl (fun hc => ?_) (fun hc => ?_)
  · skip
    rw [if_pos hc] at hm
    refine WP.seq ?_
    refine WP.region ?_
    refine RW.run ttok 1 rfl ?_
    refine RW.nil ?_
    refine WP.ret ?_
    cases hm
    exact ⟨_, .cons (.tmp rfl) .nil, rfl, (hS37.taken 0)⟩
  · skip
    rw [if_neg (not_t hc)] at hm
    refine WP.skip ?_
    refine WP.seq ?_
    refine WP.seq ?_
    refine WP.region ?_
    refine RW.run ttok 1 rfl ?_
    refine RW.load1 ttok rfl rfl rfl rfl rfl ((hS37.bring 1 rfl).box) 1 rfl rfl rfl rfl ?_
    refine RW.run ttok 1 rfl ?_
    refine RW.load1 ttok rfl rfl rfl rfl rfl ((hS37.bring 0 rfl).box) 1 rfl rfl rfl rfl ?_
    obtain ⟨r38, hx39, hm⟩ := bind_some hm
    refine RW.call rfl rfl rfl enters210 (laws_eqShardVarS_ok (hE.trans hS37.ext) h6 h18 hx39) (fun v40 w41 hR42 => ?_)
    obtain ⟨rfl, hR43⟩ := hR42
    have hS44 := hS37.join hR43
    refine RW.run ttok 1 rfl ?_
    refine RW.nil ?_
    refine WP.cond (!r38) rfl (fun hc => ?_) (fun hc => ?_)
    · skip
      rw [if_pos hc] at hm
      refine WP.seq ?_
      refine WP.region ?_
      refine RW.run ttok 1 rfl ?_
      refine RW.nil ?_
      refine WP.ret ?_
      cases hm
      exact ⟨_, .cons (.tmp rfl) .nil, rfl, (hS44.taken 0)⟩
    · skip
      rw [if_neg (not_t hc)] at hm
      refine WP.skip ?_
      refine WP.seq ?_
      refine WP.seq ?_
      refine WP.region ?_
      refine RW.run ttok 1 rfl ?_
      refine RW.load1 ttok rfl rfl rfl rfl rfl ((hS44.bring 1 rfl).box) 2 rfl rfl rfl rfl ?_
      refine RW.run ttok 1 rfl ?_
      refine RW.load1 ttok rfl rfl rfl rfl rfl ((hS44.bring 0 rfl).box) 2 rfl rfl rfl rfl ?_
      obtain ⟨r45, hx46, hm⟩ := bind_some hm
      refine RW.call rfl rfl rfl enters211 (laws_eqShardRedexS_ok (hE.trans hS44.ext) h11 h21 hx46) (fun v47 w48 hR49 => ?_)
      obtain ⟨rfl, hR50⟩ := hR49
      have hS51 := hS44.join hR50
      refine RW.run ttok 1 rfl ?_
      refine RW.nil ?_
      refine WP.cond (!r45) rfl (fun hc => ?_) (fun hc => ?_)
      · skip
        rw [if_pos hc] at hm
        refine WP.seq ?_
        refine WP.region ?_
        refine RW.run ttok 1 rfl ?_
        refine RW.nil ?_
        refine WP.ret ?_
        cases hm
        exact ⟨_, .cons (.tmp rfl) .nil, rfl, (hS51.taken 0)⟩
      · skip
        rw [if_neg (not_t hc)] at hm
        refine WP.skip ?_
        refine WP.seq ?_
        refine WP.region ?_
        refine RW.run ttok 1 rfl ?_
        refine RW.nil ?_
        refine WP.ret ?_
        cases hm
        exact ⟨_, .cons (.tmp rfl) .nil, rfl, (hS51.taken 0)⟩

theorem enters76 : Enters Try.prog 76 := ⟨_, _, Try.func76, rfl, by kernel_rfl⟩
def m_laws_eqShardS_j1 (fuel : Nat) (t2 : Unit) : Option Bool := some true
def m_laws_eqShardS_b1 (fuel : Nat) (x0 : (List D.Shard)) (x1 : (List D.Shard)) (s1 : Int) : Option (Rd (Int) (Unit) (Bool)) := (if (decide (s1 < (x0.length : Int))) = true then ((idx x0 s1).bind fun x21 => ((idx x1 s1).bind fun x37 => ((m_laws_eqShard fuel x21 x37).bind fun r53 => (if (!r53) = true then some (.ret false) else some (.next (w64 (s1 + 1))))))) else some (.brk ()))
def m_laws_eqShardS (fuel : Nat) (x0 : (List D.Shard)) (x1 : (List D.Shard)) : Option (Bool) := (if ((x0.length : Int) != (x1.length : Int)) = true then some false else ((iter (m_laws_eqShardS_b1 fuel x0 x1) fuel 0).bind fun o => aft o (m_laws_eqShardS_j1 fuel)))

set_option maxRecDepth 100000 in
theorem laws_eqShardS_ok {W w : World} (hE : Ext W w) {A0_ : Option Addr} {k0_ : Nat} {x0 : (List D.Shard)} {A1_ : Option Addr} {k1_ : Nat} {x1 : (List D.Shard)} (h0_ : ty61.ro W [.slice A0_ x0.length k0_] x0) (h1_ : ty61.ro W [.slice A1_ x1.length k1_] x1) {fuel : Nat} {r : Bool} (hm : m_laws_eqShardS fuel x0 x1 = some r) :
    Calls Try.prog 76 ⟨[.slice A0_ x0.length k0_, .slice A1_ x1.length k1_]⟩ w (Ret fun v w8 => v = .bool r ∧ St w w8 []) := by
  refine Calls.into Try.func76 rfl 27 rfl rfl _ rfl ?_
  unfold m_laws_eqShardS at hm
  have hS := St.start w
  refine WP.seq ?_
  refine WP.region ?_
  refine RW.run ttok 1 rfl ?_
  refine RW.nil ?_
  refine WP.seq ?_
  refine WP.seq ?_
  refine WP.region ?_
  refine RW.run ttok 5 rfl ?_
  refine RW.nil ?_
  refine WP.cond ((x0.length : Int) != (x1.length : Int)) rfl (fun hc => ?_) (fun hc => ?_)
  · skip
    rw [if_pos hc] at hm
    refine WP.seq ?_
    refine WP.region ?_
    refine RW.run ttok 1 rfl ?_
    refine RW.nil ?_
    refine WP.ret ?_
    cases hm
    exact ⟨_, .cons (.tmp rfl) .nil, rfl, hS⟩
  · skip
    rw [if_neg (not_t hc)] at hm
    refine WP.skip ?_
    refine WP.seq ?_
    refine WP.seq ?_
    refine WP.region ?_
    refine RW.run ttok 1 rfl ?_
    refine RW.nil ?_
    obtain ⟨o10, hl11, hm⟩ := bind_some hm
    refine WP.cut (fun (t2 : Unit) F w9 => o10 = .inl t2 ∧ Ext w w9 ∧ St w w9 [] ∧ F = []) ?_ ?_
    · skip
      rintro t2 F w7 ⟨ho13, hE6, hS12, rfl⟩
      subst ho13
      rw [aft_inl] at hm
      unfold m_laws_eqShardS_j1 at hm
      refine WP.seq ?_
      refine WP.region ?_
      refine RW.run ttok 1 rfl ?_
      refine RW.nil ?_
      refine WP.ret ?_
      cases hm
      exact ⟨_, .cons (.tmp rfl) .nil, rfl, hS12⟩
    · skip
      refine WP.block ?_
      refine WP.weak [(0, .slice A0_ x0.length k0_), (1, .slice A1_ x1.length k1_), (5, .int .i64 0)] ⟨rfl, rfl, rfl, trivial⟩ ?_
      refine WP.iter (fun (s1 : Int) F w9 => Ext w w9 ∧ St w w9 [] ∧ F = [(0, .slice A0_ x0.length k0_), (1, .slice A1_ x1.length k1_), (5, .int .i64 s1)]) _ hl11 ⟨(Ext.refl _), hS, rfl⟩ ?_
      rintro s1 F w18 _ o16 ⟨hE5, hS17, rfl⟩ hb14 ho15
      unfold m_laws_eqShardS_b1 at hb14
      refine WP.seq ?_
      refine WP.seq ?_
      refine WP.region ?_
      refine RW.run ttok 4 rfl ?_
      refine RW.nil ?_
      refine WP.cond (decide (s1 < (x0.length : Int))) rfl (fun hc => ?_) (fun hc => ?_)
      · skip
        rw [if_pos hc] at hb14
        refine WP.skip ?_
        refine WP.seq ?_
        refine WP.block ?_
        refine WP.seq ?_
        refine WP.drawnM 0 mixed 10 (by kernel_rfl) (by kernel_rfl) [([], 1023), ([], 1023), ([0, 1], 1020), ([2], 1019), ([], 1023), ([], 1023), ([4, 5], 975), ([6], 959), ([3, 7], 887), ([8], 767)] (by kernel_rfl) hS17.ext (fun hsk19 => ?_)
        have hS20 := hS17.step (Ext.draw _)
        refine DM.run (fuel := 6) ttok hsk19 [0, 1, 4, 5] 51 (by kernel_rfl) (by kernel_rfl) rfl ?_
        obtain ⟨x21, hx22, hb14⟩ := bind_some hb14
        refine DM.idx ttok (hE.trans hS17.ext) hsk19 2 55 (by kernel_rfl) (by kernel_rfl) (by kernel_rfl) (by kernel_rfl) rfl (by kernel_rfl) rfl rfl rfl rfl rfl rfl (by decide) rfl rfl h0_ (idx_some hx22).1 (idx_some hx22).2 rfl rfl (fun p23 es24 ha25 hr26 => ?_)
        obtain ⟨A27, k28, A30, k31, A33, k34, e36, h29, h32, h35⟩ := ty200_open hr26; subst e36
        refine DM.loadN ttok hsk19 3 63 (by kernel_rfl) (by kernel_rfl) (by kernel_rfl) (by kernel_rfl) rfl (by kernel_rfl) rfl rfl rfl rfl rfl (At.ext (hE.trans hS17.ext) ha25) rfl rfl rfl ?_
        obtain ⟨x37, hx38, hb14⟩ := bind_some hb14
        refine DM.idx ttok (hE.trans hS17.ext) hsk19 6 127 (by kernel_rfl) (by kernel_rfl) (by kernel_rfl) (by kernel_rfl) rfl (by kernel_rfl) rfl rfl rfl rfl rfl rfl (by decide) rfl rfl h1_ (idx_some hx38).1 (idx_some hx38).2 rfl rfl (fun p39 es40 ha41 hr42 => ?_)
        obtain ⟨A43, k44, A46, k47, A49, k50, e52, h45, h48, h51⟩ := ty200_open hr42; subst e52
        refine DM.loadN ttok hsk19 7 255 (by kernel_rfl) (by kernel_rfl) (by kernel_rfl) (by kernel_rfl) rfl (by kernel_rfl) rfl rfl rfl rfl rfl (At.ext (hE.trans hS17.ext) ha41) rfl rfl rfl ?_
        obtain ⟨r53, hx54, hb14⟩ := bind_some hb14
        refine DM.one hsk19 8 (by kernel_rfl) (LM.call hsk19 511 (by kernel_rfl) (by kernel_rfl) rfl rfl rfl rfl enters141 (laws_eqShard_ok (hE.trans hS20.ext) hr26 hr42 hx54) (fun v55 w56 hR57 => ?_))
        obtain ⟨rfl, hR58⟩ := hR57
        refine ⟨hR58.ext, ?_⟩
        have hS59 := hS20.join hR58
        refine DM.run (fuel := 0) ttok hsk19 [9] 1023 (by kernel_rfl) (by kernel_rfl) rfl ?_
        refine DM.weak [(0, .slice A0_ x0.length k0_), (1, .slice A1_ x1.length k1_), (5, .int .i64 s1), (26, .bool (!r53))] ⟨rfl, rfl, rfl, rfl, trivial⟩ ?_
        refine DM.done hsk19 (by kernel_rfl) ?_
        refine WP.cond (!r53) rfl (fun hc => ?_) (fun hc => ?_)
        · skip
          rw [if_pos hc] at hb14
          refine WP.seq ?_
          refine WP.region ?_
          refine RW.run ttok 1 rfl ?_
          refine RW.nil ?_
          refine WP.ret ?_
          cases hb14
          cases ho15
          have hm : some _ = some _ := hm
          cases hm
          exact ⟨_, .cons (.tmp rfl) .nil, rfl, hS59⟩
        · skip
          rw [if_neg (not_t hc)] at hb14
          refine WP.skip ?_
          refine WP.region ?_
          refine RW.run ttok 3 rfl ?_
          refine RW.nil ?_
          cases hb14
          exact ⟨_, [(0, .slice A0_ x0.length k0_), (1, .slice A1_ x1.length k1_), (5, .int .i64 (w64 (s1 + 1)))], ⟨rfl, rfl, rfl, trivial⟩, rfl, ((hE5.trans (Ext.draw _)).trans hR58.ext), hS59, rfl⟩
      · skip
        rw [if_neg (not_t hc)] at hb14
        refine WP.exit ?_
        cases hb14
        exact ⟨_, [], trivial, ho15, hE5, hS17, rfl⟩

theorem enters34 : Enters Try.prog 34 := ⟨_, _, Try.func34, rfl, by kernel_rfl⟩
def m_laws_eqGrid (fuel : Nat) (x0 : D.Grid) (x1 : D.Grid) : Option (Bool) := ((m_laws_eqShardS fuel x0.Shards x1.Shards).bind fun r19 => (if (!r19) = true then some false else ((m_laws_eqAddress fuel x0.Root x1.Root).bind fun r26 => (if (!r26) = true then some false else some true))))

set_option maxRecDepth 100000 in
theorem laws_eqGrid_ok {W w : World} (hE : Ext W w) {c0_ : List Value} {x0 : D.Grid} {c1_ : List Value} {x1 : D.Grid} (h0_ : ty64.ro W c0_ x0) (h1_ : ty64.ro W c1_ x1) {fuel : Nat} {r : Bool} (hm : m_laws_eqGrid fuel x0 x1 = some r) :
    Calls Try.prog 34 ⟨[.agg ⟨c0_⟩, .agg ⟨c1_⟩]⟩ w (Ret fun v w8 => v = .bool r ∧ St w w8 []) := by
  obtain ⟨A1, k2, e4, h3⟩ := ty64_open h0_; subst e4
  obtain ⟨A5, k6, e10, h7⟩ := ty64_open h1_; subst e10
  refine Calls.into Try.func34 rfl 17 rfl rfl _ rfl ?_
  unfold m_laws_eqGrid at hm
  have hS := St.start w
  refine WP.seq ?_
  refine WP.region ?_
  refine RW.new ttok hS rfl rfl rfl rfl (fun g11 w12 e13 hS14 => ?_)
  refine RW.new ttok hS14 rfl rfl rfl rfl (fun g15 w16 e17 hS18 => ?_)
  refine RW.run ttok 1 rfl ?_
  refine RW.nil ?_
  refine WP.seq ?_
  refine WP.seq ?_
  refine WP.region ?_
  refine RW.run ttok 1 rfl ?_
  refine RW.load1 ttok rfl rfl rfl rfl rfl ((hS18.bring 1 rfl).box) 0 rfl rfl rfl rfl ?_
  refine RW.run ttok 1 rfl ?_
  refine RW.load1 ttok rfl rfl rfl rfl rfl ((hS18.bring 0 rfl).box) 0 rfl rfl rfl rfl ?_
  obtain ⟨r19, hx20, hm⟩ := bind_some hm
  refine RW.call rfl rfl rfl enters76 (laws_eqShardS_ok (hE.trans hS18.ext) h3 h7 hx20) (fun v21 w22 hR23 => ?_)
  obtain ⟨rfl, hR24⟩ := hR23
  have hS25 := hS18.join hR24
  refine RW.run ttok 1 rfl ?_
  refine RW.nil ?_
  refine WP.cond (!r19) rfl (fun hc => ?_) (fun hc => ?_)
  · skip
    rw [if_pos hc] at hm
    refine WP.seq ?_
    refine WP.region ?_
    refine RW.run ttok 1 rfl ?_
    refine RW.nil ?_
    refine WP.ret ?_
    cases hm
    exact ⟨_, .cons (.tmp rfl) .nil, rfl, (hS25.taken 0)⟩
  · skip
    rw [if_neg (not_t hc)] at hm
    refine WP.skip ?_
    refine WP.seq ?_
    refine WP.seq ?_
    refine WP.region ?_
    refine RW.run ttok 1 rfl ?_
    refine RW.loadN ttok rfl rfl rfl rfl rfl (At.sub ((hS25.bring 1 rfl).box) 1 3) rfl rfl rfl ?_
    refine RW.run ttok 1 rfl ?_
    refine RW.loadN ttok rfl rfl rfl rfl rfl (At.sub ((hS25.bring 0 rfl).box) 1 3) rfl rfl rfl ?_
    obtain ⟨r26, hx27, hm⟩ := bind_some hm
    refine RW.call rfl rfl rfl enters77 (laws_eqAddress_ok (hE.trans hS25.ext) (ty62_shut x0.Root) (ty62_shut x1.Root) hx27) (fun v28 w29 hR30 => ?_)
    obtain ⟨rfl, hR31⟩ := hR30
    have hS32 := hS25.join hR31
    refine RW.run ttok 1 rfl ?_
    refine RW.nil ?_
    refine WP.cond (!r26) rfl (fun hc => ?_) (fun hc => ?_)
    · skip
      rw [if_pos hc] at hm
      refine WP.seq ?_
      refine WP.region ?_
      refine RW.run ttok 1 rfl ?_
      refine RW.nil ?_
      refine WP.ret ?_
      cases hm
      exact ⟨_, .cons (.tmp rfl) .nil, rfl, (hS32.taken 0)⟩
    · skip
      rw [if_neg (not_t hc)] at hm
      refine WP.skip ?_
      refine WP.seq ?_
      refine WP.region ?_
      refine RW.run ttok 1 rfl ?_
      refine RW.nil ?_
      refine WP.ret ?_
      cases hm
      exact ⟨_, .cons (.tmp rfl) .nil, rfl, (hS32.taken 0)⟩

theorem enters6 : Enters Try.prog 6 := ⟨_, _, Try.func6, rfl, by kernel_rfl⟩
def m_laws_FnExactValidGrid (fuel : Nat) (x0 : D.Grid) : Option (Bool) := ((m_laws_szGrid fuel x0 1048576).bind fun r11 => (if (decide (r11 < 0)) = true then some true else ((m_laws_toGrid fuel x0).bind fun r18 => ((m_spec_ValidGrid fuel r18).bind fun r27 => ((m_laws_toGrid fuel x0).bind fun r34 => ((m_impl_ValidGrid fuel r34).bind fun r50 => (if (!(r50 == r27)) = true then some false else ((m_laws_toGrid fuel x0).bind fun r59 => ((m_laws_eqGrid fuel r34 r59).bind fun r69 => (if (!r69) = true then some false else some true))))))))))

set_option maxRecDepth 100000 in
theorem laws_FnExactValidGrid_ok {W w : World} (hE : Ext W w) {c0_ : List Value} {x0 : D.Grid} (h0_ : ty58.ro W c0_ x0) {fuel : Nat} {r : Bool} (hm : m_laws_FnExactValidGrid fuel x0 = some r) :
    Calls Try.prog 6 ⟨[.agg ⟨c0_⟩]⟩ w (Ret fun v w8 => v = .bool r ∧ St w w8 []) := by
  obtain ⟨A1, k2, e4, h3⟩ := ty58_open h0_; subst e4
  refine Calls.into Try.func6 rfl 27 rfl rfl _ rfl ?_
  unfold m_laws_FnExactValidGrid at hm
  have hS := St.start w
  refine WP.seq ?_
  refine WP.region ?_
  refine RW.new ttok hS rfl rfl rfl rfl (fun g5 w6 e7 hS10 => ?_)
  refine RW.run ttok 1 rfl ?_
  refine RW.nil ?_
  refine WP.seq ?_
  refine WP.region ?_
  refine RW.run ttok 1 rfl ?_
  refine RW.nil ?_
  refine WP.seq ?_
  refine WP.region ?_
  refine RW.loadN ttok rfl rfl rfl rfl rfl ((hS10.bring 0 rfl).box) rfl rfl rfl ?_
  refine RW.run ttok 1 rfl ?_
  obtain ⟨r11, hx12, hm⟩ := bind_some hm
  refine RW.call rfl rfl rfl enters30 (laws_szGrid_ok (hE.trans hS10.ext) h0_ hx12) (fun v13 w14 hR15 => ?_)
  obtain ⟨rfl, hR16⟩ := hR15
  have hS17 := hS10.join hR16
  refine RW.run ttok 1 rfl ?_
  refine RW.nil ?_
  refine WP.seq ?_
  refine WP.seq ?_
  refine WP.region ?_
  refine RW.run ttok 2 rfl ?_
  refine RW.nil ?_
  refine WP.cond (decide (r11 < 0)) rfl (fun hc => ?_) (fun hc => ?_)
  · skip
    rw [if_pos hc] at hm
    refine WP.seq ?_
    refine WP.region ?_
    refine RW.run ttok 1 rfl ?_
    refine RW.nil ?_
    refine WP.ret ?_
    cases hm
    exact ⟨_, .cons (.tmp rfl) .nil, rfl, (hS17.taken 0)⟩
  · skip
    rw [if_neg (not_t hc)] at hm
    refine WP.skip ?_
    refine WP.seq ?_
    refine WP.region ?_
    refine RW.loadN ttok rfl rfl rfl rfl rfl ((hS17.bring 0 rfl).box) rfl rfl rfl ?_
    obtain ⟨r18, hx19, hm⟩ := bind_some hm
    refine RW.call rfl rfl rfl enters32 (laws_toGrid_ok (hE.trans hS17.ext) h0_ hx19) (fun v20 w21 hR22 => ?_)
    obtain ⟨A23, k24, rfl, hR25⟩ := hR22
    have hS26 := hS17.join hR25
    obtain ⟨r27, hx28, hm⟩ := bind_some hm
    refine RW.call rfl rfl rfl enters31 (spec_ValidGrid_ok (Ext.refl _) (ty64_shut r18 ((hS26.bring 0 rfl).own)) hx28) (fun v29 w30 hR31 => ?_)
    obtain ⟨rfl, hR32⟩ := hR31
    have hS33 := hS26.join hR32
    refine RW.run ttok 1 rfl ?_
    refine RW.nil ?_
    refine WP.seq ?_
    refine WP.region ?_
    refine RW.loadN ttok rfl rfl rfl rfl rfl ((hS33.bring 1 rfl).box) rfl rfl rfl ?_
    obtain ⟨r34, hx35, hm⟩ := bind_some hm
    refine RW.call rfl rfl rfl enters32 (laws_toGrid_ok (hE.trans hS33.ext) h0_ hx35) (fun v36 w37 hR38 => ?_)
    obtain ⟨A39, k40, rfl, hR41⟩ := hR38
    have hS42 := hS33.join hR41
    refine RW.new ttok hS42 rfl rfl rfl rfl (fun g43 w44 e45 hS46 => ?_)
    have hS47 := hS46.bring 0 rfl
    refine RW.store ttok (A := []) hS47 rfl rfl rfl rfl rfl 0 rfl rfl rfl rfl rfl (fun w48 hS49 => ?_)
    refine RW.nil ?_
    refine WP.seq ?_
    refine WP.region ?_
    refine RW.loadN ttok rfl rfl rfl rfl rfl ((hS49.bring 0 rfl).box) rfl rfl rfl ?_
    obtain ⟨r50, hx51, hm⟩ := bind_some hm
    refine RW.call rfl rfl rfl enters33 (impl_ValidGrid_ok (Ext.refl _) (ty64_shut r34 ((hS49.bring 1 rfl).own)) hx51) (fun v52 w53 hR54 => ?_)
    obtain ⟨rfl, hR55⟩ := hR54
    have hS56 := hS49.join hR55
    refine RW.run ttok 1 rfl ?_
    refine RW.nil ?_
    refine WP.seq ?_
    refine WP.seq ?_
    refine WP.region ?_
    refine RW.run ttok 3 rfl ?_
    refine RW.nil ?_
    refine WP.cond (!(r50 == r27)) rfl (fun hc => ?_) (fun hc => ?_)
    · skip
      rw [if_pos hc] at hm
      refine WP.seq ?_
      refine WP.region ?_
      refine RW.run ttok 1 rfl ?_
      refine RW.nil ?_
      refine WP.ret ?_
      cases hm
      exact ⟨_, .cons (.tmp rfl) .nil, rfl, (hS56.taken 0)⟩
    · skip
      rw [if_neg (not_t hc)] at hm
      refine WP.skip ?_
      refine WP.seq ?_
      refine WP.seq ?_
      refine WP.drawnM 0 mixed 5 (by kernel_rfl) (by kernel_rfl) [([], 31), ([], 31), ([1], 29), ([0, 2, 2], 26), ([3], 23)] (by kernel_rfl) hS56.ext (fun hsk57 => ?_)
      have hS58 := hS56.step (Ext.draw _)
      refine DM.loadN ttok hsk57 0 1 (by kernel_rfl) (by kernel_rfl) (by kernel_rfl) (by kernel_rfl) rfl (by kernel_rfl) rfl rfl rfl rfl rfl ((hS56.bring 0 rfl).box) rfl rfl rfl ?_
      refine DM.loadN ttok hsk57 1 3 (by kernel_rfl) (by kernel_rfl) (by kernel_rfl) (by kernel_rfl) rfl (by kernel_rfl) rfl rfl rfl rfl rfl ((hS56.bring 3 rfl).box) rfl rfl rfl ?_
      obtain ⟨r59, hx60, hm⟩ := bind_some hm
      refine DM.one hsk57 2 (by kernel_rfl) (LM.call hsk57 7 (by kernel_rfl) (by kernel_rfl) rfl rfl rfl rfl enters32 (laws_toGrid_ok (hE.trans hS58.ext) h0_ hx60) (fun v61 w62 hR63 => ?_))
      obtain ⟨A65, k66, rfl, hR67⟩ := hR63
      refine ⟨hR67.ext, ?_⟩
      have hS68 := hS58.join hR67
      obtain ⟨r69, hx70, hm⟩ := bind_some hm
      refine DM.one hsk57 3 (by kernel_rfl) (LM.call hsk57 15 (by kernel_rfl) (by kernel_rfl) rfl rfl rfl rfl enters34 (laws_eqGrid_ok (Ext.refl _) (ty64_shut r34 ((hS68.bring 2 rfl).own)) (ty64_shut r59 ((hS68.bring 0 rfl).own)) hx70) (fun v71 w72 hR73 => ?_))
      obtain ⟨rfl, hR74⟩ := hR73
      refine ⟨hR74.ext, ?_⟩
      have hS75 := hS68.join hR74
      refine DM.run (fuel := 0) ttok hsk57 [4] 31 (by kernel_rfl) (by kernel_rfl) rfl ?_
      refine DM.weak [(26, .bool (!r69))] ⟨rfl, trivial⟩ ?_
      refine DM.done hsk57 (by kernel_rfl) ?_
      refine WP.cond (!r69) rfl (fun hc => ?_) (fun hc => ?_)
      · skip
        rw [if_pos hc] at hm
        refine WP.seq ?_
        refine WP.region ?_
        refine RW.run ttok 1 rfl ?_
        refine RW.nil ?_
        refine WP.ret ?_
        cases hm
        exact ⟨_, .cons (.tmp rfl) .nil, rfl, (hS75.taken 0)⟩
      · skip
        rw [if_neg (not_t hc)] at hm
        refine WP.skip ?_
        refine WP.seq ?_
        refine WP.region ?_
        refine RW.run ttok 1 rfl ?_
        refine RW.nil ?_
        refine WP.ret ?_
        cases hm
        exact ⟨_, .cons (.tmp rfl) .nil, rfl, (hS75.taken 0)⟩

end Go.E
