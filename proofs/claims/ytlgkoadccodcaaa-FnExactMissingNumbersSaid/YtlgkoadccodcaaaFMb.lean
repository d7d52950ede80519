/- Models of functions and proofs that the code runs as they say (written by program). Conditions: the model gives a value. -/
import Derived.Test.YtlgkoadccodcaaaFM
namespace Go.E
open Go.RowKit Go.Proofs
set_option linter.unusedVariables false
set_option linter.unusedSimpArgs false
set_option maxHeartbeats 2000000

theorem enters5 : Enters Try.prog 5 := ⟨_, _, Try.func5, rfl, by kernel_rfl⟩
def m_laws_FnExactMissingNumbers_j3 (fuel : Nat) (r120 : Int × (List Int)) (t159 : Bool) : Option Bool := (if t159 = true then some false else ((m_laws_heldInt64S fuel r120.2 1).bind fun r164 => (if (decide (r164 < 0)) = true then some false else (if (r164 != r120.1) = true then some false else some true))))
def m_laws_FnExactMissingNumbers_j2 (fuel : Nat) (x0 : D.Channel) (r40 : (List Int) × Int) (r71 : (List Int) × Int) (t115 : Bool) : Option Bool := (if t115 = true then some false else ((m_laws_markInt64S fuel r71.1 1).bind fun r120 => ((m_laws_heldInt64S fuel r120.2 1).bind fun r128 => (if (decide (r128 < 0)) = true then some false else (if (r128 != r120.1) = true then some false else ((m_laws_toChannel fuel x0).bind fun r135 => ((m_impl_MissingNumbers fuel r135).bind fun r150 => ((m_laws_eqInt64S fuel r150.1 r40.1).bind fun r171 => (if (!r171) = true then m_laws_FnExactMissingNumbers_j3 fuel r120 true else m_laws_FnExactMissingNumbers_j3 fuel r120 (r150.2 != r40.2))))))))))
def m_laws_FnExactMissingNumbers_j1 (fuel : Nat) (x0 : D.Channel) (r40 : (List Int) × Int) (r49 : D.Channel) (r71 : (List Int) × Int) (t80 : Bool) : Option Bool := (if t80 = true then some false else ((m_laws_toChannel fuel x0).bind fun r87 => ((m_laws_eqChannel fuel r49 r87).bind fun r102 => (if (!r102) = true then some false else ((m_laws_markChannel fuel r49 1).bind fun r109 => (if (decide (r109.1 < 0)) = true then m_laws_FnExactMissingNumbers_j2 fuel x0 r40 r71 true else ((m_laws_eqInt64S fuel r71.1 r40.1).bind fun r180 => (if (!r180) = true then m_laws_FnExactMissingNumbers_j2 fuel x0 r40 r71 true else m_laws_FnExactMissingNumbers_j2 fuel x0 r40 r71 (r71.2 != r40.2)))))))))
def m_laws_FnExactMissingNumbers (fuel : Nat) (x0 : D.Channel) : Option (Bool) := ((m_laws_szChannel fuel x0 1048576).bind fun r18 => (if (decide (r18 < 0)) = true then some true else ((m_laws_toChannel fuel x0).bind fun r25 => ((m_spec_MissingNumbers fuel r25).bind fun r40 => ((m_laws_toChannel fuel x0).bind fun r49 => ((m_impl_MissingNumbers fuel r49).bind fun r71 => ((m_laws_eqInt64S fuel r71.1 r40.1).bind fun r188 => (if (!r188) = true then m_laws_FnExactMissingNumbers_j1 fuel x0 r40 r49 r71 true else m_laws_FnExactMissingNumbers_j1 fuel x0 r40 r49 r71 (r71.2 != r40.2)))))))))

set_option maxRecDepth 100000 in
theorem laws_FnExactMissingNumbers_ok {w : World} {c0_ : List Value} {x0 : D.Channel} (h0_ : ty49.ro w c0_ x0) {fuel : Nat} {r : Bool} (hm : m_laws_FnExactMissingNumbers fuel x0 = some r) :
    Calls Try.prog 5 ⟨[.agg ⟨c0_⟩]⟩ w (Ret fun v w8 => v = .bool r ∧ St w w8 []) := by
  obtain ⟨A1, k2, A4, k5, A7, k8, A10, k11, e13, h3, h6, h9, h12⟩ := ty49_open h0_; subst e13
  refine Calls.into Try.func5 rfl 96 rfl rfl _ rfl ?_
  unfold m_laws_FnExactMissingNumbers at hm
  have hS := St.start w
  refine WP.seq ?_
  refine WP.region ?_
  refine RW.new ttok hS rfl rfl rfl rfl (fun g14 w15 e16 hS17 => ?_)
  refine RW.run ttok 1 rfl ?_
  refine RW.nil ?_
  refine WP.seq ?_
  refine WP.region ?_
  refine RW.run ttok 1 rfl ?_
  refine RW.nil ?_
  refine WP.seq ?_
  refine WP.region ?_
  refine RW.loadN ttok rfl rfl rfl rfl rfl ((hS17.bring 0 rfl).box) rfl rfl rfl ?_
  refine RW.run ttok 1 rfl ?_
  obtain ⟨r18, hx19, hm⟩ := bind_some hm
  refine RW.call rfl rfl rfl enters32 (laws_szChannel_ok (ty49.ext hS17.ext h0_) hx19) (fun v20 w21 hR22 => ?_)
  obtain ⟨rfl, hR23⟩ := hR22
  have hS24 := hS17.join hR23
  refine RW.run ttok 1 rfl ?_
  refine RW.nil ?_
  refine WP.seq ?_
  refine WP.seq ?_
  refine WP.region ?_
  refine RW.run ttok 2 rfl ?_
  refine RW.nil ?_
  refine WP.cond (decide (r18 < 0)) rfl (fun hc => ?_) (fun hc => ?_)
  · skip
    rw [if_pos hc] at hm
    refine WP.seq ?_
    refine WP.region ?_
    refine RW.run ttok 1 rfl ?_
    refine RW.nil ?_
    refine WP.ret ?_
    cases hm
    exact ⟨_, .cons (.tmp rfl) .nil, rfl, (hS24.taken 0)⟩
  · skip
    rw [if_neg (not_t hc)] at hm
    refine WP.skip ?_
    refine WP.seq ?_
    refine WP.region ?_
    refine RW.loadN ttok rfl rfl rfl rfl rfl ((hS24.bring 0 rfl).box) rfl rfl rfl ?_
    obtain ⟨r25, hx26, hm⟩ := bind_some hm
    refine RW.call rfl rfl rfl enters34 (laws_toChannel_ok (ty49.ext hS24.ext h0_) hx26) (fun v27 w28 hR29 => ?_)
    obtain ⟨A30, k31, A32, k33, A34, k35, A36, k37, rfl, hR38⟩ := hR29
    have hS39 := hS24.join hR38
    obtain ⟨r40, hx41, hm⟩ := bind_some hm
    refine RW.call rfl rfl rfl enters33 (spec_MissingNumbers_ok (ty39_shut r25 ((hS39.bring 0 rfl).own) ((hS39.bring 1 rfl).own) ((hS39.bring 2 rfl).own) ((hS39.bring 3 rfl).own)) hx41) (fun v42 w43 hR44 => ?_)
    obtain ⟨A45, k46, rfl, hR47⟩ := hR44
    have hS48 := hS39.join hR47
    refine RW.run ttok 5 rfl ?_
    refine RW.nil ?_
    refine WP.seq ?_
    refine WP.region ?_
    refine RW.loadN ttok rfl rfl rfl rfl rfl ((hS48.bring 5 rfl).box) rfl rfl rfl ?_
    obtain ⟨r49, hx50, hm⟩ := bind_some hm
    refine RW.call rfl rfl rfl enters34 (laws_toChannel_ok (ty49.ext hS48.ext h0_) hx50) (fun v51 w52 hR53 => ?_)
    obtain ⟨A54, k55, A56, k57, A58, k59, A60, k61, rfl, hR62⟩ := hR53
    have hS63 := hS48.join hR62
    refine RW.new ttok hS63 rfl rfl rfl rfl (fun g64 w65 e66 hS67 => ?_)
    have hS68 := hS67.bring 0 rfl
    refine RW.store ttok (A := []) hS68 rfl rfl rfl rfl rfl 0 rfl rfl rfl rfl rfl (fun w69 hS70 => ?_)
    refine RW.nil ?_
    refine WP.seq ?_
    refine WP.region ?_
    refine RW.loadN ttok rfl rfl rfl rfl rfl ((hS70.bring 0 rfl).box) rfl rfl rfl ?_
    obtain ⟨r71, hx72, hm⟩ := bind_some hm
    refine RW.call rfl rfl rfl enters35 (impl_MissingNumbers_ok (ty39_shut r49 ((hS70.bring 1 rfl).own) ((hS70.bring 2 rfl).own) ((hS70.bring 3 rfl).own) ((hS70.bring 4 rfl).own)) hx72) (fun v73 w74 hR75 => ?_)
    obtain ⟨A76, k77, rfl, hR78⟩ := hR75
    have hS79 := hS70.join hR78
    refine RW.run ttok 5 rfl ?_
    refine RW.nil ?_
    refine WP.seq ?_
    refine WP.seq ?_
    refine WP.cut (fun (t80 : Bool) F w9 => m_laws_FnExactMissingNumbers_j1 fuel x0 r40 r49 r71 t80 = some r ∧ Ext w74 w9 ∧ St w w9 [Own ty22 [.slice A76 r71.1.length k77] r71.1, Box g64 [.int .i64 r49.Window, .slice A54 r49.Messages.length k55, .int .i64 r49.Base, .int .i64 r49.Next, .int .i64 r49.Expected, .slice A56 r49.Early.length k57, .slice A58 r49.Delivered.length k59, .slice A60 r49.Flight.length k61] 39, Own ty35 [.slice A54 r49.Messages.length k55] r49.Messages, Own ty37 [.slice A56 r49.Early.length k57] r49.Early, Own ty35 [.slice A58 r49.Delivered.length k59] r49.Delivered, Own ty37 [.slice A60 r49.Flight.length k61] r49.Flight, Own ty22 [.slice A45 r40.1.length k46] r40.1, Own ty35 [.slice A30 r25.Messages.length k31] r25.Messages, Own ty37 [.slice A32 r25.Early.length k33] r25.Early, Own ty35 [.slice A34 r25.Delivered.length k35] r25.Delivered, Own ty37 [.slice A36 r25.Flight.length k37] r25.Flight, Box g14 [.int .i64 x0.Window, .slice A1 x0.Messages.length k2, .int .i64 x0.Base, .int .i64 x0.Next, .int .i64 x0.Expected, .slice A4 x0.Early.length k5, .slice A7 x0.Delivered.length k8, .slice A10 x0.Flight.length k11] 49] ∧ F = [(1, .pointer (some ⟨g14, 0, none⟩)), (4, .slice A45 r40.1.length k46), (5, .int .i64 r40.2), (6, .pointer (some ⟨g64, 0, none⟩)), (7, .slice A76 r71.1.length k77), (8, .int .i64 r71.2), (40, .bool t80)]) ?_ ?_
    · skip
      rintro t80 F w83 ⟨hm, hE81, hS82, rfl⟩
      unfold m_laws_FnExactMissingNumbers_j1 at hm
      refine WP.cond t80 rfl (fun hc => ?_) (fun hc => ?_)
      · skip
        rw [if_pos hc] at hm
        refine WP.seq ?_
        refine WP.region ?_
        refine RW.run ttok 1 rfl ?_
        refine RW.nil ?_
        refine WP.ret ?_
        cases hm
        exact ⟨_, .cons (.tmp rfl) .nil, rfl, (hS82.taken 0)⟩
      · skip
        rw [if_neg (not_t hc)] at hm
        refine WP.skip ?_
        refine WP.seq ?_
        refine WP.seq ?_
        refine WP.drawnM 0 mixed 5 (by kernel_rfl) (by kernel_rfl) [([], 31), ([], 31), ([1], 29), ([0, 2, 2], 26), ([3], 23)] (by kernel_rfl) (fun hsk85 => ?_)
        have hS86 := hS82.step (Ext.draw _)
        refine DM.loadN ttok hsk85 0 1 (by kernel_rfl) (by kernel_rfl) (by kernel_rfl) (by kernel_rfl) rfl (by kernel_rfl) rfl rfl rfl rfl rfl ((hS82.bring 1 rfl).box) rfl rfl rfl ?_
        refine DM.loadN ttok hsk85 1 3 (by kernel_rfl) (by kernel_rfl) (by kernel_rfl) (by kernel_rfl) rfl (by kernel_rfl) rfl rfl rfl rfl rfl ((hS82.bring 11 rfl).box) rfl rfl rfl ?_
        obtain ⟨r87, hx88, hm⟩ := bind_some hm
        refine DM.one hsk85 2 (by kernel_rfl) (LM.call hsk85 7 (by kernel_rfl) (by kernel_rfl) rfl rfl rfl rfl enters34 (laws_toChannel_ok (ty49.ext hS86.ext h0_) hx88) (fun v89 w90 hR91 => ?_))
        obtain ⟨A92, k93, A94, k95, A96, k97, A98, k99, rfl, hR100⟩ := hR91
        refine ⟨hR100.ext, ?_⟩
        have hS101 := hS86.join hR100
        obtain ⟨r102, hx103, hm⟩ := bind_some hm
        refine DM.one hsk85 3 (by kernel_rfl) (LM.call hsk85 15 (by kernel_rfl) (by kernel_rfl) rfl rfl rfl rfl enters27 (laws_eqChannel_ok (ty39_shut r49 ((hS101.bring 6 rfl).own) ((hS101.bring 7 rfl).own) ((hS101.bring 8 rfl).own) ((hS101.bring 9 rfl).own)) (ty39_shut r87 ((hS101.bring 0 rfl).own) ((hS101.bring 1 rfl).own) ((hS101.bring 2 rfl).own) ((hS101.bring 3 rfl).own)) hx103) (fun v104 w105 hR106 => ?_))
        obtain ⟨rfl, hR107⟩ := hR106
        refine ⟨hR107.ext, ?_⟩
        have hS108 := hS101.join hR107
        refine DM.run (fuel := 0) ttok hsk85 [4] 31 (by kernel_rfl) (by kernel_rfl) rfl ?_
        refine DM.done hsk85 (by kernel_rfl) ?_
        refine WP.cond (!r102) rfl (fun hc => ?_) (fun hc => ?_)
        · skip
          rw [if_pos hc] at hm
          refine WP.seq ?_
          refine WP.region ?_
          refine RW.run ttok 1 rfl ?_
          refine RW.nil ?_
          refine WP.ret ?_
          cases hm
          exact ⟨_, .cons (.tmp rfl) .nil, rfl, (hS108.taken 0)⟩
        · skip
          rw [if_neg (not_t hc)] at hm
          refine WP.skip ?_
          refine WP.seq ?_
          refine WP.region ?_
          refine RW.run ttok 1 rfl ?_
          refine RW.nil ?_
          refine WP.seq ?_
          refine WP.region ?_
          refine RW.loadN ttok rfl rfl rfl rfl rfl ((hS108.bring 5 rfl).box) rfl rfl rfl ?_
          refine RW.run ttok 1 rfl ?_
          obtain ⟨r109, hx110, hm⟩ := bind_some hm
          refine RW.call rfl rfl rfl enters30 (laws_markChannel_ok (W := w) (RR := _) ((((hS108.bring 9 rfl).bring 9 rfl).bring 9 rfl).bring 9 rfl)  hx110) (fun v111 w112 hR113 => ?_)
          obtain ⟨rfl, hS114⟩ := hR113
          refine RW.run ttok 1 rfl ?_
          refine RW.nil ?_
          refine WP.seq ?_
          refine WP.seq ?_
          refine WP.cut (fun (t115 : Bool) F w9 => m_laws_FnExactMissingNumbers_j2 fuel x0 r40 r71 t115 = some r ∧ Ext w112 w9 ∧ St w w9 [Own ty35 [.slice A54 r49.Messages.length k55] r109.2.1, Own ty37 [.slice A56 r49.Early.length k57] r109.2.2.1, Own ty35 [.slice A58 r49.Delivered.length k59] r109.2.2.2.1, Own ty37 [.slice A60 r49.Flight.length k61] r109.2.2.2.2, Own ty35 [.slice A92 r87.Messages.length k93] r87.Messages, Own ty37 [.slice A94 r87.Early.length k95] r87.Early, Own ty35 [.slice A96 r87.Delivered.length k97] r87.Delivered, Own ty37 [.slice A98 r87.Flight.length k99] r87.Flight, Own ty22 [.slice A76 r71.1.length k77] r71.1, Box g64 [.int .i64 r49.Window, .slice A54 r49.Messages.length k55, .int .i64 r49.Base, .int .i64 r49.Next, .int .i64 r49.Expected, .slice A56 r49.Early.length k57, .slice A58 r49.Delivered.length k59, .slice A60 r49.Flight.length k61] 39, Own ty22 [.slice A45 r40.1.length k46] r40.1, Own ty35 [.slice A30 r25.Messages.length k31] r25.Messages, Own ty37 [.slice A32 r25.Early.length k33] r25.Early, Own ty35 [.slice A34 r25.Delivered.length k35] r25.Delivered, Own ty37 [.slice A36 r25.Flight.length k37] r25.Flight, Box g14 [.int .i64 x0.Window, .slice A1 x0.Messages.length k2, .int .i64 x0.Base, .int .i64 x0.Next, .int .i64 x0.Expected, .slice A4 x0.Early.length k5, .slice A7 x0.Delivered.length k8, .slice A10 x0.Flight.length k11] 49] ∧ F = [(1, .pointer (some ⟨g14, 0, none⟩)), (4, .slice A45 r40.1.length k46), (5, .int .i64 r40.2), (7, .slice A76 r71.1.length k77), (61, .bool t115)]) ?_ ?_
          · skip
            rintro t115 F w118 ⟨hm, hE116, hS117, rfl⟩
            unfold m_laws_FnExactMissingNumbers_j2 at hm
            refine WP.cond t115 rfl (fun hc => ?_) (fun hc => ?_)
            · skip
              rw [if_pos hc] at hm
              refine WP.seq ?_
              refine WP.region ?_
              refine RW.run ttok 1 rfl ?_
              refine RW.nil ?_
              refine WP.ret ?_
              cases hm
              exact ⟨_, .cons (.tmp rfl) .nil, rfl, (hS117.taken 0)⟩
            · skip
              rw [if_neg (not_t hc)] at hm
              refine WP.skip ?_
              refine WP.seq ?_
              refine WP.region ?_
              refine RW.run ttok 1 rfl ?_
              refine RW.nil ?_
              refine WP.seq ?_
              refine WP.region ?_
              refine RW.run ttok 2 rfl ?_
              obtain ⟨r120, hx121, hm⟩ := bind_some hm
              refine RW.call rfl rfl rfl enters20 (laws_markInt64S_ok (W := w) (RR := _) (hS117.bring 8 rfl)  hx121) (fun v122 w123 hR124 => ?_)
              obtain ⟨rfl, hS125⟩ := hR124
              refine RW.run ttok 1 rfl ?_
              refine RW.nil ?_
              refine WP.seq ?_
              refine WP.region ?_
              refine RW.run ttok 1 rfl ?_
              refine RW.nil ?_
              refine WP.seq ?_
              refine WP.region ?_
              refine RW.run ttok 2 rfl ?_
              have hn126 := (hS125.bring 0 rfl).lenEq
              have hS127 := (hS125.bring 0 rfl).reLen hn126
              refine RW.know (u := .slice A76 r120.2.length k77) 65 rfl (by simp only [hn126]) ?_
              obtain ⟨r128, hx129, hm⟩ := bind_some hm
              refine RW.call rfl rfl rfl enters36 (laws_heldInt64S_ok ((hS127.bring 0 rfl).own) hx129) (fun v130 w131 hR132 => ?_)
              obtain ⟨rfl, hR133⟩ := hR132
              have hS134 := hS127.join hR133
              refine RW.run ttok 1 rfl ?_
              refine RW.nil ?_
              refine WP.seq ?_
              refine WP.seq ?_
              refine WP.region ?_
              refine RW.run ttok 2 rfl ?_
              refine RW.nil ?_
              refine WP.cond (decide (r128 < 0)) rfl (fun hc => ?_) (fun hc => ?_)
              · skip
                rw [if_pos hc] at hm
                refine WP.seq ?_
                refine WP.region ?_
                refine RW.run ttok 1 rfl ?_
                refine RW.nil ?_
                refine WP.ret ?_
                cases hm
                exact ⟨_, .cons (.tmp rfl) .nil, rfl, (hS134.taken 0)⟩
              · skip
                rw [if_neg (not_t hc)] at hm
                refine WP.skip ?_
                refine WP.seq ?_
                refine WP.seq ?_
                refine WP.region ?_
                refine RW.run ttok 3 rfl ?_
                refine RW.nil ?_
                refine WP.cond (r128 != r120.1) rfl (fun hc => ?_) (fun hc => ?_)
                · skip
                  rw [if_pos hc] at hm
                  refine WP.seq ?_
                  refine WP.region ?_
                  refine RW.run ttok 1 rfl ?_
                  refine RW.nil ?_
                  refine WP.ret ?_
                  cases hm
                  exact ⟨_, .cons (.tmp rfl) .nil, rfl, (hS134.taken 0)⟩
                · skip
                  rw [if_neg (not_t hc)] at hm
                  refine WP.skip ?_
                  refine WP.seq ?_
                  refine WP.region ?_
                  refine RW.loadN ttok rfl rfl rfl rfl rfl ((hS134.bring 15 rfl).box) rfl rfl rfl ?_
                  obtain ⟨r135, hx136, hm⟩ := bind_some hm
                  refine RW.call rfl rfl rfl enters34 (laws_toChannel_ok (ty49.ext hS134.ext h0_) hx136) (fun v137 w138 hR139 => ?_)
                  obtain ⟨A140, k141, A142, k143, A144, k145, A146, k147, rfl, hR148⟩ := hR139
                  have hS149 := hS134.join hR148
                  obtain ⟨r150, hx151, hm⟩ := bind_some hm
                  refine RW.call rfl rfl rfl enters35 (impl_MissingNumbers_ok (ty39_shut r135 ((hS149.bring 0 rfl).own) ((hS149.bring 1 rfl).own) ((hS149.bring 2 rfl).own) ((hS149.bring 3 rfl).own)) hx151) (fun v152 w153 hR154 => ?_)
                  obtain ⟨A155, k156, rfl, hR157⟩ := hR154
                  have hS158 := hS149.join hR157
                  refine RW.run ttok 5 rfl ?_
                  refine RW.nil ?_
                  refine WP.seq ?_
                  refine WP.seq ?_
                  refine WP.cut (fun (t159 : Bool) F w9 => m_laws_FnExactMissingNumbers_j3 fuel r120 t159 = some r ∧ Ext w153 w9 ∧ St w w9 [Own ty22 [.slice A155 r150.1.length k156] r150.1, Own ty35 [.slice A140 r135.Messages.length k141] r135.Messages, Own ty37 [.slice A142 r135.Early.length k143] r135.Early, Own ty35 [.slice A144 r135.Delivered.length k145] r135.Delivered, Own ty37 [.slice A146 r135.Flight.length k147] r135.Flight, Own ty22 [.slice A76 r120.2.length k77] r120.2, Own ty35 [.slice A54 r49.Messages.length k55] r109.2.1, Own ty37 [.slice A56 r49.Early.length k57] r109.2.2.1, Own ty35 [.slice A58 r49.Delivered.length k59] r109.2.2.2.1, Own ty37 [.slice A60 r49.Flight.length k61] r109.2.2.2.2, Own ty35 [.slice A92 r87.Messages.length k93] r87.Messages, Own ty37 [.slice A94 r87.Early.length k95] r87.Early, Own ty35 [.slice A96 r87.Delivered.length k97] r87.Delivered, Own ty37 [.slice A98 r87.Flight.length k99] r87.Flight, Box g64 [.int .i64 r49.Window, .slice A54 r49.Messages.length k55, .int .i64 r49.Base, .int .i64 r49.Next, .int .i64 r49.Expected, .slice A56 r49.Early.length k57, .slice A58 r49.Delivered.length k59, .slice A60 r49.Flight.length k61] 39, Own ty22 [.slice A45 r40.1.length k46] r40.1, Own ty35 [.slice A30 r25.Messages.length k31] r25.Messages, Own ty37 [.slice A32 r25.Early.length k33] r25.Early, Own ty35 [.slice A34 r25.Delivered.length k35] r25.Delivered, Own ty37 [.slice A36 r25.Flight.length k37] r25.Flight, Box g14 [.int .i64 x0.Window, .slice A1 x0.Messages.length k2, .int .i64 x0.Base, .int .i64 x0.Next, .int .i64 x0.Expected, .slice A4 x0.Early.length k5, .slice A7 x0.Delivered.length k8, .slice A10 x0.Flight.length k11] 49] ∧ F = [(7, .slice A76 r71.1.length k77), (10, .int .i64 r120.1), (87, .bool t159)]) ?_ ?_
                  · skip
                    rintro t159 F w162 ⟨hm, hE160, hS161, rfl⟩
                    unfold m_laws_FnExactMissingNumbers_j3 at hm
                    refine WP.cond t159 rfl (fun hc => ?_) (fun hc => ?_)
                    · skip
                      rw [if_pos hc] at hm
                      refine WP.seq ?_
                      refine WP.region ?_
                      refine RW.run ttok 1 rfl ?_
                      refine RW.nil ?_
                      refine WP.ret ?_
                      cases hm
                      exact ⟨_, .cons (.tmp rfl) .nil, rfl, (hS161.taken 0)⟩
                    · skip
                      rw [if_neg (not_t hc)] at hm
                      refine WP.skip ?_
                      refine WP.seq ?_
                      refine WP.region ?_
                      refine RW.run ttok 1 rfl ?_
                      refine RW.nil ?_
                      refine WP.seq ?_
                      refine WP.region ?_
                      refine RW.run ttok 2 rfl ?_
                      refine RW.know (u := .slice A76 r120.2.length k77) 88 rfl (by simp only [hn126]) ?_
                      obtain ⟨r164, hx165, hm⟩ := bind_some hm
                      refine RW.call rfl rfl rfl enters36 (laws_heldInt64S_ok ((hS161.bring 5 rfl).own) hx165) (fun v166 w167 hR168 => ?_)
                      obtain ⟨rfl, hR169⟩ := hR168
                      have hS170 := hS161.join hR169
                      refine RW.run ttok 1 rfl ?_
                      refine RW.nil ?_
                      refine WP.seq ?_
                      refine WP.seq ?_
                      refine WP.region ?_
                      refine RW.run ttok 2 rfl ?_
                      refine RW.nil ?_
                      refine WP.cond (decide (r164 < 0)) rfl (fun hc => ?_) (fun hc => ?_)
                      · skip
                        rw [if_pos hc] at hm
                        refine WP.seq ?_
                        refine WP.region ?_
                        refine RW.run ttok 1 rfl ?_
                        refine RW.nil ?_
                        refine WP.ret ?_
                        cases hm
                        exact ⟨_, .cons (.tmp rfl) .nil, rfl, (hS170.taken 0)⟩
                      · skip
                        rw [if_neg (not_t hc)] at hm
                        refine WP.skip ?_
                        refine WP.seq ?_
                        refine WP.seq ?_
                        refine WP.region ?_
                        refine RW.run ttok 3 rfl ?_
                        refine RW.nil ?_
                        refine WP.cond (r164 != r120.1) rfl (fun hc => ?_) (fun hc => ?_)
                        · skip
                          rw [if_pos hc] at hm
                          refine WP.seq ?_
                          refine WP.region ?_
                          refine RW.run ttok 1 rfl ?_
                          refine RW.nil ?_
                          refine WP.ret ?_
                          cases hm
                          exact ⟨_, .cons (.tmp rfl) .nil, rfl, (hS170.taken 0)⟩
                        · skip
                          rw [if_neg (not_t hc)] at hm
                          refine WP.skip ?_
                          refine WP.seq ?_
                          refine WP.region ?_
                          refine RW.run ttok 1 rfl ?_
                          refine RW.nil ?_
                          refine WP.ret ?_
                          cases hm
                          exact ⟨_, .cons (.tmp rfl) .nil, rfl, (hS170.taken 0)⟩
                  · skip
                    refine WP.region ?_
                    refine RW.run ttok 2 rfl ?_
                    obtain ⟨r171, hx172, hm⟩ := bind_some hm
                    refine RW.call rfl rfl rfl enters19 (laws_eqInt64S_ok ((hS158.bring 0 rfl).own) ((hS158.bring 15 rfl).own) hx172) (fun v173 w174 hR175 => ?_)
                    obtain ⟨rfl, hR176⟩ := hR175
                    have hS177 := hS158.join hR176
                    refine RW.run ttok 2 rfl ?_
                    by_cases hg178 : (!r171) = true
                    · skip
                      rw [if_pos hg178] at hm
                      refine RW.know 83 rfl (congrArg Value.bool hg178) ?_
                      refine RW.run ttok 4 rfl ?_
                      refine RW.nil ?_
                      exact ⟨true, [(7, .slice A76 r71.1.length k77), (10, .int .i64 r120.1), (87, .bool true)], ⟨rfl, rfl, rfl, trivial⟩, hm, hR176.ext, hS177, rfl⟩
                    · skip
                      rw [if_neg hg178] at hm
                      refine RW.know 83 rfl (congrArg Value.bool (Bool.eq_false_iff.2 hg178)) ?_
                      refine RW.run ttok 4 rfl ?_
                      refine RW.nil ?_
                      exact ⟨(r150.2 != r40.2), [(7, .slice A76 r71.1.length k77), (10, .int .i64 r120.1), (87, .bool (r150.2 != r40.2))], ⟨rfl, rfl, rfl, trivial⟩, hm, hR176.ext, hS177, rfl⟩
          · skip
            refine WP.region ?_
            refine RW.run ttok 3 rfl ?_
            by_cases hg179 : (decide (r109.1 < 0)) = true
            · skip
              rw [if_pos hg179] at hm
              refine RW.know 51 rfl (congrArg Value.bool hg179) ?_
              refine RW.run ttok 10 rfl ?_
              refine RW.nil ?_
              exact ⟨true, [(1, .pointer (some ⟨g14, 0, none⟩)), (4, .slice A45 r40.1.length k46), (5, .int .i64 r40.2), (7, .slice A76 r71.1.length k77), (61, .bool true)], ⟨rfl, rfl, rfl, rfl, rfl, trivial⟩, hm, (Ext.refl _), hS114, rfl⟩
            · skip
              rw [if_neg hg179] at hm
              refine RW.know 51 rfl (congrArg Value.bool (Bool.eq_false_iff.2 hg179)) ?_
              refine RW.run ttok 2 rfl ?_
              obtain ⟨r180, hx181, hm⟩ := bind_some hm
              refine RW.call rfl rfl rfl enters19 (laws_eqInt64S_ok ((hS114.bring 8 rfl).own) ((hS114.bring 10 rfl).own) hx181) (fun v182 w183 hR184 => ?_)
              obtain ⟨rfl, hR185⟩ := hR184
              have hS186 := hS114.join hR185
              refine RW.run ttok 3 rfl ?_
              by_cases hg187 : (!r180) = true
              · skip
                rw [if_pos hg187] at hm
                refine RW.know 57 rfl (congrArg Value.bool hg187) ?_
                refine RW.run ttok 4 rfl ?_
                refine RW.nil ?_
                exact ⟨true, [(1, .pointer (some ⟨g14, 0, none⟩)), (4, .slice A45 r40.1.length k46), (5, .int .i64 r40.2), (7, .slice A76 r71.1.length k77), (61, .bool true)], ⟨rfl, rfl, rfl, rfl, rfl, trivial⟩, hm, hR185.ext, hS186, rfl⟩
              · skip
                rw [if_neg hg187] at hm
                refine RW.know 57 rfl (congrArg Value.bool (Bool.eq_false_iff.2 hg187)) ?_
                refine RW.run ttok 4 rfl ?_
                refine RW.nil ?_
                exact ⟨(r71.2 != r40.2), [(1, .pointer (some ⟨g14, 0, none⟩)), (4, .slice A45 r40.1.length k46), (5, .int .i64 r40.2), (7, .slice A76 r71.1.length k77), (61, .bool (r71.2 != r40.2))], ⟨rfl, rfl, rfl, rfl, rfl, trivial⟩, hm, hR185.ext, hS186, rfl⟩
    · skip
      refine WP.region ?_
      refine RW.run ttok 2 rfl ?_
      obtain ⟨r188, hx189, hm⟩ := bind_some hm
      refine RW.call rfl rfl rfl enters19 (laws_eqInt64S_ok ((hS79.bring 0 rfl).own) ((hS79.bring 6 rfl).own) hx189) (fun v190 w191 hR192 => ?_)
      obtain ⟨rfl, hR193⟩ := hR192
      have hS194 := hS79.join hR193
      refine RW.run ttok 2 rfl ?_
      by_cases hg195 : (!r188) = true
      · skip
        rw [if_pos hg195] at hm
        refine RW.know 36 rfl (congrArg Value.bool hg195) ?_
        refine RW.run ttok 4 rfl ?_
        refine RW.nil ?_
        exact ⟨true, [(1, .pointer (some ⟨g14, 0, none⟩)), (4, .slice A45 r40.1.length k46), (5, .int .i64 r40.2), (6, .pointer (some ⟨g64, 0, none⟩)), (7, .slice A76 r71.1.length k77), (8, .int .i64 r71.2), (40, .bool true)], ⟨rfl, rfl, rfl, rfl, rfl, rfl, rfl, trivial⟩, hm, hR193.ext, hS194, rfl⟩
      · skip
        rw [if_neg hg195] at hm
        refine RW.know 36 rfl (congrArg Value.bool (Bool.eq_false_iff.2 hg195)) ?_
        refine RW.run ttok 4 rfl ?_
        refine RW.nil ?_
        exact ⟨(r71.2 != r40.2), [(1, .pointer (some ⟨g14, 0, none⟩)), (4, .slice A45 r40.1.length k46), (5, .int .i64 r40.2), (6, .pointer (some ⟨g64, 0, none⟩)), (7, .slice A76 r71.1.length k77), (8, .int .i64 r71.2), (40, .bool (r71.2 != r40.2))], ⟨rfl, rfl, rfl, rfl, rfl, rfl, rfl, trivial⟩, hm, hR193.ext, hS194, rfl⟩

end Go.E
