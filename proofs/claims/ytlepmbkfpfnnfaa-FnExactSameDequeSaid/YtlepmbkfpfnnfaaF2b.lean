/- Models of functions and proofs that the code runs as they say (written by program). Conditions: the model gives a value. -/
import Derived.Test.YtlepmbkfpfnnfaaF2
namespace Go.E
open Go.RowKit Go.Proofs
set_option linter.unusedVariables false
set_option linter.unusedSimpArgs false

theorem enters16 : Enters Try.prog 16 := ⟨_, _, Try.func16, rfl, by kernel_rfl⟩
def m_spec_IsChannelDone (fuel : Nat) (x0 : D.Channel) : Option (Bool) := ((m_spec_l28Ok fuel x0).bind fun r18 => (if r18 = true then ((m_spec_l28Done fuel x0).bind fun r26 => some r26) else some false))

set_option maxRecDepth 100000 in
theorem spec_IsChannelDone_ok {w : World} {c0_ : List Value} {x0 : D.Channel} (h0_ : ty30.ro w c0_ x0) {fuel : Nat} {r : Bool} (hm : m_spec_IsChannelDone fuel x0 = some r) :
    Calls Try.prog 16 ⟨[.agg ⟨c0_⟩]⟩ w (Ret fun v w8 => v = .bool r ∧ St w w8 []) := by
  obtain ⟨A1, k2, A4, k5, A7, k8, A10, k11, e13, h3, h6, h9, h12⟩ := ty30_open h0_; subst e13
  refine Calls.into Try.func16 rfl 7 rfl rfl _ rfl ?_
  unfold m_spec_IsChannelDone at hm
  have hS := St.start w
  refine WP.seq ?_
  refine WP.region ?_
  refine RW.new ttok hS rfl rfl rfl rfl (fun g14 w15 e16 hS17 => ?_)
  refine RW.run ttok 1 rfl ?_
  refine RW.nil ?_
  refine WP.seq ?_
  refine WP.region ?_
  obtain ⟨r18, hx19, hm⟩ := bind_some hm
  refine RW.call rfl rfl rfl enters45 (spec_l28Ok_ok (ty30.ext hS17.ext h0_) ((hS17.bring 0 rfl).box) hx19) (fun v20 w21 hR22 => ?_)
  obtain ⟨rfl, hR23⟩ := hR22
  have hS24 := hS17.join hR23
  refine RW.run ttok 1 rfl ?_
  by_cases hg25 : r18 = true
  · skip
    rw [if_pos hg25] at hm
    refine RW.know 4 rfl (congrArg Value.bool hg25) ?_
    obtain ⟨r26, hx27, hm⟩ := bind_some hm
    refine RW.call rfl rfl rfl enters52 (spec_l28Done_ok (ty30.ext hS24.ext h0_) ((hS24.bring 0 rfl).box) hx27) (fun v28 w29 hR30 => ?_)
    obtain ⟨rfl, hR31⟩ := hR30
    have hS32 := hS24.join hR31
    refine RW.run ttok 2 rfl ?_
    refine RW.nil ?_
    refine WP.ret ?_
    cases hm
    exact ⟨_, .cons (.tmp rfl) .nil, rfl, (hS32.taken 0)⟩
  · skip
    rw [if_neg hg25] at hm
    refine RW.know 4 rfl (congrArg Value.bool (Bool.eq_false_iff.2 hg25)) ?_
    refine RW.run ttok 3 rfl ?_
    refine RW.nil ?_
    refine WP.ret ?_
    cases hm
    exact ⟨_, .cons (.tmp rfl) .nil, rfl, (hS24.taken 0)⟩

theorem enters53 : Enters Try.prog 53 := ⟨_, _, Try.func53, rfl, by kernel_rfl⟩
def m_impl_Channel_isDone (fuel : Nat) (x0 : D.Channel) : Option (Bool) := some (x0.Base == (x0.Messages.length : Int))

set_option maxRecDepth 100000 in
theorem impl_Channel_isDone_ok {w : World} {p0_ : Addr} {c0_ : List Value} {x0 : D.Channel} (h0_ : ty30.ro w c0_ x0) (g0_ : At w p0_ c0_) {fuel : Nat} {r : Bool} (hm : m_impl_Channel_isDone fuel x0 = some r) :
    Calls Try.prog 53 ⟨[.pointer (some p0_)]⟩ w (Ret fun v w8 => v = .bool r ∧ St w w8 []) := by
  obtain ⟨A1, k2, A4, k5, A7, k8, A10, k11, e13, h3, h6, h9, h12⟩ := ty30_open h0_; subst e13
  refine Calls.into Try.func53 rfl 13 rfl rfl _ rfl ?_
  unfold m_impl_Channel_isDone at hm
  have hS := St.start w
  refine WP.seq ?_
  refine WP.region ?_
  refine RW.run ttok 1 rfl ?_
  refine RW.nil ?_
  refine WP.seq ?_
  refine WP.drawnM mixed 11 (by kernel_rfl) (by kernel_rfl) [([], 2047), ([0], 2046), ([1], 2045), ([2], 2043), ([], 2047), ([4], 2031), ([5], 2015), ([6], 1983), ([7], 1919), ([3, 8], 1783), ([9, 0, 1, 2, 3, 4, 5, 6, 7, 8, 9], 1535)] (by kernel_rfl) (fun hsk14 => ?_)
  have hS15 := hS.step (Ext.draw _)
  refine DM.run (fuel := 5) ttok hsk14 [0, 1, 2, 4, 5, 6] 119 (by kernel_rfl) rfl ?_
  refine DM.load1 ttok hsk14 3 127 (by kernel_rfl) rfl (by kernel_rfl) rfl rfl rfl rfl rfl (At.ext hS.ext g0_) 2 rfl rfl rfl rfl ?_
  refine DM.load1 ttok hsk14 7 255 (by kernel_rfl) rfl (by kernel_rfl) rfl rfl rfl rfl rfl (At.ext hS.ext g0_) 1 rfl rfl rfl rfl ?_
  refine DM.run (fuel := 0) ttok hsk14 [8, 9, 10] 2047 (by kernel_rfl) rfl ?_
  refine DM.weak [(2, .bool (x0.Base == (x0.Messages.length : Int)))] ⟨rfl, trivial⟩ ?_
  refine DM.done hsk14 (by kernel_rfl) (fun _ => ?_)
  refine WP.ret ?_
  cases hm
  exact ⟨_, .cons (.tmp rfl) .nil, rfl, (hS15.taken 0)⟩

theorem enters17 : Enters Try.prog 17 := ⟨_, _, Try.func17, rfl, by kernel_rfl⟩
def m_impl_IsChannelDone (fuel : Nat) (x0 : D.Channel) : Option (Bool) := ((m_impl_ValidChannel fuel x0).bind fun r18 => (if r18 = true then ((m_impl_Channel_isDone fuel x0).bind fun r26 => some r26) else some false))

set_option maxRecDepth 100000 in
theorem impl_IsChannelDone_ok {w : World} {c0_ : List Value} {x0 : D.Channel} (h0_ : ty30.ro w c0_ x0) {fuel : Nat} {r : Bool} (hm : m_impl_IsChannelDone fuel x0 = some r) :
    Calls Try.prog 17 ⟨[.agg ⟨c0_⟩]⟩ w (Ret fun v w8 => v = .bool r ∧ St w w8 []) := by
  obtain ⟨A1, k2, A4, k5, A7, k8, A10, k11, e13, h3, h6, h9, h12⟩ := ty30_open h0_; subst e13
  refine Calls.into Try.func17 rfl 8 rfl rfl _ rfl ?_
  unfold m_impl_IsChannelDone at hm
  have hS := St.start w
  refine WP.seq ?_
  refine WP.region ?_
  refine RW.new ttok hS rfl rfl rfl rfl (fun g14 w15 e16 hS17 => ?_)
  refine RW.run ttok 1 rfl ?_
  refine RW.nil ?_
  refine WP.seq ?_
  refine WP.region ?_
  refine RW.loadN ttok rfl rfl rfl rfl rfl ((hS17.bring 0 rfl).box) rfl rfl rfl ?_
  obtain ⟨r18, hx19, hm⟩ := bind_some hm
  refine RW.call rfl rfl rfl enters15 (impl_ValidChannel_ok (ty30.ext hS17.ext h0_) hx19) (fun v20 w21 hR22 => ?_)
  obtain ⟨rfl, hR23⟩ := hR22
  have hS24 := hS17.join hR23
  refine RW.run ttok 1 rfl ?_
  by_cases hg25 : r18 = true
  · skip
    rw [if_pos hg25] at hm
    refine RW.know 5 rfl (congrArg Value.bool hg25) ?_
    obtain ⟨r26, hx27, hm⟩ := bind_some hm
    refine RW.call rfl rfl rfl enters53 (impl_Channel_isDone_ok (ty30.ext hS24.ext h0_) ((hS24.bring 0 rfl).box) hx27) (fun v28 w29 hR30 => ?_)
    obtain ⟨rfl, hR31⟩ := hR30
    have hS32 := hS24.join hR31
    refine RW.run ttok 2 rfl ?_
    refine RW.nil ?_
    refine WP.ret ?_
    cases hm
    exact ⟨_, .cons (.tmp rfl) .nil, rfl, (hS32.taken 0)⟩
  · skip
    rw [if_neg hg25] at hm
    refine RW.know 5 rfl (congrArg Value.bool (Bool.eq_false_iff.2 hg25)) ?_
    refine RW.run ttok 3 rfl ?_
    refine RW.nil ?_
    refine WP.ret ?_
    cases hm
    exact ⟨_, .cons (.tmp rfl) .nil, rfl, (hS24.taken 0)⟩

theorem enters5 : Enters Try.prog 5 := ⟨_, _, Try.func5, rfl, by kernel_rfl⟩
def m_laws_FnExactIsChannelDone (fuel : Nat) (x0 : D.Channel) : Option (Bool) := ((m_laws_szChannel fuel x0 1048576).bind fun r18 => (if (decide (r18 < 0)) = true then some true else ((m_laws_toChannel fuel x0).bind fun r25 => ((m_spec_IsChannelDone fuel r25).bind fun r40 => ((m_laws_toChannel fuel x0).bind fun r47 => ((m_impl_IsChannelDone fuel r47).bind fun r69 => (if (!(r69 == r40)) = true then some false else ((m_laws_toChannel fuel x0).bind fun r78 => ((m_laws_eqChannel fuel r47 r78).bind fun r93 => (if (!r93) = true then some false else some true))))))))))

set_option maxRecDepth 100000 in
theorem laws_FnExactIsChannelDone_ok {w : World} {c0_ : List Value} {x0 : D.Channel} (h0_ : ty25.ro w c0_ x0) {fuel : Nat} {r : Bool} (hm : m_laws_FnExactIsChannelDone fuel x0 = some r) :
    Calls Try.prog 5 ⟨[.agg ⟨c0_⟩]⟩ w (Ret fun v w8 => v = .bool r ∧ St w w8 []) := by
  obtain ⟨A1, k2, A4, k5, A7, k8, A10, k11, e13, h3, h6, h9, h12⟩ := ty25_open h0_; subst e13
  refine Calls.into Try.func5 rfl 27 rfl rfl _ rfl ?_
  unfold m_laws_FnExactIsChannelDone at hm
  have hS := St.start w
  refine WP.seq ?_
  refine WP.region ?_
  refine RW.new ttok hS rfl rfl rfl rfl (fun g14 w15 e16 hS17 => ?_)
  refine RW.run ttok 1 rfl ?_
  refine RW.nil ?_
  refine WP.seq ?_
  refine WP.region ?_
  refine RW.run ttok 1 rfl ?_
  refine RW.nil ?_
  refine WP.seq ?_
  refine WP.region ?_
  refine RW.loadN ttok rfl rfl rfl rfl rfl ((hS17.bring 0 rfl).box) rfl rfl rfl ?_
  refine RW.run ttok 1 rfl ?_
  obtain ⟨r18, hx19, hm⟩ := bind_some hm
  refine RW.call rfl rfl rfl enters9 (laws_szChannel_ok (ty25.ext hS17.ext h0_) hx19) (fun v20 w21 hR22 => ?_)
  obtain ⟨rfl, hR23⟩ := hR22
  have hS24 := hS17.join hR23
  refine RW.run ttok 1 rfl ?_
  refine RW.nil ?_
  refine WP.seq ?_
  refine WP.seq ?_
  refine WP.region ?_
  refine RW.run ttok 2 rfl ?_
  refine RW.nil ?_
  refine WP.cond (decide (r18 < 0)) rfl (fun hc => ?_) (fun hc => ?_)
  · skip
    rw [if_pos hc] at hm
    refine WP.seq ?_
    refine WP.region ?_
    refine RW.run ttok 1 rfl ?_
    refine RW.nil ?_
    refine WP.ret ?_
    cases hm
    exact ⟨_, .cons (.tmp rfl) .nil, rfl, (hS24.taken 0)⟩
  · skip
    rw [if_neg (not_t hc)] at hm
    refine WP.skip ?_
    refine WP.seq ?_
    refine WP.region ?_
    refine RW.loadN ttok rfl rfl rfl rfl rfl ((hS24.bring 0 rfl).box) rfl rfl rfl ?_
    obtain ⟨r25, hx26, hm⟩ := bind_some hm
    refine RW.call rfl rfl rfl enters11 (laws_toChannel_ok (ty25.ext hS24.ext h0_) hx26) (fun v27 w28 hR29 => ?_)
    obtain ⟨A30, k31, A32, k33, A34, k35, A36, k37, rfl, hR38⟩ := hR29
    have hS39 := hS24.join hR38
    obtain ⟨r40, hx41, hm⟩ := bind_some hm
    refine RW.call rfl rfl rfl enters16 (spec_IsChannelDone_ok (ty30_shut r25 ((hS39.bring 0 rfl).own) ((hS39.bring 1 rfl).own) ((hS39.bring 2 rfl).own) ((hS39.bring 3 rfl).own)) hx41) (fun v42 w43 hR44 => ?_)
    obtain ⟨rfl, hR45⟩ := hR44
    have hS46 := hS39.join hR45
    refine RW.run ttok 1 rfl ?_
    refine RW.nil ?_
    refine WP.seq ?_
    refine WP.region ?_
    refine RW.loadN ttok rfl rfl rfl rfl rfl ((hS46.bring 4 rfl).box) rfl rfl rfl ?_
    obtain ⟨r47, hx48, hm⟩ := bind_some hm
    refine RW.call rfl rfl rfl enters11 (laws_toChannel_ok (ty25.ext hS46.ext h0_) hx48) (fun v49 w50 hR51 => ?_)
    obtain ⟨A52, k53, A54, k55, A56, k57, A58, k59, rfl, hR60⟩ := hR51
    have hS61 := hS46.join hR60
    refine RW.new ttok hS61 rfl rfl rfl rfl (fun g62 w63 e64 hS65 => ?_)
    have hS66 := hS65.bring 0 rfl
    refine RW.store ttok (A := []) hS66 rfl rfl rfl rfl rfl 0 rfl rfl rfl rfl rfl (fun w67 hS68 => ?_)
    refine RW.nil ?_
    refine WP.seq ?_
    refine WP.region ?_
    refine RW.loadN ttok rfl rfl rfl rfl rfl ((hS68.bring 0 rfl).box) rfl rfl rfl ?_
    obtain ⟨r69, hx70, hm⟩ := bind_some hm
    refine RW.call rfl rfl rfl enters17 (impl_IsChannelDone_ok (ty30_shut r47 ((hS68.bring 1 rfl).own) ((hS68.bring 2 rfl).own) ((hS68.bring 3 rfl).own) ((hS68.bring 4 rfl).own)) hx70) (fun v71 w72 hR73 => ?_)
    obtain ⟨rfl, hR74⟩ := hR73
    have hS75 := hS68.join hR74
    refine RW.run ttok 1 rfl ?_
    refine RW.nil ?_
    refine WP.seq ?_
    refine WP.seq ?_
    refine WP.region ?_
    refine RW.run ttok 3 rfl ?_
    refine RW.nil ?_
    refine WP.cond (!(r69 == r40)) rfl (fun hc => ?_) (fun hc => ?_)
    · skip
      rw [if_pos hc] at hm
      refine WP.seq ?_
      refine WP.region ?_
      refine RW.run ttok 1 rfl ?_
      refine RW.nil ?_
      refine WP.ret ?_
      cases hm
      exact ⟨_, .cons (.tmp rfl) .nil, rfl, (hS75.taken 0)⟩
    · skip
      rw [if_neg (not_t hc)] at hm
      refine WP.skip ?_
      refine WP.seq ?_
      refine WP.seq ?_
      refine WP.drawnM mixed 5 (by kernel_rfl) (by kernel_rfl) [([], 31), ([], 31), ([1], 29), ([0, 2, 2], 26), ([3], 23)] (by kernel_rfl) (fun hsk76 => ?_)
      have hS77 := hS75.step (Ext.draw _)
      refine DM.loadN ttok hsk76 0 1 (by kernel_rfl) rfl (by kernel_rfl) rfl rfl rfl rfl rfl ((hS75.bring 0 rfl).box) rfl rfl rfl ?_
      refine DM.loadN ttok hsk76 1 3 (by kernel_rfl) rfl (by kernel_rfl) rfl rfl rfl rfl rfl ((hS75.bring 9 rfl).box) rfl rfl rfl ?_
      obtain ⟨r78, hx79, hm⟩ := bind_some hm
      refine DM.one hsk76 2 (by kernel_rfl) (LM.call hsk76 7 (by kernel_rfl) rfl rfl rfl rfl enters11 (laws_toChannel_ok (ty25.ext hS77.ext h0_) hx79) (fun v80 w81 hR82 => ?_))
      obtain ⟨A83, k84, A85, k86, A87, k88, A89, k90, rfl, hR91⟩ := hR82
      refine ⟨hR91.ext, ?_⟩
      have hS92 := hS77.join hR91
      obtain ⟨r93, hx94, hm⟩ := bind_some hm
      refine DM.one hsk76 3 (by kernel_rfl) (LM.call hsk76 15 (by kernel_rfl) rfl rfl rfl rfl enters13 (laws_eqChannel_ok (ty30_shut r47 ((hS92.bring 5 rfl).own) ((hS92.bring 6 rfl).own) ((hS92.bring 7 rfl).own) ((hS92.bring 8 rfl).own)) (ty30_shut r78 ((hS92.bring 0 rfl).own) ((hS92.bring 1 rfl).own) ((hS92.bring 2 rfl).own) ((hS92.bring 3 rfl).own)) hx94) (fun v95 w96 hR97 => ?_))
      obtain ⟨rfl, hR98⟩ := hR97
      refine ⟨hR98.ext, ?_⟩
      have hS99 := hS92.join hR98
      refine DM.run (fuel := 0) ttok hsk76 [4] 31 (by kernel_rfl) rfl ?_
      refine DM.weak [(26, .bool (!r93))] ⟨rfl, trivial⟩ ?_
      refine DM.done hsk76 (by kernel_rfl) (fun _ => ?_)
      refine WP.cond (!r93) rfl (fun hc => ?_) (fun hc => ?_)
      · skip
        rw [if_pos hc] at hm
        refine WP.seq ?_
        refine WP.region ?_
        refine RW.run ttok 1 rfl ?_
        refine RW.nil ?_
        refine WP.ret ?_
        cases hm
        exact ⟨_, .cons (.tmp rfl) .nil, rfl, (hS99.taken 0)⟩
      · skip
        rw [if_neg (not_t hc)] at hm
        refine WP.skip ?_
        refine WP.seq ?_
        refine WP.region ?_
        refine RW.run ttok 1 rfl ?_
        refine RW.nil ?_
        refine WP.ret ?_
        cases hm
        exact ⟨_, .cons (.tmp rfl) .nil, rfl, (hS99.taken 0)⟩

theorem enters54 : Enters Try.prog 54 := ⟨_, _, Try.func54, rfl, by kernel_rfl⟩
def m_laws_szInt64S (fuel : Nat) (x0 : (List Int)) (x1 : Int) : Option (Int) := (if (decide ((w64 (x1 - (x0.length : Int))) < 0)) = true then some (-1) else some (w64 (x1 - (x0.length : Int))))

set_option maxRecDepth 100000 in
theorem laws_szInt64S_ok {w : World} {A0_ : Option Addr} {k0_ : Nat} {x0 : (List Int)} {x1 : Int} (h0_ : ty35.ro w [.slice A0_ x0.length k0_] x0) {fuel : Nat} {r : Int} (hm : m_laws_szInt64S fuel x0 x1 = some r) :
    Calls Try.prog 54 ⟨[.slice A0_ x0.length k0_, .int .i64 x1]⟩ w (Ret fun v w8 => v = .int .i64 r ∧ St w w8 []) := by
  refine Calls.into Try.func54 rfl 12 rfl rfl _ rfl ?_
  unfold m_laws_szInt64S at hm
  have hS := St.start w
  refine WP.seq ?_
  refine WP.region ?_
  refine RW.run ttok 1 rfl ?_
  refine RW.nil ?_
  refine WP.seq ?_
  refine WP.region ?_
  refine RW.run ttok 5 rfl ?_
  refine RW.nil ?_
  refine WP.seq ?_
  refine WP.seq ?_
  refine WP.region ?_
  refine RW.run ttok 2 rfl ?_
  refine RW.nil ?_
  refine WP.cond (decide ((w64 (x1 - (x0.length : Int))) < 0)) rfl (fun hc => ?_) (fun hc => ?_)
  · skip
    rw [if_pos hc] at hm
    refine WP.seq ?_
    refine WP.region ?_
    refine RW.run ttok 1 rfl ?_
    refine RW.nil ?_
    refine WP.ret ?_
    cases hm
    exact ⟨_, .cons (.tmp rfl) .nil, rfl, (hS.taken 0)⟩
  · skip
    rw [if_neg (not_t hc)] at hm
    refine WP.skip ?_
    refine WP.seq ?_
    refine WP.region ?_
    refine RW.run ttok 2 rfl ?_
    refine RW.nil ?_
    refine WP.ret ?_
    cases hm
    exact ⟨_, .cons (.tmp rfl) .nil, rfl, (hS.taken 0)⟩

theorem enters91 : Enters Try.prog 91 := ⟨_, _, Try.func91, rfl, by kernel_rfl⟩
def m_laws_szDequeActor (fuel : Nat) (x0 : D.DequeActor) (x1 : Int) : Option (Int) := ((m_laws_szInt64S fuel x0.Todo x1).bind fun r9 => (if (decide (r9 < 0)) = true then some (-1) else some r9))

set_option maxRecDepth 100000 in
theorem laws_szDequeActor_ok {w : World} {c0_ : List Value} {x0 : D.DequeActor} {x1 : Int} (h0_ : ty105.ro w c0_ x0) {fuel : Nat} {r : Int} (hm : m_laws_szDequeActor fuel x0 x1 = some r) :
    Calls Try.prog 91 ⟨[.agg ⟨c0_⟩, .int .i64 x1]⟩ w (Ret fun v w8 => v = .int .i64 r ∧ St w w8 []) := by
  obtain ⟨A1, k2, e4, h3⟩ := ty105_open h0_; subst e4
  refine Calls.into Try.func91 rfl 12 rfl rfl _ rfl ?_
  unfold m_laws_szDequeActor at hm
  have hS := St.start w
  refine WP.seq ?_
  refine WP.region ?_
  refine RW.new ttok hS rfl rfl rfl rfl (fun g5 w6 e7 hS8 => ?_)
  refine RW.run ttok 1 rfl ?_
  refine RW.nil ?_
  refine WP.seq ?_
  refine WP.region ?_
  refine RW.run ttok 1 rfl ?_
  refine RW.load1 ttok rfl rfl rfl rfl rfl ((hS8.bring 0 rfl).box) 0 rfl rfl rfl rfl ?_
  refine RW.run ttok 1 rfl ?_
  obtain ⟨r9, hx10, hm⟩ := bind_some hm
  refine RW.call rfl rfl rfl enters54 (laws_szInt64S_ok (ty35.ext hS8.ext h3) hx10) (fun v11 w12 hR13 => ?_)
  obtain ⟨rfl, hR14⟩ := hR13
  have hS15 := hS8.join hR14
  refine RW.run ttok 1 rfl ?_
  refine RW.nil ?_
  refine WP.seq ?_
  refine WP.seq ?_
  refine WP.region ?_
  refine RW.run ttok 2 rfl ?_
  refine RW.nil ?_
  refine WP.cond (decide (r9 < 0)) rfl (fun hc => ?_) (fun hc => ?_)
  · skip
    rw [if_pos hc] at hm
    refine WP.seq ?_
    refine WP.region ?_
    refine RW.run ttok 1 rfl ?_
    refine RW.nil ?_
    refine WP.ret ?_
    cases hm
    exact ⟨_, .cons (.tmp rfl) .nil, rfl, (hS15.taken 0)⟩
  · skip
    rw [if_neg (not_t hc)] at hm
    refine WP.skip ?_
    refine WP.seq ?_
    refine WP.region ?_
    refine RW.run ttok 2 rfl ?_
    refine RW.nil ?_
    refine WP.ret ?_
    cases hm
    exact ⟨_, .cons (.tmp rfl) .nil, rfl, (hS15.taken 0)⟩

theorem enters55 : Enters Try.prog 55 := ⟨_, _, Try.func55, rfl, by kernel_rfl⟩
def m_laws_szDequeActorS_j1 (fuel : Nat) (t2 : Int) : Option Int := some t2
def m_laws_szDequeActorS_b1 (fuel : Nat) (x0 : (List D.DequeActor)) (s1 : Int × Int) : Option (Rd (Int × Int) (Int) (Int)) := (if (decide (s1.2 < (x0.length : Int))) = true then ((idx x0 s1.2).bind fun x17 => ((m_laws_szDequeActor fuel x17 s1.1).bind fun r27 => (if (decide (r27 < 0)) = true then some (.ret (-1)) else some (.next (r27, w64 (s1.2 + 1)))))) else some (.brk s1.1))
def m_laws_szDequeActorS (fuel : Nat) (x0 : (List D.DequeActor)) (x1 : Int) : Option (Int) := (if (decide ((w64 (x1 - (x0.length : Int))) < 0)) = true then some (-1) else ((iter (m_laws_szDequeActorS_b1 fuel x0) fuel (w64 (x1 - (x0.length : Int)), 0)).bind fun o => aft o (m_laws_szDequeActorS_j1 fuel)))

set_option maxRecDepth 100000 in
theorem laws_szDequeActorS_ok {w : World} {A0_ : Option Addr} {k0_ : Nat} {x0 : (List D.DequeActor)} {x1 : Int} (h0_ : ty36.ro w [.slice A0_ x0.length k0_] x0) {fuel : Nat} {r : Int} (hm : m_laws_szDequeActorS fuel x0 x1 = some r) :
    Calls Try.prog 55 ⟨[.slice A0_ x0.length k0_, .int .i64 x1]⟩ w (Ret fun v w8 => v = .int .i64 r ∧ St w w8 []) := by
  refine Calls.into Try.func55 rfl 27 rfl rfl _ rfl ?_
  unfold m_laws_szDequeActorS at hm
  have hS := St.start w
  refine WP.seq ?_
  refine WP.region ?_
  refine RW.run ttok 1 rfl ?_
  refine RW.nil ?_
  refine WP.seq ?_
  refine WP.region ?_
  refine RW.run ttok 5 rfl ?_
  refine RW.nil ?_
  refine WP.seq ?_
  refine WP.seq ?_
  refine WP.region ?_
  refine RW.run ttok 2 rfl ?_
  refine RW.nil ?_
  refine WP.cond (decide ((w64 (x1 - (x0.length : Int))) < 0)) rfl (fun hc => ?_) (fun hc => ?_)
  · skip
    rw [if_pos hc] at hm
    refine WP.seq ?_
    refine WP.region ?_
    refine RW.run ttok 1 rfl ?_
    refine RW.nil ?_
    refine WP.ret ?_
    cases hm
    exact ⟨_, .cons (.tmp rfl) .nil, rfl, (hS.taken 0)⟩
  · skip
    rw [if_neg (not_t hc)] at hm
    refine WP.skip ?_
    refine WP.seq ?_
    refine WP.seq ?_
    refine WP.region ?_
    refine RW.run ttok 1 rfl ?_
    refine RW.nil ?_
    obtain ⟨o8, hl9, hm⟩ := bind_some hm
    refine WP.cut (fun (t2 : Int) F w9 => o8 = .inl t2 ∧ Ext w w9 ∧ St w w9 [] ∧ F = [(1, .int .i64 t2)]) ?_ ?_
    · skip
      rintro t2 F w7 ⟨ho11, hE6, hS10, rfl⟩
      subst ho11
      have hm : m_laws_szDequeActorS_j1 fuel t2 = some r := hm
      unfold m_laws_szDequeActorS_j1 at hm
      refine WP.seq ?_
      refine WP.region ?_
      refine RW.run ttok 2 rfl ?_
      refine RW.nil ?_
      refine WP.ret ?_
      cases hm
      exact ⟨_, .cons (.tmp rfl) .nil, rfl, (hS10.taken 0)⟩
    · skip
      refine WP.block ?_
      refine WP.weak [(0, .slice A0_ x0.length k0_), (1, .int .i64 (w64 (x1 - (x0.length : Int)))), (5, .int .i64 0)] ⟨rfl, rfl, rfl, trivial⟩ ?_
      refine WP.iter (fun (s1 : Int × Int) F w9 => Ext w w9 ∧ St w w9 [] ∧ F = [(0, .slice A0_ x0.length k0_), (1, .int .i64 s1.1), (5, .int .i64 s1.2)]) _ hl9 ⟨(Ext.refl _), (hS.taken 0), rfl⟩ ?_
      rintro s1 F w16 _ o14 ⟨hE5, hS15, rfl⟩ hb12 ho13
      unfold m_laws_szDequeActorS_b1 at hb12
      refine WP.seq ?_
      refine WP.seq ?_
      refine WP.region ?_
      refine RW.run ttok 4 rfl ?_
      refine RW.nil ?_
      refine WP.cond (decide (s1.2 < (x0.length : Int))) rfl (fun hc => ?_) (fun hc => ?_)
      · skip
        rw [if_pos hc] at hb12
        refine WP.skip ?_
        refine WP.seq ?_
        refine WP.block ?_
        refine WP.seq ?_
        refine WP.region ?_
        refine RW.run ttok 2 rfl ?_
        obtain ⟨x17, hx18, hb12⟩ := bind_some hb12
        refine RW.idx ttok hS15.ext rfl rfl rfl rfl rfl rfl (by decide) rfl rfl h0_ (idx_some hx18).1 (idx_some hx18).2 rfl rfl (fun p19 es20 ha21 hr22 => ?_)
        obtain ⟨A23, k24, e26, h25⟩ := ty105_open hr22; subst e26
        refine RW.loadN ttok rfl rfl rfl rfl rfl (At.ext hS15.ext ha21) rfl rfl rfl ?_
        refine RW.run ttok 1 rfl ?_
        obtain ⟨r27, hx28, hb12⟩ := bind_some hb12
        refine RW.call rfl rfl rfl enters91 (laws_szDequeActor_ok (ty105.ext hS15.ext hr22) hx28) (fun v29 w30 hR31 => ?_)
        obtain ⟨rfl, hR32⟩ := hR31
        have hS33 := hS15.join hR32
        refine RW.run ttok 1 rfl ?_
        refine RW.nil ?_
        refine WP.seq ?_
        refine WP.region ?_
        refine RW.run ttok 2 rfl ?_
        refine RW.nil ?_
        refine WP.cond (decide (r27 < 0)) rfl (fun hc => ?_) (fun hc => ?_)
        · skip
          rw [if_pos hc] at hb12
          refine WP.seq ?_
          refine WP.region ?_
          refine RW.run ttok 1 rfl ?_
          refine RW.nil ?_
          refine WP.ret ?_
          cases hb12
          cases ho13
          have hm : some _ = some _ := hm
          cases hm
          exact ⟨_, .cons (.tmp rfl) .nil, rfl, (hS33.taken 0)⟩
        · skip
          rw [if_neg (not_t hc)] at hb12
          refine WP.skip ?_
          refine WP.region ?_
          refine RW.run ttok 3 rfl ?_
          refine RW.nil ?_
          cases hb12
          exact ⟨_, [(0, .slice A0_ x0.length k0_), (1, .int .i64 r27), (5, .int .i64 (w64 (s1.2 + 1)))], ⟨rfl, rfl, rfl, trivial⟩, rfl, (hE5.trans hR32.ext), (hS33.taken 0), rfl⟩
      · skip
        rw [if_neg (not_t hc)] at hb12
        refine WP.exit ?_
        cases hb12
        exact ⟨_, [(1, .int .i64 s1.1)], ⟨rfl, trivial⟩, ho13, hE5, (hS15.taken 0), rfl⟩

theorem enters56 : Enters Try.prog 56 := ⟨_, _, Try.func56, rfl, by kernel_rfl⟩
def m_laws_szHandedS (fuel : Nat) (x0 : (List D.Handed)) (x1 : Int) : Option (Int) := (if (decide ((w64 (x1 - (x0.length : Int))) < 0)) = true then some (-1) else some (w64 (x1 - (x0.length : Int))))

set_option maxRecDepth 100000 in
theorem laws_szHandedS_ok {w : World} {A0_ : Option Addr} {k0_ : Nat} {x0 : (List D.Handed)} {x1 : Int} (h0_ : ty37.ro w [.slice A0_ x0.length k0_] x0) {fuel : Nat} {r : Int} (hm : m_laws_szHandedS fuel x0 x1 = some r) :
    Calls Try.prog 56 ⟨[.slice A0_ x0.length k0_, .int .i64 x1]⟩ w (Ret fun v w8 => v = .int .i64 r ∧ St w w8 []) := by
  refine Calls.into Try.func56 rfl 12 rfl rfl _ rfl ?_
  unfold m_laws_szHandedS at hm
  have hS := St.start w
  refine WP.seq ?_
  refine WP.region ?_
  refine RW.run ttok 1 rfl ?_
  refine RW.nil ?_
  refine WP.seq ?_
  refine WP.region ?_
  refine RW.run ttok 5 rfl ?_
  refine RW.nil ?_
  refine WP.seq ?_
  refine WP.seq ?_
  refine WP.region ?_
  refine RW.run ttok 2 rfl ?_
  refine RW.nil ?_
  refine WP.cond (decide ((w64 (x1 - (x0.length : Int))) < 0)) rfl (fun hc => ?_) (fun hc => ?_)
  · skip
    rw [if_pos hc] at hm
    refine WP.seq ?_
    refine WP.region ?_
    refine RW.run ttok 1 rfl ?_
    refine RW.nil ?_
    refine WP.ret ?_
    cases hm
    exact ⟨_, .cons (.tmp rfl) .nil, rfl, (hS.taken 0)⟩
  · skip
    rw [if_neg (not_t hc)] at hm
    refine WP.skip ?_
    refine WP.seq ?_
    refine WP.region ?_
    refine RW.run ttok 2 rfl ?_
    refine RW.nil ?_
    refine WP.ret ?_
    cases hm
    exact ⟨_, .cons (.tmp rfl) .nil, rfl, (hS.taken 0)⟩

theorem enters18 : Enters Try.prog 18 := ⟨_, _, Try.func18, rfl, by kernel_rfl⟩
def m_laws_szDeque (fuel : Nat) (x0 : D.Deque) (x1 : Int) : Option (Int) := ((m_laws_szInt64S fuel x0.Buffer x1).bind fun r18 => (if (decide (r18 < 0)) = true then some (-1) else ((m_laws_szDequeActorS fuel x0.Actors r18).bind fun r25 => (if (decide (r25 < 0)) = true then some (-1) else ((m_laws_szHandedS fuel x0.Taken r25).bind fun r32 => (if (decide (r32 < 0)) = true then some (-1) else ((m_laws_szInt64S fuel x0.Refused r32).bind fun r39 => (if (decide (r39 < 0)) = true then some (-1) else some r39))))))))

set_option maxRecDepth 100000 in
theorem laws_szDeque_ok {w : World} {c0_ : List Value} {x0 : D.Deque} {x1 : Int} (h0_ : ty39.ro w c0_ x0) {fuel : Nat} {r : Int} (hm : m_laws_szDeque fuel x0 x1 = some r) :
    Calls Try.prog 18 ⟨[.agg ⟨c0_⟩, .int .i64 x1]⟩ w (Ret fun v w8 => v = .int .i64 r ∧ St w w8 []) := by
  obtain ⟨A1, k2, A4, k5, A7, k8, A10, k11, e13, h3, h6, h9, h12⟩ := ty39_open h0_; subst e13
  refine Calls.into Try.func18 rfl 30 rfl rfl _ rfl ?_
  unfold m_laws_szDeque at hm
  have hS := St.start w
  refine WP.seq ?_
  refine WP.region ?_
  refine RW.new ttok hS rfl rfl rfl rfl (fun g14 w15 e16 hS17 => ?_)
  refine RW.run ttok 1 rfl ?_
  refine RW.nil ?_
  refine WP.seq ?_
  refine WP.region ?_
  refine RW.run ttok 1 rfl ?_
  refine RW.load1 ttok rfl rfl rfl rfl rfl ((hS17.bring 0 rfl).box) 2 rfl rfl rfl rfl ?_
  refine RW.run ttok 1 rfl ?_
  obtain ⟨r18, hx19, hm⟩ := bind_some hm
  refine RW.call rfl rfl rfl enters54 (laws_szInt64S_ok (ty35.ext hS17.ext h3) hx19) (fun v20 w21 hR22 => ?_)
  obtain ⟨rfl, hR23⟩ := hR22
  have hS24 := hS17.join hR23
  refine RW.run ttok 1 rfl ?_
  refine RW.nil ?_
  refine WP.seq ?_
  refine WP.seq ?_
  refine WP.region ?_
  refine RW.run ttok 2 rfl ?_
  refine RW.nil ?_
  refine WP.cond (decide (r18 < 0)) rfl (fun hc => ?_) (fun hc => ?_)
  · skip
    rw [if_pos hc] at hm
    refine WP.seq ?_
    refine WP.region ?_
    refine RW.run ttok 1 rfl ?_
    refine RW.nil ?_
    refine WP.ret ?_
    cases hm
    exact ⟨_, .cons (.tmp rfl) .nil, rfl, (hS24.taken 0)⟩
  · skip
    rw [if_neg (not_t hc)] at hm
    refine WP.skip ?_
    refine WP.seq ?_
    refine WP.region ?_
    refine RW.run ttok 1 rfl ?_
    refine RW.load1 ttok rfl rfl rfl rfl rfl ((hS24.bring 0 rfl).box) 3 rfl rfl rfl rfl ?_
    refine RW.run ttok 1 rfl ?_
    obtain ⟨r25, hx26, hm⟩ := bind_some hm
    refine RW.call rfl rfl rfl enters55 (laws_szDequeActorS_ok (ty36.ext hS24.ext h6) hx26) (fun v27 w28 hR29 => ?_)
    obtain ⟨rfl, hR30⟩ := hR29
    have hS31 := hS24.join hR30
    refine RW.run ttok 1 rfl ?_
    refine RW.nil ?_
    refine WP.seq ?_
    refine WP.seq ?_
    refine WP.region ?_
    refine RW.run ttok 2 rfl ?_
    refine RW.nil ?_
    refine WP.cond (decide (r25 < 0)) rfl (fun hc => ?_) (fun hc => ?_)
    · skip
      rw [if_pos hc] at hm
      refine WP.seq ?_
      refine WP.region ?_
      refine RW.run ttok 1 rfl ?_
      refine RW.nil ?_
      refine WP.ret ?_
      cases hm
      exact ⟨_, .cons (.tmp rfl) .nil, rfl, (hS31.taken 0)⟩
    · skip
      rw [if_neg (not_t hc)] at hm
      refine WP.skip ?_
      refine WP.seq ?_
      refine WP.region ?_
      refine RW.run ttok 1 rfl ?_
      refine RW.load1 ttok rfl rfl rfl rfl rfl ((hS31.bring 0 rfl).box) 4 rfl rfl rfl rfl ?_
      refine RW.run ttok 1 rfl ?_
      obtain ⟨r32, hx33, hm⟩ := bind_some hm
      refine RW.call rfl rfl rfl enters56 (laws_szHandedS_ok (ty37.ext hS31.ext h9) hx33) (fun v34 w35 hR36 => ?_)
      obtain ⟨rfl, hR37⟩ := hR36
      have hS38 := hS31.join hR37
      refine RW.run ttok 1 rfl ?_
      refine RW.nil ?_
      refine WP.seq ?_
      refine WP.seq ?_
      refine WP.region ?_
      refine RW.run ttok 2 rfl ?_
      refine RW.nil ?_
      refine WP.cond (decide (r32 < 0)) rfl (fun hc => ?_) (fun hc => ?_)
      · skip
        rw [if_pos hc] at hm
        refine WP.seq ?_
        refine WP.region ?_
        refine RW.run ttok 1 rfl ?_
        refine RW.nil ?_
        refine WP.ret ?_
        cases hm
        exact ⟨_, .cons (.tmp rfl) .nil, rfl, (hS38.taken 0)⟩
      · skip
        rw [if_neg (not_t hc)] at hm
        refine WP.skip ?_
        refine WP.seq ?_
        refine WP.region ?_
        refine RW.run ttok 1 rfl ?_
        refine RW.load1 ttok rfl rfl rfl rfl rfl ((hS38.bring 0 rfl).box) 5 rfl rfl rfl rfl ?_
        refine RW.run ttok 1 rfl ?_
        obtain ⟨r39, hx40, hm⟩ := bind_some hm
        refine RW.call rfl rfl rfl enters54 (laws_szInt64S_ok (ty35.ext hS38.ext h12) hx40) (fun v41 w42 hR43 => ?_)
        obtain ⟨rfl, hR44⟩ := hR43
        have hS45 := hS38.join hR44
        refine RW.run ttok 1 rfl ?_
        refine RW.nil ?_
        refine WP.seq ?_
        refine WP.seq ?_
        refine WP.region ?_
        refine RW.run ttok 2 rfl ?_
        refine RW.nil ?_
        refine WP.cond (decide (r39 < 0)) rfl (fun hc => ?_) (fun hc => ?_)
        · skip
          rw [if_pos hc] at hm
          refine WP.seq ?_
          refine WP.region ?_
          refine RW.run ttok 1 rfl ?_
          refine RW.nil ?_
          refine WP.ret ?_
          cases hm
          exact ⟨_, .cons (.tmp rfl) .nil, rfl, (hS45.taken 0)⟩
        · skip
          rw [if_neg (not_t hc)] at hm
          refine WP.skip ?_
          refine WP.seq ?_
          refine WP.region ?_
          refine RW.run ttok 2 rfl ?_
          refine RW.nil ?_
          refine WP.ret ?_
          cases hm
          exact ⟨_, .cons (.tmp rfl) .nil, rfl, (hS45.taken 0)⟩

theorem enters24 : Enters Try.prog 24 := ⟨_, _, Try.func24, rfl, by kernel_rfl⟩
def m_laws_toInt64S_j1 (fuel : Nat) (t9 : (List Int)) : Option (List Int) := some t9
def m_laws_toInt64S_b1 (fuel : Nat) (x0 : (List Int)) (s8 : Int × (List Int)) : Option (Rd (Int × (List Int)) ((List Int)) ((List Int))) := (if (decide (s8.1 < (x0.length : Int))) = true then ((idx x0 s8.1).bind fun x27 => (if decide (0 ≤ s8.1 ∧ s8.1.toNat < s8.2.length) = true then some (.next (w64 (s8.1 + 1), (s8.2.set s8.1.toNat x27))) else none)) else some (.brk s8.2))
def m_laws_toInt64S (fuel : Nat) (x0 : (List Int)) : Option ((List Int)) := (if decide (0 ≤ (x0.length : Int) ∧ (x0.length : Int) ≤ 4294967296) = true then ((iter (m_laws_toInt64S_b1 fuel x0) fuel (0, (List.replicate (x0.length : Int).toNat (0 : Int)))).bind fun o => aft o (m_laws_toInt64S_j1 fuel)) else none)

set_option maxRecDepth 100000 in
theorem laws_toInt64S_ok {w : World} {A0_ : Option Addr} {k0_ : Nat} {x0 : (List Int)} (h0_ : ty35.ro w [.slice A0_ x0.length k0_] x0) {fuel : Nat} {r : (List Int)} (hm : m_laws_toInt64S fuel x0 = some r) :
    Calls Try.prog 24 ⟨[.slice A0_ x0.length k0_]⟩ w (Ret fun v w8 => ∃ A0 k0, v = .slice A0 r.length k0 ∧ St w w8 [Own ty35 [.slice A0 r.length k0] r]) := by
  refine Calls.into Try.func24 rfl 22 rfl rfl _ rfl ?_
  unfold m_laws_toInt64S at hm
  have hS := St.start w
  refine WP.seq ?_
  refine WP.region ?_
  refine RW.run ttok 1 rfl ?_
  refine RW.nil ?_
  refine WP.seq ?_
  refine WP.region ?_
  refine RW.run ttok 2 rfl ?_
  by_cases hk1 : decide (0 ≤ (x0.length : Int) ∧ (x0.length : Int) ≤ 4294967296) = true
  case neg => rw [if_neg hk1] at hm; cases hm
  rw [if_pos hk1] at hm
  have hz7 := of_decide_eq_true hk1
  refine RW.make (U := tInt) ttok (0 : Int) hS rfl rfl rfl rfl rfl rfl rfl rfl hz7.1 (by have := hz7.2; show _ * (8 : Int) ≤ _; omega) (by have := hz7.2; simp only [maxLen]; omega) (fun _ => ⟨rfl, rfl⟩) rfl rfl (fun A2 k3 w4 e5 hS6 => ?_)
  refine RW.run ttok 1 rfl ?_
  refine RW.nil ?_
  refine WP.seq ?_
  refine WP.seq ?_
  refine WP.region ?_
  refine RW.run ttok 1 rfl ?_
  refine RW.nil ?_
  obtain ⟨o18, hl19, hm⟩ := bind_some hm
  refine WP.cut (fun (t9 : (List Int)) F w9 => ∃ A15 k16, o18 = .inl t9 ∧ St w w9 [Own ty35 [.slice A15 t9.length k16] t9] ∧ F = [(3, .slice A15 t9.length k16)]) ?_ ?_
  · skip
    rintro t9 F w17 ⟨A15, k16, ho21, hS20, rfl⟩
    subst ho21
    have hm : m_laws_toInt64S_j1 fuel t9 = some r := hm
    unfold m_laws_toInt64S_j1 at hm
    refine WP.seq ?_
    refine WP.region ?_
    refine RW.run ttok 2 rfl ?_
    refine RW.nil ?_
    refine WP.ret ?_
    cases hm
    exact ⟨_, .cons (.tmp rfl) .nil, A15, k16, rfl, ((hS20.bring 0 rfl).taken 1)⟩
  · skip
    refine WP.block ?_
    refine WP.weak [(0, .slice A0_ x0.length k0_), (3, .slice A2 (List.replicate (x0.length : Int).toNat (0 : Int)).length k3), (4, .int .i64 0)] ⟨rfl, rfl, rfl, trivial⟩ ?_
    refine WP.iter (fun (s8 : Int × (List Int)) F w9 => ∃ A13 k14, St w w9 [Own ty35 [.slice A13 s8.2.length k14] s8.2] ∧ F = [(0, .slice A0_ x0.length k0_), (3, .slice A13 s8.2.length k14), (4, .int .i64 s8.1)]) _ hl19 ⟨A2, k3, ((hS6.bring 0 rfl).taken 1), rfl⟩ ?_
    rintro s8 F w26 _ o24 ⟨A13, k14, hS25, rfl⟩ hb22 ho23
    unfold m_laws_toInt64S_b1 at hb22
    refine WP.seq ?_
    refine WP.seq ?_
    refine WP.region ?_
    refine RW.run ttok 4 rfl ?_
    refine RW.nil ?_
    refine WP.cond (decide (s8.1 < (x0.length : Int))) rfl (fun hc => ?_) (fun hc => ?_)
    · skip
      rw [if_pos hc] at hb22
      refine WP.skip ?_
      refine WP.seq ?_
      refine WP.block ?_
      refine WP.region ?_
      refine RW.run ttok 4 rfl ?_
      obtain ⟨x27, hx28, hb22⟩ := bind_some hb22
      refine RW.idx ttok hS25.ext rfl rfl rfl rfl rfl rfl (by decide) rfl rfl h0_ (idx_some hx28).1 (idx_some hx28).2 rfl rfl (fun p29 es30 ha31 hr32 => ?_)
      cases hr32
      refine RW.load1 ttok rfl rfl rfl rfl rfl (At.ext hS25.ext ha31) 0 rfl rfl rfl rfl ?_
      have hS33 := hS25.bring 0 rfl
      by_cases hk34 : decide (0 ≤ s8.1 ∧ s8.1.toNat < s8.2.length) = true
      case neg => rw [if_neg hk34] at hb22; cases hb22
      rw [if_pos hk34] at hb22
      have hb35 := of_decide_eq_true hk34
      refine RW.idxOwn ttok hS33 rfl rfl rfl rfl rfl rfl rfl rfl hb35.1 hb35.2 rfl rfl (fun q36 hq37 => ?_)
      have hS38 := hS33.flat (T := tInt) (cs := [.int .i64 x27]) (x := x27) ⟨rfl, rfl⟩
      have hS39 := hS38.bring 1 rfl
      refine RW.storeEl ttok hS39 rfl rfl rfl rfl rfl rfl hb35.2 hq37 rfl rfl (fun w40 hS41 => ?_)
      refine RW.know (u := .slice A13 (s8.2.set s8.1.toNat x27).length k14) 3 rfl (by simp) ?_
      refine RW.know (u := .slice A13 (s8.2.set s8.1.toNat x27).length k14) 14 rfl (by simp) ?_
      refine RW.nil ?_
      refine WP.region ?_
      refine RW.run ttok 3 rfl ?_
      refine RW.nil ?_
      cases hb22
      exact ⟨_, [(0, .slice A0_ x0.length k0_), (3, .slice A13 (s8.2.set s8.1.toNat x27).length k14), (4, .int .i64 (w64 (s8.1 + 1)))], ⟨rfl, rfl, rfl, trivial⟩, rfl, A13, k14, ((hS41.bring 0 rfl).taken 1), rfl⟩
    · skip
      rw [if_neg (not_t hc)] at hb22
      refine WP.exit ?_
      cases hb22
      exact ⟨_, [(3, .slice A13 s8.2.length k14)], ⟨rfl, trivial⟩, A13, k14, ho23, ((hS25.bring 0 rfl).taken 1), rfl⟩

theorem enters93 : Enters Try.prog 93 := ⟨_, _, Try.func93, rfl, by kernel_rfl⟩
def m_laws_toDequeActor (fuel : Nat) (x0 : D.DequeActor) : Option (D.DequeActor) := ((m_laws_toInt64S fuel x0.Todo).bind fun r17 => some (⟨r17, x0.Pc, x0.T, x0.B, x0.X⟩ : D.DequeActor))

set_option maxRecDepth 100000 in
theorem laws_toDequeActor_ok {w : World} {c0_ : List Value} {x0 : D.DequeActor} (h0_ : ty105.ro w c0_ x0) {fuel : Nat} {r : D.DequeActor} (hm : m_laws_toDequeActor fuel x0 = some r) :
    Calls Try.prog 93 ⟨[.agg ⟨c0_⟩]⟩ w (Ret fun v w8 => ∃ A0 k0, v = .agg ⟨[.slice A0 r.Todo.length k0, .int .i64 r.Pc, .int .i64 r.T, .int .i64 r.B, .int .i64 r.X]⟩ ∧ St w w8 [Own ty35 [.slice A0 r.Todo.length k0] r.Todo]) := by
  obtain ⟨A1, k2, e4, h3⟩ := ty105_open h0_; subst e4
  refine Calls.into Try.func93 rfl 21 rfl rfl _ rfl ?_
  unfold m_laws_toDequeActor at hm
  have hS := St.start w
  refine WP.seq ?_
  refine WP.region ?_
  refine RW.new ttok hS rfl rfl rfl rfl (fun g5 w6 e7 hS8 => ?_)
  refine RW.new ttok hS8 rfl rfl rfl rfl (fun g9 w10 e11 hS12 => ?_)
  refine RW.nil ?_
  refine WP.seq ?_
  refine WP.region ?_
  refine RW.new ttok hS12 rfl rfl rfl rfl (fun g13 w14 e15 hS16 => ?_)
  refine RW.nil ?_
  refine WP.seq ?_
  refine WP.region ?_
  refine RW.run ttok 1 rfl ?_
  refine RW.load1 ttok rfl rfl rfl rfl rfl ((hS16.bring 2 rfl).box) 0 rfl rfl rfl rfl ?_
  obtain ⟨r17, hx18, hm⟩ := bind_some hm
  refine RW.call rfl rfl rfl enters24 (laws_toInt64S_ok (ty35.ext hS16.ext h3) hx18) (fun v19 w20 hR21 => ?_)
  obtain ⟨A22, k23, rfl, hR24⟩ := hR21
  have hS25 := hS16.join hR24
  refine RW.run ttok 1 rfl ?_
  have hS26 := hS25.bring 1 rfl
  refine RW.store ttok (A := []) hS26 rfl rfl rfl rfl rfl 0 rfl rfl rfl rfl rfl (fun w27 hS28 => ?_)
  refine RW.nil ?_
  refine WP.seq ?_
  refine WP.region ?_
  refine RW.run ttok 1 rfl ?_
  refine RW.load1 ttok rfl rfl rfl rfl rfl ((hS28.bring 3 rfl).box) 1 rfl rfl rfl rfl ?_
  refine RW.run ttok 1 rfl ?_
  have hS29 := hS28.bring 0 rfl
  refine RW.store ttok (A := []) hS29 rfl rfl rfl rfl rfl 1 rfl rfl rfl rfl rfl (fun w30 hS31 => ?_)
  refine RW.nil ?_
  refine WP.seq ?_
  refine WP.region ?_
  refine RW.run ttok 1 rfl ?_
  refine RW.load1 ttok rfl rfl rfl rfl rfl ((hS31.bring 3 rfl).box) 2 rfl rfl rfl rfl ?_
  refine RW.run ttok 1 rfl ?_
  have hS32 := hS31.bring 0 rfl
  refine RW.store ttok (A := []) hS32 rfl rfl rfl rfl rfl 2 rfl rfl rfl rfl rfl (fun w33 hS34 => ?_)
  refine RW.nil ?_
  refine WP.seq ?_
  refine WP.region ?_
  refine RW.run ttok 1 rfl ?_
  refine RW.load1 ttok rfl rfl rfl rfl rfl ((hS34.bring 3 rfl).box) 3 rfl rfl rfl rfl ?_
  refine RW.run ttok 1 rfl ?_
  have hS35 := hS34.bring 0 rfl
  refine RW.store ttok (A := []) hS35 rfl rfl rfl rfl rfl 3 rfl rfl rfl rfl rfl (fun w36 hS37 => ?_)
  refine RW.nil ?_
  refine WP.seq ?_
  refine WP.region ?_
  refine RW.run ttok 1 rfl ?_
  refine RW.load1 ttok rfl rfl rfl rfl rfl ((hS37.bring 3 rfl).box) 4 rfl rfl rfl rfl ?_
  refine RW.run ttok 1 rfl ?_
  have hS38 := hS37.bring 0 rfl
  refine RW.store ttok (A := []) hS38 rfl rfl rfl rfl rfl 4 rfl rfl rfl rfl rfl (fun w39 hS40 => ?_)
  refine RW.nil ?_
  refine WP.seq ?_
  refine WP.region ?_
  refine RW.loadN ttok rfl rfl rfl rfl rfl ((hS40.bring 0 rfl).box) rfl rfl rfl ?_
  have hS41 := hS40.bring 2 rfl
  refine RW.store ttok (A := []) hS41 rfl rfl rfl rfl rfl 0 rfl rfl rfl rfl rfl (fun w42 hS43 => ?_)
  refine RW.nil ?_
  refine WP.ret ?_
  cases hm
  exact ⟨_, .cons (ResIs.agg ttok rfl rfl rfl ((hS43.bring 0 rfl).box) rfl) .nil, A22, k23, rfl, ((hS43.bring 2 rfl).taken 1)⟩

theorem enters58 : Enters Try.prog 58 := ⟨_, _, Try.func58, rfl, by kernel_rfl⟩
def m_laws_toDequeActorS_j1 (fuel : Nat) (t9 : (List D.DequeActor)) : Option (List D.DequeActor) := some t9
def m_laws_toDequeActorS_b1 (fuel : Nat) (x0 : (List D.DequeActor)) (s8 : Int × (List D.DequeActor)) : Option (Rd (Int × (List D.DequeActor)) ((List D.DequeActor)) ((List D.DequeActor))) := (if (decide (s8.1 < (x0.length : Int))) = true then ((idx x0 s8.1).bind fun x27 => ((m_laws_toDequeActor fuel x27).bind fun r37 => (if decide (0 ≤ s8.1 ∧ s8.1.toNat < s8.2.length) = true then some (.next (w64 (s8.1 + 1), (s8.2.set s8.1.toNat r37))) else none))) else some (.brk s8.2))
def m_laws_toDequeActorS (fuel : Nat) (x0 : (List D.DequeActor)) : Option ((List D.DequeActor)) := (if decide (0 ≤ (x0.length : Int) ∧ (x0.length : Int) ≤ 4294967296) = true then ((iter (m_laws_toDequeActorS_b1 fuel x0) fuel (0, (List.replicate (x0.length : Int).toNat (⟨([] : (List Int)), (0 : Int), (0 : Int), (0 : Int), (0 : Int)⟩ : D.DequeActor)))).bind fun o => aft o (m_laws_toDequeActorS_j1 fuel)) else none)

set_option maxRecDepth 100000 in
theorem laws_toDequeActorS_ok {w : World} {A0_ : Option Addr} {k0_ : Nat} {x0 : (List D.DequeActor)} (h0_ : ty36.ro w [.slice A0_ x0.length k0_] x0) {fuel : Nat} {r : (List D.DequeActor)} (hm : m_laws_toDequeActorS fuel x0 = some r) :
    Calls Try.prog 58 ⟨[.slice A0_ x0.length k0_]⟩ w (Ret fun v w8 => ∃ A0 k0, v = .slice A0 r.length k0 ∧ St w w8 [Own ty42 [.slice A0 r.length k0] r]) := by
  refine Calls.into Try.func58 rfl 23 rfl rfl _ rfl ?_
  unfold m_laws_toDequeActorS at hm
  have hS := St.start w
  refine WP.seq ?_
  refine WP.region ?_
  refine RW.run ttok 1 rfl ?_
  refine RW.nil ?_
  refine WP.seq ?_
  refine WP.region ?_
  refine RW.run ttok 2 rfl ?_
  by_cases hk1 : decide (0 ≤ (x0.length : Int) ∧ (x0.length : Int) ≤ 4294967296) = true
  case neg => rw [if_neg hk1] at hm; cases hm
  rw [if_pos hk1] at hm
  have hz7 := of_decide_eq_true hk1
  refine RW.make (U := ty85) ttok (⟨([] : (List Int)), (0 : Int), (0 : Int), (0 : Int), (0 : Int)⟩ : D.DequeActor) hS rfl rfl rfl rfl rfl rfl rfl rfl hz7.1 (by have := hz7.2; show _ * (56 : Int) ≤ _; omega) (by have := hz7.2; simp only [maxLen]; omega) (fun _ => (ty85_ownI (c := (⟨([] : (List Int)), (0 : Int), (0 : Int), (0 : Int), (0 : Int)⟩ : D.DequeActor)) ⟨[], [], rfl, (slNilOwn tInt 2 _), rfl⟩)) rfl rfl (fun A2 k3 w4 e5 hS6 => ?_)
  refine RW.run ttok 1 rfl ?_
  refine RW.nil ?_
  refine WP.seq ?_
  refine WP.seq ?_
  refine WP.region ?_
  refine RW.run ttok 1 rfl ?_
  refine RW.nil ?_
  obtain ⟨o18, hl19, hm⟩ := bind_some hm
  refine WP.cut (fun (t9 : (List D.DequeActor)) F w9 => ∃ A15 k16, o18 = .inl t9 ∧ St w w9 [Own ty42 [.slice A15 t9.length k16] t9] ∧ F = [(3, .slice A15 t9.length k16)]) ?_ ?_
  · skip
    rintro t9 F w17 ⟨A15, k16, ho21, hS20, rfl⟩
    subst ho21
    have hm : m_laws_toDequeActorS_j1 fuel t9 = some r := hm
    unfold m_laws_toDequeActorS_j1 at hm
    refine WP.seq ?_
    refine WP.region ?_
    refine RW.run ttok 2 rfl ?_
    refine RW.nil ?_
    refine WP.ret ?_
    cases hm
    exact ⟨_, .cons (.tmp rfl) .nil, A15, k16, rfl, ((hS20.bring 0 rfl).taken 1)⟩
  · skip
    refine WP.block ?_
    refine WP.weak [(0, .slice A0_ x0.length k0_), (3, .slice A2 (List.replicate (x0.length : Int).toNat (⟨([] : (List Int)), (0 : Int), (0 : Int), (0 : Int), (0 : Int)⟩ : D.DequeActor)).length k3), (4, .int .i64 0)] ⟨rfl, rfl, rfl, trivial⟩ ?_
    refine WP.iter (fun (s8 : Int × (List D.DequeActor)) F w9 => ∃ A13 k14, St w w9 [Own ty42 [.slice A13 s8.2.length k14] s8.2] ∧ F = [(0, .slice A0_ x0.length k0_), (3, .slice A13 s8.2.length k14), (4, .int .i64 s8.1)]) _ hl19 ⟨A2, k3, ((hS6.bring 0 rfl).taken 1), rfl⟩ ?_
    rintro s8 F w26 _ o24 ⟨A13, k14, hS25, rfl⟩ hb22 ho23
    unfold m_laws_toDequeActorS_b1 at hb22
    refine WP.seq ?_
    refine WP.seq ?_
    refine WP.region ?_
    refine RW.run ttok 4 rfl ?_
    refine RW.nil ?_
    refine WP.cond (decide (s8.1 < (x0.length : Int))) rfl (fun hc => ?_) (fun hc => ?_)
    · skip
      rw [if_pos hc] at hb22
      refine WP.skip ?_
      refine WP.seq ?_
      refine WP.block ?_
      refine WP.region ?_
      refine RW.run ttok 4 rfl ?_
      obtain ⟨x27, hx28, hb22⟩ := bind_some hb22
      refine RW.idx ttok hS25.ext rfl rfl rfl rfl rfl rfl (by decide) rfl rfl h0_ (idx_some hx28).1 (idx_some hx28).2 rfl rfl (fun p29 es30 ha31 hr32 => ?_)
      obtain ⟨A33, k34, e36, h35⟩ := ty105_open hr32; subst e36
      refine RW.loadN ttok rfl rfl rfl rfl rfl (At.ext hS25.ext ha31) rfl rfl rfl ?_
      obtain ⟨r37, hx38, hb22⟩ := bind_some hb22
      refine RW.call rfl rfl rfl enters93 (laws_toDequeActor_ok (ty105.ext hS25.ext hr32) hx38) (fun v39 w40 hR41 => ?_)
      obtain ⟨A42, k43, rfl, hR44⟩ := hR41
      have hS45 := hS25.join hR44
      have hS46 := hS45.bring 1 rfl
      by_cases hk47 : decide (0 ≤ s8.1 ∧ s8.1.toNat < s8.2.length) = true
      case neg => rw [if_neg hk47] at hb22; cases hb22
      rw [if_pos hk47] at hb22
      have hb48 := of_decide_eq_true hk47
      refine RW.idxOwn ttok hS46 rfl rfl rfl rfl rfl rfl rfl rfl hb48.1 hb48.2 rfl rfl (fun q49 hq50 => ?_)
      have hS51 := hS46.bring 1 rfl
      have hS52 := ty85_shutS (c := r37) (B := _) hS51
      have hS53 := hS52.bring 1 rfl
      refine RW.storeEl ttok hS53 rfl rfl rfl rfl rfl rfl hb48.2 hq50 rfl rfl (fun w54 hS55 => ?_)
      refine RW.know (u := .slice A13 (s8.2.set s8.1.toNat r37).length k14) 3 rfl (by simp) ?_
      refine RW.know (u := .slice A13 (s8.2.set s8.1.toNat r37).length k14) 14 rfl (by simp) ?_
      refine RW.nil ?_
      refine WP.region ?_
      refine RW.run ttok 3 rfl ?_
      refine RW.nil ?_
      cases hb22
      exact ⟨_, [(0, .slice A0_ x0.length k0_), (3, .slice A13 (s8.2.set s8.1.toNat r37).length k14), (4, .int .i64 (w64 (s8.1 + 1)))], ⟨rfl, rfl, rfl, trivial⟩, rfl, A13, k14, ((hS55.bring 0 rfl).taken 1), rfl⟩
    · skip
      rw [if_neg (not_t hc)] at hb22
      refine WP.exit ?_
      cases hb22
      exact ⟨_, [(3, .slice A13 s8.2.length k14)], ⟨rfl, trivial⟩, A13, k14, ho23, ((hS25.bring 0 rfl).taken 1), rfl⟩

theorem enters94 : Enters Try.prog 94 := ⟨_, _, Try.func94, rfl, by kernel_rfl⟩
def m_laws_toHanded (fuel : Nat) (x0 : D.Handed) : Option (D.Handed) := some (⟨x0.Actor, x0.Value⟩ : D.Handed)

set_option maxRecDepth 100000 in
theorem laws_toHanded_ok {w : World} {c0_ : List Value} {x0 : D.Handed} (h0_ : ty109.ro w c0_ x0) {fuel : Nat} {r : D.Handed} (hm : m_laws_toHanded fuel x0 = some r) :
    Calls Try.prog 94 ⟨[.agg ⟨c0_⟩]⟩ w (Ret fun v w8 => v = .agg ⟨[.int .i64 r.Actor, .int .i64 r.Value]⟩ ∧ St w w8 []) := by
  have e1 := ty109_open h0_; subst e1
  refine Calls.into Try.func94 rfl 11 rfl rfl _ rfl ?_
  unfold m_laws_toHanded at hm
  have hS := St.start w
  refine WP.seq ?_
  refine WP.region ?_
  refine RW.new ttok hS rfl rfl rfl rfl (fun g2 w3 e4 hS5 => ?_)
  refine RW.new ttok hS5 rfl rfl rfl rfl (fun g6 w7 e8 hS9 => ?_)
  refine RW.nil ?_
  refine WP.seq ?_
  refine WP.region ?_
  refine RW.new ttok hS9 rfl rfl rfl rfl (fun g10 w11 e12 hS13 => ?_)
  refine RW.nil ?_
  refine WP.seq ?_
  refine WP.region ?_
  refine RW.run ttok 1 rfl ?_
  refine RW.load1 ttok rfl rfl rfl rfl rfl ((hS13.bring 2 rfl).box) 0 rfl rfl rfl rfl ?_
  refine RW.run ttok 1 rfl ?_
  have hS14 := hS13.bring 0 rfl
  refine RW.store ttok (A := []) hS14 rfl rfl rfl rfl rfl 0 rfl rfl rfl rfl rfl (fun w15 hS16 => ?_)
  refine RW.nil ?_
  refine WP.seq ?_
  refine WP.region ?_
  refine RW.run ttok 1 rfl ?_
  refine RW.load1 ttok rfl rfl rfl rfl rfl ((hS16.bring 2 rfl).box) 1 rfl rfl rfl rfl ?_
  refine RW.run ttok 1 rfl ?_
  have hS17 := hS16.bring 0 rfl
  refine RW.store ttok (A := []) hS17 rfl rfl rfl rfl rfl 1 rfl rfl rfl rfl rfl (fun w18 hS19 => ?_)
  refine RW.nil ?_
  refine WP.seq ?_
  refine WP.region ?_
  refine RW.loadN ttok rfl rfl rfl rfl rfl ((hS19.bring 0 rfl).box) rfl rfl rfl ?_
  have hS20 := hS19.bring 1 rfl
  refine RW.store ttok (A := []) hS20 rfl rfl rfl rfl rfl 0 rfl rfl rfl rfl rfl (fun w21 hS22 => ?_)
  refine RW.nil ?_
  refine WP.ret ?_
  cases hm
  exact ⟨_, .cons (ResIs.agg ttok rfl rfl rfl ((hS22.bring 0 rfl).box) rfl) .nil, rfl, (hS22.taken 0)⟩

theorem enters59 : Enters Try.prog 59 := ⟨_, _, Try.func59, rfl, by kernel_rfl⟩
def m_laws_toHandedS_j1 (fuel : Nat) (t9 : (List D.Handed)) : Option (List D.Handed) := some t9
def m_laws_toHandedS_b1 (fuel : Nat) (x0 : (List D.Handed)) (s8 : Int × (List D.Handed)) : Option (Rd (Int × (List D.Handed)) ((List D.Handed)) ((List D.Handed))) := (if (decide (s8.1 < (x0.length : Int))) = true then ((idx x0 s8.1).bind fun x27 => ((m_laws_toHanded fuel x27).bind fun r34 => (if decide (0 ≤ s8.1 ∧ s8.1.toNat < s8.2.length) = true then some (.next (w64 (s8.1 + 1), (s8.2.set s8.1.toNat r34))) else none))) else some (.brk s8.2))
def m_laws_toHandedS (fuel : Nat) (x0 : (List D.Handed)) : Option ((List D.Handed)) := (if decide (0 ≤ (x0.length : Int) ∧ (x0.length : Int) ≤ 4294967296) = true then ((iter (m_laws_toHandedS_b1 fuel x0) fuel (0, (List.replicate (x0.length : Int).toNat (⟨(0 : Int), (0 : Int)⟩ : D.Handed)))).bind fun o => aft o (m_laws_toHandedS_j1 fuel)) else none)

set_option maxRecDepth 100000 in
theorem laws_toHandedS_ok {w : World} {A0_ : Option Addr} {k0_ : Nat} {x0 : (List D.Handed)} (h0_ : ty37.ro w [.slice A0_ x0.length k0_] x0) {fuel : Nat} {r : (List D.Handed)} (hm : m_laws_toHandedS fuel x0 = some r) :
    Calls Try.prog 59 ⟨[.slice A0_ x0.length k0_]⟩ w (Ret fun v w8 => ∃ A0 k0, v = .slice A0 r.length k0 ∧ St w w8 [Own ty43 [.slice A0 r.length k0] r]) := by
  refine Calls.into Try.func59 rfl 23 rfl rfl _ rfl ?_
  unfold m_laws_toHandedS at hm
  have hS := St.start w
  refine WP.seq ?_
  refine WP.region ?_
  refine RW.run ttok 1 rfl ?_
  refine RW.nil ?_
  refine WP.seq ?_
  refine WP.region ?_
  refine RW.run ttok 2 rfl ?_
  by_cases hk1 : decide (0 ≤ (x0.length : Int) ∧ (x0.length : Int) ≤ 4294967296) = true
  case neg => rw [if_neg hk1] at hm; cases hm
  rw [if_pos hk1] at hm
  have hz7 := of_decide_eq_true hk1
  refine RW.make (U := ty82) ttok (⟨(0 : Int), (0 : Int)⟩ : D.Handed) hS rfl rfl rfl rfl rfl rfl rfl rfl hz7.1 (by have := hz7.2; show _ * (16 : Int) ≤ _; omega) (by have := hz7.2; simp only [maxLen]; omega) (fun _ => (ty82_ownI (c := (⟨(0 : Int), (0 : Int)⟩ : D.Handed)) rfl)) rfl rfl (fun A2 k3 w4 e5 hS6 => ?_)
  refine RW.run ttok 1 rfl ?_
  refine RW.nil ?_
  refine WP.seq ?_
  refine WP.seq ?_
  refine WP.region ?_
  refine RW.run ttok 1 rfl ?_
  refine RW.nil ?_
  obtain ⟨o18, hl19, hm⟩ := bind_some hm
  refine WP.cut (fun (t9 : (List D.Handed)) F w9 => ∃ A15 k16, o18 = .inl t9 ∧ St w w9 [Own ty43 [.slice A15 t9.length k16] t9] ∧ F = [(3, .slice A15 t9.length k16)]) ?_ ?_
  · skip
    rintro t9 F w17 ⟨A15, k16, ho21, hS20, rfl⟩
    subst ho21
    have hm : m_laws_toHandedS_j1 fuel t9 = some r := hm
    unfold m_laws_toHandedS_j1 at hm
    refine WP.seq ?_
    refine WP.region ?_
    refine RW.run ttok 2 rfl ?_
    refine RW.nil ?_
    refine WP.ret ?_
    cases hm
    exact ⟨_, .cons (.tmp rfl) .nil, A15, k16, rfl, ((hS20.bring 0 rfl).taken 1)⟩
  · skip
    refine WP.block ?_
    refine WP.weak [(0, .slice A0_ x0.length k0_), (3, .slice A2 (List.replicate (x0.length : Int).toNat (⟨(0 : Int), (0 : Int)⟩ : D.Handed)).length k3), (4, .int .i64 0)] ⟨rfl, rfl, rfl, trivial⟩ ?_
    refine WP.iter (fun (s8 : Int × (List D.Handed)) F w9 => ∃ A13 k14, St w w9 [Own ty43 [.slice A13 s8.2.length k14] s8.2] ∧ F = [(0, .slice A0_ x0.length k0_), (3, .slice A13 s8.2.length k14), (4, .int .i64 s8.1)]) _ hl19 ⟨A2, k3, ((hS6.bring 0 rfl).taken 1), rfl⟩ ?_
    rintro s8 F w26 _ o24 ⟨A13, k14, hS25, rfl⟩ hb22 ho23
    unfold m_laws_toHandedS_b1 at hb22
    refine WP.seq ?_
    refine WP.seq ?_
    refine WP.region ?_
    refine RW.run ttok 4 rfl ?_
    refine RW.nil ?_
    refine WP.cond (decide (s8.1 < (x0.length : Int))) rfl (fun hc => ?_) (fun hc => ?_)
    · skip
      rw [if_pos hc] at hb22
      refine WP.skip ?_
      refine WP.seq ?_
      refine WP.block ?_
      refine WP.region ?_
      refine RW.run ttok 4 rfl ?_
      obtain ⟨x27, hx28, hb22⟩ := bind_some hb22
      refine RW.idx ttok hS25.ext rfl rfl rfl rfl rfl rfl (by decide) rfl rfl h0_ (idx_some hx28).1 (idx_some hx28).2 rfl rfl (fun p29 es30 ha31 hr32 => ?_)
      have e33 := ty109_open hr32; subst e33
      refine RW.loadN ttok rfl rfl rfl rfl rfl (At.ext hS25.ext ha31) rfl rfl rfl ?_
      obtain ⟨r34, hx35, hb22⟩ := bind_some hb22
      refine RW.call rfl rfl rfl enters94 (laws_toHanded_ok (ty109.ext hS25.ext hr32) hx35) (fun v36 w37 hR38 => ?_)
      obtain ⟨rfl, hR39⟩ := hR38
      have hS40 := hS25.join hR39
      have hS41 := hS40.bring 0 rfl
      by_cases hk42 : decide (0 ≤ s8.1 ∧ s8.1.toNat < s8.2.length) = true
      case neg => rw [if_neg hk42] at hb22; cases hb22
      rw [if_pos hk42] at hb22
      have hb43 := of_decide_eq_true hk42
      refine RW.idxOwn ttok hS41 rfl rfl rfl rfl rfl rfl rfl rfl hb43.1 hb43.2 rfl rfl (fun q44 hq45 => ?_)
      have hS46 := ty82_shutS (c := r34) (B := _) hS41
      have hS47 := hS46.bring 1 rfl
      refine RW.storeEl ttok hS47 rfl rfl rfl rfl rfl rfl hb43.2 hq45 rfl rfl (fun w48 hS49 => ?_)
      refine RW.know (u := .slice A13 (s8.2.set s8.1.toNat r34).length k14) 3 rfl (by simp) ?_
      refine RW.know (u := .slice A13 (s8.2.set s8.1.toNat r34).length k14) 14 rfl (by simp) ?_
      refine RW.nil ?_
      refine WP.region ?_
      refine RW.run ttok 3 rfl ?_
      refine RW.nil ?_
      cases hb22
      exact ⟨_, [(0, .slice A0_ x0.length k0_), (3, .slice A13 (s8.2.set s8.1.toNat r34).length k14), (4, .int .i64 (w64 (s8.1 + 1)))], ⟨rfl, rfl, rfl, trivial⟩, rfl, A13, k14, ((hS49.bring 0 rfl).taken 1), rfl⟩
    · skip
      rw [if_neg (not_t hc)] at hb22
      refine WP.exit ?_
      cases hb22
      exact ⟨_, [(3, .slice A13 s8.2.length k14)], ⟨rfl, trivial⟩, A13, k14, ho23, ((hS25.bring 0 rfl).taken 1), rfl⟩

theorem enters20 : Enters Try.prog 20 := ⟨_, _, Try.func20, rfl, by kernel_rfl⟩
def m_laws_toDeque (fuel : Nat) (x0 : D.Deque) : Option (D.Deque) := ((m_laws_toInt64S fuel x0.Buffer).bind fun r32 => ((m_laws_toDequeActorS fuel x0.Actors).bind fun r44 => ((m_laws_toHandedS fuel x0.Taken).bind fun r56 => ((m_laws_toInt64S fuel x0.Refused).bind fun r68 => some (⟨x0.Top, x0.Bottom, r32, r44, r56, r68⟩ : D.Deque)))))

set_option maxRecDepth 100000 in
theorem laws_toDeque_ok {w : World} {c0_ : List Value} {x0 : D.Deque} (h0_ : ty39.ro w c0_ x0) {fuel : Nat} {r : D.Deque} (hm : m_laws_toDeque fuel x0 = some r) :
    Calls Try.prog 20 ⟨[.agg ⟨c0_⟩]⟩ w (Ret fun v w8 => ∃ A0 k0 A1 k1 A2 k2 A3 k3, v = .agg ⟨[.int .i64 r.Top, .int .i64 r.Bottom, .slice A0 r.Buffer.length k0, .slice A1 r.Actors.length k1, .slice A2 r.Taken.length k2, .slice A3 r.Refused.length k3]⟩ ∧ St w w8 [Own ty35 [.slice A0 r.Buffer.length k0] r.Buffer, Own ty42 [.slice A1 r.Actors.length k1] r.Actors, Own ty43 [.slice A2 r.Taken.length k2] r.Taken, Own ty35 [.slice A3 r.Refused.length k3] r.Refused]) := by
  obtain ⟨A1, k2, A4, k5, A7, k8, A10, k11, e13, h3, h6, h9, h12⟩ := ty39_open h0_; subst e13
  refine Calls.into Try.func20 rfl 27 rfl rfl _ rfl ?_
  unfold m_laws_toDeque at hm
  have hS := St.start w
  refine WP.seq ?_
  refine WP.region ?_
  refine RW.new ttok hS rfl rfl rfl rfl (fun g14 w15 e16 hS17 => ?_)
  refine RW.new ttok hS17 rfl rfl rfl rfl (fun g18 w19 e20 hS21 => ?_)
  refine RW.nil ?_
  refine WP.seq ?_
  refine WP.region ?_
  refine RW.new ttok hS21 rfl rfl rfl rfl (fun g22 w23 e24 hS25 => ?_)
  refine RW.nil ?_
  refine WP.seq ?_
  refine WP.region ?_
  refine RW.run ttok 1 rfl ?_
  refine RW.load1 ttok rfl rfl rfl rfl rfl ((hS25.bring 2 rfl).box) 0 rfl rfl rfl rfl ?_
  refine RW.run ttok 1 rfl ?_
  have hS26 := hS25.bring 0 rfl
  refine RW.store ttok (A := []) hS26 rfl rfl rfl rfl rfl 0 rfl rfl rfl rfl rfl (fun w27 hS28 => ?_)
  refine RW.nil ?_
  refine WP.seq ?_
  refine WP.region ?_
  refine RW.run ttok 1 rfl ?_
  refine RW.load1 ttok rfl rfl rfl rfl rfl ((hS28.bring 2 rfl).box) 1 rfl rfl rfl rfl ?_
  refine RW.run ttok 1 rfl ?_
  have hS29 := hS28.bring 0 rfl
  refine RW.store ttok (A := []) hS29 rfl rfl rfl rfl rfl 1 rfl rfl rfl rfl rfl (fun w30 hS31 => ?_)
  refine RW.nil ?_
  refine WP.seq ?_
  refine WP.region ?_
  refine RW.run ttok 1 rfl ?_
  refine RW.load1 ttok rfl rfl rfl rfl rfl ((hS31.bring 2 rfl).box) 2 rfl rfl rfl rfl ?_
  obtain ⟨r32, hx33, hm⟩ := bind_some hm
  refine RW.call rfl rfl rfl enters24 (laws_toInt64S_ok (ty35.ext hS31.ext h3) hx33) (fun v34 w35 hR36 => ?_)
  obtain ⟨A37, k38, rfl, hR39⟩ := hR36
  have hS40 := hS31.join hR39
  refine RW.run ttok 1 rfl ?_
  have hS41 := hS40.bring 1 rfl
  refine RW.store ttok (A := []) hS41 rfl rfl rfl rfl rfl 2 rfl rfl rfl rfl rfl (fun w42 hS43 => ?_)
  refine RW.nil ?_
  refine WP.seq ?_
  refine WP.region ?_
  refine RW.run ttok 1 rfl ?_
  refine RW.load1 ttok rfl rfl rfl rfl rfl ((hS43.bring 3 rfl).box) 3 rfl rfl rfl rfl ?_
  obtain ⟨r44, hx45, hm⟩ := bind_some hm
  refine RW.call rfl rfl rfl enters58 (laws_toDequeActorS_ok (ty36.ext hS43.ext h6) hx45) (fun v46 w47 hR48 => ?_)
  obtain ⟨A49, k50, rfl, hR51⟩ := hR48
  have hS52 := hS43.join hR51
  refine RW.run ttok 1 rfl ?_
  have hS53 := hS52.bring 1 rfl
  refine RW.store ttok (A := []) hS53 rfl rfl rfl rfl rfl 3 rfl rfl rfl rfl rfl (fun w54 hS55 => ?_)
  refine RW.nil ?_
  refine WP.seq ?_
  refine WP.region ?_
  refine RW.run ttok 1 rfl ?_
  refine RW.load1 ttok rfl rfl rfl rfl rfl ((hS55.bring 4 rfl).box) 4 rfl rfl rfl rfl ?_
  obtain ⟨r56, hx57, hm⟩ := bind_some hm
  refine RW.call rfl rfl rfl enters59 (laws_toHandedS_ok (ty37.ext hS55.ext h9) hx57) (fun v58 w59 hR60 => ?_)
  obtain ⟨A61, k62, rfl, hR63⟩ := hR60
  have hS64 := hS55.join hR63
  refine RW.run ttok 1 rfl ?_
  have hS65 := hS64.bring 1 rfl
  refine RW.store ttok (A := []) hS65 rfl rfl rfl rfl rfl 4 rfl rfl rfl rfl rfl (fun w66 hS67 => ?_)
  refine RW.nil ?_
  refine WP.seq ?_
  refine WP.region ?_
  refine RW.run ttok 1 rfl ?_
  refine RW.load1 ttok rfl rfl rfl rfl rfl ((hS67.bring 5 rfl).box) 5 rfl rfl rfl rfl ?_
  obtain ⟨r68, hx69, hm⟩ := bind_some hm
  refine RW.call rfl rfl rfl enters24 (laws_toInt64S_ok (ty35.ext hS67.ext h12) hx69) (fun v70 w71 hR72 => ?_)
  obtain ⟨A73, k74, rfl, hR75⟩ := hR72
  have hS76 := hS67.join hR75
  refine RW.run ttok 1 rfl ?_
  have hS77 := hS76.bring 1 rfl
  refine RW.store ttok (A := []) hS77 rfl rfl rfl rfl rfl 5 rfl rfl rfl rfl rfl (fun w78 hS79 => ?_)
  refine RW.nil ?_
  refine WP.seq ?_
  refine WP.region ?_
  refine RW.loadN ttok rfl rfl rfl rfl rfl ((hS79.bring 0 rfl).box) rfl rfl rfl ?_
  have hS80 := hS79.bring 5 rfl
  refine RW.store ttok (A := []) hS80 rfl rfl rfl rfl rfl 0 rfl rfl rfl rfl rfl (fun w81 hS82 => ?_)
  refine RW.nil ?_
  refine WP.ret ?_
  cases hm
  exact ⟨_, .cons (ResIs.agg ttok rfl rfl rfl ((hS82.bring 0 rfl).box) rfl) .nil, A37, k38, A49, k50, A61, k62, A73, k74, rfl, (((((hS82.bring 2 rfl).bring 3 rfl).bring 4 rfl).bring 5 rfl).taken 4)⟩

theorem enters92 : Enters Try.prog 92 := ⟨_, _, Try.func92, rfl, by kernel_rfl⟩
def m_spec_l00Same_j1 (fuel : Nat) (t2 : Unit) : Option Bool := some true
def m_spec_l00Same_b1 (fuel : Nat) (x0 : (List Int)) (x1 : (List Int)) (s1 : Int) : Option (Rd (Int) (Unit) (Bool)) := (if (decide (s1 < (x0.length : Int))) = true then ((idx x0 s1).bind fun x19 => ((idx x1 s1).bind fun x25 => (if (x19 != x25) = true then some (.ret false) else some (.next (w64 (s1 + 1)))))) else some (.brk ()))
def m_spec_l00Same (fuel : Nat) (x0 : (List Int)) (x1 : (List Int)) : Option (Bool) := (if ((x0.length : Int) != (x1.length : Int)) = true then some false else ((iter (m_spec_l00Same_b1 fuel x0 x1) fuel 0).bind fun o => aft o (m_spec_l00Same_j1 fuel)))

set_option maxRecDepth 100000 in
theorem spec_l00Same_ok {w : World} {A0_ : Option Addr} {k0_ : Nat} {x0 : (List Int)} {A1_ : Option Addr} {k1_ : Nat} {x1 : (List Int)} (h0_ : ty35.ro w [.slice A0_ x0.length k0_] x0) (h1_ : ty35.ro w [.slice A1_ x1.length k1_] x1) {fuel : Nat} {r : Bool} (hm : m_spec_l00Same fuel x0 x1 = some r) :
    Calls Try.prog 92 ⟨[.slice A0_ x0.length k0_, .slice A1_ x1.length k1_]⟩ w (Ret fun v w8 => v = .bool r ∧ St w w8 []) := by
  refine Calls.into Try.func92 rfl 26 rfl rfl _ rfl ?_
  unfold m_spec_l00Same at hm
  have hS := St.start w
  refine WP.seq ?_
  refine WP.region ?_
  refine RW.run ttok 1 rfl ?_
  refine RW.nil ?_
  refine WP.seq ?_
  refine WP.seq ?_
  refine WP.region ?_
  refine RW.run ttok 5 rfl ?_
  refine RW.nil ?_
  refine WP.cond ((x0.length : Int) != (x1.length : Int)) rfl (fun hc => ?_) (fun hc => ?_)
  · skip
    rw [if_pos hc] at hm
    refine WP.seq ?_
    refine WP.region ?_
    refine RW.run ttok 1 rfl ?_
    refine RW.nil ?_
    refine WP.ret ?_
    cases hm
    exact ⟨_, .cons (.tmp rfl) .nil, rfl, (hS.taken 0)⟩
  · skip
    rw [if_neg (not_t hc)] at hm
    refine WP.skip ?_
    refine WP.seq ?_
    refine WP.seq ?_
    refine WP.region ?_
    refine RW.run ttok 1 rfl ?_
    refine RW.nil ?_
    obtain ⟨o8, hl9, hm⟩ := bind_some hm
    refine WP.cut (fun (t2 : Unit) F w9 => o8 = .inl t2 ∧ Ext w w9 ∧ St w w9 [] ∧ F = []) ?_ ?_
    · skip
      rintro t2 F w7 ⟨ho11, hE6, hS10, rfl⟩
      subst ho11
      have hm : m_spec_l00Same_j1 fuel t2 = some r := hm
      unfold m_spec_l00Same_j1 at hm
      refine WP.seq ?_
      refine WP.region ?_
      refine RW.run ttok 1 rfl ?_
      refine RW.nil ?_
      refine WP.ret ?_
      cases hm
      exact ⟨_, .cons (.tmp rfl) .nil, rfl, (hS10.taken 0)⟩
    · skip
      refine WP.block ?_
      refine WP.weak [(0, .slice A0_ x0.length k0_), (1, .slice A1_ x1.length k1_), (5, .int .i64 0)] ⟨rfl, rfl, rfl, trivial⟩ ?_
      refine WP.iter (fun (s1 : Int) F w9 => Ext w w9 ∧ St w w9 [] ∧ F = [(0, .slice A0_ x0.length k0_), (1, .slice A1_ x1.length k1_), (5, .int .i64 s1)]) _ hl9 ⟨(Ext.refl _), (hS.taken 0), rfl⟩ ?_
      rintro s1 F w16 _ o14 ⟨hE5, hS15, rfl⟩ hb12 ho13
      unfold m_spec_l00Same_b1 at hb12
      refine WP.seq ?_
      refine WP.seq ?_
      refine WP.region ?_
      refine RW.run ttok 4 rfl ?_
      refine RW.nil ?_
      refine WP.cond (decide (s1 < (x0.length : Int))) rfl (fun hc => ?_) (fun hc => ?_)
      · skip
        rw [if_pos hc] at hb12
        refine WP.skip ?_
        refine WP.seq ?_
        refine WP.block ?_
        refine WP.seq ?_
        refine WP.drawnM mixed 9 (by kernel_rfl) (by kernel_rfl) [([], 511), ([], 511), ([0, 1], 508), ([2], 507), ([], 511), ([], 511), ([4, 5], 463), ([6], 447), ([3, 7], 375)] (by kernel_rfl) (fun hsk17 => ?_)
        have hS18 := hS15.step (Ext.draw _)
        refine DM.run (fuel := 5) ttok hsk17 [0, 1, 4, 5] 51 (by kernel_rfl) rfl ?_
        obtain ⟨x19, hx20, hb12⟩ := bind_some hb12
        refine DM.idx ttok hS15.ext hsk17 2 55 (by kernel_rfl) rfl (by kernel_rfl) rfl rfl rfl rfl rfl rfl (by decide) rfl rfl h0_ (idx_some hx20).1 (idx_some hx20).2 rfl rfl (fun p21 es22 ha23 hr24 => ?_)
        cases hr24
        refine DM.load1 ttok hsk17 3 63 (by kernel_rfl) rfl (by kernel_rfl) rfl rfl rfl rfl rfl (At.ext hS15.ext ha23) 0 rfl rfl rfl rfl ?_
        obtain ⟨x25, hx26, hb12⟩ := bind_some hb12
        refine DM.idx ttok hS15.ext hsk17 6 127 (by kernel_rfl) rfl (by kernel_rfl) rfl rfl rfl rfl rfl rfl (by decide) rfl rfl h1_ (idx_some hx26).1 (idx_some hx26).2 rfl rfl (fun p27 es28 ha29 hr30 => ?_)
        cases hr30
        refine DM.load1 ttok hsk17 7 255 (by kernel_rfl) rfl (by kernel_rfl) rfl rfl rfl rfl rfl (At.ext hS15.ext ha29) 0 rfl rfl rfl rfl ?_
        refine DM.run (fuel := 0) ttok hsk17 [8] 511 (by kernel_rfl) rfl ?_
        refine DM.weak [(0, .slice A0_ x0.length k0_), (1, .slice A1_ x1.length k1_), (5, .int .i64 s1), (25, .bool (x19 != x25))] ⟨rfl, rfl, rfl, rfl, trivial⟩ ?_
        refine DM.done hsk17 (by kernel_rfl) (fun _ => ?_)
        refine WP.cond (x19 != x25) rfl (fun hc => ?_) (fun hc => ?_)
        · skip
          rw [if_pos hc] at hb12
          refine WP.seq ?_
          refine WP.region ?_
          refine RW.run ttok 1 rfl ?_
          refine RW.nil ?_
          refine WP.ret ?_
          cases hb12
          cases ho13
          have hm : some _ = some _ := hm
          cases hm
          exact ⟨_, .cons (.tmp rfl) .nil, rfl, (hS18.taken 0)⟩
        · skip
          rw [if_neg (not_t hc)] at hb12
          refine WP.skip ?_
          refine WP.region ?_
          refine RW.run ttok 3 rfl ?_
          refine RW.nil ?_
          cases hb12
          exact ⟨_, [(0, .slice A0_ x0.length k0_), (1, .slice A1_ x1.length k1_), (5, .int .i64 (w64 (s1 + 1)))], ⟨rfl, rfl, rfl, trivial⟩, rfl, (hE5.trans (Ext.draw _)), (hS18.taken 0), rfl⟩
      · skip
        rw [if_neg (not_t hc)] at hb12
        refine WP.exit ?_
        cases hb12
        exact ⟨_, [], trivial, ho13, hE5, (hS15.taken 0), rfl⟩

theorem enters57 : Enters Try.prog 57 := ⟨_, _, Try.func57, rfl, by kernel_rfl⟩
def m_spec_l23Same_j3 (fuel : Nat) (t44 : Unit) : Option Bool := some true
def m_spec_l23Same_b2 (fuel : Nat) (x0 : D.Deque) (x1 : D.Deque) (s43 : Int) : Option (Rd (Int) (Unit) (Bool)) := (if (decide (s43 < (x0.Taken.length : Int))) = true then ((idx x0.Taken s43).bind fun x61 => ((idx x1.Taken s43).bind fun x68 => (if (!(((x61.Actor : Int) == x68.Actor) && (((x61.Value : Int) == x68.Value) && true))) = true then some (.ret false) else some (.next (w64 (s43 + 1)))))) else some (.brk ()))
def m_spec_l23Same_j2 (fuel : Nat) (x0 : D.Deque) (x1 : D.Deque) (t33 : Unit) : Option Bool := ((iter (m_spec_l23Same_b2 fuel x0 x1) fuel 0).bind fun o => aft o (m_spec_l23Same_j3 fuel))
def m_spec_l23Same_j4 (fuel : Nat) (s32 : Int) (t100 : Bool) : Option (Rd (Int) (Unit) (Bool)) := (if t100 = true then some (.ret false) else some (.next (w64 (s32 + 1))))
def m_spec_l23Same_b1 (fuel : Nat) (x0 : D.Deque) (x1 : D.Deque) (s32 : Int) : Option (Rd (Int) (Unit) (Bool)) := (if (decide (s32 < (x0.Actors.length : Int))) = true then ((idx x0.Actors s32).bind fun x80 => ((idx x1.Actors s32).bind fun x90 => ((m_spec_l00Same fuel x80.Todo x90.Todo).bind fun r107 => (if (!r107) = true then m_spec_l23Same_j4 fuel s32 true else (if (x80.Pc != x90.Pc) = true then m_spec_l23Same_j4 fuel s32 true else (if (x80.T != x90.T) = true then m_spec_l23Same_j4 fuel s32 true else (if (x80.B != x90.B) = true then m_spec_l23Same_j4 fuel s32 true else m_spec_l23Same_j4 fuel s32 (x80.X != x90.X)))))))) else some (.brk ()))
def m_spec_l23Same_j1 (fuel : Nat) (x0 : D.Deque) (x1 : D.Deque) (t27 : Bool) : Option Bool := (if t27 = true then some false else ((iter (m_spec_l23Same_b1 fuel x0 x1) fuel 0).bind fun o => aft o (m_spec_l23Same_j2 fuel x0 x1)))
def m_spec_l23Same (fuel : Nat) (x0 : D.Deque) (x1 : D.Deque) : Option (Bool) := (if (x0.Top != x1.Top) = true then m_spec_l23Same_j1 fuel x0 x1 true else (if (x0.Bottom != x1.Bottom) = true then m_spec_l23Same_j1 fuel x0 x1 true else ((m_spec_l00Same fuel x0.Buffer x1.Buffer).bind fun r122 => (if (!r122) = true then m_spec_l23Same_j1 fuel x0 x1 true else ((m_spec_l00Same fuel x0.Refused x1.Refused).bind fun r130 => (if (!r130) = true then m_spec_l23Same_j1 fuel x0 x1 true else (if ((x0.Actors.length : Int) != (x1.Actors.length : Int)) = true then m_spec_l23Same_j1 fuel x0 x1 true else m_spec_l23Same_j1 fuel x0 x1 ((x0.Taken.length : Int) != (x1.Taken.length : Int)))))))))

set_option maxRecDepth 100000 in
theorem spec_l23Same_ok {w : World} {p0_ : Addr} {c0_ : List Value} {x0 : D.Deque} {p1_ : Addr} {c1_ : List Value} {x1 : D.Deque} (h0_ : ty45.ro w c0_ x0) (g0_ : At w p0_ c0_) (h1_ : ty45.ro w c1_ x1) (g1_ : At w p1_ c1_) {fuel : Nat} {r : Bool} (hm : m_spec_l23Same fuel x0 x1 = some r) :
    Calls Try.prog 57 ⟨[.pointer (some p0_), .pointer (some p1_)]⟩ w (Ret fun v w8 => v = .bool r ∧ St w w8 []) := by
  obtain ⟨A1, k2, A4, k5, A7, k8, A10, k11, e13, h3, h6, h9, h12⟩ := ty45_open h0_; subst e13
  obtain ⟨A14, k15, A17, k18, A20, k21, A23, k24, e26, h16, h19, h22, h25⟩ := ty45_open h1_; subst e26
  refine Calls.into Try.func57 rfl 178 rfl rfl _ rfl ?_
  unfold m_spec_l23Same at hm
  have hS := St.start w
  refine WP.seq ?_
  refine WP.region ?_
  refine RW.run ttok 1 rfl ?_
  refine RW.nil ?_
  refine WP.seq ?_
  refine WP.seq ?_
  refine WP.cut (fun (t27 : Bool) F w9 => m_spec_l23Same_j1 fuel x0 x1 t27 = some r ∧ Ext w w9 ∧ St w w9 [] ∧ F = [(0, .pointer (some p0_)), (1, .pointer (some p1_)), (78, .bool t27)]) ?_ ?_
  · skip
    rintro t27 F w30 ⟨hm, hE28, hS29, rfl⟩
    unfold m_spec_l23Same_j1 at hm
    refine WP.cond t27 rfl (fun hc => ?_) (fun hc => ?_)
    · skip
      rw [if_pos hc] at hm
      refine WP.seq ?_
      refine WP.region ?_
      refine RW.run ttok 1 rfl ?_
      refine RW.nil ?_
      refine WP.ret ?_
      cases hm
      exact ⟨_, .cons (.tmp rfl) .nil, rfl, (hS29.taken 0)⟩
    · skip
      rw [if_neg (not_t hc)] at hm
      refine WP.skip ?_
      refine WP.seq ?_
      refine WP.seq ?_
      refine WP.region ?_
      refine RW.run ttok 1 rfl ?_
      refine RW.nil ?_
      obtain ⟨o39, hl40, hm⟩ := bind_some hm
      refine WP.cut (fun (t33 : Unit) F w9 => o39 = .inl t33 ∧ Ext w30 w9 ∧ St w w9 [] ∧ F = [(0, .pointer (some p0_)), (1, .pointer (some p1_))]) ?_ ?_
      · skip
        rintro t33 F w38 ⟨ho42, hE37, hS41, rfl⟩
        subst ho42
        have hm : m_spec_l23Same_j2 fuel x0 x1 t33 = some r := hm
        unfold m_spec_l23Same_j2 at hm
        refine WP.seq ?_
        refine WP.seq ?_
        refine WP.region ?_
        refine RW.run ttok 1 rfl ?_
        refine RW.nil ?_
        obtain ⟨o50, hl51, hm⟩ := bind_some hm
        refine WP.cut (fun (t44 : Unit) F w9 => o50 = .inl t44 ∧ Ext w38 w9 ∧ St w w9 [] ∧ F = []) ?_ ?_
        · skip
          rintro t44 F w49 ⟨ho53, hE48, hS52, rfl⟩
          subst ho53
          have hm : m_spec_l23Same_j3 fuel t44 = some r := hm
          unfold m_spec_l23Same_j3 at hm
          refine WP.seq ?_
          refine WP.region ?_
          refine RW.run ttok 1 rfl ?_
          refine RW.nil ?_
          refine WP.ret ?_
          cases hm
          exact ⟨_, .cons (.tmp rfl) .nil, rfl, (hS52.taken 0)⟩
        · skip
          refine WP.block ?_
          refine WP.weak [(0, .pointer (some p0_)), (1, .pointer (some p1_)), (8, .int .i64 0)] ⟨rfl, rfl, rfl, trivial⟩ ?_
          refine WP.iter (fun (s43 : Int) F w9 => Ext w38 w9 ∧ St w w9 [] ∧ F = [(0, .pointer (some p0_)), (1, .pointer (some p1_)), (8, .int .i64 s43)]) _ hl51 ⟨(Ext.refl _), (hS41.taken 0), rfl⟩ ?_
          rintro s43 F w58 _ o56 ⟨hE47, hS57, rfl⟩ hb54 ho55
          unfold m_spec_l23Same_b2 at hb54
          refine WP.seq ?_
          refine WP.seq ?_
          refine WP.region ?_
          refine RW.run ttok 4 rfl ?_
          refine RW.load1 ttok rfl rfl rfl rfl rfl (At.ext hS57.ext g0_) 4 rfl rfl rfl rfl ?_
          refine RW.run ttok 2 rfl ?_
          refine RW.nil ?_
          refine WP.cond (decide (s43 < (x0.Taken.length : Int))) rfl (fun hc => ?_) (fun hc => ?_)
          · skip
            rw [if_pos hc] at hb54
            refine WP.skip ?_
            refine WP.seq ?_
            refine WP.block ?_
            refine WP.seq ?_
            refine WP.drawnM mixed 15 (by kernel_rfl) (by kernel_rfl) [([], 32767), ([0], 32766), ([1], 32765), ([2], 32763), ([], 32767), ([3, 4], 32743), ([5], 32735), ([], 32767), ([7], 32639), ([8], 32511), ([9], 32255), ([], 32767), ([10, 11], 29695), ([12], 28671), ([6, 13], 24511)] (by kernel_rfl) (fun hsk59 => ?_)
            have hS60 := hS57.step (Ext.draw _)
            refine DM.run (fuel := 7) ttok hsk59 [0, 1, 2, 4, 7, 8, 9, 11] 2967 (by kernel_rfl) rfl ?_
            refine DM.weak [(0, .pointer (some p0_)), (1, .pointer (some p1_)), (8, .int .i64 s43), (165, .pointer (some (p0_.add 4))), (167, .int .i64 s43), (172, .pointer (some (p1_.add 4))), (174, .int .i64 s43)] ⟨rfl, rfl, rfl, rfl, rfl, rfl, rfl, trivial⟩ ?_
            refine DM.load1 ttok hsk59 3 2975 (by kernel_rfl) rfl (by kernel_rfl) rfl rfl rfl rfl rfl (At.ext hS57.ext g0_) 4 rfl rfl rfl rfl ?_
            obtain ⟨x61, hx62, hb54⟩ := bind_some hb54
            refine DM.idx ttok hS57.ext hsk59 5 3007 (by kernel_rfl) rfl (by kernel_rfl) rfl rfl rfl rfl rfl rfl (by decide) rfl rfl h9 (idx_some hx62).1 (idx_some hx62).2 rfl rfl (fun p63 es64 ha65 hr66 => ?_)
            have e67 := ty82_open hr66; subst e67
            refine DM.loadN ttok hsk59 6 3071 (by kernel_rfl) rfl (by kernel_rfl) rfl rfl rfl rfl rfl (At.ext hS57.ext ha65) rfl rfl rfl ?_
            refine DM.load1 ttok hsk59 10 4095 (by kernel_rfl) rfl (by kernel_rfl) rfl rfl rfl rfl rfl (At.ext hS57.ext g1_) 4 rfl rfl rfl rfl ?_
            obtain ⟨x68, hx69, hb54⟩ := bind_some hb54
            refine DM.idx ttok hS57.ext hsk59 12 8191 (by kernel_rfl) rfl (by kernel_rfl) rfl rfl rfl rfl rfl rfl (by decide) rfl rfl h22 (idx_some hx69).1 (idx_some hx69).2 rfl rfl (fun p70 es71 ha72 hr73 => ?_)
            have e74 := ty82_open hr73; subst e74
            refine DM.loadN ttok hsk59 13 16383 (by kernel_rfl) rfl (by kernel_rfl) rfl rfl rfl rfl rfl (At.ext hS57.ext ha72) rfl rfl rfl ?_
            refine DM.run (fuel := 0) ttok hsk59 [14] 32767 (by kernel_rfl) rfl ?_
            refine DM.weak [(0, .pointer (some p0_)), (1, .pointer (some p1_)), (8, .int .i64 s43), (177, .bool (!(((x61.Actor : Int) == x68.Actor) && (((x61.Value : Int) == x68.Value) && true))))] ⟨rfl, rfl, rfl, rfl, trivial⟩ ?_
            refine DM.done hsk59 (by kernel_rfl) (fun _ => ?_)
            refine WP.cond (!(((x61.Actor : Int) == x68.Actor) && (((x61.Value : Int) == x68.Value) && true))) rfl (fun hc => ?_) (fun hc => ?_)
            · skip
              rw [if_pos hc] at hb54
              refine WP.seq ?_
              refine WP.region ?_
              refine RW.run ttok 1 rfl ?_
              refine RW.nil ?_
              refine WP.ret ?_
              cases hb54
              cases ho55
              have hm : some _ = some _ := hm
              cases hm
              exact ⟨_, .cons (.tmp rfl) .nil, rfl, (hS60.taken 0)⟩
            · skip
              rw [if_neg (not_t hc)] at hb54
              refine WP.skip ?_
              refine WP.region ?_
              refine RW.run ttok 3 rfl ?_
              refine RW.nil ?_
              cases hb54
              exact ⟨_, [(0, .pointer (some p0_)), (1, .pointer (some p1_)), (8, .int .i64 (w64 (s43 + 1)))], ⟨rfl, rfl, rfl, trivial⟩, rfl, (hE47.trans (Ext.draw _)), (hS60.taken 0), rfl⟩
          · skip
            rw [if_neg (not_t hc)] at hb54
            refine WP.exit ?_
            cases hb54
            exact ⟨_, [], trivial, ho55, hE47, (hS57.taken 0), rfl⟩
      · skip
        refine WP.block ?_
        refine WP.weak [(0, .pointer (some p0_)), (1, .pointer (some p1_)), (5, .int .i64 0)] ⟨rfl, rfl, rfl, trivial⟩ ?_
        refine WP.iter (fun (s32 : Int) F w9 => Ext w30 w9 ∧ St w w9 [] ∧ F = [(0, .pointer (some p0_)), (1, .pointer (some p1_)), (5, .int .i64 s32)]) _ hl40 ⟨(Ext.refl _), (hS29.taken 0), rfl⟩ ?_
        rintro s32 F w79 _ o77 ⟨hE36, hS78, rfl⟩ hb75 ho76
        unfold m_spec_l23Same_b1 at hb75
        refine WP.seq ?_
        refine WP.seq ?_
        refine WP.region ?_
        refine RW.run ttok 4 rfl ?_
        refine RW.load1 ttok rfl rfl rfl rfl rfl (At.ext hS78.ext g0_) 3 rfl rfl rfl rfl ?_
        refine RW.run ttok 2 rfl ?_
        refine RW.nil ?_
        refine WP.cond (decide (s32 < (x0.Actors.length : Int))) rfl (fun hc => ?_) (fun hc => ?_)
        · skip
          rw [if_pos hc] at hb75
          refine WP.skip ?_
          refine WP.seq ?_
          refine WP.block ?_
          refine WP.seq ?_
          refine WP.region ?_
          refine RW.run ttok 3 rfl ?_
          refine RW.load1 ttok rfl rfl rfl rfl rfl (At.ext hS78.ext g0_) 3 rfl rfl rfl rfl ?_
          refine RW.run ttok 1 rfl ?_
          obtain ⟨x80, hx81, hb75⟩ := bind_some hb75
          refine RW.idx ttok hS78.ext rfl rfl rfl rfl rfl rfl (by decide) rfl rfl h6 (idx_some hx81).1 (idx_some hx81).2 rfl rfl (fun p82 es83 ha84 hr85 => ?_)
          obtain ⟨A86, k87, e89, h88⟩ := ty85_open hr85; subst e89
          refine RW.run ttok 1 rfl ?_
          refine RW.nil ?_
          refine WP.seq ?_
          refine WP.region ?_
          refine RW.run ttok 3 rfl ?_
          refine RW.load1 ttok rfl rfl rfl rfl rfl (At.ext hS78.ext g1_) 3 rfl rfl rfl rfl ?_
          refine RW.run ttok 1 rfl ?_
          obtain ⟨x90, hx91, hb75⟩ := bind_some hb75
          refine RW.idx ttok hS78.ext rfl rfl rfl rfl rfl rfl (by decide) rfl rfl h19 (idx_some hx91).1 (idx_some hx91).2 rfl rfl (fun p92 es93 ha94 hr95 => ?_)
          obtain ⟨A96, k97, e99, h98⟩ := ty85_open hr95; subst e99
          refine RW.run ttok 1 rfl ?_
          refine RW.nil ?_
          refine WP.seq ?_
          refine WP.cut (fun (t100 : Bool) F w9 => m_spec_l23Same_j4 fuel s32 t100 = some o77 ∧ Ext w79 w9 ∧ St w w9 [] ∧ F = [(0, .pointer (some p0_)), (1, .pointer (some p1_)), (5, .int .i64 s32), (153, .bool t100)]) ?_ ?_
          · skip
            rintro t100 F w103 ⟨hb75, hE101, hS102, rfl⟩
            unfold m_spec_l23Same_j4 at hb75
            refine WP.cond t100 rfl (fun hc => ?_) (fun hc => ?_)
            · skip
              rw [if_pos hc] at hb75
              refine WP.seq ?_
              refine WP.region ?_
              refine RW.run ttok 1 rfl ?_
              refine RW.nil ?_
              refine WP.ret ?_
              cases hb75
              cases ho76
              have hm : some _ = some _ := hm
              cases hm
              exact ⟨_, .cons (.tmp rfl) .nil, rfl, (hS102.taken 0)⟩
            · skip
              rw [if_neg (not_t hc)] at hb75
              refine WP.skip ?_
              refine WP.region ?_
              refine RW.run ttok 3 rfl ?_
              refine RW.nil ?_
              cases hb75
              exact ⟨_, [(0, .pointer (some p0_)), (1, .pointer (some p1_)), (5, .int .i64 (w64 (s32 + 1)))], ⟨rfl, rfl, rfl, trivial⟩, rfl, (hE36.trans hE101), (hS102.taken 0), rfl⟩
          · skip
            refine WP.drawnM mixed 54 (by kernel_rfl) (by kernel_rfl) [([], 18014398509481983), ([0], 18014398509481982), ([1], 18014398509481981), ([2], 18014398509481979), ([], 18014398509481983), ([4], 18014398509481967), ([5], 18014398509481951), ([6], 18014398509481919), ([3, 7], 18014398509481847), ([8], 18014398509481727), ([9, 8], 18014398509481471), ([10], 18014398509480959), ([11, 10], 18014398509478911), ([12, 10], 18014398509476863), ([13, 10], 18014398509472767), ([10], 18014398509480959), ([15, 10], 18014398509448191), ([16, 10], 18014398509415423), ([17, 10], 18014398509349887), ([14, 18, 10], 18014398509202431), ([10, 19], 18014398508956671), ([20, 10], 18014398508433407), ([21], 18014398507384831), ([22, 21], 18014398503190527), ([23, 21], 18014398498996223), ([24, 21], 18014398490607615), ([21], 18014398507384831), ([26, 21], 18014398440275967), ([27, 21], 18014398373167103), ([28, 21], 18014398238949375), ([25, 29, 21], 18014397936959487), ([21, 30], 18014397433643007), ([31, 21], 18014396361998335), ([32], 18014394214514687), ([33, 32], 18014385624580095), ([34, 32], 18014377034645503), ([35, 32], 18014359854776319), ([32], 18014394214514687), ([37, 32], 18014256775561215), ([38, 32], 18014119336607743), ([39, 32], 18013844458700799), ([36, 40, 32], 18013225983410175), ([32, 41], 18012195191259135), ([42, 32], 18010000462970879), ([43], 18005602416459775), ([44, 43], 17988010230415359), ([45, 43], 17970418044370943), ([46, 43], 17935233672282111), ([43], 18005602416459775), ([48, 43], 17724127439749119), ([49, 43], 17442652463038463), ([50, 43], 16879702509617151), ([47, 51, 43], 15613065114419199), ([43, 52], 13502002789089279)] (by kernel_rfl) (fun hsk105 => ?_)
            have hS106 := hS78.step (Ext.draw _)
            refine DM.run (fuel := 48) ttok hsk105 [0, 1, 2, 4, 5, 6] 119 (by kernel_rfl) rfl ?_
            refine DM.weak [(0, .pointer (some p0_)), (1, .pointer (some p1_)), (5, .int .i64 s32), (6, .pointer (some p82)), (7, .pointer (some p92)), (102, .pointer (some p82)), (106, .pointer (some p92))] ⟨rfl, rfl, rfl, rfl, rfl, rfl, rfl, trivial⟩ ?_
            refine DM.load1 ttok hsk105 3 127 (by kernel_rfl) rfl (by kernel_rfl) rfl rfl rfl rfl rfl (At.ext hS78.ext ha84) 0 rfl rfl rfl rfl ?_
            refine DM.load1 ttok hsk105 7 255 (by kernel_rfl) rfl (by kernel_rfl) rfl rfl rfl rfl rfl (At.ext hS78.ext ha94) 0 rfl rfl rfl rfl ?_
            obtain ⟨r107, hx108, hb75⟩ := bind_some hb75
            refine DM.one hsk105 8 (by kernel_rfl) (LM.call hsk105 511 (by kernel_rfl) rfl rfl rfl rfl enters92 (spec_l00Same_ok (ty35.ext hS106.ext h88) (ty35.ext hS106.ext h98) hx108) (fun v109 w110 hR111 => ?_))
            obtain ⟨rfl, hR112⟩ := hR111
            refine ⟨hR112.ext, ?_⟩
            have hS113 := hS106.join hR112
            refine DM.run (fuel := 43) ttok hsk105 [9, 10] 2047 (by kernel_rfl) rfl ?_
            refine DM.weak [(0, .pointer (some p0_)), (1, .pointer (some p1_)), (5, .int .i64 s32), (6, .pointer (some p82)), (7, .pointer (some p92)), (110, .bool (!r107))] ⟨rfl, rfl, rfl, rfl, rfl, rfl, trivial⟩ ?_
            by_cases hg114 : (!r107) = true
            · skip
              rw [if_pos hg114] at hb75
              refine DM.know 110 rfl (congrArg Value.bool hg114) ?_
              refine DM.run (fuel := 0) ttok hsk105 [11, 12, 13, 14, 15, 16, 17, 18, 19, 20, 21, 22, 23, 24, 25, 26, 27, 28, 29, 30, 31, 32, 33, 34, 35, 36, 37, 38, 39, 40, 41, 42, 43, 44, 45, 46, 47, 48, 49, 50, 51, 52, 53] 18014398509481983 (by kernel_rfl) rfl ?_
              refine DM.weak [(0, .pointer (some p0_)), (1, .pointer (some p1_)), (5, .int .i64 s32), (153, .bool true)] ⟨rfl, rfl, rfl, rfl, trivial⟩ ?_
              refine DM.done hsk105 (by kernel_rfl) (fun _ => ?_)
              exact ⟨true, [(0, .pointer (some p0_)), (1, .pointer (some p1_)), (5, .int .i64 s32), (153, .bool true)], ⟨rfl, rfl, rfl, rfl, trivial⟩, hb75, ((Ext.draw _).trans hR112.ext), (hS113.taken 0), rfl⟩
            · skip
              rw [if_neg hg114] at hb75
              refine DM.know 110 rfl (congrArg Value.bool (Bool.eq_false_iff.2 hg114)) ?_
              refine DM.run (fuel := 37) ttok hsk105 [11, 12, 13, 15, 16, 17] 245759 (by kernel_rfl) rfl ?_
              refine DM.load1 ttok hsk105 14 262143 (by kernel_rfl) rfl (by kernel_rfl) rfl rfl rfl rfl rfl (At.ext hS78.ext ha84) 1 rfl rfl rfl rfl ?_
              refine DM.load1 ttok hsk105 18 524287 (by kernel_rfl) rfl (by kernel_rfl) rfl rfl rfl rfl rfl (At.ext hS78.ext ha94) 1 rfl rfl rfl rfl ?_
              refine DM.run (fuel := 32) ttok hsk105 [19, 20, 21] 4194303 (by kernel_rfl) rfl ?_
              refine DM.weak [(0, .pointer (some p0_)), (1, .pointer (some p1_)), (5, .int .i64 s32), (6, .pointer (some p82)), (7, .pointer (some p92)), (121, .bool (x80.Pc != x90.Pc))] ⟨rfl, rfl, rfl, rfl, rfl, rfl, trivial⟩ ?_
              by_cases hg115 : (x80.Pc != x90.Pc) = true
              · skip
                rw [if_pos hg115] at hb75
                refine DM.know 121 rfl (congrArg Value.bool hg115) ?_
                refine DM.run (fuel := 0) ttok hsk105 [22, 23, 24, 25, 26, 27, 28, 29, 30, 31, 32, 33, 34, 35, 36, 37, 38, 39, 40, 41, 42, 43, 44, 45, 46, 47, 48, 49, 50, 51, 52, 53] 18014398509481983 (by kernel_rfl) rfl ?_
                refine DM.weak [(0, .pointer (some p0_)), (1, .pointer (some p1_)), (5, .int .i64 s32), (153, .bool true)] ⟨rfl, rfl, rfl, rfl, trivial⟩ ?_
                refine DM.done hsk105 (by kernel_rfl) (fun _ => ?_)
                exact ⟨true, [(0, .pointer (some p0_)), (1, .pointer (some p1_)), (5, .int .i64 s32), (153, .bool true)], ⟨rfl, rfl, rfl, rfl, trivial⟩, hb75, ((Ext.draw _).trans hR112.ext), (hS113.taken 0), rfl⟩
              · skip
                rw [if_neg hg115] at hb75
                refine DM.know 121 rfl (congrArg Value.bool (Bool.eq_false_iff.2 hg115)) ?_
                refine DM.run (fuel := 26) ttok hsk105 [22, 23, 24, 26, 27, 28] 503316479 (by kernel_rfl) rfl ?_
                refine DM.load1 ttok hsk105 25 536870911 (by kernel_rfl) rfl (by kernel_rfl) rfl rfl rfl rfl rfl (At.ext hS78.ext ha84) 2 rfl rfl rfl rfl ?_
                refine DM.load1 ttok hsk105 29 1073741823 (by kernel_rfl) rfl (by kernel_rfl) rfl rfl rfl rfl rfl (At.ext hS78.ext ha94) 2 rfl rfl rfl rfl ?_
                refine DM.run (fuel := 21) ttok hsk105 [30, 31, 32] 8589934591 (by kernel_rfl) rfl ?_
                refine DM.weak [(0, .pointer (some p0_)), (1, .pointer (some p1_)), (5, .int .i64 s32), (6, .pointer (some p82)), (7, .pointer (some p92)), (132, .bool (x80.T != x90.T))] ⟨rfl, rfl, rfl, rfl, rfl, rfl, trivial⟩ ?_
                by_cases hg116 : (x80.T != x90.T) = true
                · skip
                  rw [if_pos hg116] at hb75
                  refine DM.know 132 rfl (congrArg Value.bool hg116) ?_
                  refine DM.run (fuel := 0) ttok hsk105 [33, 34, 35, 36, 37, 38, 39, 40, 41, 42, 43, 44, 45, 46, 47, 48, 49, 50, 51, 52, 53] 18014398509481983 (by kernel_rfl) rfl ?_
                  refine DM.weak [(0, .pointer (some p0_)), (1, .pointer (some p1_)), (5, .int .i64 s32), (153, .bool true)] ⟨rfl, rfl, rfl, rfl, trivial⟩ ?_
                  refine DM.done hsk105 (by kernel_rfl) (fun _ => ?_)
                  exact ⟨true, [(0, .pointer (some p0_)), (1, .pointer (some p1_)), (5, .int .i64 s32), (153, .bool true)], ⟨rfl, rfl, rfl, rfl, trivial⟩, hb75, ((Ext.draw _).trans hR112.ext), (hS113.taken 0), rfl⟩
                · skip
                  rw [if_neg hg116] at hb75
                  refine DM.know 132 rfl (congrArg Value.bool (Bool.eq_false_iff.2 hg116)) ?_
                  refine DM.run (fuel := 15) ttok hsk105 [33, 34, 35, 37, 38, 39] 1030792151039 (by kernel_rfl) rfl ?_
                  refine DM.load1 ttok hsk105 36 1099511627775 (by kernel_rfl) rfl (by kernel_rfl) rfl rfl rfl rfl rfl (At.ext hS78.ext ha84) 3 rfl rfl rfl rfl ?_
                  refine DM.load1 ttok hsk105 40 2199023255551 (by kernel_rfl) rfl (by kernel_rfl) rfl rfl rfl rfl rfl (At.ext hS78.ext ha94) 3 rfl rfl rfl rfl ?_
                  refine DM.run (fuel := 10) ttok hsk105 [41, 42, 43] 17592186044415 (by kernel_rfl) rfl ?_
                  refine DM.weak [(0, .pointer (some p0_)), (1, .pointer (some p1_)), (5, .int .i64 s32), (6, .pointer (some p82)), (7, .pointer (some p92)), (143, .bool (x80.B != x90.B))] ⟨rfl, rfl, rfl, rfl, rfl, rfl, trivial⟩ ?_
                  by_cases hg117 : (x80.B != x90.B) = true
                  · skip
                    rw [if_pos hg117] at hb75
                    refine DM.know 143 rfl (congrArg Value.bool hg117) ?_
                    refine DM.run (fuel := 0) ttok hsk105 [44, 45, 46, 47, 48, 49, 50, 51, 52, 53] 18014398509481983 (by kernel_rfl) rfl ?_
                    refine DM.weak [(0, .pointer (some p0_)), (1, .pointer (some p1_)), (5, .int .i64 s32), (153, .bool true)] ⟨rfl, rfl, rfl, rfl, trivial⟩ ?_
                    refine DM.done hsk105 (by kernel_rfl) (fun _ => ?_)
                    exact ⟨true, [(0, .pointer (some p0_)), (1, .pointer (some p1_)), (5, .int .i64 s32), (153, .bool true)], ⟨rfl, rfl, rfl, rfl, trivial⟩, hb75, ((Ext.draw _).trans hR112.ext), (hS113.taken 0), rfl⟩
                  · skip
                    rw [if_neg hg117] at hb75
                    refine DM.know 143 rfl (congrArg Value.bool (Bool.eq_false_iff.2 hg117)) ?_
                    refine DM.run (fuel := 4) ttok hsk105 [44, 45, 46, 48, 49, 50] 2111062325329919 (by kernel_rfl) rfl ?_
                    refine DM.weak [(0, .pointer (some p0_)), (1, .pointer (some p1_)), (5, .int .i64 s32), (143, .bool false), (146, .pointer (some (p82.add 4))), (150, .pointer (some (p92.add 4)))] ⟨rfl, rfl, rfl, rfl, rfl, rfl, trivial⟩ ?_
                    refine DM.load1 ttok hsk105 47 2251799813685247 (by kernel_rfl) rfl (by kernel_rfl) rfl rfl rfl rfl rfl (At.ext hS78.ext ha84) 4 rfl rfl rfl rfl ?_
                    refine DM.load1 ttok hsk105 51 4503599627370495 (by kernel_rfl) rfl (by kernel_rfl) rfl rfl rfl rfl rfl (At.ext hS78.ext ha94) 4 rfl rfl rfl rfl ?_
                    refine DM.run (fuel := 0) ttok hsk105 [52, 53] 18014398509481983 (by kernel_rfl) rfl ?_
                    refine DM.weak [(0, .pointer (some p0_)), (1, .pointer (some p1_)), (5, .int .i64 s32), (153, .bool (x80.X != x90.X))] ⟨rfl, rfl, rfl, rfl, trivial⟩ ?_
                    refine DM.done hsk105 (by kernel_rfl) (fun _ => ?_)
                    exact ⟨(x80.X != x90.X), [(0, .pointer (some p0_)), (1, .pointer (some p1_)), (5, .int .i64 s32), (153, .bool (x80.X != x90.X))], ⟨rfl, rfl, rfl, rfl, trivial⟩, hb75, ((Ext.draw _).trans hR112.ext), (hS113.taken 0), rfl⟩
        · skip
          rw [if_neg (not_t hc)] at hb75
          refine WP.exit ?_
          cases hb75
          exact ⟨_, [(0, .pointer (some p0_)), (1, .pointer (some p1_))], ⟨rfl, rfl, trivial⟩, ho76, hE36, (hS78.taken 0), rfl⟩
  · skip
    refine WP.drawnM mixed 70 (by kernel_rfl) (by kernel_rfl) [([], 1180591620717411303423), ([0], 1180591620717411303422), ([1], 1180591620717411303421), ([2], 1180591620717411303419), ([], 1180591620717411303423), ([4], 1180591620717411303407), ([5], 1180591620717411303391), ([6], 1180591620717411303359), ([3, 7], 1180591620717411303287), ([8], 1180591620717411303167), ([9], 1180591620717411302911), ([10, 9], 1180591620717411301887), ([11, 9], 1180591620717411300863), ([12, 9], 1180591620717411298815), ([9], 1180591620717411302911), ([14, 9], 1180591620717411286527), ([15, 9], 1180591620717411270143), ([16, 9], 1180591620717411237375), ([13, 17, 9], 1180591620717411163647), ([9, 18], 1180591620717411040767), ([19, 9], 1180591620717410779135), ([20], 1180591620717410254847), ([21, 20], 1180591620717408157695), ([22, 20], 1180591620717406060543), ([23, 20], 1180591620717401866239), ([20], 1180591620717410254847), ([25, 20], 1180591620717376700415), ([26, 20], 1180591620717343145983), ([27, 20], 1180591620717276037119), ([24, 28, 20, 20], 1180591620717125042175), ([29, 20], 1180591620716873383935), ([20, 30], 1180591620716336513023), ([31, 29], 1180591620715263819775), ([32], 1180591620713116336127), ([33, 32], 1180591620704526401535), ([34, 32], 1180591620695936466943), ([35, 32], 1180591620678756597759), ([32], 1180591620713116336127), ([37, 32], 1180591620575677382655), ([38, 32], 1180591620438238429183), ([39, 32], 1180591620163360522239), ([36, 40, 32, 32], 1180591619544885231615), ([41, 32], 1180591618514093080575), ([32, 42], 1180591616315069825023), ([43, 41], 1180591611921318281215), ([44], 1180591603125225259007), ([45, 44], 1180591567940853170175), ([46, 44], 1180591532756481081343), ([47, 44], 1180591462387736903679), ([48, 44], 1180591321650248548351), ([44], 1180591603125225259007), ([50, 44], 1180590477225318416383), ([51, 44], 1180589351325411573759), ([52, 44], 1180587099525597888511), ([53, 44], 1180582595925970518015), ([49, 54, 44], 1180573025776762355711), ([44, 55], 1180555574328206295039), ([56, 44], 1180519563123373375487), ([57], 1180447505529335447551), ([58, 57], 1180159275153183735807), ([59, 57], 1179871044777032024063), ([60, 57], 1179294584024728600575), ([61, 57], 1178141662520121753599), ([57], 1180447505529335447551), ([63, 57], 1171224133492480671743), ([64, 57], 1162000761455625895935), ([65, 57], 1143554017381916344319), ([66, 57], 1106660529234497241087), ([62, 67, 57], 1028261866921231646719), ([57, 68], 885299600349982621695)] (by kernel_rfl) (fun hsk118 => ?_)
    have hS119 := hS.step (Ext.draw _)
    refine DM.run (fuel := 64) ttok hsk118 [0, 1, 2, 4, 5, 6] 119 (by kernel_rfl) rfl ?_
    refine DM.load1 ttok hsk118 3 127 (by kernel_rfl) rfl (by kernel_rfl) rfl rfl rfl rfl rfl (At.ext hS.ext g0_) 0 rfl rfl rfl rfl ?_
    refine DM.load1 ttok hsk118 7 255 (by kernel_rfl) rfl (by kernel_rfl) rfl rfl rfl rfl rfl (At.ext hS.ext g1_) 0 rfl rfl rfl rfl ?_
    refine DM.run (fuel := 60) ttok hsk118 [8, 9] 1023 (by kernel_rfl) rfl ?_
    refine DM.weak [(0, .pointer (some p0_)), (1, .pointer (some p1_)), (18, .bool (x0.Top != x1.Top))] ⟨rfl, rfl, rfl, trivial⟩ ?_
    by_cases hg120 : (x0.Top != x1.Top) = true
    · skip
      rw [if_pos hg120] at hm
      refine DM.know 18 rfl (congrArg Value.bool hg120) ?_
      refine DM.run (fuel := 0) ttok hsk118 [10, 11, 12, 13, 14, 15, 16, 17, 18, 19, 20, 21, 22, 23, 24, 25, 26, 27, 28, 29, 30, 31, 32, 33, 34, 35, 36, 37, 38, 39, 40, 41, 42, 43, 44, 45, 46, 47, 48, 49, 50, 51, 52, 53, 54, 55, 56, 57, 58, 59, 60, 61, 62, 63, 64, 65, 66, 67, 68, 69] 1180591620717411303423 (by kernel_rfl) rfl ?_
      refine DM.weak [(0, .pointer (some p0_)), (1, .pointer (some p1_)), (78, .bool true)] ⟨rfl, rfl, rfl, trivial⟩ ?_
      refine DM.done hsk118 (by kernel_rfl) (fun _ => ?_)
      exact ⟨true, [(0, .pointer (some p0_)), (1, .pointer (some p1_)), (78, .bool true)], ⟨rfl, rfl, rfl, trivial⟩, hm, (Ext.draw _), (hS119.taken 0), rfl⟩
    · skip
      rw [if_neg hg120] at hm
      refine DM.know 18 rfl (congrArg Value.bool (Bool.eq_false_iff.2 hg120)) ?_
      refine DM.run (fuel := 54) ttok hsk118 [10, 11, 12, 14, 15, 16] 122879 (by kernel_rfl) rfl ?_
      refine DM.load1 ttok hsk118 13 131071 (by kernel_rfl) rfl (by kernel_rfl) rfl rfl rfl rfl rfl (At.ext hS.ext g0_) 1 rfl rfl rfl rfl ?_
      refine DM.load1 ttok hsk118 17 262143 (by kernel_rfl) rfl (by kernel_rfl) rfl rfl rfl rfl rfl (At.ext hS.ext g1_) 1 rfl rfl rfl rfl ?_
      refine DM.run (fuel := 49) ttok hsk118 [18, 19, 20] 2097151 (by kernel_rfl) rfl ?_
      refine DM.weak [(0, .pointer (some p0_)), (1, .pointer (some p1_)), (29, .bool (x0.Bottom != x1.Bottom))] ⟨rfl, rfl, rfl, trivial⟩ ?_
      by_cases hg121 : (x0.Bottom != x1.Bottom) = true
      · skip
        rw [if_pos hg121] at hm
        refine DM.know 29 rfl (congrArg Value.bool hg121) ?_
        refine DM.run (fuel := 0) ttok hsk118 [21, 22, 23, 24, 25, 26, 27, 28, 29, 30, 31, 32, 33, 34, 35, 36, 37, 38, 39, 40, 41, 42, 43, 44, 45, 46, 47, 48, 49, 50, 51, 52, 53, 54, 55, 56, 57, 58, 59, 60, 61, 62, 63, 64, 65, 66, 67, 68, 69] 1180591620717411303423 (by kernel_rfl) rfl ?_
        refine DM.weak [(0, .pointer (some p0_)), (1, .pointer (some p1_)), (78, .bool true)] ⟨rfl, rfl, rfl, trivial⟩ ?_
        refine DM.done hsk118 (by kernel_rfl) (fun _ => ?_)
        exact ⟨true, [(0, .pointer (some p0_)), (1, .pointer (some p1_)), (78, .bool true)], ⟨rfl, rfl, rfl, trivial⟩, hm, (Ext.draw _), (hS119.taken 0), rfl⟩
      · skip
        rw [if_neg hg121] at hm
        refine DM.know 29 rfl (congrArg Value.bool (Bool.eq_false_iff.2 hg121)) ?_
        refine DM.run (fuel := 43) ttok hsk118 [21, 22, 23, 25, 26, 27] 251658239 (by kernel_rfl) rfl ?_
        refine DM.load1 ttok hsk118 24 268435455 (by kernel_rfl) rfl (by kernel_rfl) rfl rfl rfl rfl rfl (At.ext hS.ext g0_) 2 rfl rfl rfl rfl ?_
        refine DM.load1 ttok hsk118 28 536870911 (by kernel_rfl) rfl (by kernel_rfl) rfl rfl rfl rfl rfl (At.ext hS.ext g1_) 2 rfl rfl rfl rfl ?_
        obtain ⟨r122, hx123, hm⟩ := bind_some hm
        refine DM.one hsk118 29 (by kernel_rfl) (LM.call hsk118 1073741823 (by kernel_rfl) rfl rfl rfl rfl enters92 (spec_l00Same_ok (ty35.ext hS119.ext h3) (ty35.ext hS119.ext h16) hx123) (fun v124 w125 hR126 => ?_))
        obtain ⟨rfl, hR127⟩ := hR126
        refine ⟨hR127.ext, ?_⟩
        have hS128 := hS119.join hR127
        refine DM.run (fuel := 37) ttok hsk118 [30, 31, 32] 8589934591 (by kernel_rfl) rfl ?_
        refine DM.weak [(0, .pointer (some p0_)), (1, .pointer (some p1_)), (41, .bool (!r122))] ⟨rfl, rfl, rfl, trivial⟩ ?_
        by_cases hg129 : (!r122) = true
        · skip
          rw [if_pos hg129] at hm
          refine DM.know 41 rfl (congrArg Value.bool hg129) ?_
          refine DM.run (fuel := 0) ttok hsk118 [33, 34, 35, 36, 37, 38, 39, 40, 41, 42, 43, 44, 45, 46, 47, 48, 49, 50, 51, 52, 53, 54, 55, 56, 57, 58, 59, 60, 61, 62, 63, 64, 65, 66, 67, 68, 69] 1180591620717411303423 (by kernel_rfl) rfl ?_
          refine DM.weak [(0, .pointer (some p0_)), (1, .pointer (some p1_)), (78, .bool true)] ⟨rfl, rfl, rfl, trivial⟩ ?_
          refine DM.done hsk118 (by kernel_rfl) (fun _ => ?_)
          exact ⟨true, [(0, .pointer (some p0_)), (1, .pointer (some p1_)), (78, .bool true)], ⟨rfl, rfl, rfl, trivial⟩, hm, ((Ext.draw _).trans hR127.ext), (hS128.taken 0), rfl⟩
        · skip
          rw [if_neg hg129] at hm
          refine DM.know 41 rfl (congrArg Value.bool (Bool.eq_false_iff.2 hg129)) ?_
          refine DM.run (fuel := 31) ttok hsk118 [33, 34, 35, 37, 38, 39] 1030792151039 (by kernel_rfl) rfl ?_
          refine DM.load1 ttok hsk118 36 1099511627775 (by kernel_rfl) rfl (by kernel_rfl) rfl rfl rfl rfl rfl (At.ext hS.ext g0_) 5 rfl rfl rfl rfl ?_
          refine DM.load1 ttok hsk118 40 2199023255551 (by kernel_rfl) rfl (by kernel_rfl) rfl rfl rfl rfl rfl (At.ext hS.ext g1_) 5 rfl rfl rfl rfl ?_
          obtain ⟨r130, hx131, hm⟩ := bind_some hm
          refine DM.one hsk118 41 (by kernel_rfl) (LM.call hsk118 4398046511103 (by kernel_rfl) rfl rfl rfl rfl enters92 (spec_l00Same_ok (ty35.ext hS128.ext h12) (ty35.ext hS128.ext h25) hx131) (fun v132 w133 hR134 => ?_))
          obtain ⟨rfl, hR135⟩ := hR134
          refine ⟨hR135.ext, ?_⟩
          have hS136 := hS128.join hR135
          refine DM.run (fuel := 25) ttok hsk118 [42, 43, 44] 35184372088831 (by kernel_rfl) rfl ?_
          refine DM.weak [(0, .pointer (some p0_)), (1, .pointer (some p1_)), (53, .bool (!r130))] ⟨rfl, rfl, rfl, trivial⟩ ?_
          by_cases hg137 : (!r130) = true
          · skip
            rw [if_pos hg137] at hm
            refine DM.know 53 rfl (congrArg Value.bool hg137) ?_
            refine DM.run (fuel := 0) ttok hsk118 [45, 46, 47, 48, 49, 50, 51, 52, 53, 54, 55, 56, 57, 58, 59, 60, 61, 62, 63, 64, 65, 66, 67, 68, 69] 1180591620717411303423 (by kernel_rfl) rfl ?_
            refine DM.weak [(0, .pointer (some p0_)), (1, .pointer (some p1_)), (78, .bool true)] ⟨rfl, rfl, rfl, trivial⟩ ?_
            refine DM.done hsk118 (by kernel_rfl) (fun _ => ?_)
            exact ⟨true, [(0, .pointer (some p0_)), (1, .pointer (some p1_)), (78, .bool true)], ⟨rfl, rfl, rfl, trivial⟩, hm, (((Ext.draw _).trans hR127.ext).trans hR135.ext), (hS136.taken 0), rfl⟩
          · skip
            rw [if_neg hg137] at hm
            refine DM.know 53 rfl (congrArg Value.bool (Bool.eq_false_iff.2 hg137)) ?_
            refine DM.run (fuel := 19) ttok hsk118 [45, 46, 47, 50, 51, 52] 8162774324609023 (by kernel_rfl) rfl ?_
            refine DM.load1 ttok hsk118 48 8444249301319679 (by kernel_rfl) rfl (by kernel_rfl) rfl rfl rfl rfl rfl (At.ext hS.ext g0_) 3 rfl rfl rfl rfl ?_
            refine DM.run (fuel := 17) ttok hsk118 [49] 9007199254740991 (by kernel_rfl) rfl ?_
            refine DM.weak [(0, .pointer (some p0_)), (1, .pointer (some p1_)), (53, .bool false), (58, .int .i64 (x0.Actors.length : Int)), (61, .pointer (some (p1_.add 3)))] ⟨rfl, rfl, rfl, rfl, rfl, trivial⟩ ?_
            refine DM.load1 ttok hsk118 53 18014398509481983 (by kernel_rfl) rfl (by kernel_rfl) rfl rfl rfl rfl rfl (At.ext hS.ext g1_) 3 rfl rfl rfl rfl ?_
            refine DM.run (fuel := 12) ttok hsk118 [54, 55, 56, 57] 288230376151711743 (by kernel_rfl) rfl ?_
            refine DM.weak [(0, .pointer (some p0_)), (1, .pointer (some p1_)), (66, .bool ((x0.Actors.length : Int) != (x1.Actors.length : Int)))] ⟨rfl, rfl, rfl, trivial⟩ ?_
            by_cases hg138 : ((x0.Actors.length : Int) != (x1.Actors.length : Int)) = true
            · skip
              rw [if_pos hg138] at hm
              refine DM.know 66 rfl (congrArg Value.bool hg138) ?_
              refine DM.run (fuel := 0) ttok hsk118 [58, 59, 60, 61, 62, 63, 64, 65, 66, 67, 68, 69] 1180591620717411303423 (by kernel_rfl) rfl ?_
              refine DM.weak [(0, .pointer (some p0_)), (1, .pointer (some p1_)), (78, .bool true)] ⟨rfl, rfl, rfl, trivial⟩ ?_
              refine DM.done hsk118 (by kernel_rfl) (fun _ => ?_)
              exact ⟨true, [(0, .pointer (some p0_)), (1, .pointer (some p1_)), (78, .bool true)], ⟨rfl, rfl, rfl, trivial⟩, hm, (((Ext.draw _).trans hR127.ext).trans hR135.ext), (hS136.taken 0), rfl⟩
            · skip
              rw [if_neg hg138] at hm
              refine DM.know 66 rfl (congrArg Value.bool (Bool.eq_false_iff.2 hg138)) ?_
              refine DM.run (fuel := 6) ttok hsk118 [58, 59, 60, 63, 64, 65] 66869447267197124607 (by kernel_rfl) rfl ?_
              refine DM.load1 ttok hsk118 61 69175290276410818559 (by kernel_rfl) rfl (by kernel_rfl) rfl rfl rfl rfl rfl (At.ext hS.ext g0_) 4 rfl rfl rfl rfl ?_
              refine DM.run (fuel := 4) ttok hsk118 [62] 73786976294838206463 (by kernel_rfl) rfl ?_
              refine DM.weak [(0, .pointer (some p0_)), (1, .pointer (some p1_)), (66, .bool false), (71, .int .i64 (x0.Taken.length : Int)), (74, .pointer (some (p1_.add 4)))] ⟨rfl, rfl, rfl, rfl, rfl, trivial⟩ ?_
              refine DM.load1 ttok hsk118 66 147573952589676412927 (by kernel_rfl) rfl (by kernel_rfl) rfl rfl rfl rfl rfl (At.ext hS.ext g1_) 4 rfl rfl rfl rfl ?_
              refine DM.run (fuel := 0) ttok hsk118 [67, 68, 69] 1180591620717411303423 (by kernel_rfl) rfl ?_
              refine DM.weak [(0, .pointer (some p0_)), (1, .pointer (some p1_)), (78, .bool ((x0.Taken.length : Int) != (x1.Taken.length : Int)))] ⟨rfl, rfl, rfl, trivial⟩ ?_
              refine DM.done hsk118 (by kernel_rfl) (fun _ => ?_)
              exact ⟨((x0.Taken.length : Int) != (x1.Taken.length : Int)), [(0, .pointer (some p0_)), (1, .pointer (some p1_)), (78, .bool ((x0.Taken.length : Int) != (x1.Taken.length : Int)))], ⟨rfl, rfl, rfl, trivial⟩, hm, (((Ext.draw _).trans hR127.ext).trans hR135.ext), (hS136.taken 0), rfl⟩

theorem enters19 : Enters Try.prog 19 := ⟨_, _, Try.func19, rfl, by kernel_rfl⟩
def m_spec_SameDeque (fuel : Nat) (x0 : D.Deque) (x1 : D.Deque) : Option (Bool) := ((m_spec_l23Same fuel x0 x1).bind fun r35 => some r35)

set_option maxRecDepth 100000 in
theorem spec_SameDeque_ok {w : World} {c0_ : List Value} {x0 : D.Deque} {c1_ : List Value} {x1 : D.Deque} (h0_ : ty45.ro w c0_ x0) (h1_ : ty45.ro w c1_ x1) {fuel : Nat} {r : Bool} (hm : m_spec_SameDeque fuel x0 x1 = some r) :
    Calls Try.prog 19 ⟨[.agg ⟨c0_⟩, .agg ⟨c1_⟩]⟩ w (Ret fun v w8 => v = .bool r ∧ St w w8 []) := by
  obtain ⟨A1, k2, A4, k5, A7, k8, A10, k11, e13, h3, h6, h9, h12⟩ := ty45_open h0_; subst e13
  obtain ⟨A14, k15, A17, k18, A20, k21, A23, k24, e26, h16, h19, h22, h25⟩ := ty45_open h1_; subst e26
  refine Calls.into Try.func19 rfl 6 rfl rfl _ rfl ?_
  unfold m_spec_SameDeque at hm
  have hS := St.start w
  refine WP.seq ?_
  refine WP.region ?_
  refine RW.new ttok hS rfl rfl rfl rfl (fun g27 w28 e29 hS30 => ?_)
  refine RW.new ttok hS30 rfl rfl rfl rfl (fun g31 w32 e33 hS34 => ?_)
  refine RW.run ttok 1 rfl ?_
  refine RW.nil ?_
  refine WP.seq ?_
  refine WP.region ?_
  obtain ⟨r35, hx36, hm⟩ := bind_some hm
  refine RW.call rfl rfl rfl enters57 (spec_l23Same_ok (ty45.ext hS34.ext h0_) ((hS34.bring 1 rfl).box) (ty45.ext hS34.ext h1_) ((hS34.bring 0 rfl).box) hx36) (fun v37 w38 hR39 => ?_)
  obtain ⟨rfl, hR40⟩ := hR39
  have hS41 := hS34.join hR40
  refine RW.run ttok 1 rfl ?_
  refine RW.nil ?_
  refine WP.ret ?_
  cases hm
  exact ⟨_, .cons (.tmp rfl) .nil, rfl, (hS41.taken 0)⟩

theorem enters60 : Enters Try.prog 60 := ⟨_, _, Try.func60, rfl, by kernel_rfl⟩
def m_slices_Equal_int64_int64_j1 (fuel : Nat) (t2 : Unit) : Option Bool := some true
def m_slices_Equal_int64_int64_b1 (fuel : Nat) (x0 : (List Int)) (x1 : (List Int)) (s1 : Int) : Option (Rd (Int) (Unit) (Bool)) := (if (decide (s1 < (x0.length : Int))) = true then ((idx x0 s1).bind fun x19 => ((idx x1 s1).bind fun x25 => (if (x19 != x25) = true then some (.ret false) else some (.next (w64 (s1 + 1)))))) else some (.brk ()))
def m_slices_Equal_int64_int64 (fuel : Nat) (x0 : (List Int)) (x1 : (List Int)) : Option (Bool) := (if ((x0.length : Int) != (x1.length : Int)) = true then some false else ((iter (m_slices_Equal_int64_int64_b1 fuel x0 x1) fuel 0).bind fun o => aft o (m_slices_Equal_int64_int64_j1 fuel)))

set_option maxRecDepth 100000 in
theorem slices_Equal_int64_int64_ok {w : World} {A0_ : Option Addr} {k0_ : Nat} {x0 : (List Int)} {A1_ : Option Addr} {k1_ : Nat} {x1 : (List Int)} (h0_ : ty35.ro w [.slice A0_ x0.length k0_] x0) (h1_ : ty35.ro w [.slice A1_ x1.length k1_] x1) {fuel : Nat} {r : Bool} (hm : m_slices_Equal_int64_int64 fuel x0 x1 = some r) :
    Calls Try.prog 60 ⟨[.slice A0_ x0.length k0_, .slice A1_ x1.length k1_]⟩ w (Ret fun v w8 => v = .bool r ∧ St w w8 []) := by
  refine Calls.into Try.func60 rfl 26 rfl rfl _ rfl ?_
  unfold m_slices_Equal_int64_int64 at hm
  have hS := St.start w
  refine WP.seq ?_
  refine WP.region ?_
  refine RW.run ttok 1 rfl ?_
  refine RW.nil ?_
  refine WP.seq ?_
  refine WP.seq ?_
  refine WP.region ?_
  refine RW.run ttok 5 rfl ?_
  refine RW.nil ?_
  refine WP.cond ((x0.length : Int) != (x1.length : Int)) rfl (fun hc => ?_) (fun hc => ?_)
  · skip
    rw [if_pos hc] at hm
    refine WP.seq ?_
    refine WP.region ?_
    refine RW.run ttok 1 rfl ?_
    refine RW.nil ?_
    refine WP.ret ?_
    cases hm
    exact ⟨_, .cons (.tmp rfl) .nil, rfl, (hS.taken 0)⟩
  · skip
    rw [if_neg (not_t hc)] at hm
    refine WP.skip ?_
    refine WP.seq ?_
    refine WP.seq ?_
    refine WP.region ?_
    refine RW.run ttok 3 rfl ?_
    refine RW.nil ?_
    obtain ⟨o8, hl9, hm⟩ := bind_some hm
    refine WP.cut (fun (t2 : Unit) F w9 => o8 = .inl t2 ∧ Ext w w9 ∧ St w w9 [] ∧ F = []) ?_ ?_
    · skip
      rintro t2 F w7 ⟨ho11, hE6, hS10, rfl⟩
      subst ho11
      have hm : m_slices_Equal_int64_int64_j1 fuel t2 = some r := hm
      unfold m_slices_Equal_int64_int64_j1 at hm
      refine WP.seq ?_
      refine WP.region ?_
      refine RW.run ttok 1 rfl ?_
      refine RW.nil ?_
      refine WP.ret ?_
      cases hm
      exact ⟨_, .cons (.tmp rfl) .nil, rfl, (hS10.taken 0)⟩
    · skip
      refine WP.block ?_
      refine WP.weak [(0, .slice A0_ x0.length k0_), (1, .slice A1_ x1.length k1_), (12, .int .i64 (x0.length : Int)), (13, .int .i64 0)] ⟨rfl, rfl, rfl, rfl, trivial⟩ ?_
      refine WP.iter (fun (s1 : Int) F w9 => Ext w w9 ∧ St w w9 [] ∧ F = [(0, .slice A0_ x0.length k0_), (1, .slice A1_ x1.length k1_), (12, .int .i64 (x0.length : Int)), (13, .int .i64 s1)]) _ hl9 ⟨(Ext.refl _), (hS.taken 0), rfl⟩ ?_
      rintro s1 F w16 _ o14 ⟨hE5, hS15, rfl⟩ hb12 ho13
      unfold m_slices_Equal_int64_int64_b1 at hb12
      refine WP.seq ?_
      refine WP.region ?_
      refine RW.run ttok 1 rfl ?_
      refine RW.nil ?_
      refine WP.seq ?_
      refine WP.cond (decide (s1 < (x0.length : Int))) rfl (fun hc => ?_) (fun hc => ?_)
      · skip
        rw [if_pos hc] at hb12
        refine WP.skip ?_
        refine WP.seq ?_
        refine WP.block ?_
        refine WP.seq ?_
        refine WP.region ?_
        refine RW.run ttok 2 rfl ?_
        refine RW.nil ?_
        refine WP.seq ?_
        refine WP.drawnM mixed 9 (by kernel_rfl) (by kernel_rfl) [([], 511), ([], 511), ([0, 1], 508), ([2], 507), ([], 511), ([], 511), ([4, 5], 463), ([6], 447), ([3, 7], 375)] (by kernel_rfl) (fun hsk17 => ?_)
        have hS18 := hS15.step (Ext.draw _)
        refine DM.run (fuel := 5) ttok hsk17 [0, 1, 4, 5] 51 (by kernel_rfl) rfl ?_
        obtain ⟨x19, hx20, hb12⟩ := bind_some hb12
        refine DM.idx ttok hS15.ext hsk17 2 55 (by kernel_rfl) rfl (by kernel_rfl) rfl rfl rfl rfl rfl rfl (by decide) rfl rfl h0_ (idx_some hx20).1 (idx_some hx20).2 rfl rfl (fun p21 es22 ha23 hr24 => ?_)
        cases hr24
        refine DM.load1 ttok hsk17 3 63 (by kernel_rfl) rfl (by kernel_rfl) rfl rfl rfl rfl rfl (At.ext hS15.ext ha23) 0 rfl rfl rfl rfl ?_
        obtain ⟨x25, hx26, hb12⟩ := bind_some hb12
        refine DM.idx ttok hS15.ext hsk17 6 127 (by kernel_rfl) rfl (by kernel_rfl) rfl rfl rfl rfl rfl rfl (by decide) rfl rfl h1_ (idx_some hx26).1 (idx_some hx26).2 rfl rfl (fun p27 es28 ha29 hr30 => ?_)
        cases hr30
        refine DM.load1 ttok hsk17 7 255 (by kernel_rfl) rfl (by kernel_rfl) rfl rfl rfl rfl rfl (At.ext hS15.ext ha29) 0 rfl rfl rfl rfl ?_
        refine DM.run (fuel := 0) ttok hsk17 [8] 511 (by kernel_rfl) rfl ?_
        refine DM.weak [(0, .slice A0_ x0.length k0_), (1, .slice A1_ x1.length k1_), (12, .int .i64 (x0.length : Int)), (13, .int .i64 s1), (24, .bool (x19 != x25))] ⟨rfl, rfl, rfl, rfl, rfl, trivial⟩ ?_
        refine DM.done hsk17 (by kernel_rfl) (fun _ => ?_)
        refine WP.cond (x19 != x25) rfl (fun hc => ?_) (fun hc => ?_)
        · skip
          rw [if_pos hc] at hb12
          refine WP.seq ?_
          refine WP.region ?_
          refine RW.run ttok 1 rfl ?_
          refine RW.nil ?_
          refine WP.ret ?_
          cases hb12
          cases ho13
          have hm : some _ = some _ := hm
          cases hm
          exact ⟨_, .cons (.tmp rfl) .nil, rfl, (hS18.taken 0)⟩
        · skip
          rw [if_neg (not_t hc)] at hb12
          refine WP.skip ?_
          refine WP.region ?_
          refine RW.run ttok 2 rfl ?_
          refine RW.nil ?_
          cases hb12
          exact ⟨_, [(0, .slice A0_ x0.length k0_), (1, .slice A1_ x1.length k1_), (12, .int .i64 (x0.length : Int)), (13, .int .i64 (w64 (s1 + 1)))], ⟨rfl, rfl, rfl, rfl, trivial⟩, rfl, (hE5.trans (Ext.draw _)), (hS18.taken 0), rfl⟩
      · skip
        rw [if_neg (not_t hc)] at hb12
        refine WP.exit ?_
        cases hb12
        exact ⟨_, [], trivial, ho13, hE5, (hS15.taken 0), rfl⟩

theorem enters61 : Enters Try.prog 61 := ⟨_, _, Try.func61, rfl, by kernel_rfl⟩
def m_slices_Equal_impl_Handed_impl_Handed_j1 (fuel : Nat) (t2 : Unit) : Option Bool := some true
def m_slices_Equal_impl_Handed_impl_Handed_b1 (fuel : Nat) (x0 : (List D.Handed)) (x1 : (List D.Handed)) (s1 : Int) : Option (Rd (Int) (Unit) (Bool)) := (if (decide (s1 < (x0.length : Int))) = true then ((idx x0 s1).bind fun x19 => ((idx x1 s1).bind fun x26 => (if (!(((x19.Actor : Int) == x26.Actor) && (((x19.Value : Int) == x26.Value) && true))) = true then some (.ret false) else some (.next (w64 (s1 + 1)))))) else some (.brk ()))
def m_slices_Equal_impl_Handed_impl_Handed (fuel : Nat) (x0 : (List D.Handed)) (x1 : (List D.Handed)) : Option (Bool) := (if ((x0.length : Int) != (x1.length : Int)) = true then some false else ((iter (m_slices_Equal_impl_Handed_impl_Handed_b1 fuel x0 x1) fuel 0).bind fun o => aft o (m_slices_Equal_impl_Handed_impl_Handed_j1 fuel)))

set_option maxRecDepth 100000 in
theorem slices_Equal_impl_Handed_impl_Handed_ok {w : World} {A0_ : Option Addr} {k0_ : Nat} {x0 : (List D.Handed)} {A1_ : Option Addr} {k1_ : Nat} {x1 : (List D.Handed)} (h0_ : ty43.ro w [.slice A0_ x0.length k0_] x0) (h1_ : ty43.ro w [.slice A1_ x1.length k1_] x1) {fuel : Nat} {r : Bool} (hm : m_slices_Equal_impl_Handed_impl_Handed fuel x0 x1 = some r) :
    Calls Try.prog 61 ⟨[.slice A0_ x0.length k0_, .slice A1_ x1.length k1_]⟩ w (Ret fun v w8 => v = .bool r ∧ St w w8 []) := by
  refine Calls.into Try.func61 rfl 26 rfl rfl _ rfl ?_
  unfold m_slices_Equal_impl_Handed_impl_Handed at hm
  have hS := St.start w
  refine WP.seq ?_
  refine WP.region ?_
  refine RW.run ttok 1 rfl ?_
  refine RW.nil ?_
  refine WP.seq ?_
  refine WP.seq ?_
  refine WP.region ?_
  refine RW.run ttok 5 rfl ?_
  refine RW.nil ?_
  refine WP.cond ((x0.length : Int) != (x1.length : Int)) rfl (fun hc => ?_) (fun hc => ?_)
  · skip
    rw [if_pos hc] at hm
    refine WP.seq ?_
    refine WP.region ?_
    refine RW.run ttok 1 rfl ?_
    refine RW.nil ?_
    refine WP.ret ?_
    cases hm
    exact ⟨_, .cons (.tmp rfl) .nil, rfl, (hS.taken 0)⟩
  · skip
    rw [if_neg (not_t hc)] at hm
    refine WP.skip ?_
    refine WP.seq ?_
    refine WP.seq ?_
    refine WP.region ?_
    refine RW.run ttok 3 rfl ?_
    refine RW.nil ?_
    obtain ⟨o8, hl9, hm⟩ := bind_some hm
    refine WP.cut (fun (t2 : Unit) F w9 => o8 = .inl t2 ∧ Ext w w9 ∧ St w w9 [] ∧ F = []) ?_ ?_
    · skip
      rintro t2 F w7 ⟨ho11, hE6, hS10, rfl⟩
      subst ho11
      have hm : m_slices_Equal_impl_Handed_impl_Handed_j1 fuel t2 = some r := hm
      unfold m_slices_Equal_impl_Handed_impl_Handed_j1 at hm
      refine WP.seq ?_
      refine WP.region ?_
      refine RW.run ttok 1 rfl ?_
      refine RW.nil ?_
      refine WP.ret ?_
      cases hm
      exact ⟨_, .cons (.tmp rfl) .nil, rfl, (hS10.taken 0)⟩
    · skip
      refine WP.block ?_
      refine WP.weak [(0, .slice A0_ x0.length k0_), (1, .slice A1_ x1.length k1_), (12, .int .i64 (x0.length : Int)), (13, .int .i64 0)] ⟨rfl, rfl, rfl, rfl, trivial⟩ ?_
      refine WP.iter (fun (s1 : Int) F w9 => Ext w w9 ∧ St w w9 [] ∧ F = [(0, .slice A0_ x0.length k0_), (1, .slice A1_ x1.length k1_), (12, .int .i64 (x0.length : Int)), (13, .int .i64 s1)]) _ hl9 ⟨(Ext.refl _), (hS.taken 0), rfl⟩ ?_
      rintro s1 F w16 _ o14 ⟨hE5, hS15, rfl⟩ hb12 ho13
      unfold m_slices_Equal_impl_Handed_impl_Handed_b1 at hb12
      refine WP.seq ?_
      refine WP.region ?_
      refine RW.run ttok 1 rfl ?_
      refine RW.nil ?_
      refine WP.seq ?_
      refine WP.cond (decide (s1 < (x0.length : Int))) rfl (fun hc => ?_) (fun hc => ?_)
      · skip
        rw [if_pos hc] at hb12
        refine WP.skip ?_
        refine WP.seq ?_
        refine WP.block ?_
        refine WP.seq ?_
        refine WP.region ?_
        refine RW.run ttok 2 rfl ?_
        refine RW.nil ?_
        refine WP.seq ?_
        refine WP.drawnM mixed 9 (by kernel_rfl) (by kernel_rfl) [([], 511), ([], 511), ([0, 1], 508), ([2], 507), ([], 511), ([], 511), ([4, 5], 463), ([6], 447), ([3, 7], 375)] (by kernel_rfl) (fun hsk17 => ?_)
        have hS18 := hS15.step (Ext.draw _)
        refine DM.run (fuel := 5) ttok hsk17 [0, 1, 4, 5] 51 (by kernel_rfl) rfl ?_
        obtain ⟨x19, hx20, hb12⟩ := bind_some hb12
        refine DM.idx ttok hS15.ext hsk17 2 55 (by kernel_rfl) rfl (by kernel_rfl) rfl rfl rfl rfl rfl rfl (by decide) rfl rfl h0_ (idx_some hx20).1 (idx_some hx20).2 rfl rfl (fun p21 es22 ha23 hr24 => ?_)
        have e25 := ty82_open hr24; subst e25
        refine DM.loadN ttok hsk17 3 63 (by kernel_rfl) rfl (by kernel_rfl) rfl rfl rfl rfl rfl (At.ext hS15.ext ha23) rfl rfl rfl ?_
        obtain ⟨x26, hx27, hb12⟩ := bind_some hb12
        refine DM.idx ttok hS15.ext hsk17 6 127 (by kernel_rfl) rfl (by kernel_rfl) rfl rfl rfl rfl rfl rfl (by decide) rfl rfl h1_ (idx_some hx27).1 (idx_some hx27).2 rfl rfl (fun p28 es29 ha30 hr31 => ?_)
        have e32 := ty82_open hr31; subst e32
        refine DM.loadN ttok hsk17 7 255 (by kernel_rfl) rfl (by kernel_rfl) rfl rfl rfl rfl rfl (At.ext hS15.ext ha30) rfl rfl rfl ?_
        refine DM.run (fuel := 0) ttok hsk17 [8] 511 (by kernel_rfl) rfl ?_
        refine DM.weak [(0, .slice A0_ x0.length k0_), (1, .slice A1_ x1.length k1_), (12, .int .i64 (x0.length : Int)), (13, .int .i64 s1), (24, .bool (!(((x19.Actor : Int) == x26.Actor) && (((x19.Value : Int) == x26.Value) && true))))] ⟨rfl, rfl, rfl, rfl, rfl, trivial⟩ ?_
        refine DM.done hsk17 (by kernel_rfl) (fun _ => ?_)
        refine WP.cond (!(((x19.Actor : Int) == x26.Actor) && (((x19.Value : Int) == x26.Value) && true))) rfl (fun hc => ?_) (fun hc => ?_)
        · skip
          rw [if_pos hc] at hb12
          refine WP.seq ?_
          refine WP.region ?_
          refine RW.run ttok 1 rfl ?_
          refine RW.nil ?_
          refine WP.ret ?_
          cases hb12
          cases ho13
          have hm : some _ = some _ := hm
          cases hm
          exact ⟨_, .cons (.tmp rfl) .nil, rfl, (hS18.taken 0)⟩
        · skip
          rw [if_neg (not_t hc)] at hb12
          refine WP.skip ?_
          refine WP.region ?_
          refine RW.run ttok 2 rfl ?_
          refine RW.nil ?_
          cases hb12
          exact ⟨_, [(0, .slice A0_ x0.length k0_), (1, .slice A1_ x1.length k1_), (12, .int .i64 (x0.length : Int)), (13, .int .i64 (w64 (s1 + 1)))], ⟨rfl, rfl, rfl, rfl, trivial⟩, rfl, (hE5.trans (Ext.draw _)), (hS18.taken 0), rfl⟩
      · skip
        rw [if_neg (not_t hc)] at hb12
        refine WP.exit ?_
        cases hb12
        exact ⟨_, [], trivial, ho13, hE5, (hS15.taken 0), rfl⟩

theorem enters62 : Enters Try.prog 62 := ⟨_, _, Try.func62, rfl, by kernel_rfl⟩
def m_slices_EqualFunc_impl_DequeActor_impl_DequeActor_impl_DequeActor_impl_DequeActor_j1 (fuel : Nat) (t2 : Unit) : Option Bool := some true
def m_slices_EqualFunc_impl_DequeActor_impl_DequeActor_impl_DequeActor_impl_DequeActor_b1 (fuel : Nat) (x0 : (List D.DequeActor)) (x1 : (List D.DequeActor)) (x2 : D.DequeActor → D.DequeActor → Option Bool) (s1 : Int) : Option (Rd (Int) (Unit) (Bool)) := (if (decide (s1 < (x0.length : Int))) = true then ((idx x0 s1).bind fun x14 => ((idx x1 s1).bind fun x31 => ((x2 x14 x31).bind fun r48 => (if (!r48) = true then some (.ret false) else some (.next (w64 (s1 + 1))))))) else some (.brk ()))
def m_slices_EqualFunc_impl_DequeActor_impl_DequeActor_impl_DequeActor_impl_DequeActor (fuel : Nat) (x0 : (List D.DequeActor)) (x1 : (List D.DequeActor)) (x2 : D.DequeActor → D.DequeActor → Option Bool) : Option (Bool) := (if ((x0.length : Int) != (x1.length : Int)) = true then some false else ((iter (m_slices_EqualFunc_impl_DequeActor_impl_DequeActor_impl_DequeActor_impl_DequeActor_b1 fuel x0 x1 x2) fuel 0).bind fun o => aft o (m_slices_EqualFunc_impl_DequeActor_impl_DequeActor_impl_DequeActor_impl_DequeActor_j1 fuel)))

set_option maxRecDepth 100000 in
theorem slices_EqualFunc_impl_DequeActor_impl_DequeActor_impl_DequeActor_impl_DequeActor_ok {w : World} {A0_ : Option Addr} {k0_ : Nat} {x0 : (List D.DequeActor)} {A1_ : Option Addr} {k1_ : Nat} {x1 : (List D.DequeActor)} {f2_ : Nat} {u2_ : List Value} {x2 : D.DequeActor → D.DequeActor → Option Bool} (h0_ : ty42.ro w [.slice A0_ x0.length k0_] x0) (h1_ : ty42.ro w [.slice A1_ x1.length k1_] x1) (h2_ : Enters Try.prog f2_ ∧ ∀ {w9 : World}, Ext w w9 → ∀ {cz0 : List Value} {z0 : D.DequeActor} {cz1 : List Value} {z1 : D.DequeActor} {y9 : Bool}, ty85.ro w9 cz0 z0 → ty85.ro w9 cz1 z1 → x2 z0 z1 = some y9 → Calls Try.prog f2_ ⟨[.agg ⟨cz0⟩, .agg ⟨cz1⟩] ++ u2_⟩ w9 (Ret fun v w8 => v = .bool y9 ∧ St w9 w8 [])) {fuel : Nat} {r : Bool} (hm : m_slices_EqualFunc_impl_DequeActor_impl_DequeActor_impl_DequeActor_impl_DequeActor fuel x0 x1 x2 = some r) :
    Calls Try.prog 62 ⟨[.slice A0_ x0.length k0_, .slice A1_ x1.length k1_, .func (.func f2_) #[] ⟨u2_⟩]⟩ w (Ret fun v w8 => v = .bool r ∧ St w w8 []) := by
  refine Calls.into Try.func62 rfl 32 rfl rfl _ rfl ?_
  unfold m_slices_EqualFunc_impl_DequeActor_impl_DequeActor_impl_DequeActor_impl_DequeActor at hm
  have hS := St.start w
  refine WP.seq ?_
  refine WP.region ?_
  refine RW.run ttok 1 rfl ?_
  refine RW.nil ?_
  refine WP.seq ?_
  refine WP.seq ?_
  refine WP.region ?_
  refine RW.run ttok 5 rfl ?_
  refine RW.nil ?_
  refine WP.cond ((x0.length : Int) != (x1.length : Int)) rfl (fun hc => ?_) (fun hc => ?_)
  · skip
    rw [if_pos hc] at hm
    refine WP.seq ?_
    refine WP.region ?_
    refine RW.run ttok 1 rfl ?_
    refine RW.nil ?_
    refine WP.ret ?_
    cases hm
    exact ⟨_, .cons (.tmp rfl) .nil, rfl, (hS.taken 0)⟩
  · skip
    rw [if_neg (not_t hc)] at hm
    refine WP.skip ?_
    refine WP.seq ?_
    refine WP.seq ?_
    refine WP.region ?_
    refine RW.run ttok 3 rfl ?_
    refine RW.nil ?_
    obtain ⟨o5, hl6, hm⟩ := bind_some hm
    refine WP.cut (fun (t2 : Unit) F w9 => o5 = .inl t2 ∧ St w w9 [] ∧ F = []) ?_ ?_
    · skip
      rintro t2 F w4 ⟨ho8, hS7, rfl⟩
      subst ho8
      have hm : m_slices_EqualFunc_impl_DequeActor_impl_DequeActor_impl_DequeActor_impl_DequeActor_j1 fuel t2 = some r := hm
      unfold m_slices_EqualFunc_impl_DequeActor_impl_DequeActor_impl_DequeActor_impl_DequeActor_j1 at hm
      refine WP.seq ?_
      refine WP.region ?_
      refine RW.run ttok 1 rfl ?_
      refine RW.nil ?_
      refine WP.ret ?_
      cases hm
      exact ⟨_, .cons (.tmp rfl) .nil, rfl, (hS7.taken 0)⟩
    · skip
      refine WP.block ?_
      refine WP.weak [(1, .slice A1_ x1.length k1_), (2, .func (.func f2_) #[] ⟨u2_⟩), (15, .slice A0_ x0.length k0_), (16, .int .i64 (x0.length : Int)), (17, .int .i64 0)] ⟨rfl, rfl, rfl, rfl, rfl, trivial⟩ ?_
      refine WP.iter (fun (s1 : Int) F w9 => St w w9 [] ∧ F = [(1, .slice A1_ x1.length k1_), (2, .func (.func f2_) #[] ⟨u2_⟩), (15, .slice A0_ x0.length k0_), (16, .int .i64 (x0.length : Int)), (17, .int .i64 s1)]) _ hl6 ⟨(hS.taken 0), rfl⟩ ?_
      rintro s1 F w13 _ o11 ⟨hS12, rfl⟩ hb9 ho10
      unfold m_slices_EqualFunc_impl_DequeActor_impl_DequeActor_impl_DequeActor_impl_DequeActor_b1 at hb9
      refine WP.seq ?_
      refine WP.region ?_
      refine RW.run ttok 1 rfl ?_
      refine RW.nil ?_
      refine WP.seq ?_
      refine WP.cond (decide (s1 < (x0.length : Int))) rfl (fun hc => ?_) (fun hc => ?_)
      · skip
        rw [if_pos hc] at hb9
        refine WP.skip ?_
        refine WP.seq ?_
        refine WP.block ?_
        refine WP.seq ?_
        refine WP.region ?_
        refine RW.run ttok 1 rfl ?_
        obtain ⟨x14, hx15, hb9⟩ := bind_some hb9
        refine RW.idx ttok hS12.ext rfl rfl rfl rfl rfl rfl (by decide) rfl rfl h0_ (idx_some hx15).1 (idx_some hx15).2 rfl rfl (fun p16 es17 ha18 hr19 => ?_)
        obtain ⟨A20, k21, e23, h22⟩ := ty85_open hr19; subst e23
        refine RW.loadN ttok rfl rfl rfl rfl rfl (At.ext hS12.ext ha18) rfl rfl rfl ?_
        refine RW.new ttok hS12 rfl rfl rfl rfl (fun g24 w25 e26 hS27 => ?_)
        refine RW.run ttok 1 rfl ?_
        have hS28 := hS27.bring 0 rfl
        refine RW.store ttok (A := []) hS28 rfl rfl rfl rfl rfl 0 rfl rfl rfl rfl rfl (fun w29 hS30 => ?_)
        refine RW.nil ?_
        refine WP.seq ?_
        refine WP.region ?_
        refine RW.run ttok 2 rfl ?_
        obtain ⟨x31, hx32, hb9⟩ := bind_some hb9
        refine RW.idx ttok hS30.ext rfl rfl rfl rfl rfl rfl (by decide) rfl rfl h1_ (idx_some hx32).1 (idx_some hx32).2 rfl rfl (fun p33 es34 ha35 hr36 => ?_)
        obtain ⟨A37, k38, e40, h39⟩ := ty85_open hr36; subst e40
        refine RW.loadN ttok rfl rfl rfl rfl rfl (At.ext hS30.ext ha35) rfl rfl rfl ?_
        refine RW.new ttok hS30 rfl rfl rfl rfl (fun g41 w42 e43 hS44 => ?_)
        have hS45 := hS44.bring 0 rfl
        refine RW.store ttok (A := []) hS45 rfl rfl rfl rfl rfl 0 rfl rfl rfl rfl rfl (fun w46 hS47 => ?_)
        refine RW.nil ?_
        refine WP.seq ?_
        refine WP.region ?_
        refine RW.run ttok 1 rfl ?_
        refine RW.loadN ttok rfl rfl rfl rfl rfl ((hS47.bring 1 rfl).box) rfl rfl rfl ?_
        refine RW.loadN ttok rfl rfl rfl rfl rfl ((hS47.bring 0 rfl).box) rfl rfl rfl ?_
        obtain ⟨r48, hx49, hb9⟩ := bind_some hb9
        refine RW.call rfl rfl rfl h2_.1 (h2_.2 hS47.ext (ty85_shut x14 (ty35.ext hS47.ext h22)) (ty85_shut x31 (ty35.ext hS47.ext h39)) hx49) (fun v50 w51 hR52 => ?_)
        obtain ⟨rfl, hR53⟩ := hR52
        have hS54 := hS47.join hR53
        refine RW.run ttok 1 rfl ?_
        refine RW.nil ?_
        refine WP.cond (!r48) rfl (fun hc => ?_) (fun hc => ?_)
        · skip
          rw [if_pos hc] at hb9
          refine WP.seq ?_
          refine WP.region ?_
          refine RW.run ttok 1 rfl ?_
          refine RW.nil ?_
          refine WP.ret ?_
          cases hb9
          cases ho10
          have hm : some _ = some _ := hm
          cases hm
          exact ⟨_, .cons (.tmp rfl) .nil, rfl, (hS54.taken 0)⟩
        · skip
          rw [if_neg (not_t hc)] at hb9
          refine WP.skip ?_
          refine WP.region ?_
          refine RW.run ttok 2 rfl ?_
          refine RW.nil ?_
          cases hb9
          exact ⟨_, [(1, .slice A1_ x1.length k1_), (2, .func (.func f2_) #[] ⟨u2_⟩), (15, .slice A0_ x0.length k0_), (16, .int .i64 (x0.length : Int)), (17, .int .i64 (w64 (s1 + 1)))], ⟨rfl, rfl, rfl, rfl, rfl, trivial⟩, rfl, (hS54.taken 0), rfl⟩
      · skip
        rw [if_neg (not_t hc)] at hb9
        refine WP.exit ?_
        cases hb9
        exact ⟨_, [], trivial, ho10, (hS12.taken 0), rfl⟩

theorem enters63 : Enters Try.prog 63 := ⟨_, _, Try.func63, rfl, by kernel_rfl⟩
def m_impl_SameDeque_c1 (fuel : Nat) (x0 : D.DequeActor) (x1 : D.DequeActor) : Option (Bool) := ((m_slices_Equal_int64_int64 fuel x0.Todo x1.Todo).bind fun r17 => (if r17 = true then (if (x0.Pc == x1.Pc) = true then (if (x0.T == x1.T) = true then (if (x0.B == x1.B) = true then some (x0.X == x1.X) else some false) else some false) else some false) else some false))

set_option maxRecDepth 100000 in
theorem impl_SameDeque_c1_ok {w : World} {c0_ : List Value} {x0 : D.DequeActor} {c1_ : List Value} {x1 : D.DequeActor} (h0_ : ty85.ro w c0_ x0) (h1_ : ty85.ro w c1_ x1) {fuel : Nat} {r : Bool} (hm : m_impl_SameDeque_c1 fuel x0 x1 = some r) :
    Calls Try.prog 63 ⟨[.agg ⟨c0_⟩, .agg ⟨c1_⟩]⟩ w (Ret fun v w8 => v = .bool r ∧ St w w8 []) := by
  obtain ⟨A1, k2, e4, h3⟩ := ty85_open h0_; subst e4
  obtain ⟨A5, k6, e8, h7⟩ := ty85_open h1_; subst e8
  refine Calls.into Try.func63 rfl 38 rfl rfl _ rfl ?_
  unfold m_impl_SameDeque_c1 at hm
  have hS := St.start w
  refine WP.seq ?_
  refine WP.region ?_
  refine RW.new ttok hS rfl rfl rfl rfl (fun g9 w10 e11 hS12 => ?_)
  refine RW.new ttok hS12 rfl rfl rfl rfl (fun g13 w14 e15 hS16 => ?_)
  refine RW.run ttok 1 rfl ?_
  refine RW.nil ?_
  refine WP.seq ?_
  refine WP.region ?_
  refine RW.run ttok 1 rfl ?_
  refine RW.load1 ttok rfl rfl rfl rfl rfl ((hS16.bring 1 rfl).box) 0 rfl rfl rfl rfl ?_
  refine RW.run ttok 1 rfl ?_
  refine RW.load1 ttok rfl rfl rfl rfl rfl ((hS16.bring 0 rfl).box) 0 rfl rfl rfl rfl ?_
  obtain ⟨r17, hx18, hm⟩ := bind_some hm
  refine RW.call rfl rfl rfl enters60 (slices_Equal_int64_int64_ok (ty35.ext hS16.ext h3) (ty35.ext hS16.ext h7) hx18) (fun v19 w20 hR21 => ?_)
  obtain ⟨rfl, hR22⟩ := hR21
  have hS23 := hS16.join hR22
  refine RW.run ttok 1 rfl ?_
  by_cases hg24 : r17 = true
  · skip
    rw [if_pos hg24] at hm
    refine RW.know 10 rfl (congrArg Value.bool hg24) ?_
    refine RW.run ttok 1 rfl ?_
    refine RW.load1 ttok rfl rfl rfl rfl rfl ((hS23.bring 1 rfl).box) 1 rfl rfl rfl rfl ?_
    refine RW.run ttok 1 rfl ?_
    refine RW.load1 ttok rfl rfl rfl rfl rfl ((hS23.bring 0 rfl).box) 1 rfl rfl rfl rfl ?_
    refine RW.run ttok 3 rfl ?_
    by_cases hg25 : (x0.Pc == x1.Pc) = true
    · skip
      rw [if_pos hg25] at hm
      refine RW.know 17 rfl (congrArg Value.bool hg25) ?_
      refine RW.run ttok 1 rfl ?_
      refine RW.load1 ttok rfl rfl rfl rfl rfl ((hS23.bring 1 rfl).box) 2 rfl rfl rfl rfl ?_
      refine RW.run ttok 1 rfl ?_
      refine RW.load1 ttok rfl rfl rfl rfl rfl ((hS23.bring 0 rfl).box) 2 rfl rfl rfl rfl ?_
      refine RW.run ttok 3 rfl ?_
      by_cases hg26 : (x0.T == x1.T) = true
      · skip
        rw [if_pos hg26] at hm
        refine RW.know 24 rfl (congrArg Value.bool hg26) ?_
        refine RW.run ttok 1 rfl ?_
        refine RW.load1 ttok rfl rfl rfl rfl rfl ((hS23.bring 1 rfl).box) 3 rfl rfl rfl rfl ?_
        refine RW.run ttok 1 rfl ?_
        refine RW.load1 ttok rfl rfl rfl rfl rfl ((hS23.bring 0 rfl).box) 3 rfl rfl rfl rfl ?_
        refine RW.run ttok 3 rfl ?_
        by_cases hg27 : (x0.B == x1.B) = true
        · skip
          rw [if_pos hg27] at hm
          refine RW.know 31 rfl (congrArg Value.bool hg27) ?_
          refine RW.run ttok 1 rfl ?_
          refine RW.load1 ttok rfl rfl rfl rfl rfl ((hS23.bring 1 rfl).box) 4 rfl rfl rfl rfl ?_
          refine RW.run ttok 1 rfl ?_
          refine RW.load1 ttok rfl rfl rfl rfl rfl ((hS23.bring 0 rfl).box) 4 rfl rfl rfl rfl ?_
          refine RW.run ttok 3 rfl ?_
          refine RW.nil ?_
          refine WP.ret ?_
          cases hm
          exact ⟨_, .cons (.tmp rfl) .nil, rfl, (hS23.taken 0)⟩
        · skip
          rw [if_neg hg27] at hm
          refine RW.know 31 rfl (congrArg Value.bool (Bool.eq_false_iff.2 hg27)) ?_
          refine RW.run ttok 7 rfl ?_
          refine RW.nil ?_
          refine WP.ret ?_
          cases hm
          exact ⟨_, .cons (.tmp rfl) .nil, rfl, (hS23.taken 0)⟩
      · skip
        rw [if_neg hg26] at hm
        refine RW.know 24 rfl (congrArg Value.bool (Bool.eq_false_iff.2 hg26)) ?_
        refine RW.run ttok 14 rfl ?_
        refine RW.nil ?_
        refine WP.ret ?_
        cases hm
        exact ⟨_, .cons (.tmp rfl) .nil, rfl, (hS23.taken 0)⟩
    · skip
      rw [if_neg hg25] at hm
      refine RW.know 17 rfl (congrArg Value.bool (Bool.eq_false_iff.2 hg25)) ?_
      refine RW.run ttok 21 rfl ?_
      refine RW.nil ?_
      refine WP.ret ?_
      cases hm
      exact ⟨_, .cons (.tmp rfl) .nil, rfl, (hS23.taken 0)⟩
  · skip
    rw [if_neg hg24] at hm
    refine RW.know 10 rfl (congrArg Value.bool (Bool.eq_false_iff.2 hg24)) ?_
    refine RW.run ttok 28 rfl ?_
    refine RW.nil ?_
    refine WP.ret ?_
    cases hm
    exact ⟨_, .cons (.tmp rfl) .nil, rfl, (hS23.taken 0)⟩

theorem enters21 : Enters Try.prog 21 := ⟨_, _, Try.func21, rfl, by kernel_rfl⟩
def m_impl_SameDeque (fuel : Nat) (x0 : D.Deque) (x1 : D.Deque) : Option (Bool) := (if (x0.Top == x1.Top) = true then (if (x0.Bottom == x1.Bottom) = true then ((m_slices_Equal_int64_int64 fuel x0.Buffer x1.Buffer).bind fun r37 => (if r37 = true then ((m_slices_Equal_impl_Handed_impl_Handed fuel x0.Taken x1.Taken).bind fun r45 => (if r45 = true then ((m_slices_Equal_int64_int64 fuel x0.Refused x1.Refused).bind fun r53 => (if r53 = true then ((m_slices_EqualFunc_impl_DequeActor_impl_DequeActor_impl_DequeActor_impl_DequeActor fuel x0.Actors x1.Actors (fun y0 y1 => m_impl_SameDeque_c1 fuel y0 y1)).bind fun r61 => some r61) else some false)) else some false)) else some false)) else some false) else some false)

set_option maxRecDepth 100000 in
theorem impl_SameDeque_ok {w : World} {c0_ : List Value} {x0 : D.Deque} {c1_ : List Value} {x1 : D.Deque} (h0_ : ty45.ro w c0_ x0) (h1_ : ty45.ro w c1_ x1) {fuel : Nat} {r : Bool} (hm : m_impl_SameDeque fuel x0 x1 = some r) :
    Calls Try.prog 21 ⟨[.agg ⟨c0_⟩, .agg ⟨c1_⟩]⟩ w (Ret fun v w8 => v = .bool r ∧ St w w8 []) := by
  obtain ⟨A1, k2, A4, k5, A7, k8, A10, k11, e13, h3, h6, h9, h12⟩ := ty45_open h0_; subst e13
  obtain ⟨A14, k15, A17, k18, A20, k21, A23, k24, e26, h16, h19, h22, h25⟩ := ty45_open h1_; subst e26
  refine Calls.into Try.func21 rfl 45 rfl rfl _ rfl ?_
  unfold m_impl_SameDeque at hm
  have hS := St.start w
  refine WP.seq ?_
  refine WP.region ?_
  refine RW.new ttok hS rfl rfl rfl rfl (fun g27 w28 e29 hS30 => ?_)
  refine RW.new ttok hS30 rfl rfl rfl rfl (fun g31 w32 e33 hS34 => ?_)
  refine RW.run ttok 1 rfl ?_
  refine RW.nil ?_
  refine WP.seq ?_
  refine WP.region ?_
  refine RW.run ttok 1 rfl ?_
  refine RW.load1 ttok rfl rfl rfl rfl rfl ((hS34.bring 1 rfl).box) 0 rfl rfl rfl rfl ?_
  refine RW.run ttok 1 rfl ?_
  refine RW.load1 ttok rfl rfl rfl rfl rfl ((hS34.bring 0 rfl).box) 0 rfl rfl rfl rfl ?_
  refine RW.run ttok 2 rfl ?_
  by_cases hg35 : (x0.Top == x1.Top) = true
  · skip
    rw [if_pos hg35] at hm
    refine RW.know 10 rfl (congrArg Value.bool hg35) ?_
    refine RW.run ttok 1 rfl ?_
    refine RW.load1 ttok rfl rfl rfl rfl rfl ((hS34.bring 1 rfl).box) 1 rfl rfl rfl rfl ?_
    refine RW.run ttok 1 rfl ?_
    refine RW.load1 ttok rfl rfl rfl rfl rfl ((hS34.bring 0 rfl).box) 1 rfl rfl rfl rfl ?_
    refine RW.run ttok 3 rfl ?_
    by_cases hg36 : (x0.Bottom == x1.Bottom) = true
    · skip
      rw [if_pos hg36] at hm
      refine RW.know 17 rfl (congrArg Value.bool hg36) ?_
      refine RW.run ttok 1 rfl ?_
      refine RW.load1 ttok rfl rfl rfl rfl rfl ((hS34.bring 1 rfl).box) 2 rfl rfl rfl rfl ?_
      refine RW.run ttok 1 rfl ?_
      refine RW.load1 ttok rfl rfl rfl rfl rfl ((hS34.bring 0 rfl).box) 2 rfl rfl rfl rfl ?_
      obtain ⟨r37, hx38, hm⟩ := bind_some hm
      refine RW.call rfl rfl rfl enters60 (slices_Equal_int64_int64_ok (ty35.ext hS34.ext h3) (ty35.ext hS34.ext h16) hx38) (fun v39 w40 hR41 => ?_)
      obtain ⟨rfl, hR42⟩ := hR41
      have hS43 := hS34.join hR42
      refine RW.run ttok 2 rfl ?_
      by_cases hg44 : r37 = true
      · skip
        rw [if_pos hg44] at hm
        refine RW.know 24 rfl (congrArg Value.bool hg44) ?_
        refine RW.run ttok 1 rfl ?_
        refine RW.load1 ttok rfl rfl rfl rfl rfl ((hS43.bring 1 rfl).box) 4 rfl rfl rfl rfl ?_
        refine RW.run ttok 1 rfl ?_
        refine RW.load1 ttok rfl rfl rfl rfl rfl ((hS43.bring 0 rfl).box) 4 rfl rfl rfl rfl ?_
        obtain ⟨r45, hx46, hm⟩ := bind_some hm
        refine RW.call rfl rfl rfl enters61 (slices_Equal_impl_Handed_impl_Handed_ok (ty43.ext hS43.ext h9) (ty43.ext hS43.ext h22) hx46) (fun v47 w48 hR49 => ?_)
        obtain ⟨rfl, hR50⟩ := hR49
        have hS51 := hS43.join hR50
        refine RW.run ttok 2 rfl ?_
        by_cases hg52 : r45 = true
        · skip
          rw [if_pos hg52] at hm
          refine RW.know 31 rfl (congrArg Value.bool hg52) ?_
          refine RW.run ttok 1 rfl ?_
          refine RW.load1 ttok rfl rfl rfl rfl rfl ((hS51.bring 1 rfl).box) 5 rfl rfl rfl rfl ?_
          refine RW.run ttok 1 rfl ?_
          refine RW.load1 ttok rfl rfl rfl rfl rfl ((hS51.bring 0 rfl).box) 5 rfl rfl rfl rfl ?_
          obtain ⟨r53, hx54, hm⟩ := bind_some hm
          refine RW.call rfl rfl rfl enters60 (slices_Equal_int64_int64_ok (ty35.ext hS51.ext h12) (ty35.ext hS51.ext h25) hx54) (fun v55 w56 hR57 => ?_)
          obtain ⟨rfl, hR58⟩ := hR57
          have hS59 := hS51.join hR58
          refine RW.run ttok 2 rfl ?_
          by_cases hg60 : r53 = true
          · skip
            rw [if_pos hg60] at hm
            refine RW.know 38 rfl (congrArg Value.bool hg60) ?_
            refine RW.run ttok 1 rfl ?_
            refine RW.load1 ttok rfl rfl rfl rfl rfl ((hS59.bring 1 rfl).box) 3 rfl rfl rfl rfl ?_
            refine RW.run ttok 1 rfl ?_
            refine RW.load1 ttok rfl rfl rfl rfl rfl ((hS59.bring 0 rfl).box) 3 rfl rfl rfl rfl ?_
            obtain ⟨r61, hx62, hm⟩ := bind_some hm
            refine RW.call rfl rfl rfl enters62 (slices_EqualFunc_impl_DequeActor_impl_DequeActor_impl_DequeActor_impl_DequeActor_ok (ty42.ext hS59.ext h6) (ty42.ext hS59.ext h19) ⟨enters63, fun e9 => (fun a0_0 a1_0 hx9 => impl_SameDeque_c1_ok a0_0 a1_0 hx9)⟩ hx62) (fun v63 w64 hR65 => ?_)
            obtain ⟨rfl, hR66⟩ := hR65
            have hS67 := hS59.join hR66
            refine RW.run ttok 2 rfl ?_
            refine RW.nil ?_
            refine WP.ret ?_
            cases hm
            exact ⟨_, .cons (.tmp rfl) .nil, rfl, (hS67.taken 0)⟩
          · skip
            rw [if_neg hg60] at hm
            refine RW.know 38 rfl (congrArg Value.bool (Bool.eq_false_iff.2 hg60)) ?_
            refine RW.run ttok 7 rfl ?_
            refine RW.nil ?_
            refine WP.ret ?_
            cases hm
            exact ⟨_, .cons (.tmp rfl) .nil, rfl, (hS59.taken 0)⟩
        · skip
          rw [if_neg hg52] at hm
          refine RW.know 31 rfl (congrArg Value.bool (Bool.eq_false_iff.2 hg52)) ?_
          refine RW.run ttok 14 rfl ?_
          refine RW.nil ?_
          refine WP.ret ?_
          cases hm
          exact ⟨_, .cons (.tmp rfl) .nil, rfl, (hS51.taken 0)⟩
      · skip
        rw [if_neg hg44] at hm
        refine RW.know 24 rfl (congrArg Value.bool (Bool.eq_false_iff.2 hg44)) ?_
        refine RW.run ttok 21 rfl ?_
        refine RW.nil ?_
        refine WP.ret ?_
        cases hm
        exact ⟨_, .cons (.tmp rfl) .nil, rfl, (hS43.taken 0)⟩
    · skip
      rw [if_neg hg36] at hm
      refine RW.know 17 rfl (congrArg Value.bool (Bool.eq_false_iff.2 hg36)) ?_
      refine RW.run ttok 28 rfl ?_
      refine RW.nil ?_
      refine WP.ret ?_
      cases hm
      exact ⟨_, .cons (.tmp rfl) .nil, rfl, (hS34.taken 0)⟩
  · skip
    rw [if_neg hg35] at hm
    refine RW.know 10 rfl (congrArg Value.bool (Bool.eq_false_iff.2 hg35)) ?_
    refine RW.run ttok 35 rfl ?_
    refine RW.nil ?_
    refine WP.ret ?_
    cases hm
    exact ⟨_, .cons (.tmp rfl) .nil, rfl, (hS34.taken 0)⟩

theorem enters26 : Enters Try.prog 26 := ⟨_, _, Try.func26, rfl, by kernel_rfl⟩
def m_laws_eqInt64S_j1 (fuel : Nat) (t2 : Unit) : Option Bool := some true
def m_laws_eqInt64S_b1 (fuel : Nat) (x0 : (List Int)) (x1 : (List Int)) (s1 : Int) : Option (Rd (Int) (Unit) (Bool)) := (if (decide (s1 < (x0.length : Int))) = true then ((idx x0 s1).bind fun x19 => ((idx x1 s1).bind fun x25 => (if (x19 != x25) = true then some (.ret false) else some (.next (w64 (s1 + 1)))))) else some (.brk ()))
def m_laws_eqInt64S (fuel : Nat) (x0 : (List Int)) (x1 : (List Int)) : Option (Bool) := (if ((x0.length : Int) != (x1.length : Int)) = true then some false else ((iter (m_laws_eqInt64S_b1 fuel x0 x1) fuel 0).bind fun o => aft o (m_laws_eqInt64S_j1 fuel)))

set_option maxRecDepth 100000 in
theorem laws_eqInt64S_ok {w : World} {A0_ : Option Addr} {k0_ : Nat} {x0 : (List Int)} {A1_ : Option Addr} {k1_ : Nat} {x1 : (List Int)} (h0_ : ty35.ro w [.slice A0_ x0.length k0_] x0) (h1_ : ty35.ro w [.slice A1_ x1.length k1_] x1) {fuel : Nat} {r : Bool} (hm : m_laws_eqInt64S fuel x0 x1 = some r) :
    Calls Try.prog 26 ⟨[.slice A0_ x0.length k0_, .slice A1_ x1.length k1_]⟩ w (Ret fun v w8 => v = .bool r ∧ St w w8 []) := by
  refine Calls.into Try.func26 rfl 26 rfl rfl _ rfl ?_
  unfold m_laws_eqInt64S at hm
  have hS := St.start w
  refine WP.seq ?_
  refine WP.region ?_
  refine RW.run ttok 1 rfl ?_
  refine RW.nil ?_
  refine WP.seq ?_
  refine WP.seq ?_
  refine WP.region ?_
  refine RW.run ttok 5 rfl ?_
  refine RW.nil ?_
  refine WP.cond ((x0.length : Int) != (x1.length : Int)) rfl (fun hc => ?_) (fun hc => ?_)
  · skip
    rw [if_pos hc] at hm
    refine WP.seq ?_
    refine WP.region ?_
    refine RW.run ttok 1 rfl ?_
    refine RW.nil ?_
    refine WP.ret ?_
    cases hm
    exact ⟨_, .cons (.tmp rfl) .nil, rfl, (hS.taken 0)⟩
  · skip
    rw [if_neg (not_t hc)] at hm
    refine WP.skip ?_
    refine WP.seq ?_
    refine WP.seq ?_
    refine WP.region ?_
    refine RW.run ttok 1 rfl ?_
    refine RW.nil ?_
    obtain ⟨o8, hl9, hm⟩ := bind_some hm
    refine WP.cut (fun (t2 : Unit) F w9 => o8 = .inl t2 ∧ Ext w w9 ∧ St w w9 [] ∧ F = []) ?_ ?_
    · skip
      rintro t2 F w7 ⟨ho11, hE6, hS10, rfl⟩
      subst ho11
      have hm : m_laws_eqInt64S_j1 fuel t2 = some r := hm
      unfold m_laws_eqInt64S_j1 at hm
      refine WP.seq ?_
      refine WP.region ?_
      refine RW.run ttok 1 rfl ?_
      refine RW.nil ?_
      refine WP.ret ?_
      cases hm
      exact ⟨_, .cons (.tmp rfl) .nil, rfl, (hS10.taken 0)⟩
    · skip
      refine WP.block ?_
      refine WP.weak [(0, .slice A0_ x0.length k0_), (1, .slice A1_ x1.length k1_), (5, .int .i64 0)] ⟨rfl, rfl, rfl, trivial⟩ ?_
      refine WP.iter (fun (s1 : Int) F w9 => Ext w w9 ∧ St w w9 [] ∧ F = [(0, .slice A0_ x0.length k0_), (1, .slice A1_ x1.length k1_), (5, .int .i64 s1)]) _ hl9 ⟨(Ext.refl _), (hS.taken 0), rfl⟩ ?_
      rintro s1 F w16 _ o14 ⟨hE5, hS15, rfl⟩ hb12 ho13
      unfold m_laws_eqInt64S_b1 at hb12
      refine WP.seq ?_
      refine WP.seq ?_
      refine WP.region ?_
      refine RW.run ttok 4 rfl ?_
      refine RW.nil ?_
      refine WP.cond (decide (s1 < (x0.length : Int))) rfl (fun hc => ?_) (fun hc => ?_)
      · skip
        rw [if_pos hc] at hb12
        refine WP.skip ?_
        refine WP.seq ?_
        refine WP.block ?_
        refine WP.seq ?_
        refine WP.drawnM mixed 9 (by kernel_rfl) (by kernel_rfl) [([], 511), ([], 511), ([0, 1], 508), ([2], 507), ([], 511), ([], 511), ([4, 5], 463), ([6], 447), ([3, 7], 375)] (by kernel_rfl) (fun hsk17 => ?_)
        have hS18 := hS15.step (Ext.draw _)
        refine DM.run (fuel := 5) ttok hsk17 [0, 1, 4, 5] 51 (by kernel_rfl) rfl ?_
        obtain ⟨x19, hx20, hb12⟩ := bind_some hb12
        refine DM.idx ttok hS15.ext hsk17 2 55 (by kernel_rfl) rfl (by kernel_rfl) rfl rfl rfl rfl rfl rfl (by decide) rfl rfl h0_ (idx_some hx20).1 (idx_some hx20).2 rfl rfl (fun p21 es22 ha23 hr24 => ?_)
        cases hr24
        refine DM.load1 ttok hsk17 3 63 (by kernel_rfl) rfl (by kernel_rfl) rfl rfl rfl rfl rfl (At.ext hS15.ext ha23) 0 rfl rfl rfl rfl ?_
        obtain ⟨x25, hx26, hb12⟩ := bind_some hb12
        refine DM.idx ttok hS15.ext hsk17 6 127 (by kernel_rfl) rfl (by kernel_rfl) rfl rfl rfl rfl rfl rfl (by decide) rfl rfl h1_ (idx_some hx26).1 (idx_some hx26).2 rfl rfl (fun p27 es28 ha29 hr30 => ?_)
        cases hr30
        refine DM.load1 ttok hsk17 7 255 (by kernel_rfl) rfl (by kernel_rfl) rfl rfl rfl rfl rfl (At.ext hS15.ext ha29) 0 rfl rfl rfl rfl ?_
        refine DM.run (fuel := 0) ttok hsk17 [8] 511 (by kernel_rfl) rfl ?_
        refine DM.weak [(0, .slice A0_ x0.length k0_), (1, .slice A1_ x1.length k1_), (5, .int .i64 s1), (25, .bool (x19 != x25))] ⟨rfl, rfl, rfl, rfl, trivial⟩ ?_
        refine DM.done hsk17 (by kernel_rfl) (fun _ => ?_)
        refine WP.cond (x19 != x25) rfl (fun hc => ?_) (fun hc => ?_)
        · skip
          rw [if_pos hc] at hb12
          refine WP.seq ?_
          refine WP.region ?_
          refine RW.run ttok 1 rfl ?_
          refine RW.nil ?_
          refine WP.ret ?_
          cases hb12
          cases ho13
          have hm : some _ = some _ := hm
          cases hm
          exact ⟨_, .cons (.tmp rfl) .nil, rfl, (hS18.taken 0)⟩
        · skip
          rw [if_neg (not_t hc)] at hb12
          refine WP.skip ?_
          refine WP.region ?_
          refine RW.run ttok 3 rfl ?_
          refine RW.nil ?_
          cases hb12
          exact ⟨_, [(0, .slice A0_ x0.length k0_), (1, .slice A1_ x1.length k1_), (5, .int .i64 (w64 (s1 + 1)))], ⟨rfl, rfl, rfl, trivial⟩, rfl, (hE5.trans (Ext.draw _)), (hS18.taken 0), rfl⟩
      · skip
        rw [if_neg (not_t hc)] at hb12
        refine WP.exit ?_
        cases hb12
        exact ⟨_, [], trivial, ho13, hE5, (hS15.taken 0), rfl⟩

theorem enters95 : Enters Try.prog 95 := ⟨_, _, Try.func95, rfl, by kernel_rfl⟩
def m_laws_eqDequeActor (fuel : Nat) (x0 : D.DequeActor) (x1 : D.DequeActor) : Option (Bool) := ((m_laws_eqInt64S fuel x0.Todo x1.Todo).bind fun r17 => (if (!r17) = true then some false else (if (x0.Pc != x1.Pc) = true then some false else (if (x0.T != x1.T) = true then some false else (if (x0.B != x1.B) = true then some false else (if (x0.X != x1.X) = true then some false else some true))))))

set_option maxRecDepth 100000 in
theorem laws_eqDequeActor_ok {w : World} {c0_ : List Value} {x0 : D.DequeActor} {c1_ : List Value} {x1 : D.DequeActor} (h0_ : ty85.ro w c0_ x0) (h1_ : ty85.ro w c1_ x1) {fuel : Nat} {r : Bool} (hm : m_laws_eqDequeActor fuel x0 x1 = some r) :
    Calls Try.prog 95 ⟨[.agg ⟨c0_⟩, .agg ⟨c1_⟩]⟩ w (Ret fun v w8 => v = .bool r ∧ St w w8 []) := by
  obtain ⟨A1, k2, e4, h3⟩ := ty85_open h0_; subst e4
  obtain ⟨A5, k6, e8, h7⟩ := ty85_open h1_; subst e8
  refine Calls.into Try.func95 rfl 31 rfl rfl _ rfl ?_
  unfold m_laws_eqDequeActor at hm
  have hS := St.start w
  refine WP.seq ?_
  refine WP.region ?_
  refine RW.new ttok hS rfl rfl rfl rfl (fun g9 w10 e11 hS12 => ?_)
  refine RW.new ttok hS12 rfl rfl rfl rfl (fun g13 w14 e15 hS16 => ?_)
  refine RW.run ttok 1 rfl ?_
  refine RW.nil ?_
  refine WP.seq ?_
  refine WP.seq ?_
  refine WP.region ?_
  refine RW.run ttok 1 rfl ?_
  refine RW.load1 ttok rfl rfl rfl rfl rfl ((hS16.bring 1 rfl).box) 0 rfl rfl rfl rfl ?_
  refine RW.run ttok 1 rfl ?_
  refine RW.load1 ttok rfl rfl rfl rfl rfl ((hS16.bring 0 rfl).box) 0 rfl rfl rfl rfl ?_
  obtain ⟨r17, hx18, hm⟩ := bind_some hm
  refine RW.call rfl rfl rfl enters26 (laws_eqInt64S_ok (ty35.ext hS16.ext h3) (ty35.ext hS16.ext h7) hx18) (fun v19 w20 hR21 => ?_)
  obtain ⟨rfl, hR22⟩ := hR21
  have hS23 := hS16.join hR22
  refine RW.run ttok 1 rfl ?_
  refine RW.nil ?_
  refine WP.cond (!r17) rfl (fun hc => ?_) (fun hc => ?_)
  · skip
    rw [if_pos hc] at hm
    refine WP.seq ?_
    refine WP.region ?_
    refine RW.run ttok 1 rfl ?_
    refine RW.nil ?_
    refine WP.ret ?_
    cases hm
    exact ⟨_, .cons (.tmp rfl) .nil, rfl, (hS23.taken 0)⟩
  · skip
    rw [if_neg (not_t hc)] at hm
    refine WP.skip ?_
    refine WP.seq ?_
    refine WP.seq ?_
    refine WP.region ?_
    refine RW.run ttok 1 rfl ?_
    refine RW.load1 ttok rfl rfl rfl rfl rfl ((hS23.bring 1 rfl).box) 1 rfl rfl rfl rfl ?_
    refine RW.run ttok 1 rfl ?_
    refine RW.load1 ttok rfl rfl rfl rfl rfl ((hS23.bring 0 rfl).box) 1 rfl rfl rfl rfl ?_
    refine RW.run ttok 1 rfl ?_
    refine RW.nil ?_
    refine WP.cond (x0.Pc != x1.Pc) rfl (fun hc => ?_) (fun hc => ?_)
    · skip
      rw [if_pos hc] at hm
      refine WP.seq ?_
      refine WP.region ?_
      refine RW.run ttok 1 rfl ?_
      refine RW.nil ?_
      refine WP.ret ?_
      cases hm
      exact ⟨_, .cons (.tmp rfl) .nil, rfl, (hS23.taken 0)⟩
    · skip
      rw [if_neg (not_t hc)] at hm
      refine WP.skip ?_
      refine WP.seq ?_
      refine WP.seq ?_
      refine WP.region ?_
      refine RW.run ttok 1 rfl ?_
      refine RW.load1 ttok rfl rfl rfl rfl rfl ((hS23.bring 1 rfl).box) 2 rfl rfl rfl rfl ?_
      refine RW.run ttok 1 rfl ?_
      refine RW.load1 ttok rfl rfl rfl rfl rfl ((hS23.bring 0 rfl).box) 2 rfl rfl rfl rfl ?_
      refine RW.run ttok 1 rfl ?_
      refine RW.nil ?_
      refine WP.cond (x0.T != x1.T) rfl (fun hc => ?_) (fun hc => ?_)
      · skip
        rw [if_pos hc] at hm
        refine WP.seq ?_
        refine WP.region ?_
        refine RW.run ttok 1 rfl ?_
        refine RW.nil ?_
        refine WP.ret ?_
        cases hm
        exact ⟨_, .cons (.tmp rfl) .nil, rfl, (hS23.taken 0)⟩
      · skip
        rw [if_neg (not_t hc)] at hm
        refine WP.skip ?_
        refine WP.seq ?_
        refine WP.seq ?_
        refine WP.region ?_
        refine RW.run ttok 1 rfl ?_
        refine RW.load1 ttok rfl rfl rfl rfl rfl ((hS23.bring 1 rfl).box) 3 rfl rfl rfl rfl ?_
        refine RW.run ttok 1 rfl ?_
        refine RW.load1 ttok rfl rfl rfl rfl rfl ((hS23.bring 0 rfl).box) 3 rfl rfl rfl rfl ?_
        refine RW.run ttok 1 rfl ?_
        refine RW.nil ?_
        refine WP.cond (x0.B != x1.B) rfl (fun hc => ?_) (fun hc => ?_)
        · skip
          rw [if_pos hc] at hm
          refine WP.seq ?_
          refine WP.region ?_
          refine RW.run ttok 1 rfl ?_
          refine RW.nil ?_
          refine WP.ret ?_
          cases hm
          exact ⟨_, .cons (.tmp rfl) .nil, rfl, (hS23.taken 0)⟩
        · skip
          rw [if_neg (not_t hc)] at hm
          refine WP.skip ?_
          refine WP.seq ?_
          refine WP.seq ?_
          refine WP.region ?_
          refine RW.run ttok 1 rfl ?_
          refine RW.load1 ttok rfl rfl rfl rfl rfl ((hS23.bring 1 rfl).box) 4 rfl rfl rfl rfl ?_
          refine RW.run ttok 1 rfl ?_
          refine RW.load1 ttok rfl rfl rfl rfl rfl ((hS23.bring 0 rfl).box) 4 rfl rfl rfl rfl ?_
          refine RW.run ttok 1 rfl ?_
          refine RW.nil ?_
          refine WP.cond (x0.X != x1.X) rfl (fun hc => ?_) (fun hc => ?_)
          · skip
            rw [if_pos hc] at hm
            refine WP.seq ?_
            refine WP.region ?_
            refine RW.run ttok 1 rfl ?_
            refine RW.nil ?_
            refine WP.ret ?_
            cases hm
            exact ⟨_, .cons (.tmp rfl) .nil, rfl, (hS23.taken 0)⟩
          · skip
            rw [if_neg (not_t hc)] at hm
            refine WP.skip ?_
            refine WP.seq ?_
            refine WP.region ?_
            refine RW.run ttok 1 rfl ?_
            refine RW.nil ?_
            refine WP.ret ?_
            cases hm
            exact ⟨_, .cons (.tmp rfl) .nil, rfl, (hS23.taken 0)⟩

theorem enters64 : Enters Try.prog 64 := ⟨_, _, Try.func64, rfl, by kernel_rfl⟩
def m_laws_eqDequeActorS_j1 (fuel : Nat) (t2 : Unit) : Option Bool := some true
def m_laws_eqDequeActorS_b1 (fuel : Nat) (x0 : (List D.DequeActor)) (x1 : (List D.DequeActor)) (s1 : Int) : Option (Rd (Int) (Unit) (Bool)) := (if (decide (s1 < (x0.length : Int))) = true then ((idx x0 s1).bind fun x19 => ((idx x1 s1).bind fun x29 => ((m_laws_eqDequeActor fuel x19 x29).bind fun r39 => (if (!r39) = true then some (.ret false) else some (.next (w64 (s1 + 1))))))) else some (.brk ()))
def m_laws_eqDequeActorS (fuel : Nat) (x0 : (List D.DequeActor)) (x1 : (List D.DequeActor)) : Option (Bool) := (if ((x0.length : Int) != (x1.length : Int)) = true then some false else ((iter (m_laws_eqDequeActorS_b1 fuel x0 x1) fuel 0).bind fun o => aft o (m_laws_eqDequeActorS_j1 fuel)))

set_option maxRecDepth 100000 in
theorem laws_eqDequeActorS_ok {w : World} {A0_ : Option Addr} {k0_ : Nat} {x0 : (List D.DequeActor)} {A1_ : Option Addr} {k1_ : Nat} {x1 : (List D.DequeActor)} (h0_ : ty42.ro w [.slice A0_ x0.length k0_] x0) (h1_ : ty42.ro w [.slice A1_ x1.length k1_] x1) {fuel : Nat} {r : Bool} (hm : m_laws_eqDequeActorS fuel x0 x1 = some r) :
    Calls Try.prog 64 ⟨[.slice A0_ x0.length k0_, .slice A1_ x1.length k1_]⟩ w (Ret fun v w8 => v = .bool r ∧ St w w8 []) := by
  refine Calls.into Try.func64 rfl 27 rfl rfl _ rfl ?_
  unfold m_laws_eqDequeActorS at hm
  have hS := St.start w
  refine WP.seq ?_
  refine WP.region ?_
  refine RW.run ttok 1 rfl ?_
  refine RW.nil ?_
  refine WP.seq ?_
  refine WP.seq ?_
  refine WP.region ?_
  refine RW.run ttok 5 rfl ?_
  refine RW.nil ?_
  refine WP.cond ((x0.length : Int) != (x1.length : Int)) rfl (fun hc => ?_) (fun hc => ?_)
  · skip
    rw [if_pos hc] at hm
    refine WP.seq ?_
    refine WP.region ?_
    refine RW.run ttok 1 rfl ?_
    refine RW.nil ?_
    refine WP.ret ?_
    cases hm
    exact ⟨_, .cons (.tmp rfl) .nil, rfl, (hS.taken 0)⟩
  · skip
    rw [if_neg (not_t hc)] at hm
    refine WP.skip ?_
    refine WP.seq ?_
    refine WP.seq ?_
    refine WP.region ?_
    refine RW.run ttok 1 rfl ?_
    refine RW.nil ?_
    obtain ⟨o8, hl9, hm⟩ := bind_some hm
    refine WP.cut (fun (t2 : Unit) F w9 => o8 = .inl t2 ∧ Ext w w9 ∧ St w w9 [] ∧ F = []) ?_ ?_
    · skip
      rintro t2 F w7 ⟨ho11, hE6, hS10, rfl⟩
      subst ho11
      have hm : m_laws_eqDequeActorS_j1 fuel t2 = some r := hm
      unfold m_laws_eqDequeActorS_j1 at hm
      refine WP.seq ?_
      refine WP.region ?_
      refine RW.run ttok 1 rfl ?_
      refine RW.nil ?_
      refine WP.ret ?_
      cases hm
      exact ⟨_, .cons (.tmp rfl) .nil, rfl, (hS10.taken 0)⟩
    · skip
      refine WP.block ?_
      refine WP.weak [(0, .slice A0_ x0.length k0_), (1, .slice A1_ x1.length k1_), (5, .int .i64 0)] ⟨rfl, rfl, rfl, trivial⟩ ?_
      refine WP.iter (fun (s1 : Int) F w9 => Ext w w9 ∧ St w w9 [] ∧ F = [(0, .slice A0_ x0.length k0_), (1, .slice A1_ x1.length k1_), (5, .int .i64 s1)]) _ hl9 ⟨(Ext.refl _), (hS.taken 0), rfl⟩ ?_
      rintro s1 F w16 _ o14 ⟨hE5, hS15, rfl⟩ hb12 ho13
      unfold m_laws_eqDequeActorS_b1 at hb12
      refine WP.seq ?_
      refine WP.seq ?_
      refine WP.region ?_
      refine RW.run ttok 4 rfl ?_
      refine RW.nil ?_
      refine WP.cond (decide (s1 < (x0.length : Int))) rfl (fun hc => ?_) (fun hc => ?_)
      · skip
        rw [if_pos hc] at hb12
        refine WP.skip ?_
        refine WP.seq ?_
        refine WP.block ?_
        refine WP.seq ?_
        refine WP.drawnM mixed 10 (by kernel_rfl) (by kernel_rfl) [([], 1023), ([], 1023), ([0, 1], 1020), ([2], 1019), ([], 1023), ([], 1023), ([4, 5], 975), ([6], 959), ([3, 7], 887), ([8], 767)] (by kernel_rfl) (fun hsk17 => ?_)
        have hS18 := hS15.step (Ext.draw _)
        refine DM.run (fuel := 6) ttok hsk17 [0, 1, 4, 5] 51 (by kernel_rfl) rfl ?_
        obtain ⟨x19, hx20, hb12⟩ := bind_some hb12
        refine DM.idx ttok hS15.ext hsk17 2 55 (by kernel_rfl) rfl (by kernel_rfl) rfl rfl rfl rfl rfl rfl (by decide) rfl rfl h0_ (idx_some hx20).1 (idx_some hx20).2 rfl rfl (fun p21 es22 ha23 hr24 => ?_)
        obtain ⟨A25, k26, e28, h27⟩ := ty85_open hr24; subst e28
        refine DM.loadN ttok hsk17 3 63 (by kernel_rfl) rfl (by kernel_rfl) rfl rfl rfl rfl rfl (At.ext hS15.ext ha23) rfl rfl rfl ?_
        obtain ⟨x29, hx30, hb12⟩ := bind_some hb12
        refine DM.idx ttok hS15.ext hsk17 6 127 (by kernel_rfl) rfl (by kernel_rfl) rfl rfl rfl rfl rfl rfl (by decide) rfl rfl h1_ (idx_some hx30).1 (idx_some hx30).2 rfl rfl (fun p31 es32 ha33 hr34 => ?_)
        obtain ⟨A35, k36, e38, h37⟩ := ty85_open hr34; subst e38
        refine DM.loadN ttok hsk17 7 255 (by kernel_rfl) rfl (by kernel_rfl) rfl rfl rfl rfl rfl (At.ext hS15.ext ha33) rfl rfl rfl ?_
        obtain ⟨r39, hx40, hb12⟩ := bind_some hb12
        refine DM.one hsk17 8 (by kernel_rfl) (LM.call hsk17 511 (by kernel_rfl) rfl rfl rfl rfl enters95 (laws_eqDequeActor_ok (ty85.ext hS18.ext hr24) (ty85.ext hS18.ext hr34) hx40) (fun v41 w42 hR43 => ?_))
        obtain ⟨rfl, hR44⟩ := hR43
        refine ⟨hR44.ext, ?_⟩
        have hS45 := hS18.join hR44
        refine DM.run (fuel := 0) ttok hsk17 [9] 1023 (by kernel_rfl) rfl ?_
        refine DM.weak [(0, .slice A0_ x0.length k0_), (1, .slice A1_ x1.length k1_), (5, .int .i64 s1), (26, .bool (!r39))] ⟨rfl, rfl, rfl, rfl, trivial⟩ ?_
        refine DM.done hsk17 (by kernel_rfl) (fun _ => ?_)
        refine WP.cond (!r39) rfl (fun hc => ?_) (fun hc => ?_)
        · skip
          rw [if_pos hc] at hb12
          refine WP.seq ?_
          refine WP.region ?_
          refine RW.run ttok 1 rfl ?_
          refine RW.nil ?_
          refine WP.ret ?_
          cases hb12
          cases ho13
          have hm : some _ = some _ := hm
          cases hm
          exact ⟨_, .cons (.tmp rfl) .nil, rfl, (hS45.taken 0)⟩
        · skip
          rw [if_neg (not_t hc)] at hb12
          refine WP.skip ?_
          refine WP.region ?_
          refine RW.run ttok 3 rfl ?_
          refine RW.nil ?_
          cases hb12
          exact ⟨_, [(0, .slice A0_ x0.length k0_), (1, .slice A1_ x1.length k1_), (5, .int .i64 (w64 (s1 + 1)))], ⟨rfl, rfl, rfl, trivial⟩, rfl, ((hE5.trans (Ext.draw _)).trans hR44.ext), (hS45.taken 0), rfl⟩
      · skip
        rw [if_neg (not_t hc)] at hb12
        refine WP.exit ?_
        cases hb12
        exact ⟨_, [], trivial, ho13, hE5, (hS15.taken 0), rfl⟩

theorem enters96 : Enters Try.prog 96 := ⟨_, _, Try.func96, rfl, by kernel_rfl⟩
def m_laws_eqHanded (fuel : Nat) (x0 : D.Handed) (x1 : D.Handed) : Option (Bool) := (if (x0.Actor != x1.Actor) = true then some false else (if (x0.Value != x1.Value) = true then some false else some true))

set_option maxRecDepth 100000 in
theorem laws_eqHanded_ok {w : World} {c0_ : List Value} {x0 : D.Handed} {c1_ : List Value} {x1 : D.Handed} (h0_ : ty82.ro w c0_ x0) (h1_ : ty82.ro w c1_ x1) {fuel : Nat} {r : Bool} (hm : m_laws_eqHanded fuel x0 x1 = some r) :
    Calls Try.prog 96 ⟨[.agg ⟨c0_⟩, .agg ⟨c1_⟩]⟩ w (Ret fun v w8 => v = .bool r ∧ St w w8 []) := by
  have e1 := ty82_open h0_; subst e1
  have e2 := ty82_open h1_; subst e2
  refine Calls.into Try.func96 rfl 15 rfl rfl _ rfl ?_
  unfold m_laws_eqHanded at hm
  have hS := St.start w
  refine WP.seq ?_
  refine WP.region ?_
  refine RW.new ttok hS rfl rfl rfl rfl (fun g3 w4 e5 hS6 => ?_)
  refine RW.new ttok hS6 rfl rfl rfl rfl (fun g7 w8 e9 hS10 => ?_)
  refine RW.run ttok 1 rfl ?_
  refine RW.nil ?_
  refine WP.seq ?_
  refine WP.seq ?_
  refine WP.region ?_
  refine RW.run ttok 1 rfl ?_
  refine RW.load1 ttok rfl rfl rfl rfl rfl ((hS10.bring 1 rfl).box) 0 rfl rfl rfl rfl ?_
  refine RW.run ttok 1 rfl ?_
  refine RW.load1 ttok rfl rfl rfl rfl rfl ((hS10.bring 0 rfl).box) 0 rfl rfl rfl rfl ?_
  refine RW.run ttok 1 rfl ?_
  refine RW.nil ?_
  refine WP.cond (x0.Actor != x1.Actor) rfl (fun hc => ?_) (fun hc => ?_)
  · skip
    rw [if_pos hc] at hm
    refine WP.seq ?_
    refine WP.region ?_
    refine RW.run ttok 1 rfl ?_
    refine RW.nil ?_
    refine WP.ret ?_
    cases hm
    exact ⟨_, .cons (.tmp rfl) .nil, rfl, (hS10.taken 0)⟩
  · skip
    rw [if_neg (not_t hc)] at hm
    refine WP.skip ?_
    refine WP.seq ?_
    refine WP.seq ?_
    refine WP.region ?_
    refine RW.run ttok 1 rfl ?_
    refine RW.load1 ttok rfl rfl rfl rfl rfl ((hS10.bring 1 rfl).box) 1 rfl rfl rfl rfl ?_
    refine RW.run ttok 1 rfl ?_
    refine RW.load1 ttok rfl rfl rfl rfl rfl ((hS10.bring 0 rfl).box) 1 rfl rfl rfl rfl ?_
    refine RW.run ttok 1 rfl ?_
    refine RW.nil ?_
    refine WP.cond (x0.Value != x1.Value) rfl (fun hc => ?_) (fun hc => ?_)
    · skip
      rw [if_pos hc] at hm
      refine WP.seq ?_
      refine WP.region ?_
      refine RW.run ttok 1 rfl ?_
      refine RW.nil ?_
      refine WP.ret ?_
      cases hm
      exact ⟨_, .cons (.tmp rfl) .nil, rfl, (hS10.taken 0)⟩
    · skip
      rw [if_neg (not_t hc)] at hm
      refine WP.skip ?_
      refine WP.seq ?_
      refine WP.region ?_
      refine RW.run ttok 1 rfl ?_
      refine RW.nil ?_
      refine WP.ret ?_
      cases hm
      exact ⟨_, .cons (.tmp rfl) .nil, rfl, (hS10.taken 0)⟩

theorem enters65 : Enters Try.prog 65 := ⟨_, _, Try.func65, rfl, by kernel_rfl⟩
def m_laws_eqHandedS_j1 (fuel : Nat) (t2 : Unit) : Option Bool := some true
def m_laws_eqHandedS_b1 (fuel : Nat) (x0 : (List D.Handed)) (x1 : (List D.Handed)) (s1 : Int) : Option (Rd (Int) (Unit) (Bool)) := (if (decide (s1 < (x0.length : Int))) = true then ((idx x0 s1).bind fun x19 => ((idx x1 s1).bind fun x26 => ((m_laws_eqHanded fuel x19 x26).bind fun r33 => (if (!r33) = true then some (.ret false) else some (.next (w64 (s1 + 1))))))) else some (.brk ()))
def m_laws_eqHandedS (fuel : Nat) (x0 : (List D.Handed)) (x1 : (List D.Handed)) : Option (Bool) := (if ((x0.length : Int) != (x1.length : Int)) = true then some false else ((iter (m_laws_eqHandedS_b1 fuel x0 x1) fuel 0).bind fun o => aft o (m_laws_eqHandedS_j1 fuel)))

set_option maxRecDepth 100000 in
theorem laws_eqHandedS_ok {w : World} {A0_ : Option Addr} {k0_ : Nat} {x0 : (List D.Handed)} {A1_ : Option Addr} {k1_ : Nat} {x1 : (List D.Handed)} (h0_ : ty43.ro w [.slice A0_ x0.length k0_] x0) (h1_ : ty43.ro w [.slice A1_ x1.length k1_] x1) {fuel : Nat} {r : Bool} (hm : m_laws_eqHandedS fuel x0 x1 = some r) :
    Calls Try.prog 65 ⟨[.slice A0_ x0.length k0_, .slice A1_ x1.length k1_]⟩ w (Ret fun v w8 => v = .bool r ∧ St w w8 []) := by
  refine Calls.into Try.func65 rfl 27 rfl rfl _ rfl ?_
  unfold m_laws_eqHandedS at hm
  have hS := St.start w
  refine WP.seq ?_
  refine WP.region ?_
  refine RW.run ttok 1 rfl ?_
  refine RW.nil ?_
  refine WP.seq ?_
  refine WP.seq ?_
  refine WP.region ?_
  refine RW.run ttok 5 rfl ?_
  refine RW.nil ?_
  refine WP.cond ((x0.length : Int) != (x1.length : Int)) rfl (fun hc => ?_) (fun hc => ?_)
  · skip
    rw [if_pos hc] at hm
    refine WP.seq ?_
    refine WP.region ?_
    refine RW.run ttok 1 rfl ?_
    refine RW.nil ?_
    refine WP.ret ?_
    cases hm
    exact ⟨_, .cons (.tmp rfl) .nil, rfl, (hS.taken 0)⟩
  · skip
    rw [if_neg (not_t hc)] at hm
    refine WP.skip ?_
    refine WP.seq ?_
    refine WP.seq ?_
    refine WP.region ?_
    refine RW.run ttok 1 rfl ?_
    refine RW.nil ?_
    obtain ⟨o8, hl9, hm⟩ := bind_some hm
    refine WP.cut (fun (t2 : Unit) F w9 => o8 = .inl t2 ∧ Ext w w9 ∧ St w w9 [] ∧ F = []) ?_ ?_
    · skip
      rintro t2 F w7 ⟨ho11, hE6, hS10, rfl⟩
      subst ho11
      have hm : m_laws_eqHandedS_j1 fuel t2 = some r := hm
      unfold m_laws_eqHandedS_j1 at hm
      refine WP.seq ?_
      refine WP.region ?_
      refine RW.run ttok 1 rfl ?_
      refine RW.nil ?_
      refine WP.ret ?_
      cases hm
      exact ⟨_, .cons (.tmp rfl) .nil, rfl, (hS10.taken 0)⟩
    · skip
      refine WP.block ?_
      refine WP.weak [(0, .slice A0_ x0.length k0_), (1, .slice A1_ x1.length k1_), (5, .int .i64 0)] ⟨rfl, rfl, rfl, trivial⟩ ?_
      refine WP.iter (fun (s1 : Int) F w9 => Ext w w9 ∧ St w w9 [] ∧ F = [(0, .slice A0_ x0.length k0_), (1, .slice A1_ x1.length k1_), (5, .int .i64 s1)]) _ hl9 ⟨(Ext.refl _), (hS.taken 0), rfl⟩ ?_
      rintro s1 F w16 _ o14 ⟨hE5, hS15, rfl⟩ hb12 ho13
      unfold m_laws_eqHandedS_b1 at hb12
      refine WP.seq ?_
      refine WP.seq ?_
      refine WP.region ?_
      refine RW.run ttok 4 rfl ?_
      refine RW.nil ?_
      refine WP.cond (decide (s1 < (x0.length : Int))) rfl (fun hc => ?_) (fun hc => ?_)
      · skip
        rw [if_pos hc] at hb12
        refine WP.skip ?_
        refine WP.seq ?_
        refine WP.block ?_
        refine WP.seq ?_
        refine WP.drawnM mixed 10 (by kernel_rfl) (by kernel_rfl) [([], 1023), ([], 1023), ([0, 1], 1020), ([2], 1019), ([], 1023), ([], 1023), ([4, 5], 975), ([6], 959), ([3, 7], 887), ([8], 767)] (by kernel_rfl) (fun hsk17 => ?_)
        have hS18 := hS15.step (Ext.draw _)
        refine DM.run (fuel := 6) ttok hsk17 [0, 1, 4, 5] 51 (by kernel_rfl) rfl ?_
        obtain ⟨x19, hx20, hb12⟩ := bind_some hb12
        refine DM.idx ttok hS15.ext hsk17 2 55 (by kernel_rfl) rfl (by kernel_rfl) rfl rfl rfl rfl rfl rfl (by decide) rfl rfl h0_ (idx_some hx20).1 (idx_some hx20).2 rfl rfl (fun p21 es22 ha23 hr24 => ?_)
        have e25 := ty82_open hr24; subst e25
        refine DM.loadN ttok hsk17 3 63 (by kernel_rfl) rfl (by kernel_rfl) rfl rfl rfl rfl rfl (At.ext hS15.ext ha23) rfl rfl rfl ?_
        obtain ⟨x26, hx27, hb12⟩ := bind_some hb12
        refine DM.idx ttok hS15.ext hsk17 6 127 (by kernel_rfl) rfl (by kernel_rfl) rfl rfl rfl rfl rfl rfl (by decide) rfl rfl h1_ (idx_some hx27).1 (idx_some hx27).2 rfl rfl (fun p28 es29 ha30 hr31 => ?_)
        have e32 := ty82_open hr31; subst e32
        refine DM.loadN ttok hsk17 7 255 (by kernel_rfl) rfl (by kernel_rfl) rfl rfl rfl rfl rfl (At.ext hS15.ext ha30) rfl rfl rfl ?_
        obtain ⟨r33, hx34, hb12⟩ := bind_some hb12
        refine DM.one hsk17 8 (by kernel_rfl) (LM.call hsk17 511 (by kernel_rfl) rfl rfl rfl rfl enters96 (laws_eqHanded_ok (ty82.ext hS18.ext hr24) (ty82.ext hS18.ext hr31) hx34) (fun v35 w36 hR37 => ?_))
        obtain ⟨rfl, hR38⟩ := hR37
        refine ⟨hR38.ext, ?_⟩
        have hS39 := hS18.join hR38
        refine DM.run (fuel := 0) ttok hsk17 [9] 1023 (by kernel_rfl) rfl ?_
        refine DM.weak [(0, .slice A0_ x0.length k0_), (1, .slice A1_ x1.length k1_), (5, .int .i64 s1), (26, .bool (!r33))] ⟨rfl, rfl, rfl, rfl, trivial⟩ ?_
        refine DM.done hsk17 (by kernel_rfl) (fun _ => ?_)
        refine WP.cond (!r33) rfl (fun hc => ?_) (fun hc => ?_)
        · skip
          rw [if_pos hc] at hb12
          refine WP.seq ?_
          refine WP.region ?_
          refine RW.run ttok 1 rfl ?_
          refine RW.nil ?_
          refine WP.ret ?_
          cases hb12
          cases ho13
          have hm : some _ = some _ := hm
          cases hm
          exact ⟨_, .cons (.tmp rfl) .nil, rfl, (hS39.taken 0)⟩
        · skip
          rw [if_neg (not_t hc)] at hb12
          refine WP.skip ?_
          refine WP.region ?_
          refine RW.run ttok 3 rfl ?_
          refine RW.nil ?_
          cases hb12
          exact ⟨_, [(0, .slice A0_ x0.length k0_), (1, .slice A1_ x1.length k1_), (5, .int .i64 (w64 (s1 + 1)))], ⟨rfl, rfl, rfl, trivial⟩, rfl, ((hE5.trans (Ext.draw _)).trans hR38.ext), (hS39.taken 0), rfl⟩
      · skip
        rw [if_neg (not_t hc)] at hb12
        refine WP.exit ?_
        cases hb12
        exact ⟨_, [], trivial, ho13, hE5, (hS15.taken 0), rfl⟩

theorem enters22 : Enters Try.prog 22 := ⟨_, _, Try.func22, rfl, by kernel_rfl⟩
def m_laws_eqDeque (fuel : Nat) (x0 : D.Deque) (x1 : D.Deque) : Option (Bool) := (if (x0.Top != x1.Top) = true then some false else (if (x0.Bottom != x1.Bottom) = true then some false else ((m_laws_eqInt64S fuel x0.Buffer x1.Buffer).bind fun r35 => (if (!r35) = true then some false else ((m_laws_eqDequeActorS fuel x0.Actors x1.Actors).bind fun r42 => (if (!r42) = true then some false else ((m_laws_eqHandedS fuel x0.Taken x1.Taken).bind fun r49 => (if (!r49) = true then some false else ((m_laws_eqInt64S fuel x0.Refused x1.Refused).bind fun r56 => (if (!r56) = true then some false else some true))))))))))

set_option maxRecDepth 100000 in
theorem laws_eqDeque_ok {w : World} {c0_ : List Value} {x0 : D.Deque} {c1_ : List Value} {x1 : D.Deque} (h0_ : ty45.ro w c0_ x0) (h1_ : ty45.ro w c1_ x1) {fuel : Nat} {r : Bool} (hm : m_laws_eqDeque fuel x0 x1 = some r) :
    Calls Try.prog 22 ⟨[.agg ⟨c0_⟩, .agg ⟨c1_⟩]⟩ w (Ret fun v w8 => v = .bool r ∧ St w w8 []) := by
  obtain ⟨A1, k2, A4, k5, A7, k8, A10, k11, e13, h3, h6, h9, h12⟩ := ty45_open h0_; subst e13
  obtain ⟨A14, k15, A17, k18, A20, k21, A23, k24, e26, h16, h19, h22, h25⟩ := ty45_open h1_; subst e26
  refine Calls.into Try.func22 rfl 39 rfl rfl _ rfl ?_
  unfold m_laws_eqDeque at hm
  have hS := St.start w
  refine WP.seq ?_
  refine WP.region ?_
  refine RW.new ttok hS rfl rfl rfl rfl (fun g27 w28 e29 hS30 => ?_)
  refine RW.new ttok hS30 rfl rfl rfl rfl (fun g31 w32 e33 hS34 => ?_)
  refine RW.run ttok 1 rfl ?_
  refine RW.nil ?_
  refine WP.seq ?_
  refine WP.seq ?_
  refine WP.region ?_
  refine RW.run ttok 1 rfl ?_
  refine RW.load1 ttok rfl rfl rfl rfl rfl ((hS34.bring 1 rfl).box) 0 rfl rfl rfl rfl ?_
  refine RW.run ttok 1 rfl ?_
  refine RW.load1 ttok rfl rfl rfl rfl rfl ((hS34.bring 0 rfl).box) 0 rfl rfl rfl rfl ?_
  refine RW.run ttok 1 rfl ?_
  refine RW.nil ?_
  refine WP.cond (x0.Top != x1.Top) rfl (fun hc => ?_) (fun hc => ?_)
  · skip
    rw [if_pos hc] at hm
    refine WP.seq ?_
    refine WP.region ?_
    refine RW.run ttok 1 rfl ?_
    refine RW.nil ?_
    refine WP.ret ?_
    cases hm
    exact ⟨_, .cons (.tmp rfl) .nil, rfl, (hS34.taken 0)⟩
  · skip
    rw [if_neg (not_t hc)] at hm
    refine WP.skip ?_
    refine WP.seq ?_
    refine WP.seq ?_
    refine WP.region ?_
    refine RW.run ttok 1 rfl ?_
    refine RW.load1 ttok rfl rfl rfl rfl rfl ((hS34.bring 1 rfl).box) 1 rfl rfl rfl rfl ?_
    refine RW.run ttok 1 rfl ?_
    refine RW.load1 ttok rfl rfl rfl rfl rfl ((hS34.bring 0 rfl).box) 1 rfl rfl rfl rfl ?_
    refine RW.run ttok 1 rfl ?_
    refine RW.nil ?_
    refine WP.cond (x0.Bottom != x1.Bottom) rfl (fun hc => ?_) (fun hc => ?_)
    · skip
      rw [if_pos hc] at hm
      refine WP.seq ?_
      refine WP.region ?_
      refine RW.run ttok 1 rfl ?_
      refine RW.nil ?_
      refine WP.ret ?_
      cases hm
      exact ⟨_, .cons (.tmp rfl) .nil, rfl, (hS34.taken 0)⟩
    · skip
      rw [if_neg (not_t hc)] at hm
      refine WP.skip ?_
      refine WP.seq ?_
      refine WP.seq ?_
      refine WP.region ?_
      refine RW.run ttok 1 rfl ?_
      refine RW.load1 ttok rfl rfl rfl rfl rfl ((hS34.bring 1 rfl).box) 2 rfl rfl rfl rfl ?_
      refine RW.run ttok 1 rfl ?_
      refine RW.load1 ttok rfl rfl rfl rfl rfl ((hS34.bring 0 rfl).box) 2 rfl rfl rfl rfl ?_
      obtain ⟨r35, hx36, hm⟩ := bind_some hm
      refine RW.call rfl rfl rfl enters26 (laws_eqInt64S_ok (ty35.ext hS34.ext h3) (ty35.ext hS34.ext h16) hx36) (fun v37 w38 hR39 => ?_)
      obtain ⟨rfl, hR40⟩ := hR39
      have hS41 := hS34.join hR40
      refine RW.run ttok 1 rfl ?_
      refine RW.nil ?_
      refine WP.cond (!r35) rfl (fun hc => ?_) (fun hc => ?_)
      · skip
        rw [if_pos hc] at hm
        refine WP.seq ?_
        refine WP.region ?_
        refine RW.run ttok 1 rfl ?_
        refine RW.nil ?_
        refine WP.ret ?_
        cases hm
        exact ⟨_, .cons (.tmp rfl) .nil, rfl, (hS41.taken 0)⟩
      · skip
        rw [if_neg (not_t hc)] at hm
        refine WP.skip ?_
        refine WP.seq ?_
        refine WP.seq ?_
        refine WP.region ?_
        refine RW.run ttok 1 rfl ?_
        refine RW.load1 ttok rfl rfl rfl rfl rfl ((hS41.bring 1 rfl).box) 3 rfl rfl rfl rfl ?_
        refine RW.run ttok 1 rfl ?_
        refine RW.load1 ttok rfl rfl rfl rfl rfl ((hS41.bring 0 rfl).box) 3 rfl rfl rfl rfl ?_
        obtain ⟨r42, hx43, hm⟩ := bind_some hm
        refine RW.call rfl rfl rfl enters64 (laws_eqDequeActorS_ok (ty42.ext hS41.ext h6) (ty42.ext hS41.ext h19) hx43) (fun v44 w45 hR46 => ?_)
        obtain ⟨rfl, hR47⟩ := hR46
        have hS48 := hS41.join hR47
        refine RW.run ttok 1 rfl ?_
        refine RW.nil ?_
        refine WP.cond (!r42) rfl (fun hc => ?_) (fun hc => ?_)
        · skip
          rw [if_pos hc] at hm
          refine WP.seq ?_
          refine WP.region ?_
          refine RW.run ttok 1 rfl ?_
          refine RW.nil ?_
          refine WP.ret ?_
          cases hm
          exact ⟨_, .cons (.tmp rfl) .nil, rfl, (hS48.taken 0)⟩
        · skip
          rw [if_neg (not_t hc)] at hm
          refine WP.skip ?_
          refine WP.seq ?_
          refine WP.seq ?_
          refine WP.region ?_
          refine RW.run ttok 1 rfl ?_
          refine RW.load1 ttok rfl rfl rfl rfl rfl ((hS48.bring 1 rfl).box) 4 rfl rfl rfl rfl ?_
          refine RW.run ttok 1 rfl ?_
          refine RW.load1 ttok rfl rfl rfl rfl rfl ((hS48.bring 0 rfl).box) 4 rfl rfl rfl rfl ?_
          obtain ⟨r49, hx50, hm⟩ := bind_some hm
          refine RW.call rfl rfl rfl enters65 (laws_eqHandedS_ok (ty43.ext hS48.ext h9) (ty43.ext hS48.ext h22) hx50) (fun v51 w52 hR53 => ?_)
          obtain ⟨rfl, hR54⟩ := hR53
          have hS55 := hS48.join hR54
          refine RW.run ttok 1 rfl ?_
          refine RW.nil ?_
          refine WP.cond (!r49) rfl (fun hc => ?_) (fun hc => ?_)
          · skip
            rw [if_pos hc] at hm
            refine WP.seq ?_
            refine WP.region ?_
            refine RW.run ttok 1 rfl ?_
            refine RW.nil ?_
            refine WP.ret ?_
            cases hm
            exact ⟨_, .cons (.tmp rfl) .nil, rfl, (hS55.taken 0)⟩
          · skip
            rw [if_neg (not_t hc)] at hm
            refine WP.skip ?_
            refine WP.seq ?_
            refine WP.seq ?_
            refine WP.region ?_
            refine RW.run ttok 1 rfl ?_
            refine RW.load1 ttok rfl rfl rfl rfl rfl ((hS55.bring 1 rfl).box) 5 rfl rfl rfl rfl ?_
            refine RW.run ttok 1 rfl ?_
            refine RW.load1 ttok rfl rfl rfl rfl rfl ((hS55.bring 0 rfl).box) 5 rfl rfl rfl rfl ?_
            obtain ⟨r56, hx57, hm⟩ := bind_some hm
            refine RW.call rfl rfl rfl enters26 (laws_eqInt64S_ok (ty35.ext hS55.ext h12) (ty35.ext hS55.ext h25) hx57) (fun v58 w59 hR60 => ?_)
            obtain ⟨rfl, hR61⟩ := hR60
            have hS62 := hS55.join hR61
            refine RW.run ttok 1 rfl ?_
            refine RW.nil ?_
            refine WP.cond (!r56) rfl (fun hc => ?_) (fun hc => ?_)
            · skip
              rw [if_pos hc] at hm
              refine WP.seq ?_
              refine WP.region ?_
              refine RW.run ttok 1 rfl ?_
              refine RW.nil ?_
              refine WP.ret ?_
              cases hm
              exact ⟨_, .cons (.tmp rfl) .nil, rfl, (hS62.taken 0)⟩
            · skip
              rw [if_neg (not_t hc)] at hm
              refine WP.skip ?_
              refine WP.seq ?_
              refine WP.region ?_
              refine RW.run ttok 1 rfl ?_
              refine RW.nil ?_
              refine WP.ret ?_
              cases hm
              exact ⟨_, .cons (.tmp rfl) .nil, rfl, (hS62.taken 0)⟩

theorem enters6 : Enters Try.prog 6 := ⟨_, _, Try.func6, rfl, by kernel_rfl⟩
def m_laws_FnExactSameDeque (fuel : Nat) (x0 : D.Deque) (x1 : D.Deque) : Option (Bool) := ((m_laws_szDeque fuel x0 1048576).bind fun r35 => (if (decide (r35 < 0)) = true then some true else ((m_laws_szDeque fuel x1 r35).bind fun r42 => (if (decide (r42 < 0)) = true then some true else ((m_laws_toDeque fuel x0).bind fun r51 => ((m_laws_toDeque fuel x1).bind fun r66 => ((m_spec_SameDeque fuel r51 r66).bind fun r81 => ((m_laws_toDeque fuel x0).bind fun r88 => ((m_laws_toDeque fuel x1).bind fun r110 => ((m_impl_SameDeque fuel r88 r110).bind fun r132 => (if (!(r132 == r81)) = true then some false else ((m_laws_toDeque fuel x0).bind fun r141 => ((m_laws_eqDeque fuel r88 r141).bind fun r156 => (if (!r156) = true then some false else ((m_laws_toDeque fuel x1).bind fun r165 => ((m_laws_eqDeque fuel r110 r165).bind fun r180 => (if (!r180) = true then some false else some true)))))))))))))))))

set_option maxRecDepth 100000 in
theorem laws_FnExactSameDeque_ok {w : World} {c0_ : List Value} {x0 : D.Deque} {c1_ : List Value} {x1 : D.Deque} (h0_ : ty39.ro w c0_ x0) (h1_ : ty39.ro w c1_ x1) {fuel : Nat} {r : Bool} (hm : m_laws_FnExactSameDeque fuel x0 x1 = some r) :
    Calls Try.prog 6 ⟨[.agg ⟨c0_⟩, .agg ⟨c1_⟩]⟩ w (Ret fun v w8 => v = .bool r ∧ St w w8 []) := by
  obtain ⟨A1, k2, A4, k5, A7, k8, A10, k11, e13, h3, h6, h9, h12⟩ := ty39_open h0_; subst e13
  obtain ⟨A14, k15, A17, k18, A20, k21, A23, k24, e26, h16, h19, h22, h25⟩ := ty39_open h1_; subst e26
  refine Calls.into Try.func6 rfl 45 rfl rfl _ rfl ?_
  unfold m_laws_FnExactSameDeque at hm
  have hS := St.start w
  refine WP.seq ?_
  refine WP.region ?_
  refine RW.new ttok hS rfl rfl rfl rfl (fun g27 w28 e29 hS30 => ?_)
  refine RW.new ttok hS30 rfl rfl rfl rfl (fun g31 w32 e33 hS34 => ?_)
  refine RW.run ttok 1 rfl ?_
  refine RW.nil ?_
  refine WP.seq ?_
  refine WP.region ?_
  refine RW.run ttok 1 rfl ?_
  refine RW.nil ?_
  refine WP.seq ?_
  refine WP.region ?_
  refine RW.loadN ttok rfl rfl rfl rfl rfl ((hS34.bring 1 rfl).box) rfl rfl rfl ?_
  refine RW.run ttok 1 rfl ?_
  obtain ⟨r35, hx36, hm⟩ := bind_some hm
  refine RW.call rfl rfl rfl enters18 (laws_szDeque_ok (ty39.ext hS34.ext h0_) hx36) (fun v37 w38 hR39 => ?_)
  obtain ⟨rfl, hR40⟩ := hR39
  have hS41 := hS34.join hR40
  refine RW.run ttok 1 rfl ?_
  refine RW.nil ?_
  refine WP.seq ?_
  refine WP.seq ?_
  refine WP.region ?_
  refine RW.run ttok 2 rfl ?_
  refine RW.nil ?_
  refine WP.cond (decide (r35 < 0)) rfl (fun hc => ?_) (fun hc => ?_)
  · skip
    rw [if_pos hc] at hm
    refine WP.seq ?_
    refine WP.region ?_
    refine RW.run ttok 1 rfl ?_
    refine RW.nil ?_
    refine WP.ret ?_
    cases hm
    exact ⟨_, .cons (.tmp rfl) .nil, rfl, (hS41.taken 0)⟩
  · skip
    rw [if_neg (not_t hc)] at hm
    refine WP.skip ?_
    refine WP.seq ?_
    refine WP.region ?_
    refine RW.loadN ttok rfl rfl rfl rfl rfl ((hS41.bring 0 rfl).box) rfl rfl rfl ?_
    refine RW.run ttok 1 rfl ?_
    obtain ⟨r42, hx43, hm⟩ := bind_some hm
    refine RW.call rfl rfl rfl enters18 (laws_szDeque_ok (ty39.ext hS41.ext h1_) hx43) (fun v44 w45 hR46 => ?_)
    obtain ⟨rfl, hR47⟩ := hR46
    have hS48 := hS41.join hR47
    refine RW.run ttok 1 rfl ?_
    refine RW.nil ?_
    refine WP.seq ?_
    refine WP.seq ?_
    refine WP.region ?_
    refine RW.run ttok 2 rfl ?_
    refine RW.nil ?_
    refine WP.cond (decide (r42 < 0)) rfl (fun hc => ?_) (fun hc => ?_)
    · skip
      rw [if_pos hc] at hm
      refine WP.seq ?_
      refine WP.region ?_
      refine RW.run ttok 1 rfl ?_
      refine RW.nil ?_
      refine WP.ret ?_
      cases hm
      exact ⟨_, .cons (.tmp rfl) .nil, rfl, (hS48.taken 0)⟩
    · skip
      rw [if_neg (not_t hc)] at hm
      refine WP.skip ?_
      refine WP.seq ?_
      refine WP.drawnM mixed 6 (by kernel_rfl) (by kernel_rfl) [([], 63), ([0], 62), ([], 63), ([2, 1], 59), ([1, 3, 3], 53), ([4, 4, 0, 1, 2, 3, 4], 47)] (by kernel_rfl) (fun hsk49 => ?_)
      have hS50 := hS48.step (Ext.draw _)
      refine DM.loadN ttok hsk49 0 1 (by kernel_rfl) rfl (by kernel_rfl) rfl rfl rfl rfl rfl ((hS48.bring 1 rfl).box) rfl rfl rfl ?_
      refine DM.loadN ttok hsk49 2 5 (by kernel_rfl) rfl (by kernel_rfl) rfl rfl rfl rfl rfl ((hS48.bring 0 rfl).box) rfl rfl rfl ?_
      obtain ⟨r51, hx52, hm⟩ := bind_some hm
      refine DM.one hsk49 1 (by kernel_rfl) (LM.call hsk49 7 (by kernel_rfl) rfl rfl rfl rfl enters20 (laws_toDeque_ok (ty39.ext hS50.ext h0_) hx52) (fun v53 w54 hR55 => ?_))
      obtain ⟨A56, k57, A58, k59, A60, k61, A62, k63, rfl, hR64⟩ := hR55
      refine ⟨hR64.ext, ?_⟩
      have hS65 := hS50.join hR64
      obtain ⟨r66, hx67, hm⟩ := bind_some hm
      refine DM.one hsk49 3 (by kernel_rfl) (LM.call hsk49 15 (by kernel_rfl) rfl rfl rfl rfl enters20 (laws_toDeque_ok (ty39.ext hS65.ext h1_) hx67) (fun v68 w69 hR70 => ?_))
      obtain ⟨A71, k72, A73, k74, A75, k76, A77, k78, rfl, hR79⟩ := hR70
      refine ⟨hR79.ext, ?_⟩
      have hS80 := hS65.join hR79
      obtain ⟨r81, hx82, hm⟩ := bind_some hm
      refine DM.one hsk49 4 (by kernel_rfl) (LM.call hsk49 31 (by kernel_rfl) rfl rfl rfl rfl enters19 (spec_SameDeque_ok (ty45_shut r51 ((hS80.bring 4 rfl).own) ((hS80.bring 5 rfl).own) ((hS80.bring 6 rfl).own) ((hS80.bring 7 rfl).own)) (ty45_shut r66 ((hS80.bring 0 rfl).own) ((hS80.bring 1 rfl).own) ((hS80.bring 2 rfl).own) ((hS80.bring 3 rfl).own)) hx82) (fun v83 w84 hR85 => ?_))
      obtain ⟨rfl, hR86⟩ := hR85
      refine ⟨hR86.ext, ?_⟩
      have hS87 := hS80.join hR86
      refine DM.run (fuel := 0) ttok hsk49 [5] 63 (by kernel_rfl) rfl ?_
      refine DM.weak [(2, .pointer (some ⟨g27, 0, none⟩)), (3, .pointer (some ⟨g31, 0, none⟩)), (6, .bool r81)] ⟨rfl, rfl, rfl, trivial⟩ ?_
      refine DM.done hsk49 (by kernel_rfl) (fun _ => ?_)
      refine WP.seq ?_
      refine WP.region ?_
      refine RW.loadN ttok rfl rfl rfl rfl rfl ((hS87.bring 9 rfl).box) rfl rfl rfl ?_
      obtain ⟨r88, hx89, hm⟩ := bind_some hm
      refine RW.call rfl rfl rfl enters20 (laws_toDeque_ok (ty39.ext hS87.ext h0_) hx89) (fun v90 w91 hR92 => ?_)
      obtain ⟨A93, k94, A95, k96, A97, k98, A99, k100, rfl, hR101⟩ := hR92
      have hS102 := hS87.join hR101
      refine RW.new ttok hS102 rfl rfl rfl rfl (fun g103 w104 e105 hS106 => ?_)
      have hS107 := hS106.bring 0 rfl
      refine RW.store ttok (A := []) hS107 rfl rfl rfl rfl rfl 0 rfl rfl rfl rfl rfl (fun w108 hS109 => ?_)
      refine RW.nil ?_
      refine WP.seq ?_
      refine WP.region ?_
      refine RW.loadN ttok rfl rfl rfl rfl rfl ((hS109.bring 13 rfl).box) rfl rfl rfl ?_
      obtain ⟨r110, hx111, hm⟩ := bind_some hm
      refine RW.call rfl rfl rfl enters20 (laws_toDeque_ok (ty39.ext hS109.ext h1_) hx111) (fun v112 w113 hR114 => ?_)
      obtain ⟨A115, k116, A117, k118, A119, k120, A121, k122, rfl, hR123⟩ := hR114
      have hS124 := hS109.join hR123
      refine RW.new ttok hS124 rfl rfl rfl rfl (fun g125 w126 e127 hS128 => ?_)
      have hS129 := hS128.bring 0 rfl
      refine RW.store ttok (A := []) hS129 rfl rfl rfl rfl rfl 0 rfl rfl rfl rfl rfl (fun w130 hS131 => ?_)
      refine RW.nil ?_
      refine WP.seq ?_
      refine WP.region ?_
      refine RW.loadN ttok rfl rfl rfl rfl rfl ((hS131.bring 5 rfl).box) rfl rfl rfl ?_
      refine RW.loadN ttok rfl rfl rfl rfl rfl ((hS131.bring 0 rfl).box) rfl rfl rfl ?_
      obtain ⟨r132, hx133, hm⟩ := bind_some hm
      refine RW.call rfl rfl rfl enters21 (impl_SameDeque_ok (ty45_shut r88 ((hS131.bring 6 rfl).own) ((hS131.bring 7 rfl).own) ((hS131.bring 8 rfl).own) ((hS131.bring 9 rfl).own)) (ty45_shut r110 ((hS131.bring 1 rfl).own) ((hS131.bring 2 rfl).own) ((hS131.bring 3 rfl).own) ((hS131.bring 4 rfl).own)) hx133) (fun v134 w135 hR136 => ?_)
      obtain ⟨rfl, hR137⟩ := hR136
      have hS138 := hS131.join hR137
      refine RW.run ttok 1 rfl ?_
      refine RW.nil ?_
      refine WP.seq ?_
      refine WP.seq ?_
      refine WP.region ?_
      refine RW.run ttok 3 rfl ?_
      refine RW.nil ?_
      refine WP.cond (!(r132 == r81)) rfl (fun hc => ?_) (fun hc => ?_)
      · skip
        rw [if_pos hc] at hm
        refine WP.seq ?_
        refine WP.region ?_
        refine RW.run ttok 1 rfl ?_
        refine RW.nil ?_
        refine WP.ret ?_
        cases hm
        exact ⟨_, .cons (.tmp rfl) .nil, rfl, (hS138.taken 0)⟩
      · skip
        rw [if_neg (not_t hc)] at hm
        refine WP.skip ?_
        refine WP.seq ?_
        refine WP.seq ?_
        refine WP.drawnM mixed 5 (by kernel_rfl) (by kernel_rfl) [([], 31), ([], 31), ([1], 29), ([0, 2, 2], 26), ([3], 23)] (by kernel_rfl) (fun hsk139 => ?_)
        have hS140 := hS138.step (Ext.draw _)
        refine DM.loadN ttok hsk139 0 1 (by kernel_rfl) rfl (by kernel_rfl) rfl rfl rfl rfl rfl ((hS138.bring 5 rfl).box) rfl rfl rfl ?_
        refine DM.loadN ttok hsk139 1 3 (by kernel_rfl) rfl (by kernel_rfl) rfl rfl rfl rfl rfl ((hS138.bring 19 rfl).box) rfl rfl rfl ?_
        obtain ⟨r141, hx142, hm⟩ := bind_some hm
        refine DM.one hsk139 2 (by kernel_rfl) (LM.call hsk139 7 (by kernel_rfl) rfl rfl rfl rfl enters20 (laws_toDeque_ok (ty39.ext hS140.ext h0_) hx142) (fun v143 w144 hR145 => ?_))
        obtain ⟨A146, k147, A148, k149, A150, k151, A152, k153, rfl, hR154⟩ := hR145
        refine ⟨hR154.ext, ?_⟩
        have hS155 := hS140.join hR154
        obtain ⟨r156, hx157, hm⟩ := bind_some hm
        refine DM.one hsk139 3 (by kernel_rfl) (LM.call hsk139 15 (by kernel_rfl) rfl rfl rfl rfl enters22 (laws_eqDeque_ok (ty45_shut r88 ((hS155.bring 10 rfl).own) ((hS155.bring 11 rfl).own) ((hS155.bring 12 rfl).own) ((hS155.bring 13 rfl).own)) (ty45_shut r141 ((hS155.bring 0 rfl).own) ((hS155.bring 1 rfl).own) ((hS155.bring 2 rfl).own) ((hS155.bring 3 rfl).own)) hx157) (fun v158 w159 hR160 => ?_))
        obtain ⟨rfl, hR161⟩ := hR160
        refine ⟨hR161.ext, ?_⟩
        have hS162 := hS155.join hR161
        refine DM.run (fuel := 0) ttok hsk139 [4] 31 (by kernel_rfl) rfl ?_
        refine DM.weak [(3, .pointer (some ⟨g31, 0, none⟩)), (8, .pointer (some ⟨g125, 0, none⟩)), (39, .bool (!r156))] ⟨rfl, rfl, rfl, trivial⟩ ?_
        refine DM.done hsk139 (by kernel_rfl) (fun _ => ?_)
        refine WP.cond (!r156) rfl (fun hc => ?_) (fun hc => ?_)
        · skip
          rw [if_pos hc] at hm
          refine WP.seq ?_
          refine WP.region ?_
          refine RW.run ttok 1 rfl ?_
          refine RW.nil ?_
          refine WP.ret ?_
          cases hm
          exact ⟨_, .cons (.tmp rfl) .nil, rfl, (hS162.taken 0)⟩
        · skip
          rw [if_neg (not_t hc)] at hm
          refine WP.skip ?_
          refine WP.seq ?_
          refine WP.seq ?_
          refine WP.drawnM mixed 5 (by kernel_rfl) (by kernel_rfl) [([], 31), ([], 31), ([1], 29), ([0, 2, 2], 26), ([3], 23)] (by kernel_rfl) (fun hsk163 => ?_)
          have hS164 := hS162.step (Ext.draw _)
          refine DM.loadN ttok hsk163 0 1 (by kernel_rfl) rfl (by kernel_rfl) rfl rfl rfl rfl rfl ((hS162.bring 4 rfl).box) rfl rfl rfl ?_
          refine DM.loadN ttok hsk163 1 3 (by kernel_rfl) rfl (by kernel_rfl) rfl rfl rfl rfl rfl ((hS162.bring 22 rfl).box) rfl rfl rfl ?_
          obtain ⟨r165, hx166, hm⟩ := bind_some hm
          refine DM.one hsk163 2 (by kernel_rfl) (LM.call hsk163 7 (by kernel_rfl) rfl rfl rfl rfl enters20 (laws_toDeque_ok (ty39.ext hS164.ext h1_) hx166) (fun v167 w168 hR169 => ?_))
          obtain ⟨A170, k171, A172, k173, A174, k175, A176, k177, rfl, hR178⟩ := hR169
          refine ⟨hR178.ext, ?_⟩
          have hS179 := hS164.join hR178
          obtain ⟨r180, hx181, hm⟩ := bind_some hm
          refine DM.one hsk163 3 (by kernel_rfl) (LM.call hsk163 15 (by kernel_rfl) rfl rfl rfl rfl enters22 (laws_eqDeque_ok (ty45_shut r110 ((hS179.bring 9 rfl).own) ((hS179.bring 10 rfl).own) ((hS179.bring 11 rfl).own) ((hS179.bring 12 rfl).own)) (ty45_shut r165 ((hS179.bring 0 rfl).own) ((hS179.bring 1 rfl).own) ((hS179.bring 2 rfl).own) ((hS179.bring 3 rfl).own)) hx181) (fun v182 w183 hR184 => ?_))
          obtain ⟨rfl, hR185⟩ := hR184
          refine ⟨hR185.ext, ?_⟩
          have hS186 := hS179.join hR185
          refine DM.run (fuel := 0) ttok hsk163 [4] 31 (by kernel_rfl) rfl ?_
          refine DM.weak [(44, .bool (!r180))] ⟨rfl, trivial⟩ ?_
          refine DM.done hsk163 (by kernel_rfl) (fun _ => ?_)
          refine WP.cond (!r180) rfl (fun hc => ?_) (fun hc => ?_)
          · skip
            rw [if_pos hc] at hm
            refine WP.seq ?_
            refine WP.region ?_
            refine RW.run ttok 1 rfl ?_
            refine RW.nil ?_
            refine WP.ret ?_
            cases hm
            exact ⟨_, .cons (.tmp rfl) .nil, rfl, (hS186.taken 0)⟩
          · skip
            rw [if_neg (not_t hc)] at hm
            refine WP.skip ?_
            refine WP.seq ?_
            refine WP.region ?_
            refine RW.run ttok 1 rfl ?_
            refine RW.nil ?_
            refine WP.ret ?_
            cases hm
            exact ⟨_, .cons (.tmp rfl) .nil, rfl, (hS186.taken 0)⟩

end Go.E
