/- Models of functions and proofs that the code runs as they say (written by program). Conditions: the model gives a value. -/
import Derived.Test.YtghfkejdmcpmhaaFD
namespace Go.E
open Go.RowKit Go.Proofs
set_option linter.unusedVariables false
set_option linter.unusedSimpArgs false

theorem enters167 : Enters Try.prog 167 := ⟨_, _, Try.func167, rfl, by kernel_rfl⟩
def m_impl_Deque_isDone_c1 (fuel : Nat) (x0 : D.DequeActor) : Option (Bool) := some (decide ((x0.Todo.length : Int) > 0))

set_option maxRecDepth 100000 in
theorem impl_Deque_isDone_c1_ok {w : World} {c0_ : List Value} {x0 : D.DequeActor} (h0_ : ty191.ro w c0_ x0) {fuel : Nat} {r : Bool} (hm : m_impl_Deque_isDone_c1 fuel x0 = some r) :
    Calls Try.prog 167 ⟨[.agg ⟨c0_⟩]⟩ w (Ret fun v w8 => v = .bool r ∧ St w w8 []) := by
  obtain ⟨A1, k2, e4, h3⟩ := ty191_open h0_; subst e4
  refine Calls.into Try.func167 rfl 7 rfl rfl _ rfl ?_
  unfold m_impl_Deque_isDone_c1 at hm
  have hS := St.start w
  refine WP.seq ?_
  refine WP.region ?_
  refine RW.new ttok hS rfl rfl rfl rfl (fun g5 w6 e7 hS8 => ?_)
  refine RW.run ttok 1 rfl ?_
  refine RW.nil ?_
  refine WP.seq ?_
  refine WP.region ?_
  refine RW.run ttok 1 rfl ?_
  refine RW.load1 ttok rfl rfl rfl rfl rfl ((hS8.bring 0 rfl).box) 0 rfl rfl rfl rfl ?_
  refine RW.run ttok 3 rfl ?_
  refine RW.nil ?_
  refine WP.ret ?_
  cases hm
  exact ⟨_, .cons (.tmp rfl) .nil, rfl, (hS8.taken 0)⟩

theorem enters123 : Enters Try.prog 123 := ⟨_, _, Try.func123, rfl, by kernel_rfl⟩
def m_impl_Deque_isDone (fuel : Nat) (x0 : D.Deque) : Option (Bool) := ((m_slices_ContainsFunc_impl_DequeActor_impl_DequeActor fuel x0.Actors (fun y0 => m_impl_Deque_isDone_c1 fuel y0)).bind fun r14 => some (!r14))

set_option maxRecDepth 100000 in
theorem impl_Deque_isDone_ok {w : World} {p0_ : Addr} {c0_ : List Value} {x0 : D.Deque} (h0_ : ty112.ro w c0_ x0) (g0_ : At w p0_ c0_) {fuel : Nat} {r : Bool} (hm : m_impl_Deque_isDone fuel x0 = some r) :
    Calls Try.prog 123 ⟨[.pointer (some p0_)]⟩ w (Ret fun v w8 => v = .bool r ∧ St w w8 []) := by
  obtain ⟨A1, k2, A4, k5, A7, k8, A10, k11, e13, h3, h6, h9, h12⟩ := ty112_open h0_; subst e13
  refine Calls.into Try.func123 rfl 9 rfl rfl _ rfl ?_
  unfold m_impl_Deque_isDone at hm
  have hS := St.start w
  refine WP.seq ?_
  refine WP.region ?_
  refine RW.run ttok 1 rfl ?_
  refine RW.nil ?_
  refine WP.seq ?_
  refine WP.region ?_
  refine RW.run ttok 3 rfl ?_
  refine RW.load1 ttok rfl rfl rfl rfl rfl (At.ext hS.ext g0_) 3 rfl rfl rfl rfl ?_
  obtain ⟨r14, hx15, hm⟩ := bind_some hm
  refine RW.call rfl rfl rfl enters166 (slices_ContainsFunc_impl_DequeActor_impl_DequeActor_ok (ty109.ext hS.ext h6) ⟨enters167, fun e9 => (fun a0_0 hx9 => impl_Deque_isDone_c1_ok a0_0 hx9)⟩ hx15) (fun v16 w17 hR18 => ?_)
  obtain ⟨rfl, hR19⟩ := hR18
  have hS20 := hS.join hR19
  refine RW.run ttok 2 rfl ?_
  refine RW.nil ?_
  refine WP.ret ?_
  cases hm
  exact ⟨_, .cons (.tmp rfl) .nil, rfl, (hS20.taken 0)⟩

theorem enters47 : Enters Try.prog 47 := ⟨_, _, Try.func47, rfl, by kernel_rfl⟩
def m_impl_IsDequeDone (fuel : Nat) (x0 : D.Deque) : Option (Bool) := ((m_impl_ValidDeque fuel x0).bind fun r18 => (if r18 = true then ((m_impl_Deque_isDone fuel x0).bind fun r26 => some r26) else some false))

set_option maxRecDepth 100000 in
theorem impl_IsDequeDone_ok {w : World} {c0_ : List Value} {x0 : D.Deque} (h0_ : ty112.ro w c0_ x0) {fuel : Nat} {r : Bool} (hm : m_impl_IsDequeDone fuel x0 = some r) :
    Calls Try.prog 47 ⟨[.agg ⟨c0_⟩]⟩ w (Ret fun v w8 => v = .bool r ∧ St w w8 []) := by
  obtain ⟨A1, k2, A4, k5, A7, k8, A10, k11, e13, h3, h6, h9, h12⟩ := ty112_open h0_; subst e13
  refine Calls.into Try.func47 rfl 8 rfl rfl _ rfl ?_
  unfold m_impl_IsDequeDone at hm
  have hS := St.start w
  refine WP.seq ?_
  refine WP.region ?_
  refine RW.new ttok hS rfl rfl rfl rfl (fun g14 w15 e16 hS17 => ?_)
  refine RW.run ttok 1 rfl ?_
  refine RW.nil ?_
  refine WP.seq ?_
  refine WP.region ?_
  refine RW.loadN ttok rfl rfl rfl rfl rfl ((hS17.bring 0 rfl).box) rfl rfl rfl ?_
  obtain ⟨r18, hx19, hm⟩ := bind_some hm
  refine RW.call rfl rfl rfl enters44 (impl_ValidDeque_ok (ty112.ext hS17.ext h0_) hx19) (fun v20 w21 hR22 => ?_)
  obtain ⟨rfl, hR23⟩ := hR22
  have hS24 := hS17.join hR23
  refine RW.run ttok 1 rfl ?_
  by_cases hg25 : r18 = true
  · skip
    rw [if_pos hg25] at hm
    refine RW.know 5 rfl (congrArg Value.bool hg25) ?_
    obtain ⟨r26, hx27, hm⟩ := bind_some hm
    refine RW.call rfl rfl rfl enters123 (impl_Deque_isDone_ok (ty112.ext hS24.ext h0_) ((hS24.bring 0 rfl).box) hx27) (fun v28 w29 hR30 => ?_)
    obtain ⟨rfl, hR31⟩ := hR30
    have hS32 := hS24.join hR31
    refine RW.run ttok 2 rfl ?_
    refine RW.nil ?_
    refine WP.ret ?_
    cases hm
    exact ⟨_, .cons (.tmp rfl) .nil, rfl, (hS32.taken 0)⟩
  · skip
    rw [if_neg hg25] at hm
    refine RW.know 5 rfl (congrArg Value.bool (Bool.eq_false_iff.2 hg25)) ?_
    refine RW.run ttok 3 rfl ?_
    refine RW.nil ?_
    refine WP.ret ?_
    cases hm
    exact ⟨_, .cons (.tmp rfl) .nil, rfl, (hS24.taken 0)⟩

theorem enters10 : Enters Try.prog 10 := ⟨_, _, Try.func10, rfl, by kernel_rfl⟩
def m_laws_FnExactIsDequeDone (fuel : Nat) (x0 : D.Deque) : Option (Bool) := ((m_laws_szDeque fuel x0 1048576).bind fun r18 => (if (decide (r18 < 0)) = true then some true else ((m_laws_toDeque fuel x0).bind fun r25 => ((m_spec_IsDequeDone fuel r25).bind fun r40 => ((m_laws_toDeque fuel x0).bind fun r47 => ((m_impl_IsDequeDone fuel r47).bind fun r69 => (if (!(r69 == r40)) = true then some false else ((m_laws_toDeque fuel x0).bind fun r78 => ((m_laws_eqDeque fuel r47 r78).bind fun r93 => (if (!r93) = true then some false else some true))))))))))

set_option maxRecDepth 100000 in
theorem laws_FnExactIsDequeDone_ok {w : World} {c0_ : List Value} {x0 : D.Deque} (h0_ : ty106.ro w c0_ x0) {fuel : Nat} {r : Bool} (hm : m_laws_FnExactIsDequeDone fuel x0 = some r) :
    Calls Try.prog 10 ⟨[.agg ⟨c0_⟩]⟩ w (Ret fun v w8 => v = .bool r ∧ St w w8 []) := by
  obtain ⟨A1, k2, A4, k5, A7, k8, A10, k11, e13, h3, h6, h9, h12⟩ := ty106_open h0_; subst e13
  refine Calls.into Try.func10 rfl 27 rfl rfl _ rfl ?_
  unfold m_laws_FnExactIsDequeDone at hm
  have hS := St.start w
  refine WP.seq ?_
  refine WP.region ?_
  refine RW.new ttok hS rfl rfl rfl rfl (fun g14 w15 e16 hS17 => ?_)
  refine RW.run ttok 1 rfl ?_
  refine RW.nil ?_
  refine WP.seq ?_
  refine WP.region ?_
  refine RW.run ttok 1 rfl ?_
  refine RW.nil ?_
  refine WP.seq ?_
  refine WP.region ?_
  refine RW.loadN ttok rfl rfl rfl rfl rfl ((hS17.bring 0 rfl).box) rfl rfl rfl ?_
  refine RW.run ttok 1 rfl ?_
  obtain ⟨r18, hx19, hm⟩ := bind_some hm
  refine RW.call rfl rfl rfl enters41 (laws_szDeque_ok (ty106.ext hS17.ext h0_) hx19) (fun v20 w21 hR22 => ?_)
  obtain ⟨rfl, hR23⟩ := hR22
  have hS24 := hS17.join hR23
  refine RW.run ttok 1 rfl ?_
  refine RW.nil ?_
  refine WP.seq ?_
  refine WP.seq ?_
  refine WP.region ?_
  refine RW.run ttok 2 rfl ?_
  refine RW.nil ?_
  refine WP.cond (decide (r18 < 0)) rfl (fun hc => ?_) (fun hc => ?_)
  · skip
    rw [if_pos hc] at hm
    refine WP.seq ?_
    refine WP.region ?_
    refine RW.run ttok 1 rfl ?_
    refine RW.nil ?_
    refine WP.ret ?_
    cases hm
    exact ⟨_, .cons (.tmp rfl) .nil, rfl, (hS24.taken 0)⟩
  · skip
    rw [if_neg (not_t hc)] at hm
    refine WP.skip ?_
    refine WP.seq ?_
    refine WP.region ?_
    refine RW.loadN ttok rfl rfl rfl rfl rfl ((hS24.bring 0 rfl).box) rfl rfl rfl ?_
    obtain ⟨r25, hx26, hm⟩ := bind_some hm
    refine RW.call rfl rfl rfl enters43 (laws_toDeque_ok (ty106.ext hS24.ext h0_) hx26) (fun v27 w28 hR29 => ?_)
    obtain ⟨A30, k31, A32, k33, A34, k35, A36, k37, rfl, hR38⟩ := hR29
    have hS39 := hS24.join hR38
    obtain ⟨r40, hx41, hm⟩ := bind_some hm
    refine RW.call rfl rfl rfl enters46 (spec_IsDequeDone_ok (ty112_shut r25 ((hS39.bring 0 rfl).own) ((hS39.bring 1 rfl).own) ((hS39.bring 2 rfl).own) ((hS39.bring 3 rfl).own)) hx41) (fun v42 w43 hR44 => ?_)
    obtain ⟨rfl, hR45⟩ := hR44
    have hS46 := hS39.join hR45
    refine RW.run ttok 1 rfl ?_
    refine RW.nil ?_
    refine WP.seq ?_
    refine WP.region ?_
    refine RW.loadN ttok rfl rfl rfl rfl rfl ((hS46.bring 4 rfl).box) rfl rfl rfl ?_
    obtain ⟨r47, hx48, hm⟩ := bind_some hm
    refine RW.call rfl rfl rfl enters43 (laws_toDeque_ok (ty106.ext hS46.ext h0_) hx48) (fun v49 w50 hR51 => ?_)
    obtain ⟨A52, k53, A54, k55, A56, k57, A58, k59, rfl, hR60⟩ := hR51
    have hS61 := hS46.join hR60
    refine RW.new ttok hS61 rfl rfl rfl rfl (fun g62 w63 e64 hS65 => ?_)
    have hS66 := hS65.bring 0 rfl
    refine RW.store ttok (A := []) hS66 rfl rfl rfl rfl rfl 0 rfl rfl rfl rfl rfl (fun w67 hS68 => ?_)
    refine RW.nil ?_
    refine WP.seq ?_
    refine WP.region ?_
    refine RW.loadN ttok rfl rfl rfl rfl rfl ((hS68.bring 0 rfl).box) rfl rfl rfl ?_
    obtain ⟨r69, hx70, hm⟩ := bind_some hm
    refine RW.call rfl rfl rfl enters47 (impl_IsDequeDone_ok (ty112_shut r47 ((hS68.bring 1 rfl).own) ((hS68.bring 2 rfl).own) ((hS68.bring 3 rfl).own) ((hS68.bring 4 rfl).own)) hx70) (fun v71 w72 hR73 => ?_)
    obtain ⟨rfl, hR74⟩ := hR73
    have hS75 := hS68.join hR74
    refine RW.run ttok 1 rfl ?_
    refine RW.nil ?_
    refine WP.seq ?_
    refine WP.seq ?_
    refine WP.region ?_
    refine RW.run ttok 3 rfl ?_
    refine RW.nil ?_
    refine WP.cond (!(r69 == r40)) rfl (fun hc => ?_) (fun hc => ?_)
    · skip
      rw [if_pos hc] at hm
      refine WP.seq ?_
      refine WP.region ?_
      refine RW.run ttok 1 rfl ?_
      refine RW.nil ?_
      refine WP.ret ?_
      cases hm
      exact ⟨_, .cons (.tmp rfl) .nil, rfl, (hS75.taken 0)⟩
    · skip
      rw [if_neg (not_t hc)] at hm
      refine WP.skip ?_
      refine WP.seq ?_
      refine WP.seq ?_
      refine WP.drawnM 0 mixed 5 (by kernel_rfl) (by kernel_rfl) [([], 31), ([], 31), ([1], 29), ([0, 2, 2], 26), ([3], 23)] (by kernel_rfl) (fun hsk76 => ?_)
      have hS77 := hS75.step (Ext.draw _)
      refine DM.loadN ttok hsk76 0 1 (by kernel_rfl) (by kernel_rfl) (by kernel_rfl) (by kernel_rfl) rfl (by kernel_rfl) rfl rfl rfl rfl rfl ((hS75.bring 0 rfl).box) rfl rfl rfl ?_
      refine DM.loadN ttok hsk76 1 3 (by kernel_rfl) (by kernel_rfl) (by kernel_rfl) (by kernel_rfl) rfl (by kernel_rfl) rfl rfl rfl rfl rfl ((hS75.bring 9 rfl).box) rfl rfl rfl ?_
      obtain ⟨r78, hx79, hm⟩ := bind_some hm
      refine DM.one hsk76 2 (by kernel_rfl) (LM.call hsk76 7 (by kernel_rfl) (by kernel_rfl) rfl rfl rfl rfl enters43 (laws_toDeque_ok (ty106.ext hS77.ext h0_) hx79) (fun v80 w81 hR82 => ?_))
      obtain ⟨A83, k84, A85, k86, A87, k88, A89, k90, rfl, hR91⟩ := hR82
      refine ⟨hR91.ext, ?_⟩
      have hS92 := hS77.join hR91
      obtain ⟨r93, hx94, hm⟩ := bind_some hm
      refine DM.one hsk76 3 (by kernel_rfl) (LM.call hsk76 15 (by kernel_rfl) (by kernel_rfl) rfl rfl rfl rfl enters45 (laws_eqDeque_ok (ty112_shut r47 ((hS92.bring 5 rfl).own) ((hS92.bring 6 rfl).own) ((hS92.bring 7 rfl).own) ((hS92.bring 8 rfl).own)) (ty112_shut r78 ((hS92.bring 0 rfl).own) ((hS92.bring 1 rfl).own) ((hS92.bring 2 rfl).own) ((hS92.bring 3 rfl).own)) hx94) (fun v95 w96 hR97 => ?_))
      obtain ⟨rfl, hR98⟩ := hR97
      refine ⟨hR98.ext, ?_⟩
      have hS99 := hS92.join hR98
      refine DM.run (fuel := 0) ttok hsk76 [4] 31 (by kernel_rfl) (by kernel_rfl) rfl ?_
      refine DM.weak [(26, .bool (!r93))] ⟨rfl, trivial⟩ ?_
      refine DM.done hsk76 (by kernel_rfl) ?_
      refine WP.cond (!r93) rfl (fun hc => ?_) (fun hc => ?_)
      · skip
        rw [if_pos hc] at hm
        refine WP.seq ?_
        refine WP.region ?_
        refine RW.run ttok 1 rfl ?_
        refine RW.nil ?_
        refine WP.ret ?_
        cases hm
        exact ⟨_, .cons (.tmp rfl) .nil, rfl, (hS99.taken 0)⟩
      · skip
        rw [if_neg (not_t hc)] at hm
        refine WP.skip ?_
        refine WP.seq ?_
        refine WP.region ?_
        refine RW.run ttok 1 rfl ?_
        refine RW.nil ?_
        refine WP.ret ?_
        cases hm
        exact ⟨_, .cons (.tmp rfl) .nil, rfl, (hS99.taken 0)⟩

end Go.E
