/- Models of functions and proofs that the code runs as they say (written by program). Conditions: the model gives a value. -/
import Derived.Test.YtomgmnacnchbeaaFR
import Derived.Test.YtomgmnacnchbeaaMixed
namespace Go.E
open Go.RowKit Go.Proofs
set_option linter.unusedVariables false
set_option linter.unusedSimpArgs false
set_option maxHeartbeats 2000000

theorem enters7 : Enters Try.prog 7 := ⟨_, _, Try.func7, rfl, by kernel_rfl⟩
def m_laws_FnExactRedexClass_j1 (fuel : Nat) (x0 : D.Memory) (r39 : D.Memory) (t65 : Bool) : Option Bool := (if t65 = true then some false else ((m_laws_toMemory fuel x0).bind fun r72 => ((m_laws_eqMemory fuel r39 r72).bind fun r83 => (if (!r83) = true then some false else some true))))
def m_laws_FnExactRedexClass (fuel : Nat) (x0 : D.Memory) (x1 : Int) : Option (Bool) := ((m_laws_szMemory fuel x0 1048576).bind fun r14 => (if (decide (r14 < 0)) = true then some true else ((m_laws_toMemory fuel x0).bind fun r21 => ((m_spec_RedexClass fuel r21 x1).bind fun r32 => ((m_laws_toMemory fuel x0).bind fun r39 => ((m_impl_RedexClass fuel r39 x1).bind fun r57 => (if (r57.1 != r32.1) = true then m_laws_FnExactRedexClass_j1 fuel x0 r39 true else m_laws_FnExactRedexClass_j1 fuel x0 r39 (r57.2 != r32.2))))))))

set_option maxRecDepth 100000 in
theorem laws_FnExactRedexClass_ok {W w : World} (hE : Ext W w) {c0_ : List Value} {x0 : D.Memory} {x1 : Int} (h0_ : ty73.ro W c0_ x0) {fuel : Nat} {r : Bool} (hm : m_laws_FnExactRedexClass fuel x0 x1 = some r) :
    Calls Try.prog 7 ⟨[.agg ⟨c0_⟩, .int .i64 x1]⟩ w (Ret fun v w8 => v = .bool r ∧ St w w8 []) := by
  obtain ⟨A1, k2, A4, k5, e7, h3, h6⟩ := ty73_open h0_; subst e7
  refine Calls.into Try.func7 rfl 44 rfl rfl _ rfl ?_
  unfold m_laws_FnExactRedexClass at hm
  have hS := St.start w
  refine WP.seq ?_
  refine WP.region ?_
  refine RW.new ttok hS rfl rfl rfl rfl (fun g10 w11 e12 hS13 => ?_)
  refine RW.run ttok 1 rfl ?_
  refine RW.nil ?_
  refine WP.seq ?_
  refine WP.region ?_
  refine RW.run ttok 1 rfl ?_
  refine RW.nil ?_
  refine WP.seq ?_
  refine WP.region ?_
  refine RW.loadN ttok rfl rfl rfl rfl rfl ((hS13.bring 0 rfl).box) rfl rfl rfl ?_
  refine RW.run ttok 1 rfl ?_
  obtain ⟨r14, hx15, hm⟩ := bind_some hm
  refine RW.call rfl rfl rfl enters35 (laws_szMemory_ok (hE.trans hS13.ext) h0_ hx15) (fun v16 w17 hR18 => ?_)
  obtain ⟨rfl, hR19⟩ := hR18
  have hS20 := hS13.join hR19
  refine RW.run ttok 1 rfl ?_
  refine RW.nil ?_
  refine WP.seq ?_
  refine WP.seq ?_
  refine WP.region ?_
  refine RW.run ttok 2 rfl ?_
  refine RW.nil ?_
  refine WP.cond (decide (r14 < 0)) rfl (fun hc => ?_) (fun hc => ?_)
  · skip
    rw [if_pos hc] at hm
    refine WP.seq ?_
    refine WP.region ?_
    refine RW.run ttok 1 rfl ?_
    refine RW.nil ?_
    refine WP.ret ?_
    cases hm
    exact ⟨_, .cons (.tmp rfl) .nil, rfl, (hS20.taken 0)⟩
  · skip
    rw [if_neg (not_t hc)] at hm
    refine WP.skip ?_
    refine WP.seq ?_
    refine WP.region ?_
    refine RW.loadN ttok rfl rfl rfl rfl rfl ((hS20.bring 0 rfl).box) rfl rfl rfl ?_
    obtain ⟨r21, hx22, hm⟩ := bind_some hm
    refine RW.call rfl rfl rfl enters37 (laws_toMemory_ok (hE.trans hS20.ext) h0_ hx22) (fun v23 w24 hR25 => ?_)
    obtain ⟨A26, k27, A28, k29, rfl, hR30⟩ := hR25
    have hS31 := hS20.join hR30
    refine RW.run ttok 1 rfl ?_
    obtain ⟨r32, hx33, hm⟩ := bind_some hm
    refine RW.call rfl rfl rfl enters36 (spec_RedexClass_ok (Ext.refl _) (ty80_shut r21 ((hS31.bring 0 rfl).own) ((hS31.bring 1 rfl).own)) hx33) (fun v34 w35 hR36 => ?_)
    obtain ⟨rfl, hR37⟩ := hR36
    have hS38 := hS31.join hR37
    refine RW.run ttok 5 rfl ?_
    refine RW.nil ?_
    refine WP.seq ?_
    refine WP.region ?_
    refine RW.loadN ttok rfl rfl rfl rfl rfl ((hS38.bring 2 rfl).box) rfl rfl rfl ?_
    obtain ⟨r39, hx40, hm⟩ := bind_some hm
    refine RW.call rfl rfl rfl enters37 (laws_toMemory_ok (hE.trans hS38.ext) h0_ hx40) (fun v41 w42 hR43 => ?_)
    obtain ⟨A44, k45, A46, k47, rfl, hR48⟩ := hR43
    have hS49 := hS38.join hR48
    refine RW.new ttok hS49 rfl rfl rfl rfl (fun g50 w51 e52 hS53 => ?_)
    have hS54 := hS53.bring 0 rfl
    refine RW.store ttok (A := []) hS54 rfl rfl rfl rfl rfl 0 rfl rfl rfl rfl rfl (fun w55 hS56 => ?_)
    refine RW.nil ?_
    refine WP.seq ?_
    refine WP.region ?_
    refine RW.loadN ttok rfl rfl rfl rfl rfl ((hS56.bring 0 rfl).box) rfl rfl rfl ?_
    refine RW.run ttok 1 rfl ?_
    obtain ⟨r57, hx58, hm⟩ := bind_some hm
    refine RW.call rfl rfl rfl enters38 (impl_RedexClass_ok (Ext.refl _) (ty80_shut r39 ((hS56.bring 1 rfl).own) ((hS56.bring 2 rfl).own)) hx58) (fun v59 w60 hR61 => ?_)
    obtain ⟨rfl, hR62⟩ := hR61
    have hS63 := hS56.join hR62
    refine RW.run ttok 5 rfl ?_
    refine RW.nil ?_
    refine WP.seq ?_
    refine WP.seq ?_
    refine WP.cut (fun (t65 : Bool) F w9 => m_laws_FnExactRedexClass_j1 fuel x0 r39 t65 = some r ∧ Ext w60 w9 ∧ St w w9 [Box g50 [.slice A44 r39.Cells.length k45, .int .i64 r39.Free, .int .i64 r39.Root.Tag, .int .i64 r39.Root.At, .slice A46 r39.Redexes.length k47] 80, Own ty76 [.slice A44 r39.Cells.length k45] r39.Cells, Own ty78 [.slice A46 r39.Redexes.length k47] r39.Redexes, Own ty76 [.slice A26 r21.Cells.length k27] r21.Cells, Own ty78 [.slice A28 r21.Redexes.length k29] r21.Redexes, Box g10 [.slice A1 x0.Cells.length k2, .int .i64 x0.Free, .int .i64 x0.Root.Tag, .int .i64 x0.Root.At, .slice A4 x0.Redexes.length k5] 73] ∧ F = [(2, .pointer (some ⟨g10, 0, none⟩)), (8, .pointer (some ⟨g50, 0, none⟩)), (38, .bool t65)]) ?_ ?_
    · skip
      rintro t65 F w68 ⟨hm, hE66, hS67, rfl⟩
      unfold m_laws_FnExactRedexClass_j1 at hm
      refine WP.cond t65 rfl (fun hc => ?_) (fun hc => ?_)
      · skip
        rw [if_pos hc] at hm
        refine WP.seq ?_
        refine WP.region ?_
        refine RW.run ttok 1 rfl ?_
        refine RW.nil ?_
        refine WP.ret ?_
        cases hm
        exact ⟨_, .cons (.tmp rfl) .nil, rfl, (hS67.taken 0)⟩
      · skip
        rw [if_neg (not_t hc)] at hm
        refine WP.skip ?_
        refine WP.seq ?_
        refine WP.seq ?_
        refine WP.drawnM 0 mixed 5 (by kernel_rfl) (by kernel_rfl) [([], 31), ([], 31), ([1], 29), ([0, 2, 2], 26), ([3], 23)] (by kernel_rfl) hS67.ext (fun hsk70 => ?_)
        have hS71 := hS67.step (Ext.draw _)
        refine DM.loadN ttok hsk70 0 1 (by kernel_rfl) (by kernel_rfl) (by kernel_rfl) (by kernel_rfl) rfl (by kernel_rfl) rfl rfl rfl rfl rfl ((hS67.bring 0 rfl).box) rfl rfl rfl ?_
        refine DM.loadN ttok hsk70 1 3 (by kernel_rfl) (by kernel_rfl) (by kernel_rfl) (by kernel_rfl) rfl (by kernel_rfl) rfl rfl rfl rfl rfl ((hS67.bring 5 rfl).box) rfl rfl rfl ?_
        obtain ⟨r72, hx73, hm⟩ := bind_some hm
        refine DM.one hsk70 2 (by kernel_rfl) (LM.call hsk70 7 (by kernel_rfl) (by kernel_rfl) rfl rfl rfl rfl enters37 (laws_toMemory_ok (hE.trans hS71.ext) h0_ hx73) (fun v74 w75 hR76 => ?_))
        obtain ⟨A77, k78, A79, k80, rfl, hR81⟩ := hR76
        refine ⟨hR81.ext, ?_⟩
        have hS82 := hS71.join hR81
        obtain ⟨r83, hx84, hm⟩ := bind_some hm
        refine DM.one hsk70 3 (by kernel_rfl) (LM.call hsk70 15 (by kernel_rfl) (by kernel_rfl) rfl rfl rfl rfl enters39 (laws_eqMemory_ok (Ext.refl _) (ty80_shut r39 ((hS82.bring 3 rfl).own) ((hS82.bring 4 rfl).own)) (ty80_shut r72 ((hS82.bring 0 rfl).own) ((hS82.bring 1 rfl).own)) hx84) (fun v85 w86 hR87 => ?_))
        obtain ⟨rfl, hR88⟩ := hR87
        refine ⟨hR88.ext, ?_⟩
        have hS89 := hS82.join hR88
        refine DM.run (fuel := 0) ttok hsk70 [4] 31 (by kernel_rfl) (by kernel_rfl) rfl ?_
        refine DM.weak [(43, .bool (!r83))] ⟨rfl, trivial⟩ ?_
        refine DM.done hsk70 (by kernel_rfl) ?_
        refine WP.cond (!r83) rfl (fun hc => ?_) (fun hc => ?_)
        · skip
          rw [if_pos hc] at hm
          refine WP.seq ?_
          refine WP.region ?_
          refine RW.run ttok 1 rfl ?_
          refine RW.nil ?_
          refine WP.ret ?_
          cases hm
          exact ⟨_, .cons (.tmp rfl) .nil, rfl, (hS89.taken 0)⟩
        · skip
          rw [if_neg (not_t hc)] at hm
          refine WP.skip ?_
          refine WP.seq ?_
          refine WP.region ?_
          refine RW.run ttok 1 rfl ?_
          refine RW.nil ?_
          refine WP.ret ?_
          cases hm
          exact ⟨_, .cons (.tmp rfl) .nil, rfl, (hS89.taken 0)⟩
    · skip
      refine WP.region ?_
      refine RW.run ttok 4 rfl ?_
      by_cases hg90 : (r57.1 != r32.1) = true
      · skip
        rw [if_pos hg90] at hm
        refine RW.know 34 rfl (congrArg Value.bool hg90) ?_
        refine RW.run ttok 4 rfl ?_
        refine RW.nil ?_
        exact ⟨true, [(2, .pointer (some ⟨g10, 0, none⟩)), (8, .pointer (some ⟨g50, 0, none⟩)), (38, .bool true)], ⟨rfl, rfl, rfl, trivial⟩, hm, (Ext.refl _), hS63, rfl⟩
      · skip
        rw [if_neg hg90] at hm
        refine RW.know 34 rfl (congrArg Value.bool (Bool.eq_false_iff.2 hg90)) ?_
        refine RW.run ttok 4 rfl ?_
        refine RW.nil ?_
        exact ⟨(r57.2 != r32.2), [(2, .pointer (some ⟨g10, 0, none⟩)), (8, .pointer (some ⟨g50, 0, none⟩)), (38, .bool (r57.2 != r32.2))], ⟨rfl, rfl, rfl, trivial⟩, hm, (Ext.refl _), hS63, rfl⟩

end Go.E
