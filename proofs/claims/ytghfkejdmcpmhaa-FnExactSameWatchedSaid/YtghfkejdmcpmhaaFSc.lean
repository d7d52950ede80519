/- Models of functions and proofs that the code runs as they say (written by program). Conditions: the model gives a value. -/
import Derived.Test.YtghfkejdmcpmhaaFSb
namespace Go.E
open Go.RowKit Go.Proofs
set_option linter.unusedVariables false
set_option linter.unusedSimpArgs false
set_option maxHeartbeats 2000000

theorem enters33 : Enters Try.prog 33 := ⟨_, _, Try.func33, rfl, by kernel_rfl⟩
def m_laws_toDetector (fuel : Nat) (x0 : D.Detector) : Option (D.Detector) := ((m_laws_toCluster fuel x0.Cluster).bind fun r32 => ((m_laws_toBoolS fuel x0.Stained).bind fun r61 => some (⟨(⟨(⟨r32.Grid.Shards, (⟨r32.Grid.Root.Machine, r32.Grid.Root.Kind, r32.Grid.Root.Index⟩ : D.Address)⟩ : D.Grid), r32.Channels, r32.Counts, r32.Sent, r32.Got⟩ : D.Cluster), x0.Holder, x0.Count, x0.Dark, r61, x0.Rounds, x0.Announced⟩ : D.Detector)))

set_option maxRecDepth 100000 in
theorem laws_toDetector_ok {w : World} {c0_ : List Value} {x0 : D.Detector} (h0_ : ty84.ro w c0_ x0) {fuel : Nat} {r : D.Detector} (hm : m_laws_toDetector fuel x0 = some r) :
    Calls Try.prog 33 ⟨[.agg ⟨c0_⟩]⟩ w (Ret fun v w8 => ∃ A0 k0 A1 k1 A2 k2 A3 k3 A4 k4 A5 k5, v = .agg ⟨[.slice A0 r.Cluster.Grid.Shards.length k0, .int .i64 r.Cluster.Grid.Root.Machine, .int .i64 r.Cluster.Grid.Root.Kind, .int .i64 r.Cluster.Grid.Root.Index, .slice A1 r.Cluster.Channels.length k1, .slice A2 r.Cluster.Counts.length k2, .slice A3 r.Cluster.Sent.length k3, .slice A4 r.Cluster.Got.length k4, .int .i64 r.Holder, .int .i64 r.Count, .bool r.Dark, .slice A5 r.Stained.length k5, .int .i64 r.Rounds, .bool r.Announced]⟩ ∧ St w w8 [Own ty43 [.slice A0 r.Cluster.Grid.Shards.length k0] r.Cluster.Grid.Shards, Own ty77 [.slice A1 r.Cluster.Channels.length k1] r.Cluster.Channels, Own ty71 [.slice A2 r.Cluster.Counts.length k2] r.Cluster.Counts, Own ty72 [.slice A3 r.Cluster.Sent.length k3] r.Cluster.Sent, Own ty72 [.slice A4 r.Cluster.Got.length k4] r.Cluster.Got, Own ty82 [.slice A5 r.Stained.length k5] r.Stained]) := by
  obtain ⟨A1, k2, A4, k5, A7, k8, A10, k11, A13, k14, A16, k17, e19, h3, h6, h9, h12, h15, h18⟩ := ty84_open h0_; subst e19
  refine Calls.into Try.func33 rfl 28 rfl rfl _ rfl ?_
  unfold m_laws_toDetector at hm
  have hS := St.start w
  refine WP.seq ?_
  refine WP.region ?_
  refine RW.new ttok hS rfl rfl rfl rfl (fun g20 w21 e22 hS23 => ?_)
  refine RW.new ttok hS23 rfl rfl rfl rfl (fun g24 w25 e26 hS27 => ?_)
  refine RW.nil ?_
  refine WP.seq ?_
  refine WP.region ?_
  refine RW.new ttok hS27 rfl rfl rfl rfl (fun g28 w29 e30 hS31 => ?_)
  refine RW.nil ?_
  refine WP.seq ?_
  refine WP.region ?_
  refine RW.run ttok 1 rfl ?_
  refine RW.loadN ttok rfl rfl rfl rfl rfl (At.sub ((hS31.bring 2 rfl).box) 0 8) rfl rfl rfl ?_
  obtain ⟨r32, hx33, hm⟩ := bind_some hm
  refine RW.call rfl rfl rfl enters28 (laws_toCluster_ok (ty74_shut x0.Cluster (ty36.ext hS31.ext h3) (ty70.ext hS31.ext h6) (ty71.ext hS31.ext h9) (ty72.ext hS31.ext h12) (ty72.ext hS31.ext h15)) hx33) (fun v34 w35 hR36 => ?_)
  obtain ⟨A37, k38, A39, k40, A41, k42, A43, k44, A45, k46, rfl, hR47⟩ := hR36
  have hS48 := hS31.join hR47
  refine RW.run ttok 1 rfl ?_
  have hS49 := hS48.bring 5 rfl
  refine RW.store ttok (A := []) hS49 rfl rfl rfl rfl rfl 0 rfl rfl rfl rfl rfl (fun w50 hS51 => ?_)
  refine RW.nil ?_
  refine WP.seq ?_
  refine WP.region ?_
  refine RW.run ttok 1 rfl ?_
  refine RW.load1 ttok rfl rfl rfl rfl rfl ((hS51.bring 7 rfl).box) 8 rfl rfl rfl rfl ?_
  refine RW.run ttok 1 rfl ?_
  have hS52 := hS51.bring 0 rfl
  refine RW.store ttok (A := []) hS52 rfl rfl rfl rfl rfl 8 rfl rfl rfl rfl rfl (fun w53 hS54 => ?_)
  refine RW.nil ?_
  refine WP.seq ?_
  refine WP.region ?_
  refine RW.run ttok 1 rfl ?_
  refine RW.load1 ttok rfl rfl rfl rfl rfl ((hS54.bring 7 rfl).box) 9 rfl rfl rfl rfl ?_
  refine RW.run ttok 1 rfl ?_
  have hS55 := hS54.bring 0 rfl
  refine RW.store ttok (A := []) hS55 rfl rfl rfl rfl rfl 9 rfl rfl rfl rfl rfl (fun w56 hS57 => ?_)
  refine RW.nil ?_
  refine WP.seq ?_
  refine WP.region ?_
  refine RW.run ttok 1 rfl ?_
  refine RW.load1 ttok rfl rfl rfl rfl rfl ((hS57.bring 7 rfl).box) 10 rfl rfl rfl rfl ?_
  refine RW.run ttok 1 rfl ?_
  have hS58 := hS57.bring 0 rfl
  refine RW.store ttok (A := []) hS58 rfl rfl rfl rfl rfl 10 rfl rfl rfl rfl rfl (fun w59 hS60 => ?_)
  refine RW.nil ?_
  refine WP.seq ?_
  refine WP.region ?_
  refine RW.run ttok 1 rfl ?_
  refine RW.load1 ttok rfl rfl rfl rfl rfl ((hS60.bring 7 rfl).box) 11 rfl rfl rfl rfl ?_
  obtain ⟨r61, hx62, hm⟩ := bind_some hm
  refine RW.call rfl rfl rfl enters98 (laws_toBoolS_ok (ty82.ext hS60.ext h18) hx62) (fun v63 w64 hR65 => ?_)
  obtain ⟨A66, k67, rfl, hR68⟩ := hR65
  have hS69 := hS60.join hR68
  refine RW.run ttok 1 rfl ?_
  have hS70 := hS69.bring 1 rfl
  refine RW.store ttok (A := []) hS70 rfl rfl rfl rfl rfl 11 rfl rfl rfl rfl rfl (fun w71 hS72 => ?_)
  refine RW.nil ?_
  refine WP.seq ?_
  refine WP.region ?_
  refine RW.run ttok 1 rfl ?_
  refine RW.load1 ttok rfl rfl rfl rfl rfl ((hS72.bring 8 rfl).box) 12 rfl rfl rfl rfl ?_
  refine RW.run ttok 1 rfl ?_
  have hS73 := hS72.bring 0 rfl
  refine RW.store ttok (A := []) hS73 rfl rfl rfl rfl rfl 12 rfl rfl rfl rfl rfl (fun w74 hS75 => ?_)
  refine RW.nil ?_
  refine WP.seq ?_
  refine WP.region ?_
  refine RW.run ttok 1 rfl ?_
  refine RW.load1 ttok rfl rfl rfl rfl rfl ((hS75.bring 8 rfl).box) 13 rfl rfl rfl rfl ?_
  refine RW.run ttok 1 rfl ?_
  have hS76 := hS75.bring 0 rfl
  refine RW.store ttok (A := []) hS76 rfl rfl rfl rfl rfl 13 rfl rfl rfl rfl rfl (fun w77 hS78 => ?_)
  refine RW.nil ?_
  refine WP.seq ?_
  refine WP.region ?_
  refine RW.loadN ttok rfl rfl rfl rfl rfl ((hS78.bring 0 rfl).box) rfl rfl rfl ?_
  have hS79 := hS78.bring 7 rfl
  refine RW.store ttok (A := []) hS79 rfl rfl rfl rfl rfl 0 rfl rfl rfl rfl rfl (fun w80 hS81 => ?_)
  refine RW.nil ?_
  refine WP.ret ?_
  cases hm
  exact ⟨_, .cons (ResIs.agg ttok rfl rfl rfl ((hS81.bring 0 rfl).box) rfl) .nil, A37, k38, A39, k40, A41, k42, A43, k44, A45, k46, A66, k67, rfl, (((((((hS81.bring 2 rfl).bring 7 rfl).bring 7 rfl).bring 7 rfl).bring 7 rfl).bring 7 rfl).taken 6)⟩

theorem enters97 : Enters Try.prog 97 := ⟨_, _, Try.func97, rfl, by kernel_rfl⟩
def m_spec_l30SameBools_j1 (fuel : Nat) (t2 : Unit) : Option Bool := some true
def m_spec_l30SameBools_b1 (fuel : Nat) (x0 : (List Bool)) (x1 : (List Bool)) (s1 : Int) : Option (Rd (Int) (Unit) (Bool)) := (if (decide (s1 < (x0.length : Int))) = true then ((idx x0 s1).bind fun x19 => ((idx x1 s1).bind fun x25 => (if (!(x19 == x25)) = true then some (.ret false) else some (.next (w64 (s1 + 1)))))) else some (.brk ()))
def m_spec_l30SameBools (fuel : Nat) (x0 : (List Bool)) (x1 : (List Bool)) : Option (Bool) := (if ((x0.length : Int) != (x1.length : Int)) = true then some false else ((iter (m_spec_l30SameBools_b1 fuel x0 x1) fuel 0).bind fun o => aft o (m_spec_l30SameBools_j1 fuel)))

set_option maxRecDepth 100000 in
theorem spec_l30SameBools_ok {w : World} {A0_ : Option Addr} {k0_ : Nat} {x0 : (List Bool)} {A1_ : Option Addr} {k1_ : Nat} {x1 : (List Bool)} (h0_ : ty82.ro w [.slice A0_ x0.length k0_] x0) (h1_ : ty82.ro w [.slice A1_ x1.length k1_] x1) {fuel : Nat} {r : Bool} (hm : m_spec_l30SameBools fuel x0 x1 = some r) :
    Calls Try.prog 97 ⟨[.slice A0_ x0.length k0_, .slice A1_ x1.length k1_]⟩ w (Ret fun v w8 => v = .bool r ∧ St w w8 []) := by
  refine Calls.into Try.func97 rfl 26 rfl rfl _ rfl ?_
  unfold m_spec_l30SameBools at hm
  have hS := St.start w
  refine WP.seq ?_
  refine WP.region ?_
  refine RW.run ttok 1 rfl ?_
  refine RW.nil ?_
  refine WP.seq ?_
  refine WP.seq ?_
  refine WP.region ?_
  refine RW.run ttok 5 rfl ?_
  refine RW.nil ?_
  refine WP.cond ((x0.length : Int) != (x1.length : Int)) rfl (fun hc => ?_) (fun hc => ?_)
  · skip
    rw [if_pos hc] at hm
    refine WP.seq ?_
    refine WP.region ?_
    refine RW.run ttok 1 rfl ?_
    refine RW.nil ?_
    refine WP.ret ?_
    cases hm
    exact ⟨_, .cons (.tmp rfl) .nil, rfl, (hS.taken 0)⟩
  · skip
    rw [if_neg (not_t hc)] at hm
    refine WP.skip ?_
    refine WP.seq ?_
    refine WP.seq ?_
    refine WP.region ?_
    refine RW.run ttok 1 rfl ?_
    refine RW.nil ?_
    obtain ⟨o8, hl9, hm⟩ := bind_some hm
    refine WP.cut (fun (t2 : Unit) F w9 => o8 = .inl t2 ∧ Ext w w9 ∧ St w w9 [] ∧ F = []) ?_ ?_
    · skip
      rintro t2 F w7 ⟨ho11, hE6, hS10, rfl⟩
      subst ho11
      rw [aft_inl] at hm
      unfold m_spec_l30SameBools_j1 at hm
      refine WP.seq ?_
      refine WP.region ?_
      refine RW.run ttok 1 rfl ?_
      refine RW.nil ?_
      refine WP.ret ?_
      cases hm
      exact ⟨_, .cons (.tmp rfl) .nil, rfl, (hS10.taken 0)⟩
    · skip
      refine WP.block ?_
      refine WP.weak [(0, .slice A0_ x0.length k0_), (1, .slice A1_ x1.length k1_), (5, .int .i64 0)] ⟨rfl, rfl, rfl, trivial⟩ ?_
      refine WP.iter (fun (s1 : Int) F w9 => Ext w w9 ∧ St w w9 [] ∧ F = [(0, .slice A0_ x0.length k0_), (1, .slice A1_ x1.length k1_), (5, .int .i64 s1)]) _ hl9 ⟨(Ext.refl _), (hS.taken 0), rfl⟩ ?_
      rintro s1 F w16 _ o14 ⟨hE5, hS15, rfl⟩ hb12 ho13
      unfold m_spec_l30SameBools_b1 at hb12
      refine WP.seq ?_
      refine WP.seq ?_
      refine WP.region ?_
      refine RW.run ttok 4 rfl ?_
      refine RW.nil ?_
      refine WP.cond (decide (s1 < (x0.length : Int))) rfl (fun hc => ?_) (fun hc => ?_)
      · skip
        rw [if_pos hc] at hb12
        refine WP.skip ?_
        refine WP.seq ?_
        refine WP.block ?_
        refine WP.seq ?_
        refine WP.drawnM 0 mixed 9 (by kernel_rfl) (by kernel_rfl) [([], 511), ([], 511), ([0, 1], 508), ([2], 507), ([], 511), ([], 511), ([4, 5], 463), ([6], 447), ([3, 7], 375)] (by kernel_rfl) (fun hsk17 => ?_)
        have hS18 := hS15.step (Ext.draw _)
        refine DM.run (fuel := 5) ttok hsk17 [0, 1, 4, 5] 51 (by kernel_rfl) (by kernel_rfl) rfl ?_
        obtain ⟨x19, hx20, hb12⟩ := bind_some hb12
        refine DM.idx ttok hS15.ext hsk17 2 55 (by kernel_rfl) (by kernel_rfl) (by kernel_rfl) (by kernel_rfl) rfl (by kernel_rfl) rfl rfl rfl rfl rfl rfl (by decide) rfl rfl h0_ (idx_some hx20).1 (idx_some hx20).2 rfl rfl (fun p21 es22 ha23 hr24 => ?_)
        cases hr24
        refine DM.load1 ttok hsk17 3 63 (by kernel_rfl) (by kernel_rfl) (by kernel_rfl) (by kernel_rfl) rfl (by kernel_rfl) rfl rfl rfl rfl rfl (At.ext hS15.ext ha23) 0 rfl rfl rfl rfl ?_
        obtain ⟨x25, hx26, hb12⟩ := bind_some hb12
        refine DM.idx ttok hS15.ext hsk17 6 127 (by kernel_rfl) (by kernel_rfl) (by kernel_rfl) (by kernel_rfl) rfl (by kernel_rfl) rfl rfl rfl rfl rfl rfl (by decide) rfl rfl h1_ (idx_some hx26).1 (idx_some hx26).2 rfl rfl (fun p27 es28 ha29 hr30 => ?_)
        cases hr30
        refine DM.load1 ttok hsk17 7 255 (by kernel_rfl) (by kernel_rfl) (by kernel_rfl) (by kernel_rfl) rfl (by kernel_rfl) rfl rfl rfl rfl rfl (At.ext hS15.ext ha29) 0 rfl rfl rfl rfl ?_
        refine DM.run (fuel := 0) ttok hsk17 [8] 511 (by kernel_rfl) (by kernel_rfl) rfl ?_
        refine DM.weak [(0, .slice A0_ x0.length k0_), (1, .slice A1_ x1.length k1_), (5, .int .i64 s1), (25, .bool (!(x19 == x25)))] ⟨rfl, rfl, rfl, rfl, trivial⟩ ?_
        refine DM.done hsk17 (by kernel_rfl) ?_
        refine WP.cond (!(x19 == x25)) rfl (fun hc => ?_) (fun hc => ?_)
        · skip
          rw [if_pos hc] at hb12
          refine WP.seq ?_
          refine WP.region ?_
          refine RW.run ttok 1 rfl ?_
          refine RW.nil ?_
          refine WP.ret ?_
          cases hb12
          cases ho13
          have hm : some _ = some _ := hm
          cases hm
          exact ⟨_, .cons (.tmp rfl) .nil, rfl, (hS18.taken 0)⟩
        · skip
          rw [if_neg (not_t hc)] at hb12
          refine WP.skip ?_
          refine WP.region ?_
          refine RW.run ttok 3 rfl ?_
          refine RW.nil ?_
          cases hb12
          exact ⟨_, [(0, .slice A0_ x0.length k0_), (1, .slice A1_ x1.length k1_), (5, .int .i64 (w64 (s1 + 1)))], ⟨rfl, rfl, rfl, trivial⟩, rfl, (hE5.trans (Ext.draw _)), (hS18.taken 0), rfl⟩
      · skip
        rw [if_neg (not_t hc)] at hb12
        refine WP.exit ?_
        cases hb12
        exact ⟨_, [], trivial, ho13, hE5, (hS15.taken 0), rfl⟩

theorem enters32 : Enters Try.prog 32 := ⟨_, _, Try.func32, rfl, by kernel_rfl⟩
def m_spec_SameDetector (fuel : Nat) (x0 : D.Detector) (x1 : D.Detector) : Option (Bool) := ((m_spec_SameCluster fuel x0.Cluster x1.Cluster).bind fun r47 => (if r47 = true then (if (x0.Holder == x1.Holder) = true then (if (x0.Count == x1.Count) = true then (if (x0.Dark == x1.Dark) = true then ((m_spec_l30SameBools fuel x0.Stained x1.Stained).bind fun r58 => (if r58 = true then (if (x0.Rounds == x1.Rounds) = true then some (x0.Announced == x1.Announced) else some false) else some false)) else some false) else some false) else some false) else some false))

set_option maxRecDepth 100000 in
theorem spec_SameDetector_ok {w : World} {c0_ : List Value} {x0 : D.Detector} {c1_ : List Value} {x1 : D.Detector} (h0_ : ty88.ro w c0_ x0) (h1_ : ty88.ro w c1_ x1) {fuel : Nat} {r : Bool} (hm : m_spec_SameDetector fuel x0 x1 = some r) :
    Calls Try.prog 32 ⟨[.agg ⟨c0_⟩, .agg ⟨c1_⟩]⟩ w (Ret fun v w8 => v = .bool r ∧ St w w8 []) := by
  obtain ⟨A1, k2, A4, k5, A7, k8, A10, k11, A13, k14, A16, k17, e19, h3, h6, h9, h12, h15, h18⟩ := ty88_open h0_; subst e19
  obtain ⟨A20, k21, A23, k24, A26, k27, A29, k30, A32, k33, A35, k36, e38, h22, h25, h28, h31, h34, h37⟩ := ty88_open h1_; subst e38
  refine Calls.into Try.func32 rfl 52 rfl rfl _ rfl ?_
  unfold m_spec_SameDetector at hm
  have hS := St.start w
  refine WP.seq ?_
  refine WP.region ?_
  refine RW.new ttok hS rfl rfl rfl rfl (fun g39 w40 e41 hS42 => ?_)
  refine RW.new ttok hS42 rfl rfl rfl rfl (fun g43 w44 e45 hS46 => ?_)
  refine RW.run ttok 1 rfl ?_
  refine RW.nil ?_
  refine WP.seq ?_
  refine WP.region ?_
  refine RW.run ttok 1 rfl ?_
  refine RW.loadN ttok rfl rfl rfl rfl rfl (At.sub ((hS46.bring 1 rfl).box) 0 8) rfl rfl rfl ?_
  refine RW.run ttok 1 rfl ?_
  refine RW.loadN ttok rfl rfl rfl rfl rfl (At.sub ((hS46.bring 0 rfl).box) 0 8) rfl rfl rfl ?_
  obtain ⟨r47, hx48, hm⟩ := bind_some hm
  refine RW.call rfl rfl rfl enters27 (spec_SameCluster_ok (ty79_shut x0.Cluster (ty43.ext hS46.ext h3) (ty77.ext hS46.ext h6) (ty71.ext hS46.ext h9) (ty72.ext hS46.ext h12) (ty72.ext hS46.ext h15)) (ty79_shut x1.Cluster (ty43.ext hS46.ext h22) (ty77.ext hS46.ext h25) (ty71.ext hS46.ext h28) (ty72.ext hS46.ext h31) (ty72.ext hS46.ext h34)) hx48) (fun v49 w50 hR51 => ?_)
  obtain ⟨rfl, hR52⟩ := hR51
  have hS53 := hS46.join hR52
  refine RW.run ttok 1 rfl ?_
  by_cases hg54 : r47 = true
  · skip
    rw [if_pos hg54] at hm
    refine RW.know 10 rfl (congrArg Value.bool hg54) ?_
    refine RW.run ttok 1 rfl ?_
    refine RW.load1 ttok rfl rfl rfl rfl rfl ((hS53.bring 1 rfl).box) 8 rfl rfl rfl rfl ?_
    refine RW.run ttok 1 rfl ?_
    refine RW.load1 ttok rfl rfl rfl rfl rfl ((hS53.bring 0 rfl).box) 8 rfl rfl rfl rfl ?_
    refine RW.run ttok 3 rfl ?_
    by_cases hg55 : (x0.Holder == x1.Holder) = true
    · skip
      rw [if_pos hg55] at hm
      refine RW.know 17 rfl (congrArg Value.bool hg55) ?_
      refine RW.run ttok 1 rfl ?_
      refine RW.load1 ttok rfl rfl rfl rfl rfl ((hS53.bring 1 rfl).box) 9 rfl rfl rfl rfl ?_
      refine RW.run ttok 1 rfl ?_
      refine RW.load1 ttok rfl rfl rfl rfl rfl ((hS53.bring 0 rfl).box) 9 rfl rfl rfl rfl ?_
      refine RW.run ttok 3 rfl ?_
      by_cases hg56 : (x0.Count == x1.Count) = true
      · skip
        rw [if_pos hg56] at hm
        refine RW.know 24 rfl (congrArg Value.bool hg56) ?_
        refine RW.run ttok 1 rfl ?_
        refine RW.load1 ttok rfl rfl rfl rfl rfl ((hS53.bring 1 rfl).box) 10 rfl rfl rfl rfl ?_
        refine RW.run ttok 1 rfl ?_
        refine RW.load1 ttok rfl rfl rfl rfl rfl ((hS53.bring 0 rfl).box) 10 rfl rfl rfl rfl ?_
        refine RW.run ttok 3 rfl ?_
        by_cases hg57 : (x0.Dark == x1.Dark) = true
        · skip
          rw [if_pos hg57] at hm
          refine RW.know 31 rfl (congrArg Value.bool hg57) ?_
          refine RW.run ttok 1 rfl ?_
          refine RW.load1 ttok rfl rfl rfl rfl rfl ((hS53.bring 1 rfl).box) 11 rfl rfl rfl rfl ?_
          refine RW.run ttok 1 rfl ?_
          refine RW.load1 ttok rfl rfl rfl rfl rfl ((hS53.bring 0 rfl).box) 11 rfl rfl rfl rfl ?_
          obtain ⟨r58, hx59, hm⟩ := bind_some hm
          refine RW.call rfl rfl rfl enters97 (spec_l30SameBools_ok (ty82.ext hS53.ext h18) (ty82.ext hS53.ext h37) hx59) (fun v60 w61 hR62 => ?_)
          obtain ⟨rfl, hR63⟩ := hR62
          have hS64 := hS53.join hR63
          refine RW.run ttok 2 rfl ?_
          by_cases hg65 : r58 = true
          · skip
            rw [if_pos hg65] at hm
            refine RW.know 38 rfl (congrArg Value.bool hg65) ?_
            refine RW.run ttok 1 rfl ?_
            refine RW.load1 ttok rfl rfl rfl rfl rfl ((hS64.bring 1 rfl).box) 12 rfl rfl rfl rfl ?_
            refine RW.run ttok 1 rfl ?_
            refine RW.load1 ttok rfl rfl rfl rfl rfl ((hS64.bring 0 rfl).box) 12 rfl rfl rfl rfl ?_
            refine RW.run ttok 3 rfl ?_
            by_cases hg66 : (x0.Rounds == x1.Rounds) = true
            · skip
              rw [if_pos hg66] at hm
              refine RW.know 45 rfl (congrArg Value.bool hg66) ?_
              refine RW.run ttok 1 rfl ?_
              refine RW.load1 ttok rfl rfl rfl rfl rfl ((hS64.bring 1 rfl).box) 13 rfl rfl rfl rfl ?_
              refine RW.run ttok 1 rfl ?_
              refine RW.load1 ttok rfl rfl rfl rfl rfl ((hS64.bring 0 rfl).box) 13 rfl rfl rfl rfl ?_
              refine RW.run ttok 3 rfl ?_
              refine RW.nil ?_
              refine WP.ret ?_
              cases hm
              exact ⟨_, .cons (.tmp rfl) .nil, rfl, (hS64.taken 0)⟩
            · skip
              rw [if_neg hg66] at hm
              refine RW.know 45 rfl (congrArg Value.bool (Bool.eq_false_iff.2 hg66)) ?_
              refine RW.run ttok 7 rfl ?_
              refine RW.nil ?_
              refine WP.ret ?_
              cases hm
              exact ⟨_, .cons (.tmp rfl) .nil, rfl, (hS64.taken 0)⟩
          · skip
            rw [if_neg hg65] at hm
            refine RW.know 38 rfl (congrArg Value.bool (Bool.eq_false_iff.2 hg65)) ?_
            refine RW.run ttok 14 rfl ?_
            refine RW.nil ?_
            refine WP.ret ?_
            cases hm
            exact ⟨_, .cons (.tmp rfl) .nil, rfl, (hS64.taken 0)⟩
        · skip
          rw [if_neg hg57] at hm
          refine RW.know 31 rfl (congrArg Value.bool (Bool.eq_false_iff.2 hg57)) ?_
          refine RW.run ttok 21 rfl ?_
          refine RW.nil ?_
          refine WP.ret ?_
          cases hm
          exact ⟨_, .cons (.tmp rfl) .nil, rfl, (hS53.taken 0)⟩
      · skip
        rw [if_neg hg56] at hm
        refine RW.know 24 rfl (congrArg Value.bool (Bool.eq_false_iff.2 hg56)) ?_
        refine RW.run ttok 28 rfl ?_
        refine RW.nil ?_
        refine WP.ret ?_
        cases hm
        exact ⟨_, .cons (.tmp rfl) .nil, rfl, (hS53.taken 0)⟩
    · skip
      rw [if_neg hg55] at hm
      refine RW.know 17 rfl (congrArg Value.bool (Bool.eq_false_iff.2 hg55)) ?_
      refine RW.run ttok 35 rfl ?_
      refine RW.nil ?_
      refine WP.ret ?_
      cases hm
      exact ⟨_, .cons (.tmp rfl) .nil, rfl, (hS53.taken 0)⟩
  · skip
    rw [if_neg hg54] at hm
    refine RW.know 10 rfl (congrArg Value.bool (Bool.eq_false_iff.2 hg54)) ?_
    refine RW.run ttok 42 rfl ?_
    refine RW.nil ?_
    refine WP.ret ?_
    cases hm
    exact ⟨_, .cons (.tmp rfl) .nil, rfl, (hS53.taken 0)⟩

theorem enters99 : Enters Try.prog 99 := ⟨_, _, Try.func99, rfl, by kernel_rfl⟩
def m_slices_Equal_bool_bool_j1 (fuel : Nat) (t2 : Unit) : Option Bool := some true
def m_slices_Equal_bool_bool_b1 (fuel : Nat) (x0 : (List Bool)) (x1 : (List Bool)) (s1 : Int) : Option (Rd (Int) (Unit) (Bool)) := (if (decide (s1 < (x0.length : Int))) = true then ((idx x0 s1).bind fun x19 => ((idx x1 s1).bind fun x25 => (if (!(x19 == x25)) = true then some (.ret false) else some (.next (w64 (s1 + 1)))))) else some (.brk ()))
def m_slices_Equal_bool_bool (fuel : Nat) (x0 : (List Bool)) (x1 : (List Bool)) : Option (Bool) := (if ((x0.length : Int) != (x1.length : Int)) = true then some false else ((iter (m_slices_Equal_bool_bool_b1 fuel x0 x1) fuel 0).bind fun o => aft o (m_slices_Equal_bool_bool_j1 fuel)))

set_option maxRecDepth 100000 in
theorem slices_Equal_bool_bool_ok {w : World} {A0_ : Option Addr} {k0_ : Nat} {x0 : (List Bool)} {A1_ : Option Addr} {k1_ : Nat} {x1 : (List Bool)} (h0_ : ty82.ro w [.slice A0_ x0.length k0_] x0) (h1_ : ty82.ro w [.slice A1_ x1.length k1_] x1) {fuel : Nat} {r : Bool} (hm : m_slices_Equal_bool_bool fuel x0 x1 = some r) :
    Calls Try.prog 99 ⟨[.slice A0_ x0.length k0_, .slice A1_ x1.length k1_]⟩ w (Ret fun v w8 => v = .bool r ∧ St w w8 []) := by
  refine Calls.into Try.func99 rfl 26 rfl rfl _ rfl ?_
  unfold m_slices_Equal_bool_bool at hm
  have hS := St.start w
  refine WP.seq ?_
  refine WP.region ?_
  refine RW.run ttok 1 rfl ?_
  refine RW.nil ?_
  refine WP.seq ?_
  refine WP.seq ?_
  refine WP.region ?_
  refine RW.run ttok 5 rfl ?_
  refine RW.nil ?_
  refine WP.cond ((x0.length : Int) != (x1.length : Int)) rfl (fun hc => ?_) (fun hc => ?_)
  · skip
    rw [if_pos hc] at hm
    refine WP.seq ?_
    refine WP.region ?_
    refine RW.run ttok 1 rfl ?_
    refine RW.nil ?_
    refine WP.ret ?_
    cases hm
    exact ⟨_, .cons (.tmp rfl) .nil, rfl, (hS.taken 0)⟩
  · skip
    rw [if_neg (not_t hc)] at hm
    refine WP.skip ?_
    refine WP.seq ?_
    refine WP.seq ?_
    refine WP.region ?_
    refine RW.run ttok 3 rfl ?_
    refine RW.nil ?_
    obtain ⟨o8, hl9, hm⟩ := bind_some hm
    refine WP.cut (fun (t2 : Unit) F w9 => o8 = .inl t2 ∧ Ext w w9 ∧ St w w9 [] ∧ F = []) ?_ ?_
    · skip
      rintro t2 F w7 ⟨ho11, hE6, hS10, rfl⟩
      subst ho11
      rw [aft_inl] at hm
      unfold m_slices_Equal_bool_bool_j1 at hm
      refine WP.seq ?_
      refine WP.region ?_
      refine RW.run ttok 1 rfl ?_
      refine RW.nil ?_
      refine WP.ret ?_
      cases hm
      exact ⟨_, .cons (.tmp rfl) .nil, rfl, (hS10.taken 0)⟩
    · skip
      refine WP.block ?_
      refine WP.weak [(0, .slice A0_ x0.length k0_), (1, .slice A1_ x1.length k1_), (12, .int .i64 (x0.length : Int)), (13, .int .i64 0)] ⟨rfl, rfl, rfl, rfl, trivial⟩ ?_
      refine WP.iter (fun (s1 : Int) F w9 => Ext w w9 ∧ St w w9 [] ∧ F = [(0, .slice A0_ x0.length k0_), (1, .slice A1_ x1.length k1_), (12, .int .i64 (x0.length : Int)), (13, .int .i64 s1)]) _ hl9 ⟨(Ext.refl _), (hS.taken 0), rfl⟩ ?_
      rintro s1 F w16 _ o14 ⟨hE5, hS15, rfl⟩ hb12 ho13
      unfold m_slices_Equal_bool_bool_b1 at hb12
      refine WP.seq ?_
      refine WP.region ?_
      refine RW.run ttok 1 rfl ?_
      refine RW.nil ?_
      refine WP.seq ?_
      refine WP.cond (decide (s1 < (x0.length : Int))) rfl (fun hc => ?_) (fun hc => ?_)
      · skip
        rw [if_pos hc] at hb12
        refine WP.skip ?_
        refine WP.seq ?_
        refine WP.block ?_
        refine WP.seq ?_
        refine WP.region ?_
        refine RW.run ttok 2 rfl ?_
        refine RW.nil ?_
        refine WP.seq ?_
        refine WP.drawnM 0 mixed 9 (by kernel_rfl) (by kernel_rfl) [([], 511), ([], 511), ([0, 1], 508), ([2], 507), ([], 511), ([], 511), ([4, 5], 463), ([6], 447), ([3, 7], 375)] (by kernel_rfl) (fun hsk17 => ?_)
        have hS18 := hS15.step (Ext.draw _)
        refine DM.run (fuel := 5) ttok hsk17 [0, 1, 4, 5] 51 (by kernel_rfl) (by kernel_rfl) rfl ?_
        obtain ⟨x19, hx20, hb12⟩ := bind_some hb12
        refine DM.idx ttok hS15.ext hsk17 2 55 (by kernel_rfl) (by kernel_rfl) (by kernel_rfl) (by kernel_rfl) rfl (by kernel_rfl) rfl rfl rfl rfl rfl rfl (by decide) rfl rfl h0_ (idx_some hx20).1 (idx_some hx20).2 rfl rfl (fun p21 es22 ha23 hr24 => ?_)
        cases hr24
        refine DM.load1 ttok hsk17 3 63 (by kernel_rfl) (by kernel_rfl) (by kernel_rfl) (by kernel_rfl) rfl (by kernel_rfl) rfl rfl rfl rfl rfl (At.ext hS15.ext ha23) 0 rfl rfl rfl rfl ?_
        obtain ⟨x25, hx26, hb12⟩ := bind_some hb12
        refine DM.idx ttok hS15.ext hsk17 6 127 (by kernel_rfl) (by kernel_rfl) (by kernel_rfl) (by kernel_rfl) rfl (by kernel_rfl) rfl rfl rfl rfl rfl rfl (by decide) rfl rfl h1_ (idx_some hx26).1 (idx_some hx26).2 rfl rfl (fun p27 es28 ha29 hr30 => ?_)
        cases hr30
        refine DM.load1 ttok hsk17 7 255 (by kernel_rfl) (by kernel_rfl) (by kernel_rfl) (by kernel_rfl) rfl (by kernel_rfl) rfl rfl rfl rfl rfl (At.ext hS15.ext ha29) 0 rfl rfl rfl rfl ?_
        refine DM.run (fuel := 0) ttok hsk17 [8] 511 (by kernel_rfl) (by kernel_rfl) rfl ?_
        refine DM.weak [(0, .slice A0_ x0.length k0_), (1, .slice A1_ x1.length k1_), (12, .int .i64 (x0.length : Int)), (13, .int .i64 s1), (24, .bool (!(x19 == x25)))] ⟨rfl, rfl, rfl, rfl, rfl, trivial⟩ ?_
        refine DM.done hsk17 (by kernel_rfl) ?_
        refine WP.cond (!(x19 == x25)) rfl (fun hc => ?_) (fun hc => ?_)
        · skip
          rw [if_pos hc] at hb12
          refine WP.seq ?_
          refine WP.region ?_
          refine RW.run ttok 1 rfl ?_
          refine RW.nil ?_
          refine WP.ret ?_
          cases hb12
          cases ho13
          have hm : some _ = some _ := hm
          cases hm
          exact ⟨_, .cons (.tmp rfl) .nil, rfl, (hS18.taken 0)⟩
        · skip
          rw [if_neg (not_t hc)] at hb12
          refine WP.skip ?_
          refine WP.region ?_
          refine RW.run ttok 2 rfl ?_
          refine RW.nil ?_
          cases hb12
          exact ⟨_, [(0, .slice A0_ x0.length k0_), (1, .slice A1_ x1.length k1_), (12, .int .i64 (x0.length : Int)), (13, .int .i64 (w64 (s1 + 1)))], ⟨rfl, rfl, rfl, rfl, trivial⟩, rfl, (hE5.trans (Ext.draw _)), (hS18.taken 0), rfl⟩
      · skip
        rw [if_neg (not_t hc)] at hb12
        refine WP.exit ?_
        cases hb12
        exact ⟨_, [], trivial, ho13, hE5, (hS15.taken 0), rfl⟩

theorem enters34 : Enters Try.prog 34 := ⟨_, _, Try.func34, rfl, by kernel_rfl⟩
def m_impl_SameDetector (fuel : Nat) (x0 : D.Detector) (x1 : D.Detector) : Option (Bool) := ((m_impl_SameCluster fuel x0.Cluster x1.Cluster).bind fun r47 => (if r47 = true then (if (x0.Holder == x1.Holder) = true then (if (x0.Count == x1.Count) = true then (if (x0.Dark == x1.Dark) = true then ((m_slices_Equal_bool_bool fuel x0.Stained x1.Stained).bind fun r58 => (if r58 = true then (if (x0.Rounds == x1.Rounds) = true then some (x0.Announced == x1.Announced) else some false) else some false)) else some false) else some false) else some false) else some false))

set_option maxRecDepth 100000 in
theorem impl_SameDetector_ok {w : World} {c0_ : List Value} {x0 : D.Detector} {c1_ : List Value} {x1 : D.Detector} (h0_ : ty88.ro w c0_ x0) (h1_ : ty88.ro w c1_ x1) {fuel : Nat} {r : Bool} (hm : m_impl_SameDetector fuel x0 x1 = some r) :
    Calls Try.prog 34 ⟨[.agg ⟨c0_⟩, .agg ⟨c1_⟩]⟩ w (Ret fun v w8 => v = .bool r ∧ St w w8 []) := by
  obtain ⟨A1, k2, A4, k5, A7, k8, A10, k11, A13, k14, A16, k17, e19, h3, h6, h9, h12, h15, h18⟩ := ty88_open h0_; subst e19
  obtain ⟨A20, k21, A23, k24, A26, k27, A29, k30, A32, k33, A35, k36, e38, h22, h25, h28, h31, h34, h37⟩ := ty88_open h1_; subst e38
  refine Calls.into Try.func34 rfl 52 rfl rfl _ rfl ?_
  unfold m_impl_SameDetector at hm
  have hS := St.start w
  refine WP.seq ?_
  refine WP.region ?_
  refine RW.new ttok hS rfl rfl rfl rfl (fun g39 w40 e41 hS42 => ?_)
  refine RW.new ttok hS42 rfl rfl rfl rfl (fun g43 w44 e45 hS46 => ?_)
  refine RW.run ttok 1 rfl ?_
  refine RW.nil ?_
  refine WP.seq ?_
  refine WP.region ?_
  refine RW.run ttok 1 rfl ?_
  refine RW.loadN ttok rfl rfl rfl rfl rfl (At.sub ((hS46.bring 1 rfl).box) 0 8) rfl rfl rfl ?_
  refine RW.run ttok 1 rfl ?_
  refine RW.loadN ttok rfl rfl rfl rfl rfl (At.sub ((hS46.bring 0 rfl).box) 0 8) rfl rfl rfl ?_
  obtain ⟨r47, hx48, hm⟩ := bind_some hm
  refine RW.call rfl rfl rfl enters29 (impl_SameCluster_ok (ty79_shut x0.Cluster (ty43.ext hS46.ext h3) (ty77.ext hS46.ext h6) (ty71.ext hS46.ext h9) (ty72.ext hS46.ext h12) (ty72.ext hS46.ext h15)) (ty79_shut x1.Cluster (ty43.ext hS46.ext h22) (ty77.ext hS46.ext h25) (ty71.ext hS46.ext h28) (ty72.ext hS46.ext h31) (ty72.ext hS46.ext h34)) hx48) (fun v49 w50 hR51 => ?_)
  obtain ⟨rfl, hR52⟩ := hR51
  have hS53 := hS46.join hR52
  refine RW.run ttok 1 rfl ?_
  by_cases hg54 : r47 = true
  · skip
    rw [if_pos hg54] at hm
    refine RW.know 10 rfl (congrArg Value.bool hg54) ?_
    refine RW.run ttok 1 rfl ?_
    refine RW.load1 ttok rfl rfl rfl rfl rfl ((hS53.bring 1 rfl).box) 8 rfl rfl rfl rfl ?_
    refine RW.run ttok 1 rfl ?_
    refine RW.load1 ttok rfl rfl rfl rfl rfl ((hS53.bring 0 rfl).box) 8 rfl rfl rfl rfl ?_
    refine RW.run ttok 3 rfl ?_
    by_cases hg55 : (x0.Holder == x1.Holder) = true
    · skip
      rw [if_pos hg55] at hm
      refine RW.know 17 rfl (congrArg Value.bool hg55) ?_
      refine RW.run ttok 1 rfl ?_
      refine RW.load1 ttok rfl rfl rfl rfl rfl ((hS53.bring 1 rfl).box) 9 rfl rfl rfl rfl ?_
      refine RW.run ttok 1 rfl ?_
      refine RW.load1 ttok rfl rfl rfl rfl rfl ((hS53.bring 0 rfl).box) 9 rfl rfl rfl rfl ?_
      refine RW.run ttok 3 rfl ?_
      by_cases hg56 : (x0.Count == x1.Count) = true
      · skip
        rw [if_pos hg56] at hm
        refine RW.know 24 rfl (congrArg Value.bool hg56) ?_
        refine RW.run ttok 1 rfl ?_
        refine RW.load1 ttok rfl rfl rfl rfl rfl ((hS53.bring 1 rfl).box) 10 rfl rfl rfl rfl ?_
        refine RW.run ttok 1 rfl ?_
        refine RW.load1 ttok rfl rfl rfl rfl rfl ((hS53.bring 0 rfl).box) 10 rfl rfl rfl rfl ?_
        refine RW.run ttok 3 rfl ?_
        by_cases hg57 : (x0.Dark == x1.Dark) = true
        · skip
          rw [if_pos hg57] at hm
          refine RW.know 31 rfl (congrArg Value.bool hg57) ?_
          refine RW.run ttok 1 rfl ?_
          refine RW.load1 ttok rfl rfl rfl rfl rfl ((hS53.bring 1 rfl).box) 11 rfl rfl rfl rfl ?_
          refine RW.run ttok 1 rfl ?_
          refine RW.load1 ttok rfl rfl rfl rfl rfl ((hS53.bring 0 rfl).box) 11 rfl rfl rfl rfl ?_
          obtain ⟨r58, hx59, hm⟩ := bind_some hm
          refine RW.call rfl rfl rfl enters99 (slices_Equal_bool_bool_ok (ty82.ext hS53.ext h18) (ty82.ext hS53.ext h37) hx59) (fun v60 w61 hR62 => ?_)
          obtain ⟨rfl, hR63⟩ := hR62
          have hS64 := hS53.join hR63
          refine RW.run ttok 2 rfl ?_
          by_cases hg65 : r58 = true
          · skip
            rw [if_pos hg65] at hm
            refine RW.know 38 rfl (congrArg Value.bool hg65) ?_
            refine RW.run ttok 1 rfl ?_
            refine RW.load1 ttok rfl rfl rfl rfl rfl ((hS64.bring 1 rfl).box) 12 rfl rfl rfl rfl ?_
            refine RW.run ttok 1 rfl ?_
            refine RW.load1 ttok rfl rfl rfl rfl rfl ((hS64.bring 0 rfl).box) 12 rfl rfl rfl rfl ?_
            refine RW.run ttok 3 rfl ?_
            by_cases hg66 : (x0.Rounds == x1.Rounds) = true
            · skip
              rw [if_pos hg66] at hm
              refine RW.know 45 rfl (congrArg Value.bool hg66) ?_
              refine RW.run ttok 1 rfl ?_
              refine RW.load1 ttok rfl rfl rfl rfl rfl ((hS64.bring 1 rfl).box) 13 rfl rfl rfl rfl ?_
              refine RW.run ttok 1 rfl ?_
              refine RW.load1 ttok rfl rfl rfl rfl rfl ((hS64.bring 0 rfl).box) 13 rfl rfl rfl rfl ?_
              refine RW.run ttok 3 rfl ?_
              refine RW.nil ?_
              refine WP.ret ?_
              cases hm
              exact ⟨_, .cons (.tmp rfl) .nil, rfl, (hS64.taken 0)⟩
            · skip
              rw [if_neg hg66] at hm
              refine RW.know 45 rfl (congrArg Value.bool (Bool.eq_false_iff.2 hg66)) ?_
              refine RW.run ttok 7 rfl ?_
              refine RW.nil ?_
              refine WP.ret ?_
              cases hm
              exact ⟨_, .cons (.tmp rfl) .nil, rfl, (hS64.taken 0)⟩
          · skip
            rw [if_neg hg65] at hm
            refine RW.know 38 rfl (congrArg Value.bool (Bool.eq_false_iff.2 hg65)) ?_
            refine RW.run ttok 14 rfl ?_
            refine RW.nil ?_
            refine WP.ret ?_
            cases hm
            exact ⟨_, .cons (.tmp rfl) .nil, rfl, (hS64.taken 0)⟩
        · skip
          rw [if_neg hg57] at hm
          refine RW.know 31 rfl (congrArg Value.bool (Bool.eq_false_iff.2 hg57)) ?_
          refine RW.run ttok 21 rfl ?_
          refine RW.nil ?_
          refine WP.ret ?_
          cases hm
          exact ⟨_, .cons (.tmp rfl) .nil, rfl, (hS53.taken 0)⟩
      · skip
        rw [if_neg hg56] at hm
        refine RW.know 24 rfl (congrArg Value.bool (Bool.eq_false_iff.2 hg56)) ?_
        refine RW.run ttok 28 rfl ?_
        refine RW.nil ?_
        refine WP.ret ?_
        cases hm
        exact ⟨_, .cons (.tmp rfl) .nil, rfl, (hS53.taken 0)⟩
    · skip
      rw [if_neg hg55] at hm
      refine RW.know 17 rfl (congrArg Value.bool (Bool.eq_false_iff.2 hg55)) ?_
      refine RW.run ttok 35 rfl ?_
      refine RW.nil ?_
      refine WP.ret ?_
      cases hm
      exact ⟨_, .cons (.tmp rfl) .nil, rfl, (hS53.taken 0)⟩
  · skip
    rw [if_neg hg54] at hm
    refine RW.know 10 rfl (congrArg Value.bool (Bool.eq_false_iff.2 hg54)) ?_
    refine RW.run ttok 42 rfl ?_
    refine RW.nil ?_
    refine WP.ret ?_
    cases hm
    exact ⟨_, .cons (.tmp rfl) .nil, rfl, (hS53.taken 0)⟩

theorem enters100 : Enters Try.prog 100 := ⟨_, _, Try.func100, rfl, by kernel_rfl⟩
def m_laws_eqBoolS_j1 (fuel : Nat) (t2 : Unit) : Option Bool := some true
def m_laws_eqBoolS_b1 (fuel : Nat) (x0 : (List Bool)) (x1 : (List Bool)) (s1 : Int) : Option (Rd (Int) (Unit) (Bool)) := (if (decide (s1 < (x0.length : Int))) = true then ((idx x0 s1).bind fun x19 => ((idx x1 s1).bind fun x25 => (if (!(x19 == x25)) = true then some (.ret false) else some (.next (w64 (s1 + 1)))))) else some (.brk ()))
def m_laws_eqBoolS (fuel : Nat) (x0 : (List Bool)) (x1 : (List Bool)) : Option (Bool) := (if ((x0.length : Int) != (x1.length : Int)) = true then some false else ((iter (m_laws_eqBoolS_b1 fuel x0 x1) fuel 0).bind fun o => aft o (m_laws_eqBoolS_j1 fuel)))

set_option maxRecDepth 100000 in
theorem laws_eqBoolS_ok {w : World} {A0_ : Option Addr} {k0_ : Nat} {x0 : (List Bool)} {A1_ : Option Addr} {k1_ : Nat} {x1 : (List Bool)} (h0_ : ty82.ro w [.slice A0_ x0.length k0_] x0) (h1_ : ty82.ro w [.slice A1_ x1.length k1_] x1) {fuel : Nat} {r : Bool} (hm : m_laws_eqBoolS fuel x0 x1 = some r) :
    Calls Try.prog 100 ⟨[.slice A0_ x0.length k0_, .slice A1_ x1.length k1_]⟩ w (Ret fun v w8 => v = .bool r ∧ St w w8 []) := by
  refine Calls.into Try.func100 rfl 26 rfl rfl _ rfl ?_
  unfold m_laws_eqBoolS at hm
  have hS := St.start w
  refine WP.seq ?_
  refine WP.region ?_
  refine RW.run ttok 1 rfl ?_
  refine RW.nil ?_
  refine WP.seq ?_
  refine WP.seq ?_
  refine WP.region ?_
  refine RW.run ttok 5 rfl ?_
  refine RW.nil ?_
  refine WP.cond ((x0.length : Int) != (x1.length : Int)) rfl (fun hc => ?_) (fun hc => ?_)
  · skip
    rw [if_pos hc] at hm
    refine WP.seq ?_
    refine WP.region ?_
    refine RW.run ttok 1 rfl ?_
    refine RW.nil ?_
    refine WP.ret ?_
    cases hm
    exact ⟨_, .cons (.tmp rfl) .nil, rfl, (hS.taken 0)⟩
  · skip
    rw [if_neg (not_t hc)] at hm
    refine WP.skip ?_
    refine WP.seq ?_
    refine WP.seq ?_
    refine WP.region ?_
    refine RW.run ttok 1 rfl ?_
    refine RW.nil ?_
    obtain ⟨o8, hl9, hm⟩ := bind_some hm
    refine WP.cut (fun (t2 : Unit) F w9 => o8 = .inl t2 ∧ Ext w w9 ∧ St w w9 [] ∧ F = []) ?_ ?_
    · skip
      rintro t2 F w7 ⟨ho11, hE6, hS10, rfl⟩
      subst ho11
      rw [aft_inl] at hm
      unfold m_laws_eqBoolS_j1 at hm
      refine WP.seq ?_
      refine WP.region ?_
      refine RW.run ttok 1 rfl ?_
      refine RW.nil ?_
      refine WP.ret ?_
      cases hm
      exact ⟨_, .cons (.tmp rfl) .nil, rfl, (hS10.taken 0)⟩
    · skip
      refine WP.block ?_
      refine WP.weak [(0, .slice A0_ x0.length k0_), (1, .slice A1_ x1.length k1_), (5, .int .i64 0)] ⟨rfl, rfl, rfl, trivial⟩ ?_
      refine WP.iter (fun (s1 : Int) F w9 => Ext w w9 ∧ St w w9 [] ∧ F = [(0, .slice A0_ x0.length k0_), (1, .slice A1_ x1.length k1_), (5, .int .i64 s1)]) _ hl9 ⟨(Ext.refl _), (hS.taken 0), rfl⟩ ?_
      rintro s1 F w16 _ o14 ⟨hE5, hS15, rfl⟩ hb12 ho13
      unfold m_laws_eqBoolS_b1 at hb12
      refine WP.seq ?_
      refine WP.seq ?_
      refine WP.region ?_
      refine RW.run ttok 4 rfl ?_
      refine RW.nil ?_
      refine WP.cond (decide (s1 < (x0.length : Int))) rfl (fun hc => ?_) (fun hc => ?_)
      · skip
        rw [if_pos hc] at hb12
        refine WP.skip ?_
        refine WP.seq ?_
        refine WP.block ?_
        refine WP.seq ?_
        refine WP.drawnM 0 mixed 9 (by kernel_rfl) (by kernel_rfl) [([], 511), ([], 511), ([0, 1], 508), ([2], 507), ([], 511), ([], 511), ([4, 5], 463), ([6], 447), ([3, 7], 375)] (by kernel_rfl) (fun hsk17 => ?_)
        have hS18 := hS15.step (Ext.draw _)
        refine DM.run (fuel := 5) ttok hsk17 [0, 1, 4, 5] 51 (by kernel_rfl) (by kernel_rfl) rfl ?_
        obtain ⟨x19, hx20, hb12⟩ := bind_some hb12
        refine DM.idx ttok hS15.ext hsk17 2 55 (by kernel_rfl) (by kernel_rfl) (by kernel_rfl) (by kernel_rfl) rfl (by kernel_rfl) rfl rfl rfl rfl rfl rfl (by decide) rfl rfl h0_ (idx_some hx20).1 (idx_some hx20).2 rfl rfl (fun p21 es22 ha23 hr24 => ?_)
        cases hr24
        refine DM.load1 ttok hsk17 3 63 (by kernel_rfl) (by kernel_rfl) (by kernel_rfl) (by kernel_rfl) rfl (by kernel_rfl) rfl rfl rfl rfl rfl (At.ext hS15.ext ha23) 0 rfl rfl rfl rfl ?_
        obtain ⟨x25, hx26, hb12⟩ := bind_some hb12
        refine DM.idx ttok hS15.ext hsk17 6 127 (by kernel_rfl) (by kernel_rfl) (by kernel_rfl) (by kernel_rfl) rfl (by kernel_rfl) rfl rfl rfl rfl rfl rfl (by decide) rfl rfl h1_ (idx_some hx26).1 (idx_some hx26).2 rfl rfl (fun p27 es28 ha29 hr30 => ?_)
        cases hr30
        refine DM.load1 ttok hsk17 7 255 (by kernel_rfl) (by kernel_rfl) (by kernel_rfl) (by kernel_rfl) rfl (by kernel_rfl) rfl rfl rfl rfl rfl (At.ext hS15.ext ha29) 0 rfl rfl rfl rfl ?_
        refine DM.run (fuel := 0) ttok hsk17 [8] 511 (by kernel_rfl) (by kernel_rfl) rfl ?_
        refine DM.weak [(0, .slice A0_ x0.length k0_), (1, .slice A1_ x1.length k1_), (5, .int .i64 s1), (25, .bool (!(x19 == x25)))] ⟨rfl, rfl, rfl, rfl, trivial⟩ ?_
        refine DM.done hsk17 (by kernel_rfl) ?_
        refine WP.cond (!(x19 == x25)) rfl (fun hc => ?_) (fun hc => ?_)
        · skip
          rw [if_pos hc] at hb12
          refine WP.seq ?_
          refine WP.region ?_
          refine RW.run ttok 1 rfl ?_
          refine RW.nil ?_
          refine WP.ret ?_
          cases hb12
          cases ho13
          have hm : some _ = some _ := hm
          cases hm
          exact ⟨_, .cons (.tmp rfl) .nil, rfl, (hS18.taken 0)⟩
        · skip
          rw [if_neg (not_t hc)] at hb12
          refine WP.skip ?_
          refine WP.region ?_
          refine RW.run ttok 3 rfl ?_
          refine RW.nil ?_
          cases hb12
          exact ⟨_, [(0, .slice A0_ x0.length k0_), (1, .slice A1_ x1.length k1_), (5, .int .i64 (w64 (s1 + 1)))], ⟨rfl, rfl, rfl, trivial⟩, rfl, (hE5.trans (Ext.draw _)), (hS18.taken 0), rfl⟩
      · skip
        rw [if_neg (not_t hc)] at hb12
        refine WP.exit ?_
        cases hb12
        exact ⟨_, [], trivial, ho13, hE5, (hS15.taken 0), rfl⟩

theorem enters35 : Enters Try.prog 35 := ⟨_, _, Try.func35, rfl, by kernel_rfl⟩
def m_laws_eqDetector (fuel : Nat) (x0 : D.Detector) (x1 : D.Detector) : Option (Bool) := ((m_laws_eqCluster fuel x0.Cluster x1.Cluster).bind fun r47 => (if (!r47) = true then some false else (if (x0.Holder != x1.Holder) = true then some false else (if (x0.Count != x1.Count) = true then some false else (if (!(x0.Dark == x1.Dark)) = true then some false else ((m_laws_eqBoolS fuel x0.Stained x1.Stained).bind fun r54 => (if (!r54) = true then some false else (if (x0.Rounds != x1.Rounds) = true then some false else (if (!(x0.Announced == x1.Announced)) = true then some false else some true)))))))))

set_option maxRecDepth 100000 in
theorem laws_eqDetector_ok {w : World} {c0_ : List Value} {x0 : D.Detector} {c1_ : List Value} {x1 : D.Detector} (h0_ : ty88.ro w c0_ x0) (h1_ : ty88.ro w c1_ x1) {fuel : Nat} {r : Bool} (hm : m_laws_eqDetector fuel x0 x1 = some r) :
    Calls Try.prog 35 ⟨[.agg ⟨c0_⟩, .agg ⟨c1_⟩]⟩ w (Ret fun v w8 => v = .bool r ∧ St w w8 []) := by
  obtain ⟨A1, k2, A4, k5, A7, k8, A10, k11, A13, k14, A16, k17, e19, h3, h6, h9, h12, h15, h18⟩ := ty88_open h0_; subst e19
  obtain ⟨A20, k21, A23, k24, A26, k27, A29, k30, A32, k33, A35, k36, e38, h22, h25, h28, h31, h34, h37⟩ := ty88_open h1_; subst e38
  refine Calls.into Try.func35 rfl 42 rfl rfl _ rfl ?_
  unfold m_laws_eqDetector at hm
  have hS := St.start w
  refine WP.seq ?_
  refine WP.region ?_
  refine RW.new ttok hS rfl rfl rfl rfl (fun g39 w40 e41 hS42 => ?_)
  refine RW.new ttok hS42 rfl rfl rfl rfl (fun g43 w44 e45 hS46 => ?_)
  refine RW.run ttok 1 rfl ?_
  refine RW.nil ?_
  refine WP.seq ?_
  refine WP.seq ?_
  refine WP.region ?_
  refine RW.run ttok 1 rfl ?_
  refine RW.loadN ttok rfl rfl rfl rfl rfl (At.sub ((hS46.bring 1 rfl).box) 0 8) rfl rfl rfl ?_
  refine RW.run ttok 1 rfl ?_
  refine RW.loadN ttok rfl rfl rfl rfl rfl (At.sub ((hS46.bring 0 rfl).box) 0 8) rfl rfl rfl ?_
  obtain ⟨r47, hx48, hm⟩ := bind_some hm
  refine RW.call rfl rfl rfl enters30 (laws_eqCluster_ok (ty79_shut x0.Cluster (ty43.ext hS46.ext h3) (ty77.ext hS46.ext h6) (ty71.ext hS46.ext h9) (ty72.ext hS46.ext h12) (ty72.ext hS46.ext h15)) (ty79_shut x1.Cluster (ty43.ext hS46.ext h22) (ty77.ext hS46.ext h25) (ty71.ext hS46.ext h28) (ty72.ext hS46.ext h31) (ty72.ext hS46.ext h34)) hx48) (fun v49 w50 hR51 => ?_)
  obtain ⟨rfl, hR52⟩ := hR51
  have hS53 := hS46.join hR52
  refine RW.run ttok 1 rfl ?_
  refine RW.nil ?_
  refine WP.cond (!r47) rfl (fun hc => ?_) (fun hc => ?_)
  · skip
    rw [if_pos hc] at hm
    refine WP.seq ?_
    refine WP.region ?_
    refine RW.run ttok 1 rfl ?_
    refine RW.nil ?_
    refine WP.ret ?_
    cases hm
    exact ⟨_, .cons (.tmp rfl) .nil, rfl, (hS53.taken 0)⟩
  · skip
    rw [if_neg (not_t hc)] at hm
    refine WP.skip ?_
    refine WP.seq ?_
    refine WP.seq ?_
    refine WP.region ?_
    refine RW.run ttok 1 rfl ?_
    refine RW.load1 ttok rfl rfl rfl rfl rfl ((hS53.bring 1 rfl).box) 8 rfl rfl rfl rfl ?_
    refine RW.run ttok 1 rfl ?_
    refine RW.load1 ttok rfl rfl rfl rfl rfl ((hS53.bring 0 rfl).box) 8 rfl rfl rfl rfl ?_
    refine RW.run ttok 1 rfl ?_
    refine RW.nil ?_
    refine WP.cond (x0.Holder != x1.Holder) rfl (fun hc => ?_) (fun hc => ?_)
    · skip
      rw [if_pos hc] at hm
      refine WP.seq ?_
      refine WP.region ?_
      refine RW.run ttok 1 rfl ?_
      refine RW.nil ?_
      refine WP.ret ?_
      cases hm
      exact ⟨_, .cons (.tmp rfl) .nil, rfl, (hS53.taken 0)⟩
    · skip
      rw [if_neg (not_t hc)] at hm
      refine WP.skip ?_
      refine WP.seq ?_
      refine WP.seq ?_
      refine WP.region ?_
      refine RW.run ttok 1 rfl ?_
      refine RW.load1 ttok rfl rfl rfl rfl rfl ((hS53.bring 1 rfl).box) 9 rfl rfl rfl rfl ?_
      refine RW.run ttok 1 rfl ?_
      refine RW.load1 ttok rfl rfl rfl rfl rfl ((hS53.bring 0 rfl).box) 9 rfl rfl rfl rfl ?_
      refine RW.run ttok 1 rfl ?_
      refine RW.nil ?_
      refine WP.cond (x0.Count != x1.Count) rfl (fun hc => ?_) (fun hc => ?_)
      · skip
        rw [if_pos hc] at hm
        refine WP.seq ?_
        refine WP.region ?_
        refine RW.run ttok 1 rfl ?_
        refine RW.nil ?_
        refine WP.ret ?_
        cases hm
        exact ⟨_, .cons (.tmp rfl) .nil, rfl, (hS53.taken 0)⟩
      · skip
        rw [if_neg (not_t hc)] at hm
        refine WP.skip ?_
        refine WP.seq ?_
        refine WP.seq ?_
        refine WP.region ?_
        refine RW.run ttok 1 rfl ?_
        refine RW.load1 ttok rfl rfl rfl rfl rfl ((hS53.bring 1 rfl).box) 10 rfl rfl rfl rfl ?_
        refine RW.run ttok 1 rfl ?_
        refine RW.load1 ttok rfl rfl rfl rfl rfl ((hS53.bring 0 rfl).box) 10 rfl rfl rfl rfl ?_
        refine RW.run ttok 1 rfl ?_
        refine RW.nil ?_
        refine WP.cond (!(x0.Dark == x1.Dark)) rfl (fun hc => ?_) (fun hc => ?_)
        · skip
          rw [if_pos hc] at hm
          refine WP.seq ?_
          refine WP.region ?_
          refine RW.run ttok 1 rfl ?_
          refine RW.nil ?_
          refine WP.ret ?_
          cases hm
          exact ⟨_, .cons (.tmp rfl) .nil, rfl, (hS53.taken 0)⟩
        · skip
          rw [if_neg (not_t hc)] at hm
          refine WP.skip ?_
          refine WP.seq ?_
          refine WP.seq ?_
          refine WP.region ?_
          refine RW.run ttok 1 rfl ?_
          refine RW.load1 ttok rfl rfl rfl rfl rfl ((hS53.bring 1 rfl).box) 11 rfl rfl rfl rfl ?_
          refine RW.run ttok 1 rfl ?_
          refine RW.load1 ttok rfl rfl rfl rfl rfl ((hS53.bring 0 rfl).box) 11 rfl rfl rfl rfl ?_
          obtain ⟨r54, hx55, hm⟩ := bind_some hm
          refine RW.call rfl rfl rfl enters100 (laws_eqBoolS_ok (ty82.ext hS53.ext h18) (ty82.ext hS53.ext h37) hx55) (fun v56 w57 hR58 => ?_)
          obtain ⟨rfl, hR59⟩ := hR58
          have hS60 := hS53.join hR59
          refine RW.run ttok 1 rfl ?_
          refine RW.nil ?_
          refine WP.cond (!r54) rfl (fun hc => ?_) (fun hc => ?_)
          · skip
            rw [if_pos hc] at hm
            refine WP.seq ?_
            refine WP.region ?_
            refine RW.run ttok 1 rfl ?_
            refine RW.nil ?_
            refine WP.ret ?_
            cases hm
            exact ⟨_, .cons (.tmp rfl) .nil, rfl, (hS60.taken 0)⟩
          · skip
            rw [if_neg (not_t hc)] at hm
            refine WP.skip ?_
            refine WP.seq ?_
            refine WP.seq ?_
            refine WP.region ?_
            refine RW.run ttok 1 rfl ?_
            refine RW.load1 ttok rfl rfl rfl rfl rfl ((hS60.bring 1 rfl).box) 12 rfl rfl rfl rfl ?_
            refine RW.run ttok 1 rfl ?_
            refine RW.load1 ttok rfl rfl rfl rfl rfl ((hS60.bring 0 rfl).box) 12 rfl rfl rfl rfl ?_
            refine RW.run ttok 1 rfl ?_
            refine RW.nil ?_
            refine WP.cond (x0.Rounds != x1.Rounds) rfl (fun hc => ?_) (fun hc => ?_)
            · skip
              rw [if_pos hc] at hm
              refine WP.seq ?_
              refine WP.region ?_
              refine RW.run ttok 1 rfl ?_
              refine RW.nil ?_
              refine WP.ret ?_
              cases hm
              exact ⟨_, .cons (.tmp rfl) .nil, rfl, (hS60.taken 0)⟩
            · skip
              rw [if_neg (not_t hc)] at hm
              refine WP.skip ?_
              refine WP.seq ?_
              refine WP.seq ?_
              refine WP.region ?_
              refine RW.run ttok 1 rfl ?_
              refine RW.load1 ttok rfl rfl rfl rfl rfl ((hS60.bring 1 rfl).box) 13 rfl rfl rfl rfl ?_
              refine RW.run ttok 1 rfl ?_
              refine RW.load1 ttok rfl rfl rfl rfl rfl ((hS60.bring 0 rfl).box) 13 rfl rfl rfl rfl ?_
              refine RW.run ttok 1 rfl ?_
              refine RW.nil ?_
              refine WP.cond (!(x0.Announced == x1.Announced)) rfl (fun hc => ?_) (fun hc => ?_)
              · skip
                rw [if_pos hc] at hm
                refine WP.seq ?_
                refine WP.region ?_
                refine RW.run ttok 1 rfl ?_
                refine RW.nil ?_
                refine WP.ret ?_
                cases hm
                exact ⟨_, .cons (.tmp rfl) .nil, rfl, (hS60.taken 0)⟩
              · skip
                rw [if_neg (not_t hc)] at hm
                refine WP.skip ?_
                refine WP.seq ?_
                refine WP.region ?_
                refine RW.run ttok 1 rfl ?_
                refine RW.nil ?_
                refine WP.ret ?_
                cases hm
                exact ⟨_, .cons (.tmp rfl) .nil, rfl, (hS60.taken 0)⟩

theorem enters7 : Enters Try.prog 7 := ⟨_, _, Try.func7, rfl, by kernel_rfl⟩
def m_laws_FnExactSameDetector (fuel : Nat) (x0 : D.Detector) (x1 : D.Detector) : Option (Bool) := ((m_laws_szDetector fuel x0 1048576).bind fun r47 => (if (decide (r47 < 0)) = true then some true else ((m_laws_szDetector fuel x1 r47).bind fun r54 => (if (decide (r54 < 0)) = true then some true else ((m_laws_toDetector fuel x0).bind fun r63 => ((m_laws_toDetector fuel x1).bind fun r82 => ((m_spec_SameDetector fuel r63 r82).bind fun r101 => ((m_laws_toDetector fuel x0).bind fun r108 => ((m_laws_toDetector fuel x1).bind fun r134 => ((m_impl_SameDetector fuel r108 r134).bind fun r160 => (if (!(r160 == r101)) = true then some false else ((m_laws_toDetector fuel x0).bind fun r169 => ((m_laws_eqDetector fuel r108 r169).bind fun r188 => (if (!r188) = true then some false else ((m_laws_toDetector fuel x1).bind fun r197 => ((m_laws_eqDetector fuel r134 r197).bind fun r216 => (if (!r216) = true then some false else some true)))))))))))))))))

set_option maxRecDepth 100000 in
theorem laws_FnExactSameDetector_ok {w : World} {c0_ : List Value} {x0 : D.Detector} {c1_ : List Value} {x1 : D.Detector} (h0_ : ty84.ro w c0_ x0) (h1_ : ty84.ro w c1_ x1) {fuel : Nat} {r : Bool} (hm : m_laws_FnExactSameDetector fuel x0 x1 = some r) :
    Calls Try.prog 7 ⟨[.agg ⟨c0_⟩, .agg ⟨c1_⟩]⟩ w (Ret fun v w8 => v = .bool r ∧ St w w8 []) := by
  obtain ⟨A1, k2, A4, k5, A7, k8, A10, k11, A13, k14, A16, k17, e19, h3, h6, h9, h12, h15, h18⟩ := ty84_open h0_; subst e19
  obtain ⟨A20, k21, A23, k24, A26, k27, A29, k30, A32, k33, A35, k36, e38, h22, h25, h28, h31, h34, h37⟩ := ty84_open h1_; subst e38
  refine Calls.into Try.func7 rfl 45 rfl rfl _ rfl ?_
  unfold m_laws_FnExactSameDetector at hm
  have hS := St.start w
  refine WP.seq ?_
  refine WP.region ?_
  refine RW.new ttok hS rfl rfl rfl rfl (fun g39 w40 e41 hS42 => ?_)
  refine RW.new ttok hS42 rfl rfl rfl rfl (fun g43 w44 e45 hS46 => ?_)
  refine RW.run ttok 1 rfl ?_
  refine RW.nil ?_
  refine WP.seq ?_
  refine WP.region ?_
  refine RW.run ttok 1 rfl ?_
  refine RW.nil ?_
  refine WP.seq ?_
  refine WP.region ?_
  refine RW.loadN ttok rfl rfl rfl rfl rfl ((hS46.bring 1 rfl).box) rfl rfl rfl ?_
  refine RW.run ttok 1 rfl ?_
  obtain ⟨r47, hx48, hm⟩ := bind_some hm
  refine RW.call rfl rfl rfl enters31 (laws_szDetector_ok (ty84.ext hS46.ext h0_) hx48) (fun v49 w50 hR51 => ?_)
  obtain ⟨rfl, hR52⟩ := hR51
  have hS53 := hS46.join hR52
  refine RW.run ttok 1 rfl ?_
  refine RW.nil ?_
  refine WP.seq ?_
  refine WP.seq ?_
  refine WP.region ?_
  refine RW.run ttok 2 rfl ?_
  refine RW.nil ?_
  refine WP.cond (decide (r47 < 0)) rfl (fun hc => ?_) (fun hc => ?_)
  · skip
    rw [if_pos hc] at hm
    refine WP.seq ?_
    refine WP.region ?_
    refine RW.run ttok 1 rfl ?_
    refine RW.nil ?_
    refine WP.ret ?_
    cases hm
    exact ⟨_, .cons (.tmp rfl) .nil, rfl, (hS53.taken 0)⟩
  · skip
    rw [if_neg (not_t hc)] at hm
    refine WP.skip ?_
    refine WP.seq ?_
    refine WP.region ?_
    refine RW.loadN ttok rfl rfl rfl rfl rfl ((hS53.bring 0 rfl).box) rfl rfl rfl ?_
    refine RW.run ttok 1 rfl ?_
    obtain ⟨r54, hx55, hm⟩ := bind_some hm
    refine RW.call rfl rfl rfl enters31 (laws_szDetector_ok (ty84.ext hS53.ext h1_) hx55) (fun v56 w57 hR58 => ?_)
    obtain ⟨rfl, hR59⟩ := hR58
    have hS60 := hS53.join hR59
    refine RW.run ttok 1 rfl ?_
    refine RW.nil ?_
    refine WP.seq ?_
    refine WP.seq ?_
    refine WP.region ?_
    refine RW.run ttok 2 rfl ?_
    refine RW.nil ?_
    refine WP.cond (decide (r54 < 0)) rfl (fun hc => ?_) (fun hc => ?_)
    · skip
      rw [if_pos hc] at hm
      refine WP.seq ?_
      refine WP.region ?_
      refine RW.run ttok 1 rfl ?_
      refine RW.nil ?_
      refine WP.ret ?_
      cases hm
      exact ⟨_, .cons (.tmp rfl) .nil, rfl, (hS60.taken 0)⟩
    · skip
      rw [if_neg (not_t hc)] at hm
      refine WP.skip ?_
      refine WP.seq ?_
      refine WP.drawnM 0 mixed 6 (by kernel_rfl) (by kernel_rfl) [([], 63), ([0], 62), ([], 63), ([2, 1], 59), ([1, 3, 3], 53), ([4, 4, 0, 1, 2, 3, 4], 47)] (by kernel_rfl) (fun hsk61 => ?_)
      have hS62 := hS60.step (Ext.draw _)
      refine DM.loadN ttok hsk61 0 1 (by kernel_rfl) (by kernel_rfl) (by kernel_rfl) (by kernel_rfl) rfl (by kernel_rfl) rfl rfl rfl rfl rfl ((hS60.bring 1 rfl).box) rfl rfl rfl ?_
      refine DM.loadN ttok hsk61 2 5 (by kernel_rfl) (by kernel_rfl) (by kernel_rfl) (by kernel_rfl) rfl (by kernel_rfl) rfl rfl rfl rfl rfl ((hS60.bring 0 rfl).box) rfl rfl rfl ?_
      obtain ⟨r63, hx64, hm⟩ := bind_some hm
      refine DM.one hsk61 1 (by kernel_rfl) (LM.call hsk61 7 (by kernel_rfl) (by kernel_rfl) rfl rfl rfl rfl enters33 (laws_toDetector_ok (ty84.ext hS62.ext h0_) hx64) (fun v65 w66 hR67 => ?_))
      obtain ⟨A68, k69, A70, k71, A72, k73, A74, k75, A76, k77, A78, k79, rfl, hR80⟩ := hR67
      refine ⟨hR80.ext, ?_⟩
      have hS81 := hS62.join hR80
      obtain ⟨r82, hx83, hm⟩ := bind_some hm
      refine DM.one hsk61 3 (by kernel_rfl) (LM.call hsk61 15 (by kernel_rfl) (by kernel_rfl) rfl rfl rfl rfl enters33 (laws_toDetector_ok (ty84.ext hS81.ext h1_) hx83) (fun v84 w85 hR86 => ?_))
      obtain ⟨A87, k88, A89, k90, A91, k92, A93, k94, A95, k96, A97, k98, rfl, hR99⟩ := hR86
      refine ⟨hR99.ext, ?_⟩
      have hS100 := hS81.join hR99
      obtain ⟨r101, hx102, hm⟩ := bind_some hm
      refine DM.one hsk61 4 (by kernel_rfl) (LM.call hsk61 31 (by kernel_rfl) (by kernel_rfl) rfl rfl rfl rfl enters32 (spec_SameDetector_ok (ty88_shut r63 ((hS100.bring 6 rfl).own) ((hS100.bring 7 rfl).own) ((hS100.bring 8 rfl).own) ((hS100.bring 9 rfl).own) ((hS100.bring 10 rfl).own) ((hS100.bring 11 rfl).own)) (ty88_shut r82 ((hS100.bring 0 rfl).own) ((hS100.bring 1 rfl).own) ((hS100.bring 2 rfl).own) ((hS100.bring 3 rfl).own) ((hS100.bring 4 rfl).own) ((hS100.bring 5 rfl).own)) hx102) (fun v103 w104 hR105 => ?_))
      obtain ⟨rfl, hR106⟩ := hR105
      refine ⟨hR106.ext, ?_⟩
      have hS107 := hS100.join hR106
      refine DM.run (fuel := 0) ttok hsk61 [5] 63 (by kernel_rfl) (by kernel_rfl) rfl ?_
      refine DM.weak [(2, .pointer (some ⟨g39, 0, none⟩)), (3, .pointer (some ⟨g43, 0, none⟩)), (6, .bool r101)] ⟨rfl, rfl, rfl, trivial⟩ ?_
      refine DM.done hsk61 (by kernel_rfl) ?_
      refine WP.seq ?_
      refine WP.region ?_
      refine RW.loadN ttok rfl rfl rfl rfl rfl ((hS107.bring 13 rfl).box) rfl rfl rfl ?_
      obtain ⟨r108, hx109, hm⟩ := bind_some hm
      refine RW.call rfl rfl rfl enters33 (laws_toDetector_ok (ty84.ext hS107.ext h0_) hx109) (fun v110 w111 hR112 => ?_)
      obtain ⟨A113, k114, A115, k116, A117, k118, A119, k120, A121, k122, A123, k124, rfl, hR125⟩ := hR112
      have hS126 := hS107.join hR125
      refine RW.new ttok hS126 rfl rfl rfl rfl (fun g127 w128 e129 hS130 => ?_)
      have hS131 := hS130.bring 0 rfl
      refine RW.store ttok (A := []) hS131 rfl rfl rfl rfl rfl 0 rfl rfl rfl rfl rfl (fun w132 hS133 => ?_)
      refine RW.nil ?_
      refine WP.seq ?_
      refine WP.region ?_
      refine RW.loadN ttok rfl rfl rfl rfl rfl ((hS133.bring 19 rfl).box) rfl rfl rfl ?_
      obtain ⟨r134, hx135, hm⟩ := bind_some hm
      refine RW.call rfl rfl rfl enters33 (laws_toDetector_ok (ty84.ext hS133.ext h1_) hx135) (fun v136 w137 hR138 => ?_)
      obtain ⟨A139, k140, A141, k142, A143, k144, A145, k146, A147, k148, A149, k150, rfl, hR151⟩ := hR138
      have hS152 := hS133.join hR151
      refine RW.new ttok hS152 rfl rfl rfl rfl (fun g153 w154 e155 hS156 => ?_)
      have hS157 := hS156.bring 0 rfl
      refine RW.store ttok (A := []) hS157 rfl rfl rfl rfl rfl 0 rfl rfl rfl rfl rfl (fun w158 hS159 => ?_)
      refine RW.nil ?_
      refine WP.seq ?_
      refine WP.region ?_
      refine RW.loadN ttok rfl rfl rfl rfl rfl ((hS159.bring 7 rfl).box) rfl rfl rfl ?_
      refine RW.loadN ttok rfl rfl rfl rfl rfl ((hS159.bring 0 rfl).box) rfl rfl rfl ?_
      obtain ⟨r160, hx161, hm⟩ := bind_some hm
      refine RW.call rfl rfl rfl enters34 (impl_SameDetector_ok (ty88_shut r108 ((hS159.bring 8 rfl).own) ((hS159.bring 9 rfl).own) ((hS159.bring 10 rfl).own) ((hS159.bring 11 rfl).own) ((hS159.bring 12 rfl).own) ((hS159.bring 13 rfl).own)) (ty88_shut r134 ((hS159.bring 1 rfl).own) ((hS159.bring 2 rfl).own) ((hS159.bring 3 rfl).own) ((hS159.bring 4 rfl).own) ((hS159.bring 5 rfl).own) ((hS159.bring 6 rfl).own)) hx161) (fun v162 w163 hR164 => ?_)
      obtain ⟨rfl, hR165⟩ := hR164
      have hS166 := hS159.join hR165
      refine RW.run ttok 1 rfl ?_
      refine RW.nil ?_
      refine WP.seq ?_
      refine WP.seq ?_
      refine WP.region ?_
      refine RW.run ttok 3 rfl ?_
      refine RW.nil ?_
      refine WP.cond (!(r160 == r101)) rfl (fun hc => ?_) (fun hc => ?_)
      · skip
        rw [if_pos hc] at hm
        refine WP.seq ?_
        refine WP.region ?_
        refine RW.run ttok 1 rfl ?_
        refine RW.nil ?_
        refine WP.ret ?_
        cases hm
        exact ⟨_, .cons (.tmp rfl) .nil, rfl, (hS166.taken 0)⟩
      · skip
        rw [if_neg (not_t hc)] at hm
        refine WP.skip ?_
        refine WP.seq ?_
        refine WP.seq ?_
        refine WP.drawnM 0 mixed 5 (by kernel_rfl) (by kernel_rfl) [([], 31), ([], 31), ([1], 29), ([0, 2, 2], 26), ([3], 23)] (by kernel_rfl) (fun hsk167 => ?_)
        have hS168 := hS166.step (Ext.draw _)
        refine DM.loadN ttok hsk167 0 1 (by kernel_rfl) (by kernel_rfl) (by kernel_rfl) (by kernel_rfl) rfl (by kernel_rfl) rfl rfl rfl rfl rfl ((hS166.bring 7 rfl).box) rfl rfl rfl ?_
        refine DM.loadN ttok hsk167 1 3 (by kernel_rfl) (by kernel_rfl) (by kernel_rfl) (by kernel_rfl) rfl (by kernel_rfl) rfl rfl rfl rfl rfl ((hS166.bring 27 rfl).box) rfl rfl rfl ?_
        obtain ⟨r169, hx170, hm⟩ := bind_some hm
        refine DM.one hsk167 2 (by kernel_rfl) (LM.call hsk167 7 (by kernel_rfl) (by kernel_rfl) rfl rfl rfl rfl enters33 (laws_toDetector_ok (ty84.ext hS168.ext h0_) hx170) (fun v171 w172 hR173 => ?_))
        obtain ⟨A174, k175, A176, k177, A178, k179, A180, k181, A182, k183, A184, k185, rfl, hR186⟩ := hR173
        refine ⟨hR186.ext, ?_⟩
        have hS187 := hS168.join hR186
        obtain ⟨r188, hx189, hm⟩ := bind_some hm
        refine DM.one hsk167 3 (by kernel_rfl) (LM.call hsk167 15 (by kernel_rfl) (by kernel_rfl) rfl rfl rfl rfl enters35 (laws_eqDetector_ok (ty88_shut r108 ((hS187.bring 14 rfl).own) ((hS187.bring 15 rfl).own) ((hS187.bring 16 rfl).own) ((hS187.bring 17 rfl).own) ((hS187.bring 18 rfl).own) ((hS187.bring 19 rfl).own)) (ty88_shut r169 ((hS187.bring 0 rfl).own) ((hS187.bring 1 rfl).own) ((hS187.bring 2 rfl).own) ((hS187.bring 3 rfl).own) ((hS187.bring 4 rfl).own) ((hS187.bring 5 rfl).own)) hx189) (fun v190 w191 hR192 => ?_))
        obtain ⟨rfl, hR193⟩ := hR192
        refine ⟨hR193.ext, ?_⟩
        have hS194 := hS187.join hR193
        refine DM.run (fuel := 0) ttok hsk167 [4] 31 (by kernel_rfl) (by kernel_rfl) rfl ?_
        refine DM.weak [(3, .pointer (some ⟨g43, 0, none⟩)), (8, .pointer (some ⟨g153, 0, none⟩)), (39, .bool (!r188))] ⟨rfl, rfl, rfl, trivial⟩ ?_
        refine DM.done hsk167 (by kernel_rfl) ?_
        refine WP.cond (!r188) rfl (fun hc => ?_) (fun hc => ?_)
        · skip
          rw [if_pos hc] at hm
          refine WP.seq ?_
          refine WP.region ?_
          refine RW.run ttok 1 rfl ?_
          refine RW.nil ?_
          refine WP.ret ?_
          cases hm
          exact ⟨_, .cons (.tmp rfl) .nil, rfl, (hS194.taken 0)⟩
        · skip
          rw [if_neg (not_t hc)] at hm
          refine WP.skip ?_
          refine WP.seq ?_
          refine WP.seq ?_
          refine WP.drawnM 0 mixed 5 (by kernel_rfl) (by kernel_rfl) [([], 31), ([], 31), ([1], 29), ([0, 2, 2], 26), ([3], 23)] (by kernel_rfl) (fun hsk195 => ?_)
          have hS196 := hS194.step (Ext.draw _)
          refine DM.loadN ttok hsk195 0 1 (by kernel_rfl) (by kernel_rfl) (by kernel_rfl) (by kernel_rfl) rfl (by kernel_rfl) rfl rfl rfl rfl rfl ((hS194.bring 6 rfl).box) rfl rfl rfl ?_
          refine DM.loadN ttok hsk195 1 3 (by kernel_rfl) (by kernel_rfl) (by kernel_rfl) (by kernel_rfl) rfl (by kernel_rfl) rfl rfl rfl rfl rfl ((hS194.bring 32 rfl).box) rfl rfl rfl ?_
          obtain ⟨r197, hx198, hm⟩ := bind_some hm
          refine DM.one hsk195 2 (by kernel_rfl) (LM.call hsk195 7 (by kernel_rfl) (by kernel_rfl) rfl rfl rfl rfl enters33 (laws_toDetector_ok (ty84.ext hS196.ext h1_) hx198) (fun v199 w200 hR201 => ?_))
          obtain ⟨A202, k203, A204, k205, A206, k207, A208, k209, A210, k211, A212, k213, rfl, hR214⟩ := hR201
          refine ⟨hR214.ext, ?_⟩
          have hS215 := hS196.join hR214
          obtain ⟨r216, hx217, hm⟩ := bind_some hm
          refine DM.one hsk195 3 (by kernel_rfl) (LM.call hsk195 15 (by kernel_rfl) (by kernel_rfl) rfl rfl rfl rfl enters35 (laws_eqDetector_ok (ty88_shut r134 ((hS215.bring 13 rfl).own) ((hS215.bring 14 rfl).own) ((hS215.bring 15 rfl).own) ((hS215.bring 16 rfl).own) ((hS215.bring 17 rfl).own) ((hS215.bring 18 rfl).own)) (ty88_shut r197 ((hS215.bring 0 rfl).own) ((hS215.bring 1 rfl).own) ((hS215.bring 2 rfl).own) ((hS215.bring 3 rfl).own) ((hS215.bring 4 rfl).own) ((hS215.bring 5 rfl).own)) hx217) (fun v218 w219 hR220 => ?_))
          obtain ⟨rfl, hR221⟩ := hR220
          refine ⟨hR221.ext, ?_⟩
          have hS222 := hS215.join hR221
          refine DM.run (fuel := 0) ttok hsk195 [4] 31 (by kernel_rfl) (by kernel_rfl) rfl ?_
          refine DM.weak [(44, .bool (!r216))] ⟨rfl, trivial⟩ ?_
          refine DM.done hsk195 (by kernel_rfl) ?_
          refine WP.cond (!r216) rfl (fun hc => ?_) (fun hc => ?_)
          · skip
            rw [if_pos hc] at hm
            refine WP.seq ?_
            refine WP.region ?_
            refine RW.run ttok 1 rfl ?_
            refine RW.nil ?_
            refine WP.ret ?_
            cases hm
            exact ⟨_, .cons (.tmp rfl) .nil, rfl, (hS222.taken 0)⟩
          · skip
            rw [if_neg (not_t hc)] at hm
            refine WP.skip ?_
            refine WP.seq ?_
            refine WP.region ?_
            refine RW.run ttok 1 rfl ?_
            refine RW.nil ?_
            refine WP.ret ?_
            cases hm
            exact ⟨_, .cons (.tmp rfl) .nil, rfl, (hS222.taken 0)⟩

theorem enters101 : Enters Try.prog 101 := ⟨_, _, Try.func101, rfl, by kernel_rfl⟩
def m_laws_szShot (fuel : Nat) (x0 : D.Shot) (x1 : Int) : Option (Int) := ((m_laws_szBoolS fuel x0.Taken x1).bind fun r21 => (if (decide (r21 < 0)) = true then some (-1) else ((m_laws_szShardS fuel x0.Shards r21).bind fun r28 => (if (decide (r28 < 0)) = true then some (-1) else ((m_laws_szInt64SS fuel x0.Counts r28).bind fun r35 => (if (decide (r35 < 0)) = true then some (-1) else ((m_laws_szBoolS fuel x0.Recording r35).bind fun r42 => (if (decide (r42 < 0)) = true then some (-1) else ((m_laws_szParcelSS fuel x0.Saved r42).bind fun r49 => (if (decide (r49 < 0)) = true then some (-1) else some r49))))))))))

set_option maxRecDepth 100000 in
theorem laws_szShot_ok {w : World} {c0_ : List Value} {x0 : D.Shot} {x1 : Int} (h0_ : ty92.ro w c0_ x0) {fuel : Nat} {r : Int} (hm : m_laws_szShot fuel x0 x1 = some r) :
    Calls Try.prog 101 ⟨[.agg ⟨c0_⟩, .int .i64 x1]⟩ w (Ret fun v w8 => v = .int .i64 r ∧ St w w8 []) := by
  obtain ⟨A1, k2, A4, k5, A7, k8, A10, k11, A13, k14, e16, h3, h6, h9, h12, h15⟩ := ty92_open h0_; subst e16
  refine Calls.into Try.func101 rfl 36 rfl rfl _ rfl ?_
  unfold m_laws_szShot at hm
  have hS := St.start w
  refine WP.seq ?_
  refine WP.region ?_
  refine RW.new ttok hS rfl rfl rfl rfl (fun g17 w18 e19 hS20 => ?_)
  refine RW.run ttok 1 rfl ?_
  refine RW.nil ?_
  refine WP.seq ?_
  refine WP.region ?_
  refine RW.run ttok 1 rfl ?_
  refine RW.load1 ttok rfl rfl rfl rfl rfl ((hS20.bring 0 rfl).box) 0 rfl rfl rfl rfl ?_
  refine RW.run ttok 1 rfl ?_
  obtain ⟨r21, hx22, hm⟩ := bind_some hm
  refine RW.call rfl rfl rfl enters96 (laws_szBoolS_ok (ty82.ext hS20.ext h3) hx22) (fun v23 w24 hR25 => ?_)
  obtain ⟨rfl, hR26⟩ := hR25
  have hS27 := hS20.join hR26
  refine RW.run ttok 1 rfl ?_
  refine RW.nil ?_
  refine WP.seq ?_
  refine WP.seq ?_
  refine WP.region ?_
  refine RW.run ttok 2 rfl ?_
  refine RW.nil ?_
  refine WP.cond (decide (r21 < 0)) rfl (fun hc => ?_) (fun hc => ?_)
  · skip
    rw [if_pos hc] at hm
    refine WP.seq ?_
    refine WP.region ?_
    refine RW.run ttok 1 rfl ?_
    refine RW.nil ?_
    refine WP.ret ?_
    cases hm
    exact ⟨_, .cons (.tmp rfl) .nil, rfl, (hS27.taken 0)⟩
  · skip
    rw [if_neg (not_t hc)] at hm
    refine WP.skip ?_
    refine WP.seq ?_
    refine WP.region ?_
    refine RW.run ttok 1 rfl ?_
    refine RW.load1 ttok rfl rfl rfl rfl rfl ((hS27.bring 0 rfl).box) 1 rfl rfl rfl rfl ?_
    refine RW.run ttok 1 rfl ?_
    obtain ⟨r28, hx29, hm⟩ := bind_some hm
    refine RW.call rfl rfl rfl enters62 (laws_szShardS_ok (ty36.ext hS27.ext h6) hx29) (fun v30 w31 hR32 => ?_)
    obtain ⟨rfl, hR33⟩ := hR32
    have hS34 := hS27.join hR33
    refine RW.run ttok 1 rfl ?_
    refine RW.nil ?_
    refine WP.seq ?_
    refine WP.seq ?_
    refine WP.region ?_
    refine RW.run ttok 2 rfl ?_
    refine RW.nil ?_
    refine WP.cond (decide (r28 < 0)) rfl (fun hc => ?_) (fun hc => ?_)
    · skip
      rw [if_pos hc] at hm
      refine WP.seq ?_
      refine WP.region ?_
      refine RW.run ttok 1 rfl ?_
      refine RW.nil ?_
      refine WP.ret ?_
      cases hm
      exact ⟨_, .cons (.tmp rfl) .nil, rfl, (hS34.taken 0)⟩
    · skip
      rw [if_neg (not_t hc)] at hm
      refine WP.skip ?_
      refine WP.seq ?_
      refine WP.region ?_
      refine RW.run ttok 1 rfl ?_
      refine RW.load1 ttok rfl rfl rfl rfl rfl ((hS34.bring 0 rfl).box) 2 rfl rfl rfl rfl ?_
      refine RW.run ttok 1 rfl ?_
      obtain ⟨r35, hx36, hm⟩ := bind_some hm
      refine RW.call rfl rfl rfl enters82 (laws_szInt64SS_ok (ty71.ext hS34.ext h9) hx36) (fun v37 w38 hR39 => ?_)
      obtain ⟨rfl, hR40⟩ := hR39
      have hS41 := hS34.join hR40
      refine RW.run ttok 1 rfl ?_
      refine RW.nil ?_
      refine WP.seq ?_
      refine WP.seq ?_
      refine WP.region ?_
      refine RW.run ttok 2 rfl ?_
      refine RW.nil ?_
      refine WP.cond (decide (r35 < 0)) rfl (fun hc => ?_) (fun hc => ?_)
      · skip
        rw [if_pos hc] at hm
        refine WP.seq ?_
        refine WP.region ?_
        refine RW.run ttok 1 rfl ?_
        refine RW.nil ?_
        refine WP.ret ?_
        cases hm
        exact ⟨_, .cons (.tmp rfl) .nil, rfl, (hS41.taken 0)⟩
      · skip
        rw [if_neg (not_t hc)] at hm
        refine WP.skip ?_
        refine WP.seq ?_
        refine WP.region ?_
        refine RW.run ttok 1 rfl ?_
        refine RW.load1 ttok rfl rfl rfl rfl rfl ((hS41.bring 0 rfl).box) 3 rfl rfl rfl rfl ?_
        refine RW.run ttok 1 rfl ?_
        obtain ⟨r42, hx43, hm⟩ := bind_some hm
        refine RW.call rfl rfl rfl enters96 (laws_szBoolS_ok (ty82.ext hS41.ext h12) hx43) (fun v44 w45 hR46 => ?_)
        obtain ⟨rfl, hR47⟩ := hR46
        have hS48 := hS41.join hR47
        refine RW.run ttok 1 rfl ?_
        refine RW.nil ?_
        refine WP.seq ?_
        refine WP.seq ?_
        refine WP.region ?_
        refine RW.run ttok 2 rfl ?_
        refine RW.nil ?_
        refine WP.cond (decide (r42 < 0)) rfl (fun hc => ?_) (fun hc => ?_)
        · skip
          rw [if_pos hc] at hm
          refine WP.seq ?_
          refine WP.region ?_
          refine RW.run ttok 1 rfl ?_
          refine RW.nil ?_
          refine WP.ret ?_
          cases hm
          exact ⟨_, .cons (.tmp rfl) .nil, rfl, (hS48.taken 0)⟩
        · skip
          rw [if_neg (not_t hc)] at hm
          refine WP.skip ?_
          refine WP.seq ?_
          refine WP.region ?_
          refine RW.run ttok 1 rfl ?_
          refine RW.load1 ttok rfl rfl rfl rfl rfl ((hS48.bring 0 rfl).box) 4 rfl rfl rfl rfl ?_
          refine RW.run ttok 1 rfl ?_
          obtain ⟨r49, hx50, hm⟩ := bind_some hm
          refine RW.call rfl rfl rfl enters81 (laws_szParcelSS_ok (ty70.ext hS48.ext h15) hx50) (fun v51 w52 hR53 => ?_)
          obtain ⟨rfl, hR54⟩ := hR53
          have hS55 := hS48.join hR54
          refine RW.run ttok 1 rfl ?_
          refine RW.nil ?_
          refine WP.seq ?_
          refine WP.seq ?_
          refine WP.region ?_
          refine RW.run ttok 2 rfl ?_
          refine RW.nil ?_
          refine WP.cond (decide (r49 < 0)) rfl (fun hc => ?_) (fun hc => ?_)
          · skip
            rw [if_pos hc] at hm
            refine WP.seq ?_
            refine WP.region ?_
            refine RW.run ttok 1 rfl ?_
            refine RW.nil ?_
            refine WP.ret ?_
            cases hm
            exact ⟨_, .cons (.tmp rfl) .nil, rfl, (hS55.taken 0)⟩
          · skip
            rw [if_neg (not_t hc)] at hm
            refine WP.skip ?_
            refine WP.seq ?_
            refine WP.region ?_
            refine RW.run ttok 2 rfl ?_
            refine RW.nil ?_
            refine WP.ret ?_
            cases hm
            exact ⟨_, .cons (.tmp rfl) .nil, rfl, (hS55.taken 0)⟩

theorem enters36 : Enters Try.prog 36 := ⟨_, _, Try.func36, rfl, by kernel_rfl⟩
def m_laws_szWatched (fuel : Nat) (x0 : D.Watched) (x1 : Int) : Option (Int) := ((m_laws_szCluster fuel x0.Cluster x1).bind fun r36 => (if (decide (r36 < 0)) = true then some (-1) else ((m_laws_szShot fuel x0.Shot r36).bind fun r43 => (if (decide (r43 < 0)) = true then some (-1) else some r43))))

set_option maxRecDepth 100000 in
theorem laws_szWatched_ok {w : World} {c0_ : List Value} {x0 : D.Watched} {x1 : Int} (h0_ : ty94.ro w c0_ x0) {fuel : Nat} {r : Int} (hm : m_laws_szWatched fuel x0 x1 = some r) :
    Calls Try.prog 36 ⟨[.agg ⟨c0_⟩, .int .i64 x1]⟩ w (Ret fun v w8 => v = .int .i64 r ∧ St w w8 []) := by
  obtain ⟨A1, k2, A4, k5, A7, k8, A10, k11, A13, k14, A16, k17, A19, k20, A22, k23, A25, k26, A28, k29, e31, h3, h6, h9, h12, h15, h18, h21, h24, h27, h30⟩ := ty94_open h0_; subst e31
  refine Calls.into Try.func36 rfl 18 rfl rfl _ rfl ?_
  unfold m_laws_szWatched at hm
  have hS := St.start w
  refine WP.seq ?_
  refine WP.region ?_
  refine RW.new ttok hS rfl rfl rfl rfl (fun g32 w33 e34 hS35 => ?_)
  refine RW.run ttok 1 rfl ?_
  refine RW.nil ?_
  refine WP.seq ?_
  refine WP.region ?_
  refine RW.run ttok 1 rfl ?_
  refine RW.loadN ttok rfl rfl rfl rfl rfl (At.sub ((hS35.bring 0 rfl).box) 0 8) rfl rfl rfl ?_
  refine RW.run ttok 1 rfl ?_
  obtain ⟨r36, hx37, hm⟩ := bind_some hm
  refine RW.call rfl rfl rfl enters26 (laws_szCluster_ok (ty74_shut x0.Cluster (ty36.ext hS35.ext h3) (ty70.ext hS35.ext h6) (ty71.ext hS35.ext h9) (ty72.ext hS35.ext h12) (ty72.ext hS35.ext h15)) hx37) (fun v38 w39 hR40 => ?_)
  obtain ⟨rfl, hR41⟩ := hR40
  have hS42 := hS35.join hR41
  refine RW.run ttok 1 rfl ?_
  refine RW.nil ?_
  refine WP.seq ?_
  refine WP.seq ?_
  refine WP.region ?_
  refine RW.run ttok 2 rfl ?_
  refine RW.nil ?_
  refine WP.cond (decide (r36 < 0)) rfl (fun hc => ?_) (fun hc => ?_)
  · skip
    rw [if_pos hc] at hm
    refine WP.seq ?_
    refine WP.region ?_
    refine RW.run ttok 1 rfl ?_
    refine RW.nil ?_
    refine WP.ret ?_
    cases hm
    exact ⟨_, .cons (.tmp rfl) .nil, rfl, (hS42.taken 0)⟩
  · skip
    rw [if_neg (not_t hc)] at hm
    refine WP.skip ?_
    refine WP.seq ?_
    refine WP.region ?_
    refine RW.run ttok 1 rfl ?_
    refine RW.loadN ttok rfl rfl rfl rfl rfl (At.sub ((hS42.bring 0 rfl).box) 8 5) rfl rfl rfl ?_
    refine RW.run ttok 1 rfl ?_
    obtain ⟨r43, hx44, hm⟩ := bind_some hm
    refine RW.call rfl rfl rfl enters101 (laws_szShot_ok (ty92_shut x0.Shot (ty82.ext hS42.ext h18) (ty36.ext hS42.ext h21) (ty71.ext hS42.ext h24) (ty82.ext hS42.ext h27) (ty70.ext hS42.ext h30)) hx44) (fun v45 w46 hR47 => ?_)
    obtain ⟨rfl, hR48⟩ := hR47
    have hS49 := hS42.join hR48
    refine RW.run ttok 1 rfl ?_
    refine RW.nil ?_
    refine WP.seq ?_
    refine WP.seq ?_
    refine WP.region ?_
    refine RW.run ttok 2 rfl ?_
    refine RW.nil ?_
    refine WP.cond (decide (r43 < 0)) rfl (fun hc => ?_) (fun hc => ?_)
    · skip
      rw [if_pos hc] at hm
      refine WP.seq ?_
      refine WP.region ?_
      refine RW.run ttok 1 rfl ?_
      refine RW.nil ?_
      refine WP.ret ?_
      cases hm
      exact ⟨_, .cons (.tmp rfl) .nil, rfl, (hS49.taken 0)⟩
    · skip
      rw [if_neg (not_t hc)] at hm
      refine WP.skip ?_
      refine WP.seq ?_
      refine WP.region ?_
      refine RW.run ttok 2 rfl ?_
      refine RW.nil ?_
      refine WP.ret ?_
      cases hm
      exact ⟨_, .cons (.tmp rfl) .nil, rfl, (hS49.taken 0)⟩

theorem enters103 : Enters Try.prog 103 := ⟨_, _, Try.func103, rfl, by kernel_rfl⟩
def m_laws_toShot (fuel : Nat) (x0 : D.Shot) : Option (D.Shot) := ((m_laws_toBoolS fuel x0.Taken).bind fun r29 => ((m_laws_toShardS fuel x0.Shards).bind fun r41 => ((m_laws_toInt64SS fuel x0.Counts).bind fun r53 => ((m_laws_toBoolS fuel x0.Recording).bind fun r65 => ((m_laws_toParcelSS fuel x0.Saved).bind fun r77 => some (⟨r29, r41, r53, r65, r77⟩ : D.Shot))))))

set_option maxRecDepth 100000 in
theorem laws_toShot_ok {w : World} {c0_ : List Value} {x0 : D.Shot} (h0_ : ty92.ro w c0_ x0) {fuel : Nat} {r : D.Shot} (hm : m_laws_toShot fuel x0 = some r) :
    Calls Try.prog 103 ⟨[.agg ⟨c0_⟩]⟩ w (Ret fun v w8 => ∃ A0 k0 A1 k1 A2 k2 A3 k3 A4 k4, v = .agg ⟨[.slice A0 r.Taken.length k0, .slice A1 r.Shards.length k1, .slice A2 r.Counts.length k2, .slice A3 r.Recording.length k3, .slice A4 r.Saved.length k4]⟩ ∧ St w w8 [Own ty82 [.slice A0 r.Taken.length k0] r.Taken, Own ty43 [.slice A1 r.Shards.length k1] r.Shards, Own ty71 [.slice A2 r.Counts.length k2] r.Counts, Own ty82 [.slice A3 r.Recording.length k3] r.Recording, Own ty77 [.slice A4 r.Saved.length k4] r.Saved]) := by
  obtain ⟨A1, k2, A4, k5, A7, k8, A10, k11, A13, k14, e16, h3, h6, h9, h12, h15⟩ := ty92_open h0_; subst e16
  refine Calls.into Try.func103 rfl 25 rfl rfl _ rfl ?_
  unfold m_laws_toShot at hm
  have hS := St.start w
  refine WP.seq ?_
  refine WP.region ?_
  refine RW.new ttok hS rfl rfl rfl rfl (fun g17 w18 e19 hS20 => ?_)
  refine RW.new ttok hS20 rfl rfl rfl rfl (fun g21 w22 e23 hS24 => ?_)
  refine RW.nil ?_
  refine WP.seq ?_
  refine WP.region ?_
  refine RW.new ttok hS24 rfl rfl rfl rfl (fun g25 w26 e27 hS28 => ?_)
  refine RW.nil ?_
  refine WP.seq ?_
  refine WP.region ?_
  refine RW.run ttok 1 rfl ?_
  refine RW.load1 ttok rfl rfl rfl rfl rfl ((hS28.bring 2 rfl).box) 0 rfl rfl rfl rfl ?_
  obtain ⟨r29, hx30, hm⟩ := bind_some hm
  refine RW.call rfl rfl rfl enters98 (laws_toBoolS_ok (ty82.ext hS28.ext h3) hx30) (fun v31 w32 hR33 => ?_)
  obtain ⟨A34, k35, rfl, hR36⟩ := hR33
  have hS37 := hS28.join hR36
  refine RW.run ttok 1 rfl ?_
  have hS38 := hS37.bring 1 rfl
  refine RW.store ttok (A := []) hS38 rfl rfl rfl rfl rfl 0 rfl rfl rfl rfl rfl (fun w39 hS40 => ?_)
  refine RW.nil ?_
  refine WP.seq ?_
  refine WP.region ?_
  refine RW.run ttok 1 rfl ?_
  refine RW.load1 ttok rfl rfl rfl rfl rfl ((hS40.bring 3 rfl).box) 1 rfl rfl rfl rfl ?_
  obtain ⟨r41, hx42, hm⟩ := bind_some hm
  refine RW.call rfl rfl rfl enters63 (laws_toShardS_ok (ty36.ext hS40.ext h6) hx42) (fun v43 w44 hR45 => ?_)
  obtain ⟨A46, k47, rfl, hR48⟩ := hR45
  have hS49 := hS40.join hR48
  refine RW.run ttok 1 rfl ?_
  have hS50 := hS49.bring 1 rfl
  refine RW.store ttok (A := []) hS50 rfl rfl rfl rfl rfl 1 rfl rfl rfl rfl rfl (fun w51 hS52 => ?_)
  refine RW.nil ?_
  refine WP.seq ?_
  refine WP.region ?_
  refine RW.run ttok 1 rfl ?_
  refine RW.load1 ttok rfl rfl rfl rfl rfl ((hS52.bring 4 rfl).box) 2 rfl rfl rfl rfl ?_
  obtain ⟨r53, hx54, hm⟩ := bind_some hm
  refine RW.call rfl rfl rfl enters88 (laws_toInt64SS_ok (ty71.ext hS52.ext h9) hx54) (fun v55 w56 hR57 => ?_)
  obtain ⟨A58, k59, rfl, hR60⟩ := hR57
  have hS61 := hS52.join hR60
  refine RW.run ttok 1 rfl ?_
  have hS62 := hS61.bring 1 rfl
  refine RW.store ttok (A := []) hS62 rfl rfl rfl rfl rfl 2 rfl rfl rfl rfl rfl (fun w63 hS64 => ?_)
  refine RW.nil ?_
  refine WP.seq ?_
  refine WP.region ?_
  refine RW.run ttok 1 rfl ?_
  refine RW.load1 ttok rfl rfl rfl rfl rfl ((hS64.bring 5 rfl).box) 3 rfl rfl rfl rfl ?_
  obtain ⟨r65, hx66, hm⟩ := bind_some hm
  refine RW.call rfl rfl rfl enters98 (laws_toBoolS_ok (ty82.ext hS64.ext h12) hx66) (fun v67 w68 hR69 => ?_)
  obtain ⟨A70, k71, rfl, hR72⟩ := hR69
  have hS73 := hS64.join hR72
  refine RW.run ttok 1 rfl ?_
  have hS74 := hS73.bring 1 rfl
  refine RW.store ttok (A := []) hS74 rfl rfl rfl rfl rfl 3 rfl rfl rfl rfl rfl (fun w75 hS76 => ?_)
  refine RW.nil ?_
  refine WP.seq ?_
  refine WP.region ?_
  refine RW.run ttok 1 rfl ?_
  refine RW.load1 ttok rfl rfl rfl rfl rfl ((hS76.bring 6 rfl).box) 4 rfl rfl rfl rfl ?_
  obtain ⟨r77, hx78, hm⟩ := bind_some hm
  refine RW.call rfl rfl rfl enters87 (laws_toParcelSS_ok (ty70.ext hS76.ext h15) hx78) (fun v79 w80 hR81 => ?_)
  obtain ⟨A82, k83, rfl, hR84⟩ := hR81
  have hS85 := hS76.join hR84
  refine RW.run ttok 1 rfl ?_
  have hS86 := hS85.bring 1 rfl
  refine RW.store ttok (A := []) hS86 rfl rfl rfl rfl rfl 4 rfl rfl rfl rfl rfl (fun w87 hS88 => ?_)
  refine RW.nil ?_
  refine WP.seq ?_
  refine WP.region ?_
  refine RW.loadN ttok rfl rfl rfl rfl rfl ((hS88.bring 0 rfl).box) rfl rfl rfl ?_
  have hS89 := hS88.bring 6 rfl
  refine RW.store ttok (A := []) hS89 rfl rfl rfl rfl rfl 0 rfl rfl rfl rfl rfl (fun w90 hS91 => ?_)
  refine RW.nil ?_
  refine WP.ret ?_
  cases hm
  exact ⟨_, .cons (ResIs.agg ttok rfl rfl rfl ((hS91.bring 0 rfl).box) rfl) .nil, A34, k35, A46, k47, A58, k59, A70, k71, A82, k83, rfl, ((((((hS91.bring 2 rfl).bring 3 rfl).bring 4 rfl).bring 5 rfl).bring 6 rfl).taken 5)⟩

theorem enters38 : Enters Try.prog 38 := ⟨_, _, Try.func38, rfl, by kernel_rfl⟩
def m_laws_toWatched (fuel : Nat) (x0 : D.Watched) : Option (D.Watched) := ((m_laws_toCluster fuel x0.Cluster).bind fun r44 => ((m_laws_toShot fuel x0.Shot).bind fun r64 => some (⟨(⟨(⟨r44.Grid.Shards, (⟨r44.Grid.Root.Machine, r44.Grid.Root.Kind, r44.Grid.Root.Index⟩ : D.Address)⟩ : D.Grid), r44.Channels, r44.Counts, r44.Sent, r44.Got⟩ : D.Cluster), (⟨r64.Taken, r64.Shards, r64.Counts, r64.Recording, r64.Saved⟩ : D.Shot)⟩ : D.Watched)))

set_option maxRecDepth 100000 in
theorem laws_toWatched_ok {w : World} {c0_ : List Value} {x0 : D.Watched} (h0_ : ty94.ro w c0_ x0) {fuel : Nat} {r : D.Watched} (hm : m_laws_toWatched fuel x0 = some r) :
    Calls Try.prog 38 ⟨[.agg ⟨c0_⟩]⟩ w (Ret fun v w8 => ∃ A0 k0 A1 k1 A2 k2 A3 k3 A4 k4 A5 k5 A6 k6 A7 k7 A8 k8 A9 k9, v = .agg ⟨[.slice A0 r.Cluster.Grid.Shards.length k0, .int .i64 r.Cluster.Grid.Root.Machine, .int .i64 r.Cluster.Grid.Root.Kind, .int .i64 r.Cluster.Grid.Root.Index, .slice A1 r.Cluster.Channels.length k1, .slice A2 r.Cluster.Counts.length k2, .slice A3 r.Cluster.Sent.length k3, .slice A4 r.Cluster.Got.length k4, .slice A5 r.Shot.Taken.length k5, .slice A6 r.Shot.Shards.length k6, .slice A7 r.Shot.Counts.length k7, .slice A8 r.Shot.Recording.length k8, .slice A9 r.Shot.Saved.length k9]⟩ ∧ St w w8 [Own ty43 [.slice A0 r.Cluster.Grid.Shards.length k0] r.Cluster.Grid.Shards, Own ty77 [.slice A1 r.Cluster.Channels.length k1] r.Cluster.Channels, Own ty71 [.slice A2 r.Cluster.Counts.length k2] r.Cluster.Counts, Own ty72 [.slice A3 r.Cluster.Sent.length k3] r.Cluster.Sent, Own ty72 [.slice A4 r.Cluster.Got.length k4] r.Cluster.Got, Own ty82 [.slice A5 r.Shot.Taken.length k5] r.Shot.Taken, Own ty43 [.slice A6 r.Shot.Shards.length k6] r.Shot.Shards, Own ty71 [.slice A7 r.Shot.Counts.length k7] r.Shot.Counts, Own ty82 [.slice A8 r.Shot.Recording.length k8] r.Shot.Recording, Own ty77 [.slice A9 r.Shot.Saved.length k9] r.Shot.Saved]) := by
  obtain ⟨A1, k2, A4, k5, A7, k8, A10, k11, A13, k14, A16, k17, A19, k20, A22, k23, A25, k26, A28, k29, e31, h3, h6, h9, h12, h15, h18, h21, h24, h27, h30⟩ := ty94_open h0_; subst e31
  refine Calls.into Try.func38 rfl 13 rfl rfl _ rfl ?_
  unfold m_laws_toWatched at hm
  have hS := St.start w
  refine WP.seq ?_
  refine WP.region ?_
  refine RW.new ttok hS rfl rfl rfl rfl (fun g32 w33 e34 hS35 => ?_)
  refine RW.new ttok hS35 rfl rfl rfl rfl (fun g36 w37 e38 hS39 => ?_)
  refine RW.nil ?_
  refine WP.seq ?_
  refine WP.region ?_
  refine RW.new ttok hS39 rfl rfl rfl rfl (fun g40 w41 e42 hS43 => ?_)
  refine RW.nil ?_
  refine WP.seq ?_
  refine WP.region ?_
  refine RW.run ttok 1 rfl ?_
  refine RW.loadN ttok rfl rfl rfl rfl rfl (At.sub ((hS43.bring 2 rfl).box) 0 8) rfl rfl rfl ?_
  obtain ⟨r44, hx45, hm⟩ := bind_some hm
  refine RW.call rfl rfl rfl enters28 (laws_toCluster_ok (ty74_shut x0.Cluster (ty36.ext hS43.ext h3) (ty70.ext hS43.ext h6) (ty71.ext hS43.ext h9) (ty72.ext hS43.ext h12) (ty72.ext hS43.ext h15)) hx45) (fun v46 w47 hR48 => ?_)
  obtain ⟨A49, k50, A51, k52, A53, k54, A55, k56, A57, k58, rfl, hR59⟩ := hR48
  have hS60 := hS43.join hR59
  refine RW.run ttok 1 rfl ?_
  have hS61 := hS60.bring 5 rfl
  refine RW.store ttok (A := []) hS61 rfl rfl rfl rfl rfl 0 rfl rfl rfl rfl rfl (fun w62 hS63 => ?_)
  refine RW.nil ?_
  refine WP.seq ?_
  refine WP.region ?_
  refine RW.run ttok 1 rfl ?_
  refine RW.loadN ttok rfl rfl rfl rfl rfl (At.sub ((hS63.bring 7 rfl).box) 8 5) rfl rfl rfl ?_
  obtain ⟨r64, hx65, hm⟩ := bind_some hm
  refine RW.call rfl rfl rfl enters103 (laws_toShot_ok (ty92_shut x0.Shot (ty82.ext hS63.ext h18) (ty36.ext hS63.ext h21) (ty71.ext hS63.ext h24) (ty82.ext hS63.ext h27) (ty70.ext hS63.ext h30)) hx65) (fun v66 w67 hR68 => ?_)
  obtain ⟨A69, k70, A71, k72, A73, k74, A75, k76, A77, k78, rfl, hR79⟩ := hR68
  have hS80 := hS63.join hR79
  refine RW.run ttok 1 rfl ?_
  have hS81 := hS80.bring 5 rfl
  refine RW.store ttok (A := []) hS81 rfl rfl rfl rfl rfl 8 rfl rfl rfl rfl rfl (fun w82 hS83 => ?_)
  refine RW.nil ?_
  refine WP.seq ?_
  refine WP.region ?_
  refine RW.loadN ttok rfl rfl rfl rfl rfl ((hS83.bring 0 rfl).box) rfl rfl rfl ?_
  have hS84 := hS83.bring 11 rfl
  refine RW.store ttok (A := []) hS84 rfl rfl rfl rfl rfl 0 rfl rfl rfl rfl rfl (fun w85 hS86 => ?_)
  refine RW.nil ?_
  refine WP.ret ?_
  cases hm
  exact ⟨_, .cons (ResIs.agg ttok rfl rfl rfl ((hS86.bring 0 rfl).box) rfl) .nil, A49, k50, A51, k52, A53, k54, A55, k56, A57, k58, A69, k70, A71, k72, A73, k74, A75, k76, A77, k78, rfl, (((((((((((hS86.bring 6 rfl).bring 6 rfl).bring 6 rfl).bring 6 rfl).bring 6 rfl).bring 11 rfl).bring 11 rfl).bring 11 rfl).bring 11 rfl).bring 11 rfl).taken 10)⟩

theorem enters102 : Enters Try.prog 102 := ⟨_, _, Try.func102, rfl, by kernel_rfl⟩
def m_spec_l30SameShot_j1 (fuel : Nat) (x0 : D.Shot) (x1 : D.Shot) (t36 : Unit) : Option Bool := ((m_spec_l30SameBools fuel x0.Taken x1.Taken).bind fun r48 => (if r48 = true then ((m_spec_l29SameLists fuel x0.Counts x1.Counts).bind fun r56 => (if r56 = true then ((m_spec_l30SameBools fuel x0.Recording x1.Recording).bind fun r64 => (if r64 = true then ((m_spec_l29SameChannels fuel x0.Saved x1.Saved).bind fun r72 => some r72) else some false)) else some false)) else some false))
def m_spec_l30SameShot_b1 (fuel : Nat) (x0 : D.Shot) (x1 : D.Shot) (s35 : Int) : Option (Rd (Int) (Unit) (Bool)) := (if (decide (s35 < (x0.Shards.length : Int))) = true then ((idx x0.Shards s35).bind fun x86 => ((idx x1.Shards s35).bind fun x102 => ((m_spec_SameShard fuel x86 x102).bind fun r118 => (if (!r118) = true then some (.ret false) else some (.next (w64 (s35 + 1))))))) else some (.brk ()))
def m_spec_l30SameShot (fuel : Nat) (x0 : D.Shot) (x1 : D.Shot) : Option (Bool) := (if ((x0.Shards.length : Int) != (x1.Shards.length : Int)) = true then some false else ((iter (m_spec_l30SameShot_b1 fuel x0 x1) fuel 0).bind fun o => aft o (m_spec_l30SameShot_j1 fuel x0 x1)))

set_option maxRecDepth 100000 in
theorem spec_l30SameShot_ok {w : World} {p0_ : Addr} {c0_ : List Value} {x0 : D.Shot} {p1_ : Addr} {c1_ : List Value} {x1 : D.Shot} (h0_ : ty98.ro w c0_ x0) (g0_ : At w p0_ c0_) (h1_ : ty98.ro w c1_ x1) (g1_ : At w p1_ c1_) {fuel : Nat} {r : Bool} (hm : m_spec_l30SameShot fuel x0 x1 = some r) :
    Calls Try.prog 102 ⟨[.pointer (some p0_), .pointer (some p1_)]⟩ w (Ret fun v w8 => v = .bool r ∧ St w w8 []) := by
  obtain ⟨A1, k2, A4, k5, A7, k8, A10, k11, A13, k14, e16, h3, h6, h9, h12, h15⟩ := ty98_open h0_; subst e16
  obtain ⟨A17, k18, A20, k21, A23, k24, A26, k27, A29, k30, e32, h19, h22, h25, h28, h31⟩ := ty98_open h1_; subst e32
  refine Calls.into Try.func102 rfl 84 rfl rfl _ rfl ?_
  unfold m_spec_l30SameShot at hm
  have hS := St.start w
  refine WP.seq ?_
  refine WP.region ?_
  refine RW.run ttok 1 rfl ?_
  refine RW.nil ?_
  refine WP.seq ?_
  refine WP.seq ?_
  refine WP.drawnM 0 mixed 11 (by kernel_rfl) (by kernel_rfl) [([], 2047), ([0], 2046), ([1], 2045), ([2], 2043), ([3], 2039), ([], 2047), ([5], 2015), ([6], 1983), ([7], 1919), ([8], 1791), ([4, 9], 1519)] (by kernel_rfl) (fun hsk33 => ?_)
  have hS34 := hS.step (Ext.draw _)
  refine DM.run (fuel := 5) ttok hsk33 [0, 1, 2, 5, 6, 7] 231 (by kernel_rfl) (by kernel_rfl) rfl ?_
  refine DM.load1 ttok hsk33 3 239 (by kernel_rfl) (by kernel_rfl) (by kernel_rfl) (by kernel_rfl) rfl (by kernel_rfl) rfl rfl rfl rfl rfl (At.ext hS.ext g0_) 1 rfl rfl rfl rfl ?_
  refine DM.run (fuel := 3) ttok hsk33 [4] 255 (by kernel_rfl) (by kernel_rfl) rfl ?_
  refine DM.weak [(0, .pointer (some p0_)), (1, .pointer (some p1_)), (10, .int .i64 (x0.Shards.length : Int)), (13, .pointer (some (p1_.add 1)))] ⟨rfl, rfl, rfl, rfl, trivial⟩ ?_
  refine DM.load1 ttok hsk33 8 511 (by kernel_rfl) (by kernel_rfl) (by kernel_rfl) (by kernel_rfl) rfl (by kernel_rfl) rfl rfl rfl rfl rfl (At.ext hS.ext g1_) 1 rfl rfl rfl rfl ?_
  refine DM.run (fuel := 0) ttok hsk33 [9, 10] 2047 (by kernel_rfl) (by kernel_rfl) rfl ?_
  refine DM.done hsk33 (by kernel_rfl) ?_
  refine WP.cond ((x0.Shards.length : Int) != (x1.Shards.length : Int)) rfl (fun hc => ?_) (fun hc => ?_)
  · skip
    rw [if_pos hc] at hm
    refine WP.seq ?_
    refine WP.region ?_
    refine RW.run ttok 1 rfl ?_
    refine RW.nil ?_
    refine WP.ret ?_
    cases hm
    exact ⟨_, .cons (.tmp rfl) .nil, rfl, (hS34.taken 0)⟩
  · skip
    rw [if_neg (not_t hc)] at hm
    refine WP.skip ?_
    refine WP.seq ?_
    refine WP.seq ?_
    refine WP.region ?_
    refine RW.run ttok 1 rfl ?_
    refine RW.nil ?_
    obtain ⟨o42, hl43, hm⟩ := bind_some hm
    refine WP.cut (fun (t36 : Unit) F w9 => o42 = .inl t36 ∧ Ext ({ w with drawn := w.drawn + 1 }) w9 ∧ St w w9 [] ∧ F = [(0, .pointer (some p0_)), (1, .pointer (some p1_))]) ?_ ?_
    · skip
      rintro t36 F w41 ⟨ho45, hE40, hS44, rfl⟩
      subst ho45
      rw [aft_inl] at hm
      unfold m_spec_l30SameShot_j1 at hm
      refine WP.seq ?_
      refine WP.drawnM 0 mixed 43 (by kernel_rfl) (by kernel_rfl) [([], 8796093022207), ([0], 8796093022206), ([1], 8796093022205), ([2], 8796093022203), ([], 8796093022207), ([4], 8796093022191), ([5], 8796093022175), ([6], 8796093022143), ([3, 7], 8796093022071), ([8, 8], 8796093021951), ([9], 8796093021695), ([10, 9], 8796093020671), ([11, 9], 8796093019647), ([12, 9], 8796093017599), ([9], 8796093021695), ([14, 9], 8796093005311), ([15, 9], 8796092988927), ([16, 9], 8796092956159), ([13, 17, 9, 9], 8796092882431), ([9, 18], 8796092759551), ([19, 18], 8796092497919), ([20], 8796091973631), ([21, 20], 8796089876479), ([22, 20], 8796087779327), ([23, 20], 8796083585023), ([20], 8796091973631), ([25, 20], 8796058419199), ([26, 20], 8796024864767), ([27, 20], 8795957755903), ([24, 28, 20, 20], 8795806760959), ([20, 29], 8795555102719), ([30, 29], 8795019280383), ([31], 8793945538559), ([32, 31], 8789650571263), ([33, 31], 8785355603967), ([34, 31], 8776765669375), ([31], 8793945538559), ([36, 31], 8725226061823), ([37, 31], 8656506585087), ([38, 31], 8519067631615), ([35, 39, 31, 31], 8209829986303), ([31, 40], 7694433910783), ([41, 40, 0, 1, 2, 3, 4, 5, 6, 7, 8, 9, 10, 11, 12, 13, 14, 15, 16, 17, 18, 19, 20, 21, 22, 23, 24, 25, 26, 27, 28, 29, 30, 31, 32, 33, 34, 35, 36, 37, 38, 39, 40, 41], 6597069766655)] (by kernel_rfl) (fun hsk46 => ?_)
      have hS47 := hS44.step (Ext.draw _)
      refine DM.run (fuel := 37) ttok hsk46 [0, 1, 2, 4, 5, 6] 119 (by kernel_rfl) (by kernel_rfl) rfl ?_
      refine DM.load1 ttok hsk46 3 127 (by kernel_rfl) (by kernel_rfl) (by kernel_rfl) (by kernel_rfl) rfl (by kernel_rfl) rfl rfl rfl rfl rfl (At.ext hS44.ext g0_) 0 rfl rfl rfl rfl ?_
      refine DM.load1 ttok hsk46 7 255 (by kernel_rfl) (by kernel_rfl) (by kernel_rfl) (by kernel_rfl) rfl (by kernel_rfl) rfl rfl rfl rfl rfl (At.ext hS44.ext g1_) 0 rfl rfl rfl rfl ?_
      obtain ⟨r48, hx49, hm⟩ := bind_some hm
      refine DM.one hsk46 8 (by kernel_rfl) (LM.call hsk46 511 (by kernel_rfl) (by kernel_rfl) rfl rfl rfl rfl enters97 (spec_l30SameBools_ok (ty82.ext hS47.ext h3) (ty82.ext hS47.ext h19) hx49) (fun v50 w51 hR52 => ?_))
      obtain ⟨rfl, hR53⟩ := hR52
      refine ⟨hR53.ext, ?_⟩
      have hS54 := hS47.join hR53
      refine DM.run (fuel := 33) ttok hsk46 [9] 1023 (by kernel_rfl) (by kernel_rfl) rfl ?_
      refine DM.weak [(0, .pointer (some p0_)), (1, .pointer (some p1_)), (51, .bool r48)] ⟨rfl, rfl, rfl, trivial⟩ ?_
      by_cases hg55 : r48 = true
      · skip
        rw [if_pos hg55] at hm
        refine DM.know 51 rfl (congrArg Value.bool hg55) ?_
        refine DM.run (fuel := 27) ttok hsk46 [10, 11, 12, 14, 15, 16] 122879 (by kernel_rfl) (by kernel_rfl) rfl ?_
        refine DM.load1 ttok hsk46 13 131071 (by kernel_rfl) (by kernel_rfl) (by kernel_rfl) (by kernel_rfl) rfl (by kernel_rfl) rfl rfl rfl rfl rfl (At.ext hS44.ext g0_) 2 rfl rfl rfl rfl ?_
        refine DM.load1 ttok hsk46 17 262143 (by kernel_rfl) (by kernel_rfl) (by kernel_rfl) (by kernel_rfl) rfl (by kernel_rfl) rfl rfl rfl rfl rfl (At.ext hS44.ext g1_) 2 rfl rfl rfl rfl ?_
        obtain ⟨r56, hx57, hm⟩ := bind_some hm
        refine DM.one hsk46 18 (by kernel_rfl) (LM.call hsk46 524287 (by kernel_rfl) (by kernel_rfl) rfl rfl rfl rfl enters85 (spec_l29SameLists_ok (ty71.ext hS54.ext h9) (ty71.ext hS54.ext h25) hx57) (fun v58 w59 hR60 => ?_))
        obtain ⟨rfl, hR61⟩ := hR60
        refine ⟨hR61.ext, ?_⟩
        have hS62 := hS54.join hR61
        refine DM.run (fuel := 22) ttok hsk46 [19, 20] 2097151 (by kernel_rfl) (by kernel_rfl) rfl ?_
        refine DM.weak [(0, .pointer (some p0_)), (1, .pointer (some p1_)), (62, .bool r56)] ⟨rfl, rfl, rfl, trivial⟩ ?_
        by_cases hg63 : r56 = true
        · skip
          rw [if_pos hg63] at hm
          refine DM.know 62 rfl (congrArg Value.bool hg63) ?_
          refine DM.run (fuel := 16) ttok hsk46 [21, 22, 23, 25, 26, 27] 251658239 (by kernel_rfl) (by kernel_rfl) rfl ?_
          refine DM.load1 ttok hsk46 24 268435455 (by kernel_rfl) (by kernel_rfl) (by kernel_rfl) (by kernel_rfl) rfl (by kernel_rfl) rfl rfl rfl rfl rfl (At.ext hS44.ext g0_) 3 rfl rfl rfl rfl ?_
          refine DM.load1 ttok hsk46 28 536870911 (by kernel_rfl) (by kernel_rfl) (by kernel_rfl) (by kernel_rfl) rfl (by kernel_rfl) rfl rfl rfl rfl rfl (At.ext hS44.ext g1_) 3 rfl rfl rfl rfl ?_
          obtain ⟨r64, hx65, hm⟩ := bind_some hm
          refine DM.one hsk46 29 (by kernel_rfl) (LM.call hsk46 1073741823 (by kernel_rfl) (by kernel_rfl) rfl rfl rfl rfl enters97 (spec_l30SameBools_ok (ty82.ext hS62.ext h12) (ty82.ext hS62.ext h28) hx65) (fun v66 w67 hR68 => ?_))
          obtain ⟨rfl, hR69⟩ := hR68
          refine ⟨hR69.ext, ?_⟩
          have hS70 := hS62.join hR69
          refine DM.run (fuel := 11) ttok hsk46 [30, 31] 4294967295 (by kernel_rfl) (by kernel_rfl) rfl ?_
          refine DM.weak [(0, .pointer (some p0_)), (1, .pointer (some p1_)), (73, .bool r64)] ⟨rfl, rfl, rfl, trivial⟩ ?_
          by_cases hg71 : r64 = true
          · skip
            rw [if_pos hg71] at hm
            refine DM.know 73 rfl (congrArg Value.bool hg71) ?_
            refine DM.run (fuel := 5) ttok hsk46 [32, 33, 34, 36, 37, 38] 515396075519 (by kernel_rfl) (by kernel_rfl) rfl ?_
            refine DM.weak [(73, .bool true), (76, .pointer (some (p0_.add 4))), (80, .pointer (some (p1_.add 4)))] ⟨rfl, rfl, rfl, trivial⟩ ?_
            refine DM.load1 ttok hsk46 35 549755813887 (by kernel_rfl) (by kernel_rfl) (by kernel_rfl) (by kernel_rfl) rfl (by kernel_rfl) rfl rfl rfl rfl rfl (At.ext hS44.ext g0_) 4 rfl rfl rfl rfl ?_
            refine DM.load1 ttok hsk46 39 1099511627775 (by kernel_rfl) (by kernel_rfl) (by kernel_rfl) (by kernel_rfl) rfl (by kernel_rfl) rfl rfl rfl rfl rfl (At.ext hS44.ext g1_) 4 rfl rfl rfl rfl ?_
            obtain ⟨r72, hx73, hm⟩ := bind_some hm
            refine DM.one hsk46 40 (by kernel_rfl) (LM.call hsk46 2199023255551 (by kernel_rfl) (by kernel_rfl) rfl rfl rfl rfl enters84 (spec_l29SameChannels_ok (ty77.ext hS70.ext h15) (ty77.ext hS70.ext h31) hx73) (fun v74 w75 hR76 => ?_))
            obtain ⟨rfl, hR77⟩ := hR76
            refine ⟨hR77.ext, ?_⟩
            have hS78 := hS70.join hR77
            refine DM.run (fuel := 0) ttok hsk46 [41, 42] 8796093022207 (by kernel_rfl) (by kernel_rfl) rfl ?_
            refine DM.weak [(4, .bool r72)] ⟨rfl, trivial⟩ ?_
            refine DM.done hsk46 (by kernel_rfl) ?_
            refine WP.ret ?_
            cases hm
            exact ⟨_, .cons (.tmp rfl) .nil, rfl, (hS78.taken 0)⟩
          · skip
            rw [if_neg hg71] at hm
            refine DM.know 73 rfl (congrArg Value.bool (Bool.eq_false_iff.2 hg71)) ?_
            refine DM.run (fuel := 0) ttok hsk46 [32, 33, 34, 35, 36, 37, 38, 39, 40, 41, 42] 8796093022207 (by kernel_rfl) (by kernel_rfl) rfl ?_
            refine DM.weak [(4, .bool false)] ⟨rfl, trivial⟩ ?_
            refine DM.done hsk46 (by kernel_rfl) ?_
            refine WP.ret ?_
            cases hm
            exact ⟨_, .cons (.tmp rfl) .nil, rfl, (hS70.taken 0)⟩
        · skip
          rw [if_neg hg63] at hm
          refine DM.know 62 rfl (congrArg Value.bool (Bool.eq_false_iff.2 hg63)) ?_
          refine DM.run (fuel := 0) ttok hsk46 [21, 22, 23, 24, 25, 26, 27, 28, 29, 30, 31, 32, 33, 34, 35, 36, 37, 38, 39, 40, 41, 42] 8796093022207 (by kernel_rfl) (by kernel_rfl) rfl ?_
          refine DM.weak [(4, .bool false)] ⟨rfl, trivial⟩ ?_
          refine DM.done hsk46 (by kernel_rfl) ?_
          refine WP.ret ?_
          cases hm
          exact ⟨_, .cons (.tmp rfl) .nil, rfl, (hS62.taken 0)⟩
      · skip
        rw [if_neg hg55] at hm
        refine DM.know 51 rfl (congrArg Value.bool (Bool.eq_false_iff.2 hg55)) ?_
        refine DM.run (fuel := 0) ttok hsk46 [10, 11, 12, 13, 14, 15, 16, 17, 18, 19, 20, 21, 22, 23, 24, 25, 26, 27, 28, 29, 30, 31, 32, 33, 34, 35, 36, 37, 38, 39, 40, 41, 42] 8796093022207 (by kernel_rfl) (by kernel_rfl) rfl ?_
        refine DM.weak [(4, .bool false)] ⟨rfl, trivial⟩ ?_
        refine DM.done hsk46 (by kernel_rfl) ?_
        refine WP.ret ?_
        cases hm
        exact ⟨_, .cons (.tmp rfl) .nil, rfl, (hS54.taken 0)⟩
    · skip
      refine WP.block ?_
      refine WP.weak [(0, .pointer (some p0_)), (1, .pointer (some p1_)), (5, .int .i64 0)] ⟨rfl, rfl, rfl, trivial⟩ ?_
      refine WP.iter (fun (s35 : Int) F w9 => Ext ({ w with drawn := w.drawn + 1 }) w9 ∧ St w w9 [] ∧ F = [(0, .pointer (some p0_)), (1, .pointer (some p1_)), (5, .int .i64 s35)]) _ hl43 ⟨(Ext.refl _), (hS34.taken 0), rfl⟩ ?_
      rintro s35 F w83 _ o81 ⟨hE39, hS82, rfl⟩ hb79 ho80
      unfold m_spec_l30SameShot_b1 at hb79
      refine WP.seq ?_
      refine WP.seq ?_
      refine WP.region ?_
      refine RW.run ttok 4 rfl ?_
      refine RW.load1 ttok rfl rfl rfl rfl rfl (At.ext hS82.ext g0_) 1 rfl rfl rfl rfl ?_
      refine RW.run ttok 2 rfl ?_
      refine RW.nil ?_
      refine WP.cond (decide (s35 < (x0.Shards.length : Int))) rfl (fun hc => ?_) (fun hc => ?_)
      · skip
        rw [if_pos hc] at hb79
        refine WP.skip ?_
        refine WP.seq ?_
        refine WP.block ?_
        refine WP.seq ?_
        refine WP.drawnM 0 mixed 16 (by kernel_rfl) (by kernel_rfl) [([], 65535), ([0], 65534), ([1], 65533), ([2], 65531), ([], 65535), ([3, 4], 65511), ([5], 65503), ([], 65535), ([7], 65407), ([8], 65279), ([9], 65023), ([], 65535), ([10, 11], 62463), ([12], 61439), ([6, 13], 57279), ([14], 49151)] (by kernel_rfl) (fun hsk84 => ?_)
        have hS85 := hS82.step (Ext.draw _)
        refine DM.run (fuel := 8) ttok hsk84 [0, 1, 2, 4, 7, 8, 9, 11] 2967 (by kernel_rfl) (by kernel_rfl) rfl ?_
        refine DM.weak [(0, .pointer (some p0_)), (1, .pointer (some p1_)), (5, .int .i64 s35), (28, .pointer (some (p0_.add 1))), (30, .int .i64 s35), (35, .pointer (some (p1_.add 1))), (37, .int .i64 s35)] ⟨rfl, rfl, rfl, rfl, rfl, rfl, rfl, trivial⟩ ?_
        refine DM.load1 ttok hsk84 3 2975 (by kernel_rfl) (by kernel_rfl) (by kernel_rfl) (by kernel_rfl) rfl (by kernel_rfl) rfl rfl rfl rfl rfl (At.ext hS82.ext g0_) 1 rfl rfl rfl rfl ?_
        obtain ⟨x86, hx87, hb79⟩ := bind_some hb79
        refine DM.idx ttok hS82.ext hsk84 5 3007 (by kernel_rfl) (by kernel_rfl) (by kernel_rfl) (by kernel_rfl) rfl (by kernel_rfl) rfl rfl rfl rfl rfl rfl (by decide) rfl rfl h6 (idx_some hx87).1 (idx_some hx87).2 rfl rfl (fun p88 es89 ha90 hr91 => ?_)
        obtain ⟨A92, k93, A95, k96, A98, k99, e101, h94, h97, h100⟩ := ty33_open hr91; subst e101
        refine DM.loadN ttok hsk84 6 3071 (by kernel_rfl) (by kernel_rfl) (by kernel_rfl) (by kernel_rfl) rfl (by kernel_rfl) rfl rfl rfl rfl rfl (At.ext hS82.ext ha90) rfl rfl rfl ?_
        refine DM.load1 ttok hsk84 10 4095 (by kernel_rfl) (by kernel_rfl) (by kernel_rfl) (by kernel_rfl) rfl (by kernel_rfl) rfl rfl rfl rfl rfl (At.ext hS82.ext g1_) 1 rfl rfl rfl rfl ?_
        obtain ⟨x102, hx103, hb79⟩ := bind_some hb79
        refine DM.idx ttok hS82.ext hsk84 12 8191 (by kernel_rfl) (by kernel_rfl) (by kernel_rfl) (by kernel_rfl) rfl (by kernel_rfl) rfl rfl rfl rfl rfl rfl (by decide) rfl rfl h22 (idx_some hx103).1 (idx_some hx103).2 rfl rfl (fun p104 es105 ha106 hr107 => ?_)
        obtain ⟨A108, k109, A111, k112, A114, k115, e117, h110, h113, h116⟩ := ty33_open hr107; subst e117
        refine DM.loadN ttok hsk84 13 16383 (by kernel_rfl) (by kernel_rfl) (by kernel_rfl) (by kernel_rfl) rfl (by kernel_rfl) rfl rfl rfl rfl rfl (At.ext hS82.ext ha106) rfl rfl rfl ?_
        obtain ⟨r118, hx119, hb79⟩ := bind_some hb79
        refine DM.one hsk84 14 (by kernel_rfl) (LM.call hsk84 32767 (by kernel_rfl) (by kernel_rfl) rfl rfl rfl rfl enters12 (spec_SameShard_ok (ty33.ext hS85.ext hr91) (ty33.ext hS85.ext hr107) hx119) (fun v120 w121 hR122 => ?_))
        obtain ⟨rfl, hR123⟩ := hR122
        refine ⟨hR123.ext, ?_⟩
        have hS124 := hS85.join hR123
        refine DM.run (fuel := 0) ttok hsk84 [15] 65535 (by kernel_rfl) (by kernel_rfl) rfl ?_
        refine DM.weak [(0, .pointer (some p0_)), (1, .pointer (some p1_)), (5, .int .i64 s35), (41, .bool (!r118))] ⟨rfl, rfl, rfl, rfl, trivial⟩ ?_
        refine DM.done hsk84 (by kernel_rfl) ?_
        refine WP.cond (!r118) rfl (fun hc => ?_) (fun hc => ?_)
        · skip
          rw [if_pos hc] at hb79
          refine WP.seq ?_
          refine WP.region ?_
          refine RW.run ttok 1 rfl ?_
          refine RW.nil ?_
          refine WP.ret ?_
          cases hb79
          cases ho80
          have hm : some _ = some _ := hm
          cases hm
          exact ⟨_, .cons (.tmp rfl) .nil, rfl, (hS124.taken 0)⟩
        · skip
          rw [if_neg (not_t hc)] at hb79
          refine WP.skip ?_
          refine WP.region ?_
          refine RW.run ttok 3 rfl ?_
          refine RW.nil ?_
          cases hb79
          exact ⟨_, [(0, .pointer (some p0_)), (1, .pointer (some p1_)), (5, .int .i64 (w64 (s35 + 1)))], ⟨rfl, rfl, rfl, trivial⟩, rfl, ((hE39.trans (Ext.draw _)).trans hR123.ext), (hS124.taken 0), rfl⟩
      · skip
        rw [if_neg (not_t hc)] at hb79
        refine WP.exit ?_
        cases hb79
        exact ⟨_, [(0, .pointer (some p0_)), (1, .pointer (some p1_))], ⟨rfl, rfl, trivial⟩, ho80, hE39, (hS82.taken 0), rfl⟩

theorem enters37 : Enters Try.prog 37 := ⟨_, _, Try.func37, rfl, by kernel_rfl⟩
def m_spec_SameWatched (fuel : Nat) (x0 : D.Watched) (x1 : D.Watched) : Option (Bool) := ((m_spec_SameCluster fuel x0.Cluster x1.Cluster).bind fun r71 => (if r71 = true then ((m_spec_l30SameShot fuel (⟨x0.Shot.Taken, x0.Shot.Shards, x0.Shot.Counts, x0.Shot.Recording, x0.Shot.Saved⟩ : D.Shot) (⟨x1.Shot.Taken, x1.Shot.Shards, x1.Shot.Counts, x1.Shot.Recording, x1.Shot.Saved⟩ : D.Shot)).bind fun r79 => some r79) else some false))

set_option maxRecDepth 100000 in
theorem spec_SameWatched_ok {w : World} {c0_ : List Value} {x0 : D.Watched} {c1_ : List Value} {x1 : D.Watched} (h0_ : ty100.ro w c0_ x0) (h1_ : ty100.ro w c1_ x1) {fuel : Nat} {r : Bool} (hm : m_spec_SameWatched fuel x0 x1 = some r) :
    Calls Try.prog 37 ⟨[.agg ⟨c0_⟩, .agg ⟨c1_⟩]⟩ w (Ret fun v w8 => v = .bool r ∧ St w w8 []) := by
  obtain ⟨A1, k2, A4, k5, A7, k8, A10, k11, A13, k14, A16, k17, A19, k20, A22, k23, A25, k26, A28, k29, e31, h3, h6, h9, h12, h15, h18, h21, h24, h27, h30⟩ := ty100_open h0_; subst e31
  obtain ⟨A32, k33, A35, k36, A38, k39, A41, k42, A44, k45, A47, k48, A50, k51, A53, k54, A56, k57, A59, k60, e62, h34, h37, h40, h43, h46, h49, h52, h55, h58, h61⟩ := ty100_open h1_; subst e62
  refine Calls.into Try.func37 rfl 15 rfl rfl _ rfl ?_
  unfold m_spec_SameWatched at hm
  have hS := St.start w
  refine WP.seq ?_
  refine WP.region ?_
  refine RW.new ttok hS rfl rfl rfl rfl (fun g63 w64 e65 hS66 => ?_)
  refine RW.new ttok hS66 rfl rfl rfl rfl (fun g67 w68 e69 hS70 => ?_)
  refine RW.run ttok 1 rfl ?_
  refine RW.nil ?_
  refine WP.seq ?_
  refine WP.region ?_
  refine RW.run ttok 1 rfl ?_
  refine RW.loadN ttok rfl rfl rfl rfl rfl (At.sub ((hS70.bring 1 rfl).box) 0 8) rfl rfl rfl ?_
  refine RW.run ttok 1 rfl ?_
  refine RW.loadN ttok rfl rfl rfl rfl rfl (At.sub ((hS70.bring 0 rfl).box) 0 8) rfl rfl rfl ?_
  obtain ⟨r71, hx72, hm⟩ := bind_some hm
  refine RW.call rfl rfl rfl enters27 (spec_SameCluster_ok (ty79_shut x0.Cluster (ty43.ext hS70.ext h3) (ty77.ext hS70.ext h6) (ty71.ext hS70.ext h9) (ty72.ext hS70.ext h12) (ty72.ext hS70.ext h15)) (ty79_shut x1.Cluster (ty43.ext hS70.ext h34) (ty77.ext hS70.ext h37) (ty71.ext hS70.ext h40) (ty72.ext hS70.ext h43) (ty72.ext hS70.ext h46)) hx72) (fun v73 w74 hR75 => ?_)
  obtain ⟨rfl, hR76⟩ := hR75
  have hS77 := hS70.join hR76
  refine RW.run ttok 1 rfl ?_
  by_cases hg78 : r71 = true
  · skip
    rw [if_pos hg78] at hm
    refine RW.know 10 rfl (congrArg Value.bool hg78) ?_
    refine RW.run ttok 2 rfl ?_
    obtain ⟨r79, hx80, hm⟩ := bind_some hm
    refine RW.call rfl rfl rfl enters102 (spec_l30SameShot_ok (ty98_shut (⟨x0.Shot.Taken, x0.Shot.Shards, x0.Shot.Counts, x0.Shot.Recording, x0.Shot.Saved⟩ : D.Shot) (ty82.ext hS77.ext h18) (ty43.ext hS77.ext h21) (ty71.ext hS77.ext h24) (ty82.ext hS77.ext h27) (ty77.ext hS77.ext h30)) (At.sub ((hS77.bring 1 rfl).box) 8 5) (ty98_shut (⟨x1.Shot.Taken, x1.Shot.Shards, x1.Shot.Counts, x1.Shot.Recording, x1.Shot.Saved⟩ : D.Shot) (ty82.ext hS77.ext h49) (ty43.ext hS77.ext h52) (ty71.ext hS77.ext h55) (ty82.ext hS77.ext h58) (ty77.ext hS77.ext h61)) (At.sub ((hS77.bring 0 rfl).box) 8 5) hx80) (fun v81 w82 hR83 => ?_)
    obtain ⟨rfl, hR84⟩ := hR83
    have hS85 := hS77.join hR84
    refine RW.run ttok 2 rfl ?_
    refine RW.nil ?_
    refine WP.ret ?_
    cases hm
    exact ⟨_, .cons (.tmp rfl) .nil, rfl, (hS85.taken 0)⟩
  · skip
    rw [if_neg hg78] at hm
    refine RW.know 10 rfl (congrArg Value.bool (Bool.eq_false_iff.2 hg78)) ?_
    refine RW.run ttok 5 rfl ?_
    refine RW.nil ?_
    refine WP.ret ?_
    cases hm
    exact ⟨_, .cons (.tmp rfl) .nil, rfl, (hS77.taken 0)⟩

theorem enters104 : Enters Try.prog 104 := ⟨_, _, Try.func104, rfl, by kernel_rfl⟩
def m_impl_sameShot (fuel : Nat) (x0 : D.Shot) (x1 : D.Shot) : Option (Bool) := ((m_slices_Equal_bool_bool fuel x0.Taken x1.Taken).bind fun r41 => (if r41 = true then ((m_slices_EqualFunc_impl_Shard_impl_Shard_impl_Shard_impl_Shard fuel x0.Shards x1.Shards (fun y0 y1 => m_impl_SameShard fuel y0 y1)).bind fun r49 => (if r49 = true then ((m_slices_EqualFunc_int64_int64_int64_int64 fuel x0.Counts x1.Counts (fun y0 y1 => m_slices_Equal_int64_int64 fuel y0 y1)).bind fun r57 => (if r57 = true then ((m_slices_Equal_bool_bool fuel x0.Recording x1.Recording).bind fun r65 => (if r65 = true then ((m_slices_EqualFunc_impl_Parcel_impl_Parcel_impl_Parcel_impl_Parcel fuel x0.Saved x1.Saved (fun y0 y1 => m_impl_sameParcels fuel y0 y1)).bind fun r73 => some r73) else some false)) else some false)) else some false)) else some false))

set_option maxRecDepth 100000 in
theorem impl_sameShot_ok {w : World} {c0_ : List Value} {x0 : D.Shot} {c1_ : List Value} {x1 : D.Shot} (h0_ : ty98.ro w c0_ x0) (h1_ : ty98.ro w c1_ x1) {fuel : Nat} {r : Bool} (hm : m_impl_sameShot fuel x0 x1 = some r) :
    Calls Try.prog 104 ⟨[.agg ⟨c0_⟩, .agg ⟨c1_⟩]⟩ w (Ret fun v w8 => v = .bool r ∧ St w w8 []) := by
  obtain ⟨A1, k2, A4, k5, A7, k8, A10, k11, A13, k14, e16, h3, h6, h9, h12, h15⟩ := ty98_open h0_; subst e16
  obtain ⟨A17, k18, A20, k21, A23, k24, A26, k27, A29, k30, e32, h19, h22, h25, h28, h31⟩ := ty98_open h1_; subst e32
  refine Calls.into Try.func104 rfl 38 rfl rfl _ rfl ?_
  unfold m_impl_sameShot at hm
  have hS := St.start w
  refine WP.seq ?_
  refine WP.region ?_
  refine RW.new ttok hS rfl rfl rfl rfl (fun g33 w34 e35 hS36 => ?_)
  refine RW.new ttok hS36 rfl rfl rfl rfl (fun g37 w38 e39 hS40 => ?_)
  refine RW.run ttok 1 rfl ?_
  refine RW.nil ?_
  refine WP.seq ?_
  refine WP.region ?_
  refine RW.run ttok 1 rfl ?_
  refine RW.load1 ttok rfl rfl rfl rfl rfl ((hS40.bring 1 rfl).box) 0 rfl rfl rfl rfl ?_
  refine RW.run ttok 1 rfl ?_
  refine RW.load1 ttok rfl rfl rfl rfl rfl ((hS40.bring 0 rfl).box) 0 rfl rfl rfl rfl ?_
  obtain ⟨r41, hx42, hm⟩ := bind_some hm
  refine RW.call rfl rfl rfl enters99 (slices_Equal_bool_bool_ok (ty82.ext hS40.ext h3) (ty82.ext hS40.ext h19) hx42) (fun v43 w44 hR45 => ?_)
  obtain ⟨rfl, hR46⟩ := hR45
  have hS47 := hS40.join hR46
  refine RW.run ttok 1 rfl ?_
  by_cases hg48 : r41 = true
  · skip
    rw [if_pos hg48] at hm
    refine RW.know 10 rfl (congrArg Value.bool hg48) ?_
    refine RW.run ttok 1 rfl ?_
    refine RW.load1 ttok rfl rfl rfl rfl rfl ((hS47.bring 1 rfl).box) 1 rfl rfl rfl rfl ?_
    refine RW.run ttok 1 rfl ?_
    refine RW.load1 ttok rfl rfl rfl rfl rfl ((hS47.bring 0 rfl).box) 1 rfl rfl rfl rfl ?_
    obtain ⟨r49, hx50, hm⟩ := bind_some hm
    refine RW.call rfl rfl rfl enters65 (slices_EqualFunc_impl_Shard_impl_Shard_impl_Shard_impl_Shard_ok (ty43.ext hS47.ext h6) (ty43.ext hS47.ext h22) ⟨enters14, fun e9 => (fun a0_0 a1_0 hx9 => impl_SameShard_ok a0_0 a1_0 hx9)⟩ hx50) (fun v51 w52 hR53 => ?_)
    obtain ⟨rfl, hR54⟩ := hR53
    have hS55 := hS47.join hR54
    refine RW.run ttok 2 rfl ?_
    by_cases hg56 : r49 = true
    · skip
      rw [if_pos hg56] at hm
      refine RW.know 17 rfl (congrArg Value.bool hg56) ?_
      refine RW.run ttok 1 rfl ?_
      refine RW.load1 ttok rfl rfl rfl rfl rfl ((hS55.bring 1 rfl).box) 2 rfl rfl rfl rfl ?_
      refine RW.run ttok 1 rfl ?_
      refine RW.load1 ttok rfl rfl rfl rfl rfl ((hS55.bring 0 rfl).box) 2 rfl rfl rfl rfl ?_
      obtain ⟨r57, hx58, hm⟩ := bind_some hm
      refine RW.call rfl rfl rfl enters92 (slices_EqualFunc_int64_int64_int64_int64_ok (ty71.ext hS55.ext h9) (ty71.ext hS55.ext h25) ⟨enters78, fun e9 => (fun a0_0 a1_0 hx9 => slices_Equal_int64_int64_ok a0_0 a1_0 hx9)⟩ hx58) (fun v59 w60 hR61 => ?_)
      obtain ⟨rfl, hR62⟩ := hR61
      have hS63 := hS55.join hR62
      refine RW.run ttok 2 rfl ?_
      by_cases hg64 : r57 = true
      · skip
        rw [if_pos hg64] at hm
        refine RW.know 24 rfl (congrArg Value.bool hg64) ?_
        refine RW.run ttok 1 rfl ?_
        refine RW.load1 ttok rfl rfl rfl rfl rfl ((hS63.bring 1 rfl).box) 3 rfl rfl rfl rfl ?_
        refine RW.run ttok 1 rfl ?_
        refine RW.load1 ttok rfl rfl rfl rfl rfl ((hS63.bring 0 rfl).box) 3 rfl rfl rfl rfl ?_
        obtain ⟨r65, hx66, hm⟩ := bind_some hm
        refine RW.call rfl rfl rfl enters99 (slices_Equal_bool_bool_ok (ty82.ext hS63.ext h12) (ty82.ext hS63.ext h28) hx66) (fun v67 w68 hR69 => ?_)
        obtain ⟨rfl, hR70⟩ := hR69
        have hS71 := hS63.join hR70
        refine RW.run ttok 2 rfl ?_
        by_cases hg72 : r65 = true
        · skip
          rw [if_pos hg72] at hm
          refine RW.know 31 rfl (congrArg Value.bool hg72) ?_
          refine RW.run ttok 1 rfl ?_
          refine RW.load1 ttok rfl rfl rfl rfl rfl ((hS71.bring 1 rfl).box) 4 rfl rfl rfl rfl ?_
          refine RW.run ttok 1 rfl ?_
          refine RW.load1 ttok rfl rfl rfl rfl rfl ((hS71.bring 0 rfl).box) 4 rfl rfl rfl rfl ?_
          obtain ⟨r73, hx74, hm⟩ := bind_some hm
          refine RW.call rfl rfl rfl enters90 (slices_EqualFunc_impl_Parcel_impl_Parcel_impl_Parcel_impl_Parcel_ok (ty77.ext hS71.ext h15) (ty77.ext hS71.ext h31) ⟨enters91, fun e9 => (fun a0_0 a1_0 hx9 => impl_sameParcels_ok a0_0 a1_0 hx9)⟩ hx74) (fun v75 w76 hR77 => ?_)
          obtain ⟨rfl, hR78⟩ := hR77
          have hS79 := hS71.join hR78
          refine RW.run ttok 2 rfl ?_
          refine RW.nil ?_
          refine WP.ret ?_
          cases hm
          exact ⟨_, .cons (.tmp rfl) .nil, rfl, (hS79.taken 0)⟩
        · skip
          rw [if_neg hg72] at hm
          refine RW.know 31 rfl (congrArg Value.bool (Bool.eq_false_iff.2 hg72)) ?_
          refine RW.run ttok 7 rfl ?_
          refine RW.nil ?_
          refine WP.ret ?_
          cases hm
          exact ⟨_, .cons (.tmp rfl) .nil, rfl, (hS71.taken 0)⟩
      · skip
        rw [if_neg hg64] at hm
        refine RW.know 24 rfl (congrArg Value.bool (Bool.eq_false_iff.2 hg64)) ?_
        refine RW.run ttok 14 rfl ?_
        refine RW.nil ?_
        refine WP.ret ?_
        cases hm
        exact ⟨_, .cons (.tmp rfl) .nil, rfl, (hS63.taken 0)⟩
    · skip
      rw [if_neg hg56] at hm
      refine RW.know 17 rfl (congrArg Value.bool (Bool.eq_false_iff.2 hg56)) ?_
      refine RW.run ttok 21 rfl ?_
      refine RW.nil ?_
      refine WP.ret ?_
      cases hm
      exact ⟨_, .cons (.tmp rfl) .nil, rfl, (hS55.taken 0)⟩
  · skip
    rw [if_neg hg48] at hm
    refine RW.know 10 rfl (congrArg Value.bool (Bool.eq_false_iff.2 hg48)) ?_
    refine RW.run ttok 28 rfl ?_
    refine RW.nil ?_
    refine WP.ret ?_
    cases hm
    exact ⟨_, .cons (.tmp rfl) .nil, rfl, (hS47.taken 0)⟩

theorem enters39 : Enters Try.prog 39 := ⟨_, _, Try.func39, rfl, by kernel_rfl⟩
def m_impl_SameWatched (fuel : Nat) (x0 : D.Watched) (x1 : D.Watched) : Option (Bool) := ((m_impl_SameCluster fuel x0.Cluster x1.Cluster).bind fun r71 => (if r71 = true then ((m_impl_sameShot fuel x0.Shot x1.Shot).bind fun r79 => some r79) else some false))

set_option maxRecDepth 100000 in
theorem impl_SameWatched_ok {w : World} {c0_ : List Value} {x0 : D.Watched} {c1_ : List Value} {x1 : D.Watched} (h0_ : ty100.ro w c0_ x0) (h1_ : ty100.ro w c1_ x1) {fuel : Nat} {r : Bool} (hm : m_impl_SameWatched fuel x0 x1 = some r) :
    Calls Try.prog 39 ⟨[.agg ⟨c0_⟩, .agg ⟨c1_⟩]⟩ w (Ret fun v w8 => v = .bool r ∧ St w w8 []) := by
  obtain ⟨A1, k2, A4, k5, A7, k8, A10, k11, A13, k14, A16, k17, A19, k20, A22, k23, A25, k26, A28, k29, e31, h3, h6, h9, h12, h15, h18, h21, h24, h27, h30⟩ := ty100_open h0_; subst e31
  obtain ⟨A32, k33, A35, k36, A38, k39, A41, k42, A44, k45, A47, k48, A50, k51, A53, k54, A56, k57, A59, k60, e62, h34, h37, h40, h43, h46, h49, h52, h55, h58, h61⟩ := ty100_open h1_; subst e62
  refine Calls.into Try.func39 rfl 17 rfl rfl _ rfl ?_
  unfold m_impl_SameWatched at hm
  have hS := St.start w
  refine WP.seq ?_
  refine WP.region ?_
  refine RW.new ttok hS rfl rfl rfl rfl (fun g63 w64 e65 hS66 => ?_)
  refine RW.new ttok hS66 rfl rfl rfl rfl (fun g67 w68 e69 hS70 => ?_)
  refine RW.run ttok 1 rfl ?_
  refine RW.nil ?_
  refine WP.seq ?_
  refine WP.region ?_
  refine RW.run ttok 1 rfl ?_
  refine RW.loadN ttok rfl rfl rfl rfl rfl (At.sub ((hS70.bring 1 rfl).box) 0 8) rfl rfl rfl ?_
  refine RW.run ttok 1 rfl ?_
  refine RW.loadN ttok rfl rfl rfl rfl rfl (At.sub ((hS70.bring 0 rfl).box) 0 8) rfl rfl rfl ?_
  obtain ⟨r71, hx72, hm⟩ := bind_some hm
  refine RW.call rfl rfl rfl enters29 (impl_SameCluster_ok (ty79_shut x0.Cluster (ty43.ext hS70.ext h3) (ty77.ext hS70.ext h6) (ty71.ext hS70.ext h9) (ty72.ext hS70.ext h12) (ty72.ext hS70.ext h15)) (ty79_shut x1.Cluster (ty43.ext hS70.ext h34) (ty77.ext hS70.ext h37) (ty71.ext hS70.ext h40) (ty72.ext hS70.ext h43) (ty72.ext hS70.ext h46)) hx72) (fun v73 w74 hR75 => ?_)
  obtain ⟨rfl, hR76⟩ := hR75
  have hS77 := hS70.join hR76
  refine RW.run ttok 1 rfl ?_
  by_cases hg78 : r71 = true
  · skip
    rw [if_pos hg78] at hm
    refine RW.know 10 rfl (congrArg Value.bool hg78) ?_
    refine RW.run ttok 1 rfl ?_
    refine RW.loadN ttok rfl rfl rfl rfl rfl (At.sub ((hS77.bring 1 rfl).box) 8 5) rfl rfl rfl ?_
    refine RW.run ttok 1 rfl ?_
    refine RW.loadN ttok rfl rfl rfl rfl rfl (At.sub ((hS77.bring 0 rfl).box) 8 5) rfl rfl rfl ?_
    obtain ⟨r79, hx80, hm⟩ := bind_some hm
    refine RW.call rfl rfl rfl enters104 (impl_sameShot_ok (ty98_shut x0.Shot (ty82.ext hS77.ext h18) (ty43.ext hS77.ext h21) (ty71.ext hS77.ext h24) (ty82.ext hS77.ext h27) (ty77.ext hS77.ext h30)) (ty98_shut x1.Shot (ty82.ext hS77.ext h49) (ty43.ext hS77.ext h52) (ty71.ext hS77.ext h55) (ty82.ext hS77.ext h58) (ty77.ext hS77.ext h61)) hx80) (fun v81 w82 hR83 => ?_)
    obtain ⟨rfl, hR84⟩ := hR83
    have hS85 := hS77.join hR84
    refine RW.run ttok 2 rfl ?_
    refine RW.nil ?_
    refine WP.ret ?_
    cases hm
    exact ⟨_, .cons (.tmp rfl) .nil, rfl, (hS85.taken 0)⟩
  · skip
    rw [if_neg hg78] at hm
    refine RW.know 10 rfl (congrArg Value.bool (Bool.eq_false_iff.2 hg78)) ?_
    refine RW.run ttok 7 rfl ?_
    refine RW.nil ?_
    refine WP.ret ?_
    cases hm
    exact ⟨_, .cons (.tmp rfl) .nil, rfl, (hS77.taken 0)⟩

theorem enters105 : Enters Try.prog 105 := ⟨_, _, Try.func105, rfl, by kernel_rfl⟩
def m_laws_eqShot (fuel : Nat) (x0 : D.Shot) (x1 : D.Shot) : Option (Bool) := ((m_laws_eqBoolS fuel x0.Taken x1.Taken).bind fun r41 => (if (!r41) = true then some false else ((m_laws_eqShardS fuel x0.Shards x1.Shards).bind fun r48 => (if (!r48) = true then some false else ((m_laws_eqInt64SS fuel x0.Counts x1.Counts).bind fun r55 => (if (!r55) = true then some false else ((m_laws_eqBoolS fuel x0.Recording x1.Recording).bind fun r62 => (if (!r62) = true then some false else ((m_laws_eqParcelSS fuel x0.Saved x1.Saved).bind fun r69 => (if (!r69) = true then some false else some true))))))))))

set_option maxRecDepth 100000 in
theorem laws_eqShot_ok {w : World} {c0_ : List Value} {x0 : D.Shot} {c1_ : List Value} {x1 : D.Shot} (h0_ : ty98.ro w c0_ x0) (h1_ : ty98.ro w c1_ x1) {fuel : Nat} {r : Bool} (hm : m_laws_eqShot fuel x0 x1 = some r) :
    Calls Try.prog 105 ⟨[.agg ⟨c0_⟩, .agg ⟨c1_⟩]⟩ w (Ret fun v w8 => v = .bool r ∧ St w w8 []) := by
  obtain ⟨A1, k2, A4, k5, A7, k8, A10, k11, A13, k14, e16, h3, h6, h9, h12, h15⟩ := ty98_open h0_; subst e16
  obtain ⟨A17, k18, A20, k21, A23, k24, A26, k27, A29, k30, e32, h19, h22, h25, h28, h31⟩ := ty98_open h1_; subst e32
  refine Calls.into Try.func105 rfl 35 rfl rfl _ rfl ?_
  unfold m_laws_eqShot at hm
  have hS := St.start w
  refine WP.seq ?_
  refine WP.region ?_
  refine RW.new ttok hS rfl rfl rfl rfl (fun g33 w34 e35 hS36 => ?_)
  refine RW.new ttok hS36 rfl rfl rfl rfl (fun g37 w38 e39 hS40 => ?_)
  refine RW.run ttok 1 rfl ?_
  refine RW.nil ?_
  refine WP.seq ?_
  refine WP.seq ?_
  refine WP.region ?_
  refine RW.run ttok 1 rfl ?_
  refine RW.load1 ttok rfl rfl rfl rfl rfl ((hS40.bring 1 rfl).box) 0 rfl rfl rfl rfl ?_
  refine RW.run ttok 1 rfl ?_
  refine RW.load1 ttok rfl rfl rfl rfl rfl ((hS40.bring 0 rfl).box) 0 rfl rfl rfl rfl ?_
  obtain ⟨r41, hx42, hm⟩ := bind_some hm
  refine RW.call rfl rfl rfl enters100 (laws_eqBoolS_ok (ty82.ext hS40.ext h3) (ty82.ext hS40.ext h19) hx42) (fun v43 w44 hR45 => ?_)
  obtain ⟨rfl, hR46⟩ := hR45
  have hS47 := hS40.join hR46
  refine RW.run ttok 1 rfl ?_
  refine RW.nil ?_
  refine WP.cond (!r41) rfl (fun hc => ?_) (fun hc => ?_)
  · skip
    rw [if_pos hc] at hm
    refine WP.seq ?_
    refine WP.region ?_
    refine RW.run ttok 1 rfl ?_
    refine RW.nil ?_
    refine WP.ret ?_
    cases hm
    exact ⟨_, .cons (.tmp rfl) .nil, rfl, (hS47.taken 0)⟩
  · skip
    rw [if_neg (not_t hc)] at hm
    refine WP.skip ?_
    refine WP.seq ?_
    refine WP.seq ?_
    refine WP.region ?_
    refine RW.run ttok 1 rfl ?_
    refine RW.load1 ttok rfl rfl rfl rfl rfl ((hS47.bring 1 rfl).box) 1 rfl rfl rfl rfl ?_
    refine RW.run ttok 1 rfl ?_
    refine RW.load1 ttok rfl rfl rfl rfl rfl ((hS47.bring 0 rfl).box) 1 rfl rfl rfl rfl ?_
    obtain ⟨r48, hx49, hm⟩ := bind_some hm
    refine RW.call rfl rfl rfl enters66 (laws_eqShardS_ok (ty43.ext hS47.ext h6) (ty43.ext hS47.ext h22) hx49) (fun v50 w51 hR52 => ?_)
    obtain ⟨rfl, hR53⟩ := hR52
    have hS54 := hS47.join hR53
    refine RW.run ttok 1 rfl ?_
    refine RW.nil ?_
    refine WP.cond (!r48) rfl (fun hc => ?_) (fun hc => ?_)
    · skip
      rw [if_pos hc] at hm
      refine WP.seq ?_
      refine WP.region ?_
      refine RW.run ttok 1 rfl ?_
      refine RW.nil ?_
      refine WP.ret ?_
      cases hm
      exact ⟨_, .cons (.tmp rfl) .nil, rfl, (hS54.taken 0)⟩
    · skip
      rw [if_neg (not_t hc)] at hm
      refine WP.skip ?_
      refine WP.seq ?_
      refine WP.seq ?_
      refine WP.region ?_
      refine RW.run ttok 1 rfl ?_
      refine RW.load1 ttok rfl rfl rfl rfl rfl ((hS54.bring 1 rfl).box) 2 rfl rfl rfl rfl ?_
      refine RW.run ttok 1 rfl ?_
      refine RW.load1 ttok rfl rfl rfl rfl rfl ((hS54.bring 0 rfl).box) 2 rfl rfl rfl rfl ?_
      obtain ⟨r55, hx56, hm⟩ := bind_some hm
      refine RW.call rfl rfl rfl enters94 (laws_eqInt64SS_ok (ty71.ext hS54.ext h9) (ty71.ext hS54.ext h25) hx56) (fun v57 w58 hR59 => ?_)
      obtain ⟨rfl, hR60⟩ := hR59
      have hS61 := hS54.join hR60
      refine RW.run ttok 1 rfl ?_
      refine RW.nil ?_
      refine WP.cond (!r55) rfl (fun hc => ?_) (fun hc => ?_)
      · skip
        rw [if_pos hc] at hm
        refine WP.seq ?_
        refine WP.region ?_
        refine RW.run ttok 1 rfl ?_
        refine RW.nil ?_
        refine WP.ret ?_
        cases hm
        exact ⟨_, .cons (.tmp rfl) .nil, rfl, (hS61.taken 0)⟩
      · skip
        rw [if_neg (not_t hc)] at hm
        refine WP.skip ?_
        refine WP.seq ?_
        refine WP.seq ?_
        refine WP.region ?_
        refine RW.run ttok 1 rfl ?_
        refine RW.load1 ttok rfl rfl rfl rfl rfl ((hS61.bring 1 rfl).box) 3 rfl rfl rfl rfl ?_
        refine RW.run ttok 1 rfl ?_
        refine RW.load1 ttok rfl rfl rfl rfl rfl ((hS61.bring 0 rfl).box) 3 rfl rfl rfl rfl ?_
        obtain ⟨r62, hx63, hm⟩ := bind_some hm
        refine RW.call rfl rfl rfl enters100 (laws_eqBoolS_ok (ty82.ext hS61.ext h12) (ty82.ext hS61.ext h28) hx63) (fun v64 w65 hR66 => ?_)
        obtain ⟨rfl, hR67⟩ := hR66
        have hS68 := hS61.join hR67
        refine RW.run ttok 1 rfl ?_
        refine RW.nil ?_
        refine WP.cond (!r62) rfl (fun hc => ?_) (fun hc => ?_)
        · skip
          rw [if_pos hc] at hm
          refine WP.seq ?_
          refine WP.region ?_
          refine RW.run ttok 1 rfl ?_
          refine RW.nil ?_
          refine WP.ret ?_
          cases hm
          exact ⟨_, .cons (.tmp rfl) .nil, rfl, (hS68.taken 0)⟩
        · skip
          rw [if_neg (not_t hc)] at hm
          refine WP.skip ?_
          refine WP.seq ?_
          refine WP.seq ?_
          refine WP.region ?_
          refine RW.run ttok 1 rfl ?_
          refine RW.load1 ttok rfl rfl rfl rfl rfl ((hS68.bring 1 rfl).box) 4 rfl rfl rfl rfl ?_
          refine RW.run ttok 1 rfl ?_
          refine RW.load1 ttok rfl rfl rfl rfl rfl ((hS68.bring 0 rfl).box) 4 rfl rfl rfl rfl ?_
          obtain ⟨r69, hx70, hm⟩ := bind_some hm
          refine RW.call rfl rfl rfl enters93 (laws_eqParcelSS_ok (ty77.ext hS68.ext h15) (ty77.ext hS68.ext h31) hx70) (fun v71 w72 hR73 => ?_)
          obtain ⟨rfl, hR74⟩ := hR73
          have hS75 := hS68.join hR74
          refine RW.run ttok 1 rfl ?_
          refine RW.nil ?_
          refine WP.cond (!r69) rfl (fun hc => ?_) (fun hc => ?_)
          · skip
            rw [if_pos hc] at hm
            refine WP.seq ?_
            refine WP.region ?_
            refine RW.run ttok 1 rfl ?_
            refine RW.nil ?_
            refine WP.ret ?_
            cases hm
            exact ⟨_, .cons (.tmp rfl) .nil, rfl, (hS75.taken 0)⟩
          · skip
            rw [if_neg (not_t hc)] at hm
            refine WP.skip ?_
            refine WP.seq ?_
            refine WP.region ?_
            refine RW.run ttok 1 rfl ?_
            refine RW.nil ?_
            refine WP.ret ?_
            cases hm
            exact ⟨_, .cons (.tmp rfl) .nil, rfl, (hS75.taken 0)⟩

theorem enters40 : Enters Try.prog 40 := ⟨_, _, Try.func40, rfl, by kernel_rfl⟩
def m_laws_eqWatched (fuel : Nat) (x0 : D.Watched) (x1 : D.Watched) : Option (Bool) := ((m_laws_eqCluster fuel x0.Cluster x1.Cluster).bind fun r71 => (if (!r71) = true then some false else ((m_laws_eqShot fuel x0.Shot x1.Shot).bind fun r78 => (if (!r78) = true then some false else some true))))

set_option maxRecDepth 100000 in
theorem laws_eqWatched_ok {w : World} {c0_ : List Value} {x0 : D.Watched} {c1_ : List Value} {x1 : D.Watched} (h0_ : ty100.ro w c0_ x0) (h1_ : ty100.ro w c1_ x1) {fuel : Nat} {r : Bool} (hm : m_laws_eqWatched fuel x0 x1 = some r) :
    Calls Try.prog 40 ⟨[.agg ⟨c0_⟩, .agg ⟨c1_⟩]⟩ w (Ret fun v w8 => v = .bool r ∧ St w w8 []) := by
  obtain ⟨A1, k2, A4, k5, A7, k8, A10, k11, A13, k14, A16, k17, A19, k20, A22, k23, A25, k26, A28, k29, e31, h3, h6, h9, h12, h15, h18, h21, h24, h27, h30⟩ := ty100_open h0_; subst e31
  obtain ⟨A32, k33, A35, k36, A38, k39, A41, k42, A44, k45, A47, k48, A50, k51, A53, k54, A56, k57, A59, k60, e62, h34, h37, h40, h43, h46, h49, h52, h55, h58, h61⟩ := ty100_open h1_; subst e62
  refine Calls.into Try.func40 rfl 17 rfl rfl _ rfl ?_
  unfold m_laws_eqWatched at hm
  have hS := St.start w
  refine WP.seq ?_
  refine WP.region ?_
  refine RW.new ttok hS rfl rfl rfl rfl (fun g63 w64 e65 hS66 => ?_)
  refine RW.new ttok hS66 rfl rfl rfl rfl (fun g67 w68 e69 hS70 => ?_)
  refine RW.run ttok 1 rfl ?_
  refine RW.nil ?_
  refine WP.seq ?_
  refine WP.seq ?_
  refine WP.region ?_
  refine RW.run ttok 1 rfl ?_
  refine RW.loadN ttok rfl rfl rfl rfl rfl (At.sub ((hS70.bring 1 rfl).box) 0 8) rfl rfl rfl ?_
  refine RW.run ttok 1 rfl ?_
  refine RW.loadN ttok rfl rfl rfl rfl rfl (At.sub ((hS70.bring 0 rfl).box) 0 8) rfl rfl rfl ?_
  obtain ⟨r71, hx72, hm⟩ := bind_some hm
  refine RW.call rfl rfl rfl enters30 (laws_eqCluster_ok (ty79_shut x0.Cluster (ty43.ext hS70.ext h3) (ty77.ext hS70.ext h6) (ty71.ext hS70.ext h9) (ty72.ext hS70.ext h12) (ty72.ext hS70.ext h15)) (ty79_shut x1.Cluster (ty43.ext hS70.ext h34) (ty77.ext hS70.ext h37) (ty71.ext hS70.ext h40) (ty72.ext hS70.ext h43) (ty72.ext hS70.ext h46)) hx72) (fun v73 w74 hR75 => ?_)
  obtain ⟨rfl, hR76⟩ := hR75
  have hS77 := hS70.join hR76
  refine RW.run ttok 1 rfl ?_
  refine RW.nil ?_
  refine WP.cond (!r71) rfl (fun hc => ?_) (fun hc => ?_)
  · skip
    rw [if_pos hc] at hm
    refine WP.seq ?_
    refine WP.region ?_
    refine RW.run ttok 1 rfl ?_
    refine RW.nil ?_
    refine WP.ret ?_
    cases hm
    exact ⟨_, .cons (.tmp rfl) .nil, rfl, (hS77.taken 0)⟩
  · skip
    rw [if_neg (not_t hc)] at hm
    refine WP.skip ?_
    refine WP.seq ?_
    refine WP.seq ?_
    refine WP.region ?_
    refine RW.run ttok 1 rfl ?_
    refine RW.loadN ttok rfl rfl rfl rfl rfl (At.sub ((hS77.bring 1 rfl).box) 8 5) rfl rfl rfl ?_
    refine RW.run ttok 1 rfl ?_
    refine RW.loadN ttok rfl rfl rfl rfl rfl (At.sub ((hS77.bring 0 rfl).box) 8 5) rfl rfl rfl ?_
    obtain ⟨r78, hx79, hm⟩ := bind_some hm
    refine RW.call rfl rfl rfl enters105 (laws_eqShot_ok (ty98_shut x0.Shot (ty82.ext hS77.ext h18) (ty43.ext hS77.ext h21) (ty71.ext hS77.ext h24) (ty82.ext hS77.ext h27) (ty77.ext hS77.ext h30)) (ty98_shut x1.Shot (ty82.ext hS77.ext h49) (ty43.ext hS77.ext h52) (ty71.ext hS77.ext h55) (ty82.ext hS77.ext h58) (ty77.ext hS77.ext h61)) hx79) (fun v80 w81 hR82 => ?_)
    obtain ⟨rfl, hR83⟩ := hR82
    have hS84 := hS77.join hR83
    refine RW.run ttok 1 rfl ?_
    refine RW.nil ?_
    refine WP.cond (!r78) rfl (fun hc => ?_) (fun hc => ?_)
    · skip
      rw [if_pos hc] at hm
      refine WP.seq ?_
      refine WP.region ?_
      refine RW.run ttok 1 rfl ?_
      refine RW.nil ?_
      refine WP.ret ?_
      cases hm
      exact ⟨_, .cons (.tmp rfl) .nil, rfl, (hS84.taken 0)⟩
    · skip
      rw [if_neg (not_t hc)] at hm
      refine WP.skip ?_
      refine WP.seq ?_
      refine WP.region ?_
      refine RW.run ttok 1 rfl ?_
      refine RW.nil ?_
      refine WP.ret ?_
      cases hm
      exact ⟨_, .cons (.tmp rfl) .nil, rfl, (hS84.taken 0)⟩

theorem enters8 : Enters Try.prog 8 := ⟨_, _, Try.func8, rfl, by kernel_rfl⟩
def m_laws_FnExactSameWatched (fuel : Nat) (x0 : D.Watched) (x1 : D.Watched) : Option (Bool) := ((m_laws_szWatched fuel x0 1048576).bind fun r71 => (if (decide (r71 < 0)) = true then some true else ((m_laws_szWatched fuel x1 r71).bind fun r78 => (if (decide (r78 < 0)) = true then some true else ((m_laws_toWatched fuel x0).bind fun r87 => ((m_laws_toWatched fuel x1).bind fun r114 => ((m_spec_SameWatched fuel r87 r114).bind fun r141 => ((m_laws_toWatched fuel x0).bind fun r148 => ((m_laws_toWatched fuel x1).bind fun r182 => ((m_impl_SameWatched fuel r148 r182).bind fun r216 => (if (!(r216 == r141)) = true then some false else ((m_laws_toWatched fuel x0).bind fun r225 => ((m_laws_eqWatched fuel r148 r225).bind fun r252 => (if (!r252) = true then some false else ((m_laws_toWatched fuel x1).bind fun r261 => ((m_laws_eqWatched fuel r182 r261).bind fun r288 => (if (!r288) = true then some false else some true)))))))))))))))))

set_option maxRecDepth 100000 in
theorem laws_FnExactSameWatched_ok {w : World} {c0_ : List Value} {x0 : D.Watched} {c1_ : List Value} {x1 : D.Watched} (h0_ : ty94.ro w c0_ x0) (h1_ : ty94.ro w c1_ x1) {fuel : Nat} {r : Bool} (hm : m_laws_FnExactSameWatched fuel x0 x1 = some r) :
    Calls Try.prog 8 ⟨[.agg ⟨c0_⟩, .agg ⟨c1_⟩]⟩ w (Ret fun v w8 => v = .bool r ∧ St w w8 []) := by
  obtain ⟨A1, k2, A4, k5, A7, k8, A10, k11, A13, k14, A16, k17, A19, k20, A22, k23, A25, k26, A28, k29, e31, h3, h6, h9, h12, h15, h18, h21, h24, h27, h30⟩ := ty94_open h0_; subst e31
  obtain ⟨A32, k33, A35, k36, A38, k39, A41, k42, A44, k45, A47, k48, A50, k51, A53, k54, A56, k57, A59, k60, e62, h34, h37, h40, h43, h46, h49, h52, h55, h58, h61⟩ := ty94_open h1_; subst e62
  refine Calls.into Try.func8 rfl 45 rfl rfl _ rfl ?_
  unfold m_laws_FnExactSameWatched at hm
  have hS := St.start w
  refine WP.seq ?_
  refine WP.region ?_
  refine RW.new ttok hS rfl rfl rfl rfl (fun g63 w64 e65 hS66 => ?_)
  refine RW.new ttok hS66 rfl rfl rfl rfl (fun g67 w68 e69 hS70 => ?_)
  refine RW.run ttok 1 rfl ?_
  refine RW.nil ?_
  refine WP.seq ?_
  refine WP.region ?_
  refine RW.run ttok 1 rfl ?_
  refine RW.nil ?_
  refine WP.seq ?_
  refine WP.region ?_
  refine RW.loadN ttok rfl rfl rfl rfl rfl ((hS70.bring 1 rfl).box) rfl rfl rfl ?_
  refine RW.run ttok 1 rfl ?_
  obtain ⟨r71, hx72, hm⟩ := bind_some hm
  refine RW.call rfl rfl rfl enters36 (laws_szWatched_ok (ty94.ext hS70.ext h0_) hx72) (fun v73 w74 hR75 => ?_)
  obtain ⟨rfl, hR76⟩ := hR75
  have hS77 := hS70.join hR76
  refine RW.run ttok 1 rfl ?_
  refine RW.nil ?_
  refine WP.seq ?_
  refine WP.seq ?_
  refine WP.region ?_
  refine RW.run ttok 2 rfl ?_
  refine RW.nil ?_
  refine WP.cond (decide (r71 < 0)) rfl (fun hc => ?_) (fun hc => ?_)
  · skip
    rw [if_pos hc] at hm
    refine WP.seq ?_
    refine WP.region ?_
    refine RW.run ttok 1 rfl ?_
    refine RW.nil ?_
    refine WP.ret ?_
    cases hm
    exact ⟨_, .cons (.tmp rfl) .nil, rfl, (hS77.taken 0)⟩
  · skip
    rw [if_neg (not_t hc)] at hm
    refine WP.skip ?_
    refine WP.seq ?_
    refine WP.region ?_
    refine RW.loadN ttok rfl rfl rfl rfl rfl ((hS77.bring 0 rfl).box) rfl rfl rfl ?_
    refine RW.run ttok 1 rfl ?_
    obtain ⟨r78, hx79, hm⟩ := bind_some hm
    refine RW.call rfl rfl rfl enters36 (laws_szWatched_ok (ty94.ext hS77.ext h1_) hx79) (fun v80 w81 hR82 => ?_)
    obtain ⟨rfl, hR83⟩ := hR82
    have hS84 := hS77.join hR83
    refine RW.run ttok 1 rfl ?_
    refine RW.nil ?_
    refine WP.seq ?_
    refine WP.seq ?_
    refine WP.region ?_
    refine RW.run ttok 2 rfl ?_
    refine RW.nil ?_
    refine WP.cond (decide (r78 < 0)) rfl (fun hc => ?_) (fun hc => ?_)
    · skip
      rw [if_pos hc] at hm
      refine WP.seq ?_
      refine WP.region ?_
      refine RW.run ttok 1 rfl ?_
      refine RW.nil ?_
      refine WP.ret ?_
      cases hm
      exact ⟨_, .cons (.tmp rfl) .nil, rfl, (hS84.taken 0)⟩
    · skip
      rw [if_neg (not_t hc)] at hm
      refine WP.skip ?_
      refine WP.seq ?_
      refine WP.drawnM 0 mixed 6 (by kernel_rfl) (by kernel_rfl) [([], 63), ([0], 62), ([], 63), ([2, 1], 59), ([1, 3, 3], 53), ([4, 4, 0, 1, 2, 3, 4], 47)] (by kernel_rfl) (fun hsk85 => ?_)
      have hS86 := hS84.step (Ext.draw _)
      refine DM.loadN ttok hsk85 0 1 (by kernel_rfl) (by kernel_rfl) (by kernel_rfl) (by kernel_rfl) rfl (by kernel_rfl) rfl rfl rfl rfl rfl ((hS84.bring 1 rfl).box) rfl rfl rfl ?_
      refine DM.loadN ttok hsk85 2 5 (by kernel_rfl) (by kernel_rfl) (by kernel_rfl) (by kernel_rfl) rfl (by kernel_rfl) rfl rfl rfl rfl rfl ((hS84.bring 0 rfl).box) rfl rfl rfl ?_
      obtain ⟨r87, hx88, hm⟩ := bind_some hm
      refine DM.one hsk85 1 (by kernel_rfl) (LM.call hsk85 7 (by kernel_rfl) (by kernel_rfl) rfl rfl rfl rfl enters38 (laws_toWatched_ok (ty94.ext hS86.ext h0_) hx88) (fun v89 w90 hR91 => ?_))
      obtain ⟨A92, k93, A94, k95, A96, k97, A98, k99, A100, k101, A102, k103, A104, k105, A106, k107, A108, k109, A110, k111, rfl, hR112⟩ := hR91
      refine ⟨hR112.ext, ?_⟩
      have hS113 := hS86.join hR112
      obtain ⟨r114, hx115, hm⟩ := bind_some hm
      refine DM.one hsk85 3 (by kernel_rfl) (LM.call hsk85 15 (by kernel_rfl) (by kernel_rfl) rfl rfl rfl rfl enters38 (laws_toWatched_ok (ty94.ext hS113.ext h1_) hx115) (fun v116 w117 hR118 => ?_))
      obtain ⟨A119, k120, A121, k122, A123, k124, A125, k126, A127, k128, A129, k130, A131, k132, A133, k134, A135, k136, A137, k138, rfl, hR139⟩ := hR118
      refine ⟨hR139.ext, ?_⟩
      have hS140 := hS113.join hR139
      obtain ⟨r141, hx142, hm⟩ := bind_some hm
      refine DM.one hsk85 4 (by kernel_rfl) (LM.call hsk85 31 (by kernel_rfl) (by kernel_rfl) rfl rfl rfl rfl enters37 (spec_SameWatched_ok (ty100_shut r87 ((hS140.bring 10 rfl).own) ((hS140.bring 11 rfl).own) ((hS140.bring 12 rfl).own) ((hS140.bring 13 rfl).own) ((hS140.bring 14 rfl).own) ((hS140.bring 15 rfl).own) ((hS140.bring 16 rfl).own) ((hS140.bring 17 rfl).own) ((hS140.bring 18 rfl).own) ((hS140.bring 19 rfl).own)) (ty100_shut r114 ((hS140.bring 0 rfl).own) ((hS140.bring 1 rfl).own) ((hS140.bring 2 rfl).own) ((hS140.bring 3 rfl).own) ((hS140.bring 4 rfl).own) ((hS140.bring 5 rfl).own) ((hS140.bring 6 rfl).own) ((hS140.bring 7 rfl).own) ((hS140.bring 8 rfl).own) ((hS140.bring 9 rfl).own)) hx142) (fun v143 w144 hR145 => ?_))
      obtain ⟨rfl, hR146⟩ := hR145
      refine ⟨hR146.ext, ?_⟩
      have hS147 := hS140.join hR146
      refine DM.run (fuel := 0) ttok hsk85 [5] 63 (by kernel_rfl) (by kernel_rfl) rfl ?_
      refine DM.weak [(2, .pointer (some ⟨g63, 0, none⟩)), (3, .pointer (some ⟨g67, 0, none⟩)), (6, .bool r141)] ⟨rfl, rfl, rfl, trivial⟩ ?_
      refine DM.done hsk85 (by kernel_rfl) ?_
      refine WP.seq ?_
      refine WP.region ?_
      refine RW.loadN ttok rfl rfl rfl rfl rfl ((hS147.bring 21 rfl).box) rfl rfl rfl ?_
      obtain ⟨r148, hx149, hm⟩ := bind_some hm
      refine RW.call rfl rfl rfl enters38 (laws_toWatched_ok (ty94.ext hS147.ext h0_) hx149) (fun v150 w151 hR152 => ?_)
      obtain ⟨A153, k154, A155, k156, A157, k158, A159, k160, A161, k162, A163, k164, A165, k166, A167, k168, A169, k170, A171, k172, rfl, hR173⟩ := hR152
      have hS174 := hS147.join hR173
      refine RW.new ttok hS174 rfl rfl rfl rfl (fun g175 w176 e177 hS178 => ?_)
      have hS179 := hS178.bring 0 rfl
      refine RW.store ttok (A := []) hS179 rfl rfl rfl rfl rfl 0 rfl rfl rfl rfl rfl (fun w180 hS181 => ?_)
      refine RW.nil ?_
      refine WP.seq ?_
      refine WP.region ?_
      refine RW.loadN ttok rfl rfl rfl rfl rfl ((hS181.bring 31 rfl).box) rfl rfl rfl ?_
      obtain ⟨r182, hx183, hm⟩ := bind_some hm
      refine RW.call rfl rfl rfl enters38 (laws_toWatched_ok (ty94.ext hS181.ext h1_) hx183) (fun v184 w185 hR186 => ?_)
      obtain ⟨A187, k188, A189, k190, A191, k192, A193, k194, A195, k196, A197, k198, A199, k200, A201, k202, A203, k204, A205, k206, rfl, hR207⟩ := hR186
      have hS208 := hS181.join hR207
      refine RW.new ttok hS208 rfl rfl rfl rfl (fun g209 w210 e211 hS212 => ?_)
      have hS213 := hS212.bring 0 rfl
      refine RW.store ttok (A := []) hS213 rfl rfl rfl rfl rfl 0 rfl rfl rfl rfl rfl (fun w214 hS215 => ?_)
      refine RW.nil ?_
      refine WP.seq ?_
      refine WP.region ?_
      refine RW.loadN ttok rfl rfl rfl rfl rfl ((hS215.bring 11 rfl).box) rfl rfl rfl ?_
      refine RW.loadN ttok rfl rfl rfl rfl rfl ((hS215.bring 0 rfl).box) rfl rfl rfl ?_
      obtain ⟨r216, hx217, hm⟩ := bind_some hm
      refine RW.call rfl rfl rfl enters39 (impl_SameWatched_ok (ty100_shut r148 ((hS215.bring 12 rfl).own) ((hS215.bring 13 rfl).own) ((hS215.bring 14 rfl).own) ((hS215.bring 15 rfl).own) ((hS215.bring 16 rfl).own) ((hS215.bring 17 rfl).own) ((hS215.bring 18 rfl).own) ((hS215.bring 19 rfl).own) ((hS215.bring 20 rfl).own) ((hS215.bring 21 rfl).own)) (ty100_shut r182 ((hS215.bring 1 rfl).own) ((hS215.bring 2 rfl).own) ((hS215.bring 3 rfl).own) ((hS215.bring 4 rfl).own) ((hS215.bring 5 rfl).own) ((hS215.bring 6 rfl).own) ((hS215.bring 7 rfl).own) ((hS215.bring 8 rfl).own) ((hS215.bring 9 rfl).own) ((hS215.bring 10 rfl).own)) hx217) (fun v218 w219 hR220 => ?_)
      obtain ⟨rfl, hR221⟩ := hR220
      have hS222 := hS215.join hR221
      refine RW.run ttok 1 rfl ?_
      refine RW.nil ?_
      refine WP.seq ?_
      refine WP.seq ?_
      refine WP.region ?_
      refine RW.run ttok 3 rfl ?_
      refine RW.nil ?_
      refine WP.cond (!(r216 == r141)) rfl (fun hc => ?_) (fun hc => ?_)
      · skip
        rw [if_pos hc] at hm
        refine WP.seq ?_
        refine WP.region ?_
        refine RW.run ttok 1 rfl ?_
        refine RW.nil ?_
        refine WP.ret ?_
        cases hm
        exact ⟨_, .cons (.tmp rfl) .nil, rfl, (hS222.taken 0)⟩
      · skip
        rw [if_neg (not_t hc)] at hm
        refine WP.skip ?_
        refine WP.seq ?_
        refine WP.seq ?_
        refine WP.drawnM 0 mixed 5 (by kernel_rfl) (by kernel_rfl) [([], 31), ([], 31), ([1], 29), ([0, 2, 2], 26), ([3], 23)] (by kernel_rfl) (fun hsk223 => ?_)
        have hS224 := hS222.step (Ext.draw _)
        refine DM.loadN ttok hsk223 0 1 (by kernel_rfl) (by kernel_rfl) (by kernel_rfl) (by kernel_rfl) rfl (by kernel_rfl) rfl rfl rfl rfl rfl ((hS222.bring 11 rfl).box) rfl rfl rfl ?_
        refine DM.loadN ttok hsk223 1 3 (by kernel_rfl) (by kernel_rfl) (by kernel_rfl) (by kernel_rfl) rfl (by kernel_rfl) rfl rfl rfl rfl rfl ((hS222.bring 43 rfl).box) rfl rfl rfl ?_
        obtain ⟨r225, hx226, hm⟩ := bind_some hm
        refine DM.one hsk223 2 (by kernel_rfl) (LM.call hsk223 7 (by kernel_rfl) (by kernel_rfl) rfl rfl rfl rfl enters38 (laws_toWatched_ok (ty94.ext hS224.ext h0_) hx226) (fun v227 w228 hR229 => ?_))
        obtain ⟨A230, k231, A232, k233, A234, k235, A236, k237, A238, k239, A240, k241, A242, k243, A244, k245, A246, k247, A248, k249, rfl, hR250⟩ := hR229
        refine ⟨hR250.ext, ?_⟩
        have hS251 := hS224.join hR250
        obtain ⟨r252, hx253, hm⟩ := bind_some hm
        refine DM.one hsk223 3 (by kernel_rfl) (LM.call hsk223 15 (by kernel_rfl) (by kernel_rfl) rfl rfl rfl rfl enters40 (laws_eqWatched_ok (ty100_shut r148 ((hS251.bring 22 rfl).own) ((hS251.bring 23 rfl).own) ((hS251.bring 24 rfl).own) ((hS251.bring 25 rfl).own) ((hS251.bring 26 rfl).own) ((hS251.bring 27 rfl).own) ((hS251.bring 28 rfl).own) ((hS251.bring 29 rfl).own) ((hS251.bring 30 rfl).own) ((hS251.bring 31 rfl).own)) (ty100_shut r225 ((hS251.bring 0 rfl).own) ((hS251.bring 1 rfl).own) ((hS251.bring 2 rfl).own) ((hS251.bring 3 rfl).own) ((hS251.bring 4 rfl).own) ((hS251.bring 5 rfl).own) ((hS251.bring 6 rfl).own) ((hS251.bring 7 rfl).own) ((hS251.bring 8 rfl).own) ((hS251.bring 9 rfl).own)) hx253) (fun v254 w255 hR256 => ?_))
        obtain ⟨rfl, hR257⟩ := hR256
        refine ⟨hR257.ext, ?_⟩
        have hS258 := hS251.join hR257
        refine DM.run (fuel := 0) ttok hsk223 [4] 31 (by kernel_rfl) (by kernel_rfl) rfl ?_
        refine DM.weak [(3, .pointer (some ⟨g67, 0, none⟩)), (8, .pointer (some ⟨g209, 0, none⟩)), (39, .bool (!r252))] ⟨rfl, rfl, rfl, trivial⟩ ?_
        refine DM.done hsk223 (by kernel_rfl) ?_
        refine WP.cond (!r252) rfl (fun hc => ?_) (fun hc => ?_)
        · skip
          rw [if_pos hc] at hm
          refine WP.seq ?_
          refine WP.region ?_
          refine RW.run ttok 1 rfl ?_
          refine RW.nil ?_
          refine WP.ret ?_
          cases hm
          exact ⟨_, .cons (.tmp rfl) .nil, rfl, (hS258.taken 0)⟩
        · skip
          rw [if_neg (not_t hc)] at hm
          refine WP.skip ?_
          refine WP.seq ?_
          refine WP.seq ?_
          refine WP.drawnM 0 mixed 5 (by kernel_rfl) (by kernel_rfl) [([], 31), ([], 31), ([1], 29), ([0, 2, 2], 26), ([3], 23)] (by kernel_rfl) (fun hsk259 => ?_)
          have hS260 := hS258.step (Ext.draw _)
          refine DM.loadN ttok hsk259 0 1 (by kernel_rfl) (by kernel_rfl) (by kernel_rfl) (by kernel_rfl) rfl (by kernel_rfl) rfl rfl rfl rfl rfl ((hS258.bring 10 rfl).box) rfl rfl rfl ?_
          refine DM.loadN ttok hsk259 1 3 (by kernel_rfl) (by kernel_rfl) (by kernel_rfl) (by kernel_rfl) rfl (by kernel_rfl) rfl rfl rfl rfl rfl ((hS258.bring 52 rfl).box) rfl rfl rfl ?_
          obtain ⟨r261, hx262, hm⟩ := bind_some hm
          refine DM.one hsk259 2 (by kernel_rfl) (LM.call hsk259 7 (by kernel_rfl) (by kernel_rfl) rfl rfl rfl rfl enters38 (laws_toWatched_ok (ty94.ext hS260.ext h1_) hx262) (fun v263 w264 hR265 => ?_))
          obtain ⟨A266, k267, A268, k269, A270, k271, A272, k273, A274, k275, A276, k277, A278, k279, A280, k281, A282, k283, A284, k285, rfl, hR286⟩ := hR265
          refine ⟨hR286.ext, ?_⟩
          have hS287 := hS260.join hR286
          obtain ⟨r288, hx289, hm⟩ := bind_some hm
          refine DM.one hsk259 3 (by kernel_rfl) (LM.call hsk259 15 (by kernel_rfl) (by kernel_rfl) rfl rfl rfl rfl enters40 (laws_eqWatched_ok (ty100_shut r182 ((hS287.bring 21 rfl).own) ((hS287.bring 22 rfl).own) ((hS287.bring 23 rfl).own) ((hS287.bring 24 rfl).own) ((hS287.bring 25 rfl).own) ((hS287.bring 26 rfl).own) ((hS287.bring 27 rfl).own) ((hS287.bring 28 rfl).own) ((hS287.bring 29 rfl).own) ((hS287.bring 30 rfl).own)) (ty100_shut r261 ((hS287.bring 0 rfl).own) ((hS287.bring 1 rfl).own) ((hS287.bring 2 rfl).own) ((hS287.bring 3 rfl).own) ((hS287.bring 4 rfl).own) ((hS287.bring 5 rfl).own) ((hS287.bring 6 rfl).own) ((hS287.bring 7 rfl).own) ((hS287.bring 8 rfl).own) ((hS287.bring 9 rfl).own)) hx289) (fun v290 w291 hR292 => ?_))
          obtain ⟨rfl, hR293⟩ := hR292
          refine ⟨hR293.ext, ?_⟩
          have hS294 := hS287.join hR293
          refine DM.run (fuel := 0) ttok hsk259 [4] 31 (by kernel_rfl) (by kernel_rfl) rfl ?_
          refine DM.weak [(44, .bool (!r288))] ⟨rfl, trivial⟩ ?_
          refine DM.done hsk259 (by kernel_rfl) ?_
          refine WP.cond (!r288) rfl (fun hc => ?_) (fun hc => ?_)
          · skip
            rw [if_pos hc] at hm
            refine WP.seq ?_
            refine WP.region ?_
            refine RW.run ttok 1 rfl ?_
            refine RW.nil ?_
            refine WP.ret ?_
            cases hm
            exact ⟨_, .cons (.tmp rfl) .nil, rfl, (hS294.taken 0)⟩
          · skip
            rw [if_neg (not_t hc)] at hm
            refine WP.skip ?_
            refine WP.seq ?_
            refine WP.region ?_
            refine RW.run ttok 1 rfl ?_
            refine RW.nil ?_
            refine WP.ret ?_
            cases hm
            exact ⟨_, .cons (.tmp rfl) .nil, rfl, (hS294.taken 0)⟩

end Go.E
