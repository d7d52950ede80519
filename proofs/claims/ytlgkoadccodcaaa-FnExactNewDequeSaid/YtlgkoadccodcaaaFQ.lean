/- Models of functions and proofs that the code runs as they say (written by program). Conditions: the model gives a value. -/
import Derived.Test.YtlgkoadccodcaaaIter
namespace Go.E
open Go.RowKit Go.Proofs
set_option linter.unusedVariables false
set_option linter.unusedSimpArgs false
set_option maxHeartbeats 2000000

theorem enters16 : Enters Try.prog 16 := ⟨_, _, Try.func16, rfl, by kernel_rfl⟩
def m_laws_toInt64S_j1 (fuel : Nat) (t9 : (List Int)) : Option (List Int) := some t9
def m_laws_toInt64S_b1 (fuel : Nat) (x0 : (List Int)) (s8 : Int × (List Int)) : Option (Rd (Int × (List Int)) ((List Int)) ((List Int))) := (if (decide (s8.1 < (x0.length : Int))) = true then ((idx x0 s8.1).bind fun x23 => (if decide (0 ≤ s8.1 ∧ s8.1.toNat < s8.2.length) = true then some (.next (w64 (s8.1 + 1), (s8.2.set s8.1.toNat x23))) else none)) else some (.brk s8.2))
def m_laws_toInt64S (fuel : Nat) (x0 : (List Int)) : Option ((List Int)) := (if decide (0 ≤ (x0.length : Int) ∧ (x0.length : Int) ≤ 4294967296) = true then ((iter (m_laws_toInt64S_b1 fuel x0) fuel (0, (List.replicate (x0.length : Int).toNat (0 : Int)))).bind fun o => aft o (m_laws_toInt64S_j1 fuel)) else none)

set_option maxRecDepth 100000 in
theorem laws_toInt64S_ok {w : World} {A0_ : Option Addr} {k0_ : Nat} {x0 : (List Int)} (h0_ : ty22.ro w [.slice A0_ x0.length k0_] x0) {fuel : Nat} {r : (List Int)} (hm : m_laws_toInt64S fuel x0 = some r) :
    Calls Try.prog 16 ⟨[.slice A0_ x0.length k0_]⟩ w (Ret fun v w8 => ∃ A0 k0, v = .slice A0 r.length k0 ∧ St w w8 [Own ty22 [.slice A0 r.length k0] r]) := by
  refine Calls.into Try.func16 rfl 22 rfl rfl _ rfl ?_
  unfold m_laws_toInt64S at hm
  have hS := St.start w
  refine WP.seq ?_
  refine WP.region ?_
  refine RW.run ttok 1 rfl ?_
  refine RW.nil ?_
  refine WP.seq ?_
  refine WP.region ?_
  refine RW.run ttok 2 rfl ?_
  by_cases hk1 : decide (0 ≤ (x0.length : Int) ∧ (x0.length : Int) ≤ 4294967296) = true
  case neg => rw [if_neg hk1] at hm; cases hm
  rw [if_pos hk1] at hm
  have hz7 := of_decide_eq_true hk1
  refine RW.make (U := tInt) ttok (0 : Int) hS rfl rfl rfl rfl rfl rfl rfl rfl hz7.1 (by have := hz7.2; show _ * (8 : Int) ≤ _; omega) (by have := hz7.2; simp only [maxLen]; omega) (fun _ => ⟨rfl, rfl⟩) rfl rfl (fun A2 k3 w4 e5 hS6 => ?_)
  refine RW.run ttok 1 rfl ?_
  refine RW.nil ?_
  refine WP.seq ?_
  refine WP.seq ?_
  refine WP.region ?_
  refine RW.run ttok 1 rfl ?_
  refine RW.nil ?_
  obtain ⟨o12, hl13, hm⟩ := bind_some hm
  refine WP.cut (fun (t9 : (List Int)) F w9 => o12 = .inl t9 ∧ St w w9 [Own ty22 [.slice A2 (List.replicate (x0.length : Int).toNat (0 : Int)).length k3] t9] ∧ F = [(3, .slice A2 (List.replicate (x0.length : Int).toNat (0 : Int)).length k3)]) ?_ ?_
  · skip
    rintro t9 F w11 ⟨ho15, hS14, rfl⟩
    subst ho15
    rw [aft_inl] at hm
    unfold m_laws_toInt64S_j1 at hm
    refine WP.seq ?_
    refine WP.region ?_
    refine RW.run ttok 2 rfl ?_
    refine RW.nil ?_
    refine WP.ret ?_
    cases hm
    have hn16 := (hS14.bring 0 rfl).lenEq
    have hS17 := (hS14.bring 0 rfl).reLen hn16
    exact ⟨_, .cons (.tmp rfl) .nil, A2, k3, (by first | (simp only [hn16]; done) | (simp only [hn16]; rfl)), hS17⟩
  · skip
    refine WP.block ?_
    refine WP.weak [(0, .slice A0_ x0.length k0_), (3, .slice A2 (List.replicate (x0.length : Int).toNat (0 : Int)).length k3), (4, .int .i64 0)] ⟨rfl, rfl, rfl, trivial⟩ ?_
    refine WP.iter (fun (s8 : Int × (List Int)) F w9 => St w w9 [Own ty22 [.slice A2 (List.replicate (x0.length : Int).toNat (0 : Int)).length k3] s8.2] ∧ F = [(0, .slice A0_ x0.length k0_), (3, .slice A2 (List.replicate (x0.length : Int).toNat (0 : Int)).length k3), (4, .int .i64 s8.1)]) _ hl13 ⟨hS6, rfl⟩ ?_
    rintro s8 F w22 _ o20 ⟨hS21, rfl⟩ hb18 ho19
    unfold m_laws_toInt64S_b1 at hb18
    refine WP.seq ?_
    refine WP.seq ?_
    refine WP.region ?_
    refine RW.run ttok 4 rfl ?_
    refine RW.nil ?_
    refine WP.cond (decide (s8.1 < (x0.length : Int))) rfl (fun hc => ?_) (fun hc => ?_)
    · skip
      rw [if_pos hc] at hb18
      refine WP.skip ?_
      refine WP.seq ?_
      refine WP.block ?_
      refine WP.region ?_
      refine RW.run ttok 4 rfl ?_
      obtain ⟨x23, hx24, hb18⟩ := bind_some hb18
      refine RW.idx ttok hS21.ext rfl rfl rfl rfl rfl rfl (by decide) rfl rfl h0_ (idx_some hx24).1 (idx_some hx24).2 rfl rfl (fun p25 es26 ha27 hr28 => ?_)
      cases hr28
      refine RW.load1 ttok rfl rfl rfl rfl rfl (At.ext hS21.ext ha27) 0 rfl rfl rfl rfl ?_
      have hS29 := hS21.bring 0 rfl
      by_cases hk30 : decide (0 ≤ s8.1 ∧ s8.1.toNat < s8.2.length) = true
      case neg => rw [if_neg hk30] at hb18; cases hb18
      rw [if_pos hk30] at hb18
      have hb31 := of_decide_eq_true hk30
      refine RW.idxOwnN ttok hS29 rfl rfl rfl rfl rfl rfl rfl rfl hb31.1 hb31.2 rfl rfl (fun q32 hq33 => ?_)
      have hS34 := hS29.flat (T := tInt) (cs := [.int .i64 x23]) (x := x23) ⟨rfl, rfl⟩
      have hS35 := hS34.bring 1 rfl
      refine RW.storeElN ttok hS35 rfl rfl rfl rfl rfl rfl hb31.2 hq33 rfl rfl (fun w36 hS37 => ?_)
      refine RW.nil ?_
      refine WP.region ?_
      refine RW.run ttok 3 rfl ?_
      refine RW.nil ?_
      cases hb18
      exact ⟨_, [(0, .slice A0_ x0.length k0_), (3, .slice A2 (List.replicate (x0.length : Int).toNat (0 : Int)).length k3), (4, .int .i64 (w64 (s8.1 + 1)))], ⟨rfl, rfl, rfl, trivial⟩, rfl, hS37, rfl⟩
    · skip
      rw [if_neg (not_t hc)] at hb18
      refine WP.exit ?_
      cases hb18
      exact ⟨_, [(3, .slice A2 (List.replicate (x0.length : Int).toNat (0 : Int)).length k3)], ⟨rfl, trivial⟩, ho19, hS21, rfl⟩

theorem enters67 : Enters Try.prog 67 := ⟨_, _, Try.func67, rfl, by kernel_rfl⟩
def m_spec_l00In (fuel : Nat) (x0 : Int) (x1 : Int) (x2 : Int) : Option (Bool) := (if (decide (x0 ≥ x1)) = true then some (decide (x0 ≤ x2)) else some false)

set_option maxRecDepth 100000 in
theorem spec_l00In_ok {w : World} {x0 : Int} {x1 : Int} {x2 : Int}  {fuel : Nat} {r : Bool} (hm : m_spec_l00In fuel x0 x1 x2 = some r) :
    Calls Try.prog 67 ⟨[.int .i64 x0, .int .i64 x1, .int .i64 x2]⟩ w (Ret fun v w8 => v = .bool r ∧ St w w8 []) := by
  refine Calls.into Try.func67 rfl 15 rfl rfl _ rfl ?_
  unfold m_spec_l00In at hm
  have hS := St.start w
  refine WP.seq ?_
  refine WP.region ?_
  refine RW.run ttok 1 rfl ?_
  refine RW.nil ?_
  refine WP.seq ?_
  refine WP.region ?_
  refine RW.run ttok 4 rfl ?_
  by_cases hg1 : (decide (x0 ≥ x1)) = true
  · skip
    rw [if_pos hg1] at hm
    refine RW.know 10 rfl (congrArg Value.bool hg1) ?_
    refine RW.run ttok 5 rfl ?_
    refine RW.nil ?_
    refine WP.ret ?_
    cases hm
    exact ⟨_, .cons (.tmp rfl) .nil, rfl, hS⟩
  · skip
    rw [if_neg hg1] at hm
    refine RW.know 10 rfl (congrArg Value.bool (Bool.eq_false_iff.2 hg1)) ?_
    refine RW.run ttok 5 rfl ?_
    refine RW.nil ?_
    refine WP.ret ?_
    cases hm
    exact ⟨_, .cons (.tmp rfl) .nil, rfl, hS⟩

theorem enters68 : Enters Try.prog 68 := ⟨_, _, Try.func68, rfl, by kernel_rfl⟩
def m_spec_l00Own (fuel : Nat) (x0 : (List Int)) : Option ((List Int)) := (if decide ((([] : (List Int)).length : Int) + (x0.length : Int) ≤ 4294967296) = true then some (([] : (List Int)) ++ x0) else none)

set_option maxRecDepth 100000 in
theorem spec_l00Own_ok {w : World} {A0_ : Option Addr} {k0_ : Nat} {x0 : (List Int)} (h0_ : ty22.ro w [.slice A0_ x0.length k0_] x0) {fuel : Nat} {r : (List Int)} (hm : m_spec_l00Own fuel x0 = some r) :
    Calls Try.prog 68 ⟨[.slice A0_ x0.length k0_]⟩ w (Ret fun v w8 => ∃ A0 k0, v = .slice A0 r.length k0 ∧ St w w8 [Own ty22 [.slice A0 r.length k0] r]) := by
  refine Calls.into Try.func68 rfl 6 rfl rfl _ rfl ?_
  unfold m_spec_l00Own at hm
  have hS := St.start w
  refine WP.seq ?_
  refine WP.region ?_
  refine RW.run ttok 1 rfl ?_
  refine RW.nil ?_
  refine WP.seq ?_
  refine WP.region ?_
  refine RW.newSlice0 (U := tInt) ttok hS rfl rfl rfl rfl rfl rfl rfl (fun A1 k2 w3 e4 hS5 => ?_)
  refine RW.run ttok 1 rfl ?_
  have hS6 := hS5.bring 0 rfl
  by_cases hk7 : decide ((([] : (List Int)).length : Int) + (x0.length : Int) ≤ 4294967296) = true
  case neg => rw [if_neg hk7] at hm; cases hm
  rw [if_pos hk7] at hm
  refine RW.appendRo ttok Flat.int hS6 rfl rfl rfl rfl rfl rfl (by decide) rfl rfl (ty22.ext hS6.ext h0_) (of_decide_eq_true hk7) (by decide) rfl rfl (fun A8 k9 w10 hS11 => ?_)
  refine RW.run ttok 1 rfl ?_
  refine RW.nil ?_
  refine WP.ret ?_
  cases hm
  exact ⟨_, .cons (.tmp rfl) .nil, A8, k9, rfl, hS11⟩

theorem enters69 : Enters Try.prog 69 := ⟨_, _, Try.func69, rfl, by kernel_rfl⟩
def m_spec_l23Task (fuel : Nat) (x0 : Int) : Option (Bool) := ((m_spec_l00In fuel x0 1 1000).bind fun r1 => some r1)

set_option maxRecDepth 100000 in
theorem spec_l23Task_ok {w : World} {x0 : Int}  {fuel : Nat} {r : Bool} (hm : m_spec_l23Task fuel x0 = some r) :
    Calls Try.prog 69 ⟨[.int .i64 x0]⟩ w (Ret fun v w8 => v = .bool r ∧ St w w8 []) := by
  refine Calls.into Try.func69 rfl 5 rfl rfl _ rfl ?_
  unfold m_spec_l23Task at hm
  have hS := St.start w
  refine WP.seq ?_
  refine WP.region ?_
  refine RW.run ttok 1 rfl ?_
  refine RW.nil ?_
  refine WP.seq ?_
  refine WP.region ?_
  refine RW.run ttok 1 rfl ?_
  obtain ⟨r1, hx2, hm⟩ := bind_some hm
  refine RW.call rfl rfl rfl enters67 (spec_l00In_ok  hx2) (fun v3 w4 hR5 => ?_)
  obtain ⟨rfl, hR6⟩ := hR5
  have hS7 := hS.join hR6
  refine RW.run ttok 1 rfl ?_
  refine RW.nil ?_
  refine WP.ret ?_
  cases hm
  exact ⟨_, .cons (.tmp rfl) .nil, rfl, hS7⟩

theorem enters15 : Enters Try.prog 15 := ⟨_, _, Try.func15, rfl, by kernel_rfl⟩
def m_spec_NewDeque_j4 (fuel : Nat) (t52 : (List D.DequeActor)) (t66 : (List Int)) : Option (D.Deque × Int) := some ((⟨0, 0, t66, t52, [], []⟩ : D.Deque), 0)
def m_spec_NewDeque_b3 (fuel : Nat) (s65 : Int × (List Int)) : Option (Rd (Int × (List Int)) ((List Int)) (D.Deque × Int)) := (if (decide (s65.1 > 0)) = true then (if decide ((s65.2.length : Int) + (([0] : (List Int)).length : Int) ≤ 4294967296) = true then some (.next (w64 (s65.1 - 1), (s65.2 ++ ([0] : (List Int))))) else none) else some (.brk s65.2))
def m_spec_NewDeque_j3 (fuel : Nat) (x0 : Int) (t52 : (List D.DequeActor)) : Option (D.Deque × Int) := ((iter (m_spec_NewDeque_b3 fuel) fuel (x0, [])).bind fun o => aft o (m_spec_NewDeque_j4 fuel t52))
def m_spec_NewDeque_j5 (fuel : Nat) (s51 : Int × (List D.DequeActor)) (t143 : (List Int)) : Option (Rd (Int × (List D.DequeActor)) ((List D.DequeActor)) (D.Deque × Int)) := (if decide ((s51.2.length : Int) + (([(⟨t143, 0, 0, 0, 0⟩ : D.DequeActor)] : (List D.DequeActor)).length : Int) ≤ 4294967296) = true then some (.next (w64 (s51.1 + 1), (s51.2 ++ ([(⟨t143, 0, 0, 0, 0⟩ : D.DequeActor)] : (List D.DequeActor))))) else none)
def m_spec_NewDeque_b4 (fuel : Nat) (s142 : Int × (List Int)) : Option (Rd (Int × (List Int)) ((List Int)) (Rd (Int × (List D.DequeActor)) ((List D.DequeActor)) (D.Deque × Int))) := (if (decide (s142.1 > 0)) = true then (if decide ((s142.2.length : Int) + (([0] : (List Int)).length : Int) ≤ 4294967296) = true then some (.next (w64 (s142.1 - 1), (s142.2 ++ ([0] : (List Int))))) else none) else some (.brk s142.2))
def m_spec_NewDeque_b2 (fuel : Nat) (x2 : (List Int)) (s51 : Int × (List D.DequeActor)) : Option (Rd (Int × (List D.DequeActor)) ((List D.DequeActor)) (D.Deque × Int)) := (if (decide (s51.1 < (x2.length : Int))) = true then ((idx x2 s51.1).bind fun x109 => ((m_spec_l00In fuel x109 0 10).bind fun r115 => (if (!r115) = true then some (.ret ((⟨0, 0, [], [], [], []⟩ : D.Deque), 2)) else ((idx x2 s51.1).bind fun x136 => ((iter (m_spec_NewDeque_b4 fuel) fuel (x136, [])).bind fun o => aft o (m_spec_NewDeque_j5 fuel s51)))))) else some (.brk s51.2))
def m_spec_NewDeque_j2 (fuel : Nat) (x0 : Int) (x2 : (List Int)) (r17 : (List Int)) (t41 : Unit) : Option (D.Deque × Int) := ((iter (m_spec_NewDeque_b2 fuel x2) fuel (0, ([(⟨r17, 0, 0, 0, 0⟩ : D.DequeActor)] : (List D.DequeActor)))).bind fun o => aft o (m_spec_NewDeque_j3 fuel x0))
def m_spec_NewDeque_j6 (fuel : Nat) (s40 : Int) (t198 : Bool) : Option (Rd (Int) (Unit) (D.Deque × Int)) := (if t198 = true then some (.ret ((⟨0, 0, [], [], [], []⟩ : D.Deque), 2)) else some (.next (w64 (s40 + 1))))
def m_spec_NewDeque_b1 (fuel : Nat) (x1 : (List Int)) (s40 : Int) : Option (Rd (Int) (Unit) (D.Deque × Int)) := (if (decide (s40 < (x1.length : Int))) = true then ((idx x1 s40).bind fun x210 => (if (x210 != 0) = true then ((idx x1 s40).bind fun x217 => ((m_spec_l23Task fuel x217).bind fun r223 => m_spec_NewDeque_j6 fuel s40 (!r223))) else m_spec_NewDeque_j6 fuel s40 false)) else some (.brk ()))
def m_spec_NewDeque_j1 (fuel : Nat) (x0 : Int) (x1 : (List Int)) (x2 : (List Int)) (t5 : Bool) : Option (D.Deque × Int) := (if t5 = true then some ((⟨0, 0, [], [], [], []⟩ : D.Deque), 2) else ((m_spec_l00Own fuel x1).bind fun r17 => ((iter (m_spec_NewDeque_b1 fuel x1) fuel 0).bind fun o => aft o (m_spec_NewDeque_j2 fuel x0 x2 r17))))
def m_spec_NewDeque (fuel : Nat) (x0 : Int) (x1 : (List Int)) (x2 : (List Int)) : Option (D.Deque × Int) := ((m_spec_l00In fuel x0 1 8).bind fun r230 => (if (!r230) = true then m_spec_NewDeque_j1 fuel x0 x1 x2 true else (if (decide ((x1.length : Int) > 10)) = true then m_spec_NewDeque_j1 fuel x0 x1 x2 true else m_spec_NewDeque_j1 fuel x0 x1 x2 (decide ((x2.length : Int) > 3)))))

set_option maxRecDepth 100000 in
theorem spec_NewDeque_ok {w : World} {x0 : Int} {A1_ : Option Addr} {k1_ : Nat} {x1 : (List Int)} {A2_ : Option Addr} {k2_ : Nat} {x2 : (List Int)} (h1_ : ty22.ro w [.slice A1_ x1.length k1_] x1) (h2_ : ty22.ro w [.slice A2_ x2.length k2_] x2) {fuel : Nat} {r : D.Deque × Int} (hm : m_spec_NewDeque fuel x0 x1 x2 = some r) :
    Calls Try.prog 15 ⟨[.int .i64 x0, .slice A1_ x1.length k1_, .slice A2_ x2.length k2_]⟩ w (Ret fun v w8 => ∃ A0 k0 A1 k1 A2 k2 A3 k3, v = .tuple ⟨[.agg ⟨[.int .i64 r.1.Top, .int .i64 r.1.Bottom, .slice A0 r.1.Buffer.length k0, .slice A1 r.1.Actors.length k1, .slice A2 r.1.Taken.length k2, .slice A3 r.1.Refused.length k3]⟩, .int .i64 r.2]⟩ ∧ St w w8 [Own ty22 [.slice A0 r.1.Buffer.length k0] r.1.Buffer, Own ty23 [.slice A1 r.1.Actors.length k1] r.1.Actors, Own ty24 [.slice A2 r.1.Taken.length k2] r.1.Taken, Own ty22 [.slice A3 r.1.Refused.length k3] r.1.Refused]) := by
  refine Calls.into Try.func15 rfl 97 rfl rfl _ rfl ?_
  unfold m_spec_NewDeque at hm
  have hS := St.start w
  refine WP.seq ?_
  refine WP.region ?_
  refine RW.new ttok hS rfl rfl rfl rfl (fun g1 w2 e3 hS4 => ?_)
  refine RW.run ttok 1 rfl ?_
  refine RW.nil ?_
  refine WP.seq ?_
  refine WP.seq ?_
  refine WP.cut (fun (t5 : Bool) F w9 => m_spec_NewDeque_j1 fuel x0 x1 x2 t5 = some r ∧ Ext w2 w9 ∧ St w w9 [Box g1 [.int .i64 0, .int .i64 0, .slice none 0 0, .slice none 0 0, .slice none 0 0, .slice none 0 0] 26] ∧ F = [(0, .int .i64 x0), (1, .slice A1_ x1.length k1_), (2, .slice A2_ x2.length k2_), (6, .pointer (some ⟨g1, 0, none⟩)), (26, .bool t5)]) ?_ ?_
  · skip
    rintro t5 F w8 ⟨hm, hE6, hS7, rfl⟩
    unfold m_spec_NewDeque_j1 at hm
    refine WP.cond t5 rfl (fun hc => ?_) (fun hc => ?_)
    · skip
      rw [if_pos hc] at hm
      refine WP.seq ?_
      refine WP.region ?_
      refine RW.quiet rfl (Quiet.build ttok rfl rfl rfl rfl rfl) rfl rfl ?_
      have hS10 := hS7.bring 0 rfl
      refine RW.store ttok (A := []) hS10 rfl rfl rfl rfl rfl 0 rfl rfl rfl rfl rfl (fun w11 hS12 => ?_)
      refine RW.run ttok 1 rfl ?_
      refine RW.nil ?_
      refine WP.ret ?_
      cases hm
      have hS13 := hS12.nilSl tInt 2
      have hS14 := hS13.nilSl ty110 110
      have hS15 := hS14.nilSl ty179 179
      have hS16 := hS15.nilSl tInt 2
      exact ⟨_, .cons (ResIs.agg ttok rfl rfl rfl ((hS12.bring 0 rfl).box) rfl) (.cons (.tmp rfl) .nil), none, 0, none, 0, none, 0, none, 0, rfl, (((((hS16.bring 0 rfl).bring 1 rfl).bring 2 rfl).bring 3 rfl).taken 4)⟩
    · skip
      rw [if_neg (not_t hc)] at hm
      refine WP.skip ?_
      refine WP.seq ?_
      refine WP.region ?_
      refine RW.run ttok 1 rfl ?_
      obtain ⟨r17, hx18, hm⟩ := bind_some hm
      refine RW.call rfl rfl rfl enters68 (spec_l00Own_ok (ty22.ext hS7.ext h1_) hx18) (fun v19 w20 hR21 => ?_)
      obtain ⟨A22, k23, rfl, hR24⟩ := hR21
      have hS25 := hS7.join hR24
      refine RW.quiet rfl (Quiet.build ttok rfl rfl rfl rfl rfl) rfl rfl ?_
      have hS26 := hS25.bring 0 rfl
      have hS27 := ty110_shutS (c := (⟨r17, 0, 0, 0, 0⟩ : D.DequeActor)) (B := _) hS26
      refine RW.newSlice (U := ty110) (els := [.slice A22 r17.length k23, .int .i64 0, .int .i64 0, .int .i64 0, .int .i64 0]) (ys := [(⟨r17, 0, 0, 0, 0⟩ : D.DequeActor)]) ttok (hS27.oneEl) rfl rfl rfl rfl rfl rfl rfl rfl rfl rfl rfl rfl (fun A28 k29 w30 e31 hS32 => ?_)
      refine RW.quiet rfl (Quiet.build ttok rfl rfl rfl rfl rfl) rfl rfl ?_
      refine RW.new ttok hS32 rfl rfl rfl rfl (fun g33 w34 e35 hS36 => ?_)
      have hS37 := hS36.bring 0 rfl
      refine RW.store ttok (A := []) hS37 rfl rfl rfl rfl rfl 0 rfl rfl rfl rfl rfl (fun w38 hS39 => ?_)
      refine RW.nil ?_
      refine WP.seq ?_
      refine WP.seq ?_
      refine WP.region ?_
      refine RW.run ttok 1 rfl ?_
      refine RW.nil ?_
      obtain ⟨o47, hl48, hm⟩ := bind_some hm
      refine WP.cut (fun (t41 : Unit) F w9 => o47 = .inl t41 ∧ Ext w38 w9 ∧ St w w9 [Box g33 [.int .i64 0, .int .i64 0, .slice none 0 0, .slice A28 ([(⟨r17, 0, 0, 0, 0⟩ : D.DequeActor)] : (List D.DequeActor)).length k29, .slice none 0 0, .slice none 0 0] 26, Own ty23 [.slice A28 ([(⟨r17, 0, 0, 0, 0⟩ : D.DequeActor)] : (List D.DequeActor)).length k29] ([(⟨r17, 0, 0, 0, 0⟩ : D.DequeActor)] : (List D.DequeActor)), Box g1 [.int .i64 0, .int .i64 0, .slice none 0 0, .slice none 0 0, .slice none 0 0, .slice none 0 0] 26] ∧ F = [(0, .int .i64 x0), (2, .slice A2_ x2.length k2_), (6, .pointer (some ⟨g1, 0, none⟩)), (8, .pointer (some ⟨g33, 0, none⟩))]) ?_ ?_
      · skip
        rintro t41 F w46 ⟨ho50, hE45, hS49, rfl⟩
        subst ho50
        rw [aft_inl] at hm
        unfold m_spec_NewDeque_j2 at hm
        refine WP.seq ?_
        refine WP.seq ?_
        refine WP.region ?_
        refine RW.run ttok 1 rfl ?_
        refine RW.nil ?_
        obtain ⟨o61, hl62, hm⟩ := bind_some hm
        refine WP.cut (fun (t52 : (List D.DequeActor)) F w9 => ∃ A58 k59, o61 = .inl t52 ∧ St w w9 [Box g33 [.int .i64 0, .int .i64 0, .slice none 0 0, .slice A58 t52.length k59, .slice none 0 0, .slice none 0 0] 26, Own ty23 [.slice A58 t52.length k59] t52, Box g1 [.int .i64 0, .int .i64 0, .slice none 0 0, .slice none 0 0, .slice none 0 0, .slice none 0 0] 26] ∧ F = [(0, .int .i64 x0), (6, .pointer (some ⟨g1, 0, none⟩)), (8, .pointer (some ⟨g33, 0, none⟩))]) ?_ ?_
        · skip
          rintro t52 F w60 ⟨A58, k59, ho64, hS63, rfl⟩
          subst ho64
          rw [aft_inl] at hm
          unfold m_spec_NewDeque_j3 at hm
          refine WP.seq ?_
          refine WP.seq ?_
          refine WP.region ?_
          refine RW.run ttok 2 rfl ?_
          refine RW.nil ?_
          obtain ⟨o75, hl76, hm⟩ := bind_some hm
          refine WP.cut (fun (t66 : (List Int)) F w9 => ∃ A72 k73, o75 = .inl t66 ∧ St w w9 [Own ty22 [.slice A72 t66.length k73] t66, Box g33 [.int .i64 0, .int .i64 0, .slice A72 t66.length k73, .slice A58 t52.length k59, .slice none 0 0, .slice none 0 0] 26, Own ty23 [.slice A58 t52.length k59] t52, Box g1 [.int .i64 0, .int .i64 0, .slice none 0 0, .slice none 0 0, .slice none 0 0, .slice none 0 0] 26] ∧ F = [(6, .pointer (some ⟨g1, 0, none⟩)), (8, .pointer (some ⟨g33, 0, none⟩))]) ?_ ?_
          · skip
            rintro t66 F w74 ⟨A72, k73, ho78, hS77, rfl⟩
            subst ho78
            rw [aft_inl] at hm
            unfold m_spec_NewDeque_j4 at hm
            refine WP.seq ?_
            refine WP.region ?_
            refine RW.loadN ttok rfl rfl rfl rfl rfl ((hS77.bring 1 rfl).box) rfl rfl rfl ?_
            have hS79 := hS77.bring 3 rfl
            refine RW.store ttok (A := []) hS79 rfl rfl rfl rfl rfl 0 rfl rfl rfl rfl rfl (fun w80 hS81 => ?_)
            refine RW.run ttok 1 rfl ?_
            refine RW.nil ?_
            refine WP.ret ?_
            cases hm
            have hS82 := hS81.nilSl ty179 179
            have hS83 := hS82.nilSl tInt 2
            exact ⟨_, .cons (ResIs.agg ttok rfl rfl rfl ((hS81.bring 0 rfl).box) rfl) (.cons (.tmp rfl) .nil), A72, k73, A58, k59, none, 0, none, 0, rfl, (((((hS83.bring 0 rfl).bring 1 rfl).bring 5 rfl).bring 4 rfl).taken 4)⟩
          · skip
            refine WP.block ?_
            have hS84 := hS63.nilSl tInt 2
            refine WP.weak [(6, .pointer (some ⟨g1, 0, none⟩)), (8, .pointer (some ⟨g33, 0, none⟩)), (13, .int .i64 x0)] ⟨rfl, rfl, rfl, trivial⟩ ?_
            refine WP.iter (fun (s65 : Int × (List Int)) F w9 => ∃ A70 k71, St w w9 [Own ty22 [.slice A70 s65.2.length k71] s65.2, Box g33 [.int .i64 0, .int .i64 0, .slice A70 s65.2.length k71, .slice A58 t52.length k59, .slice none 0 0, .slice none 0 0] 26, Own ty23 [.slice A58 t52.length k59] t52, Box g1 [.int .i64 0, .int .i64 0, .slice none 0 0, .slice none 0 0, .slice none 0 0, .slice none 0 0] 26] ∧ F = [(6, .pointer (some ⟨g1, 0, none⟩)), (8, .pointer (some ⟨g33, 0, none⟩)), (13, .int .i64 s65.1)]) _ hl76 ⟨none, 0, hS84, rfl⟩ ?_
            rintro s65 F w89 _ o87 ⟨A70, k71, hS88, rfl⟩ hb85 ho86
            unfold m_spec_NewDeque_b3 at hb85
            refine WP.seq ?_
            refine WP.seq ?_
            refine WP.region ?_
            refine RW.run ttok 2 rfl ?_
            refine RW.nil ?_
            refine WP.cond (decide (s65.1 > 0)) rfl (fun hc => ?_) (fun hc => ?_)
            · skip
              rw [if_pos hc] at hb85
              refine WP.skip ?_
              refine WP.seq ?_
              refine WP.block ?_
              refine WP.region ?_
              refine RW.run ttok 1 rfl ?_
              refine RW.load1 ttok rfl rfl rfl rfl rfl ((hS88.bring 1 rfl).box) 2 rfl rfl rfl rfl ?_
              refine RW.newSlice (U := tInt) (els := [.int .i64 0]) (ys := [0]) ttok (hS88.flatEls (U := tInt) (els := [.int .i64 0]) (ys := [0]) ⟨[.int .i64 0], _, [], [], rfl, rfl, ⟨rfl, rfl⟩, ⟨rfl, rfl⟩⟩) rfl rfl rfl rfl rfl rfl rfl rfl rfl rfl rfl rfl (fun A90 k91 w92 e93 hS94 => ?_)
              have hS95 := hS94.bring 1 rfl
              by_cases hk96 : decide ((s65.2.length : Int) + (([0] : (List Int)).length : Int) ≤ 4294967296) = true
              case neg => rw [if_neg hk96] at hb85; cases hb85
              rw [if_pos hk96] at hb85
              refine RW.appendRo ttok Flat.int hS95 rfl rfl rfl rfl rfl rfl (by decide) rfl rfl ((hS95.bring 1 rfl).own) (of_decide_eq_true hk96) (by decide) rfl rfl (fun A97 k98 w99 hS100 => ?_)
              refine RW.run ttok 1 rfl ?_
              have hS101 := hS100.bring 2 rfl
              refine RW.store ttok (A := []) hS101 rfl rfl rfl rfl rfl 2 rfl rfl rfl rfl rfl (fun w102 hS103 => ?_)
              refine RW.nil ?_
              refine WP.region ?_
              refine RW.run ttok 3 rfl ?_
              refine RW.nil ?_
              cases hb85
              exact ⟨_, [(6, .pointer (some ⟨g1, 0, none⟩)), (8, .pointer (some ⟨g33, 0, none⟩)), (13, .int .i64 (w64 (s65.1 - 1)))], ⟨rfl, rfl, rfl, trivial⟩, rfl, A97, k98, (((hS103.bring 2 rfl).drop.bring 0 rfl).bring 1 rfl), rfl⟩
            · skip
              rw [if_neg (not_t hc)] at hb85
              refine WP.exit ?_
              cases hb85
              exact ⟨_, [(6, .pointer (some ⟨g1, 0, none⟩)), (8, .pointer (some ⟨g33, 0, none⟩))], ⟨rfl, rfl, trivial⟩, A70, k71, ho86, hS88, rfl⟩
        · skip
          refine WP.block ?_
          refine WP.weak [(0, .int .i64 x0), (2, .slice A2_ x2.length k2_), (6, .pointer (some ⟨g1, 0, none⟩)), (8, .pointer (some ⟨g33, 0, none⟩)), (10, .int .i64 0)] ⟨rfl, rfl, rfl, rfl, rfl, trivial⟩ ?_
          refine WP.iter (fun (s51 : Int × (List D.DequeActor)) F w9 => ∃ A56 k57, St w w9 [Box g33 [.int .i64 0, .int .i64 0, .slice none 0 0, .slice A56 s51.2.length k57, .slice none 0 0, .slice none 0 0] 26, Own ty23 [.slice A56 s51.2.length k57] s51.2, Box g1 [.int .i64 0, .int .i64 0, .slice none 0 0, .slice none 0 0, .slice none 0 0, .slice none 0 0] 26] ∧ F = [(0, .int .i64 x0), (2, .slice A2_ x2.length k2_), (6, .pointer (some ⟨g1, 0, none⟩)), (8, .pointer (some ⟨g33, 0, none⟩)), (10, .int .i64 s51.1)]) _ hl62 ⟨A28, k29, hS49, rfl⟩ ?_
          rintro s51 F w108 _ o106 ⟨A56, k57, hS107, rfl⟩ hb104 ho105
          unfold m_spec_NewDeque_b2 at hb104
          refine WP.seq ?_
          refine WP.seq ?_
          refine WP.region ?_
          refine RW.run ttok 4 rfl ?_
          refine RW.nil ?_
          refine WP.cond (decide (s51.1 < (x2.length : Int))) rfl (fun hc => ?_) (fun hc => ?_)
          · skip
            rw [if_pos hc] at hb104
            refine WP.skip ?_
            refine WP.seq ?_
            refine WP.block ?_
            refine WP.seq ?_
            refine WP.seq ?_
            refine WP.region ?_
            refine RW.run ttok 2 rfl ?_
            obtain ⟨x109, hx110, hb104⟩ := bind_some hb104
            refine RW.idx ttok hS107.ext rfl rfl rfl rfl rfl rfl (by decide) rfl rfl h2_ (idx_some hx110).1 (idx_some hx110).2 rfl rfl (fun p111 es112 ha113 hr114 => ?_)
            cases hr114
            refine RW.load1 ttok rfl rfl rfl rfl rfl (At.ext hS107.ext ha113) 0 rfl rfl rfl rfl ?_
            obtain ⟨r115, hx116, hb104⟩ := bind_some hb104
            refine RW.call rfl rfl rfl enters67 (spec_l00In_ok  hx116) (fun v117 w118 hR119 => ?_)
            obtain ⟨rfl, hR120⟩ := hR119
            have hS121 := hS107.join hR120
            refine RW.run ttok 1 rfl ?_
            refine RW.nil ?_
            refine WP.cond (!r115) rfl (fun hc => ?_) (fun hc => ?_)
            · skip
              rw [if_pos hc] at hb104
              refine WP.seq ?_
              refine WP.region ?_
              refine RW.quiet rfl (Quiet.build ttok rfl rfl rfl rfl rfl) rfl rfl ?_
              have hS122 := hS121.bring 2 rfl
              refine RW.store ttok (A := []) hS122 rfl rfl rfl rfl rfl 0 rfl rfl rfl rfl rfl (fun w123 hS124 => ?_)
              refine RW.run ttok 1 rfl ?_
              refine RW.nil ?_
              refine WP.ret ?_
              cases hb104
              cases ho105
              have hm : some _ = some _ := hm
              cases hm
              have hS125 := hS124.nilSl tInt 2
              have hS126 := hS125.nilSl ty110 110
              have hS127 := hS126.nilSl ty179 179
              have hS128 := hS127.nilSl tInt 2
              exact ⟨_, .cons (ResIs.agg ttok rfl rfl rfl ((hS124.bring 0 rfl).box) rfl) (.cons (.tmp rfl) .nil), none, 0, none, 0, none, 0, none, 0, rfl, (((((hS128.bring 0 rfl).bring 1 rfl).bring 2 rfl).bring 3 rfl).taken 4)⟩
            · skip
              rw [if_neg (not_t hc)] at hb104
              refine WP.skip ?_
              refine WP.seq ?_
              refine WP.region ?_
              refine RW.quiet rfl (Quiet.build ttok rfl rfl rfl rfl rfl) rfl rfl ?_
              refine RW.new ttok hS121 rfl rfl rfl rfl (fun g129 w130 e131 hS132 => ?_)
              have hS133 := hS132.bring 0 rfl
              refine RW.store ttok (A := []) hS133 rfl rfl rfl rfl rfl 0 rfl rfl rfl rfl rfl (fun w134 hS135 => ?_)
              refine RW.nil ?_
              refine WP.seq ?_
              refine WP.seq ?_
              refine WP.region ?_
              refine RW.run ttok 2 rfl ?_
              obtain ⟨x136, hx137, hb104⟩ := bind_some hb104
              refine RW.idx ttok hS135.ext rfl rfl rfl rfl rfl rfl (by decide) rfl rfl h2_ (idx_some hx137).1 (idx_some hx137).2 rfl rfl (fun p138 es139 ha140 hr141 => ?_)
              cases hr141
              refine RW.load1 ttok rfl rfl rfl rfl rfl (At.ext hS135.ext ha140) 0 rfl rfl rfl rfl ?_
              refine RW.run ttok 1 rfl ?_
              refine RW.nil ?_
              obtain ⟨o152, hl153, hb104⟩ := bind_some hb104
              refine WP.cut (fun (t143 : (List Int)) F w9 => ∃ A149 k150, o152 = .inl t143 ∧ St w w9 [Own ty22 [.slice A149 t143.length k150] t143, Box g129 [.slice A149 t143.length k150, .int .i64 0, .int .i64 0, .int .i64 0, .int .i64 0] 110, Box g33 [.int .i64 0, .int .i64 0, .slice none 0 0, .slice A56 s51.2.length k57, .slice none 0 0, .slice none 0 0] 26, Own ty23 [.slice A56 s51.2.length k57] s51.2, Box g1 [.int .i64 0, .int .i64 0, .slice none 0 0, .slice none 0 0, .slice none 0 0, .slice none 0 0] 26] ∧ F = [(0, .int .i64 x0), (2, .slice A2_ x2.length k2_), (6, .pointer (some ⟨g1, 0, none⟩)), (8, .pointer (some ⟨g33, 0, none⟩)), (10, .int .i64 s51.1), (11, .pointer (some ⟨g129, 0, none⟩))]) ?_ ?_
              · skip
                rintro t143 F w151 ⟨A149, k150, ho155, hS154, rfl⟩
                subst ho155
                rw [aft_inl] at hb104
                unfold m_spec_NewDeque_j5 at hb104
                refine WP.region ?_
                refine RW.run ttok 1 rfl ?_
                refine RW.load1 ttok rfl rfl rfl rfl rfl ((hS154.bring 2 rfl).box) 3 rfl rfl rfl rfl ?_
                refine RW.loadN ttok rfl rfl rfl rfl rfl ((hS154.bring 1 rfl).box) rfl rfl rfl ?_
                have hS156 := hS154.bring 0 rfl
                have hS157 := ty110_shutS (c := (⟨t143, 0, 0, 0, 0⟩ : D.DequeActor)) (B := _) hS156
                refine RW.newSlice (U := ty110) (els := [.slice A149 t143.length k150, .int .i64 0, .int .i64 0, .int .i64 0, .int .i64 0]) (ys := [(⟨t143, 0, 0, 0, 0⟩ : D.DequeActor)]) ttok (hS157.oneEl) rfl rfl rfl rfl rfl rfl rfl rfl rfl rfl rfl rfl (fun A158 k159 w160 e161 hS162 => ?_)
                have hS163 := hS162.bring 3 rfl
                have hS164 := hS163.bring 1 rfl
                by_cases hk165 : decide ((s51.2.length : Int) + (([(⟨t143, 0, 0, 0, 0⟩ : D.DequeActor)] : (List D.DequeActor)).length : Int) ≤ 4294967296) = true
                case neg => rw [if_neg hk165] at hb104; cases hb104
                rw [if_pos hk165] at hb104
                refine RW.appendOwn ttok hS164 rfl rfl rfl rfl rfl rfl (by decide) rfl rfl (of_decide_eq_true hk165) (by decide) rfl rfl (fun A166 k167 w168 hS169 => ?_)
                refine RW.run ttok 1 rfl ?_
                have hS170 := hS169.bring 2 rfl
                refine RW.store ttok (A := []) hS170 rfl rfl rfl rfl rfl 3 rfl rfl rfl rfl rfl (fun w171 hS172 => ?_)
                refine RW.nil ?_
                refine WP.region ?_
                refine RW.run ttok 3 rfl ?_
                refine RW.nil ?_
                cases hb104
                exact ⟨_, [(0, .int .i64 x0), (2, .slice A2_ x2.length k2_), (6, .pointer (some ⟨g1, 0, none⟩)), (8, .pointer (some ⟨g33, 0, none⟩)), (10, .int .i64 (w64 (s51.1 + 1)))], ⟨rfl, rfl, rfl, rfl, rfl, trivial⟩, rfl, A166, k167, (hS172.bring 2 rfl).drop, rfl⟩
              · skip
                refine WP.block ?_
                have hS173 := hS135.nilSl tInt 2
                refine WP.weak [(0, .int .i64 x0), (2, .slice A2_ x2.length k2_), (6, .pointer (some ⟨g1, 0, none⟩)), (8, .pointer (some ⟨g33, 0, none⟩)), (10, .int .i64 s51.1), (11, .pointer (some ⟨g129, 0, none⟩)), (12, .int .i64 x136)] ⟨rfl, rfl, rfl, rfl, rfl, rfl, rfl, trivial⟩ ?_
                refine WP.iter (fun (s142 : Int × (List Int)) F w9 => ∃ A147 k148, St w w9 [Own ty22 [.slice A147 s142.2.length k148] s142.2, Box g129 [.slice A147 s142.2.length k148, .int .i64 0, .int .i64 0, .int .i64 0, .int .i64 0] 110, Box g33 [.int .i64 0, .int .i64 0, .slice none 0 0, .slice A56 s51.2.length k57, .slice none 0 0, .slice none 0 0] 26, Own ty23 [.slice A56 s51.2.length k57] s51.2, Box g1 [.int .i64 0, .int .i64 0, .slice none 0 0, .slice none 0 0, .slice none 0 0, .slice none 0 0] 26] ∧ F = [(0, .int .i64 x0), (2, .slice A2_ x2.length k2_), (6, .pointer (some ⟨g1, 0, none⟩)), (8, .pointer (some ⟨g33, 0, none⟩)), (10, .int .i64 s51.1), (11, .pointer (some ⟨g129, 0, none⟩)), (12, .int .i64 s142.1)]) _ hl153 ⟨none, 0, hS173, rfl⟩ ?_
                rintro s142 F w178 _ o176 ⟨A147, k148, hS177, rfl⟩ hb174 ho175
                unfold m_spec_NewDeque_b4 at hb174
                refine WP.seq ?_
                refine WP.seq ?_
                refine WP.region ?_
                refine RW.run ttok 2 rfl ?_
                refine RW.nil ?_
                refine WP.cond (decide (s142.1 > 0)) rfl (fun hc => ?_) (fun hc => ?_)
                · skip
                  rw [if_pos hc] at hb174
                  refine WP.skip ?_
                  refine WP.seq ?_
                  refine WP.block ?_
                  refine WP.region ?_
                  refine RW.run ttok 1 rfl ?_
                  refine RW.load1 ttok rfl rfl rfl rfl rfl ((hS177.bring 1 rfl).box) 0 rfl rfl rfl rfl ?_
                  refine RW.newSlice (U := tInt) (els := [.int .i64 0]) (ys := [0]) ttok (hS177.flatEls (U := tInt) (els := [.int .i64 0]) (ys := [0]) ⟨[.int .i64 0], _, [], [], rfl, rfl, ⟨rfl, rfl⟩, ⟨rfl, rfl⟩⟩) rfl rfl rfl rfl rfl rfl rfl rfl rfl rfl rfl rfl (fun A179 k180 w181 e182 hS183 => ?_)
                  have hS184 := hS183.bring 1 rfl
                  by_cases hk185 : decide ((s142.2.length : Int) + (([0] : (List Int)).length : Int) ≤ 4294967296) = true
                  case neg => rw [if_neg hk185] at hb174; cases hb174
                  rw [if_pos hk185] at hb174
                  refine RW.appendRo ttok Flat.int hS184 rfl rfl rfl rfl rfl rfl (by decide) rfl rfl ((hS184.bring 1 rfl).own) (of_decide_eq_true hk185) (by decide) rfl rfl (fun A186 k187 w188 hS189 => ?_)
                  refine RW.run ttok 1 rfl ?_
                  have hS190 := hS189.bring 2 rfl
                  refine RW.store ttok (A := []) hS190 rfl rfl rfl rfl rfl 0 rfl rfl rfl rfl rfl (fun w191 hS192 => ?_)
                  refine RW.nil ?_
                  refine WP.region ?_
                  refine RW.run ttok 3 rfl ?_
                  refine RW.nil ?_
                  cases hb174
                  exact ⟨_, [(0, .int .i64 x0), (2, .slice A2_ x2.length k2_), (6, .pointer (some ⟨g1, 0, none⟩)), (8, .pointer (some ⟨g33, 0, none⟩)), (10, .int .i64 s51.1), (11, .pointer (some ⟨g129, 0, none⟩)), (12, .int .i64 (w64 (s142.1 - 1)))], ⟨rfl, rfl, rfl, rfl, rfl, rfl, rfl, trivial⟩, rfl, A186, k187, (((hS192.bring 2 rfl).drop.bring 0 rfl).bring 1 rfl), rfl⟩
                · skip
                  rw [if_neg (not_t hc)] at hb174
                  refine WP.exit ?_
                  cases hb174
                  exact ⟨_, [(0, .int .i64 x0), (2, .slice A2_ x2.length k2_), (6, .pointer (some ⟨g1, 0, none⟩)), (8, .pointer (some ⟨g33, 0, none⟩)), (10, .int .i64 s51.1), (11, .pointer (some ⟨g129, 0, none⟩))], ⟨rfl, rfl, rfl, rfl, rfl, rfl, trivial⟩, A147, k148, ho175, hS177, rfl⟩
          · skip
            rw [if_neg (not_t hc)] at hb104
            refine WP.exit ?_
            cases hb104
            exact ⟨_, [(0, .int .i64 x0), (6, .pointer (some ⟨g1, 0, none⟩)), (8, .pointer (some ⟨g33, 0, none⟩))], ⟨rfl, rfl, rfl, trivial⟩, A56, k57, ho105, hS107, rfl⟩
      · skip
        refine WP.block ?_
        refine WP.weak [(0, .int .i64 x0), (1, .slice A1_ x1.length k1_), (2, .slice A2_ x2.length k2_), (6, .pointer (some ⟨g1, 0, none⟩)), (8, .pointer (some ⟨g33, 0, none⟩)), (9, .int .i64 0)] ⟨rfl, rfl, rfl, rfl, rfl, rfl, trivial⟩ ?_
        refine WP.iter (fun (s40 : Int) F w9 => Ext w38 w9 ∧ St w w9 [Box g33 [.int .i64 0, .int .i64 0, .slice none 0 0, .slice A28 ([(⟨r17, 0, 0, 0, 0⟩ : D.DequeActor)] : (List D.DequeActor)).length k29, .slice none 0 0, .slice none 0 0] 26, Own ty23 [.slice A28 ([(⟨r17, 0, 0, 0, 0⟩ : D.DequeActor)] : (List D.DequeActor)).length k29] ([(⟨r17, 0, 0, 0, 0⟩ : D.DequeActor)] : (List D.DequeActor)), Box g1 [.int .i64 0, .int .i64 0, .slice none 0 0, .slice none 0 0, .slice none 0 0, .slice none 0 0] 26] ∧ F = [(0, .int .i64 x0), (1, .slice A1_ x1.length k1_), (2, .slice A2_ x2.length k2_), (6, .pointer (some ⟨g1, 0, none⟩)), (8, .pointer (some ⟨g33, 0, none⟩)), (9, .int .i64 s40)]) _ hl48 ⟨(Ext.refl _), hS39, rfl⟩ ?_
        rintro s40 F w197 _ o195 ⟨hE44, hS196, rfl⟩ hb193 ho194
        unfold m_spec_NewDeque_b1 at hb193
        refine WP.seq ?_
        refine WP.seq ?_
        refine WP.region ?_
        refine RW.run ttok 4 rfl ?_
        refine RW.nil ?_
        refine WP.cond (decide (s40 < (x1.length : Int))) rfl (fun hc => ?_) (fun hc => ?_)
        · skip
          rw [if_pos hc] at hb193
          refine WP.skip ?_
          refine WP.seq ?_
          refine WP.block ?_
          refine WP.seq ?_
          refine WP.cut (fun (t198 : Bool) F w9 => m_spec_NewDeque_j6 fuel s40 t198 = some o195 ∧ Ext w197 w9 ∧ St w w9 [Box g33 [.int .i64 0, .int .i64 0, .slice none 0 0, .slice A28 ([(⟨r17, 0, 0, 0, 0⟩ : D.DequeActor)] : (List D.DequeActor)).length k29, .slice none 0 0, .slice none 0 0] 26, Own ty23 [.slice A28 ([(⟨r17, 0, 0, 0, 0⟩ : D.DequeActor)] : (List D.DequeActor)).length k29] ([(⟨r17, 0, 0, 0, 0⟩ : D.DequeActor)] : (List D.DequeActor)), Box g1 [.int .i64 0, .int .i64 0, .slice none 0 0, .slice none 0 0, .slice none 0 0, .slice none 0 0] 26] ∧ F = [(0, .int .i64 x0), (1, .slice A1_ x1.length k1_), (2, .slice A2_ x2.length k2_), (6, .pointer (some ⟨g1, 0, none⟩)), (8, .pointer (some ⟨g33, 0, none⟩)), (9, .int .i64 s40), (51, .bool t198)]) ?_ ?_
          · skip
            rintro t198 F w201 ⟨hb193, hE199, hS200, rfl⟩
            unfold m_spec_NewDeque_j6 at hb193
            refine WP.cond t198 rfl (fun hc => ?_) (fun hc => ?_)
            · skip
              rw [if_pos hc] at hb193
              refine WP.seq ?_
              refine WP.region ?_
              refine RW.quiet rfl (Quiet.build ttok rfl rfl rfl rfl rfl) rfl rfl ?_
              have hS203 := hS200.bring 2 rfl
              refine RW.store ttok (A := []) hS203 rfl rfl rfl rfl rfl 0 rfl rfl rfl rfl rfl (fun w204 hS205 => ?_)
              refine RW.run ttok 1 rfl ?_
              refine RW.nil ?_
              refine WP.ret ?_
              cases hb193
              cases ho194
              have hm : some _ = some _ := hm
              cases hm
              have hS206 := hS205.nilSl tInt 2
              have hS207 := hS206.nilSl ty110 110
              have hS208 := hS207.nilSl ty179 179
              have hS209 := hS208.nilSl tInt 2
              exact ⟨_, .cons (ResIs.agg ttok rfl rfl rfl ((hS205.bring 0 rfl).box) rfl) (.cons (.tmp rfl) .nil), none, 0, none, 0, none, 0, none, 0, rfl, (((((hS209.bring 0 rfl).bring 1 rfl).bring 2 rfl).bring 3 rfl).taken 4)⟩
            · skip
              rw [if_neg (not_t hc)] at hb193
              refine WP.skip ?_
              refine WP.region ?_
              refine RW.run ttok 3 rfl ?_
              refine RW.nil ?_
              cases hb193
              exact ⟨_, [(0, .int .i64 x0), (1, .slice A1_ x1.length k1_), (2, .slice A2_ x2.length k2_), (6, .pointer (some ⟨g1, 0, none⟩)), (8, .pointer (some ⟨g33, 0, none⟩)), (9, .int .i64 (w64 (s40 + 1)))], ⟨rfl, rfl, rfl, rfl, rfl, rfl, trivial⟩, rfl, (hE44.trans hE199), hS200, rfl⟩
          · skip
            refine WP.region ?_
            refine RW.run ttok 2 rfl ?_
            obtain ⟨x210, hx211, hb193⟩ := bind_some hb193
            refine RW.idx ttok hS196.ext rfl rfl rfl rfl rfl rfl (by decide) rfl rfl h1_ (idx_some hx211).1 (idx_some hx211).2 rfl rfl (fun p212 es213 ha214 hr215 => ?_)
            cases hr215
            refine RW.load1 ttok rfl rfl rfl rfl rfl (At.ext hS196.ext ha214) 0 rfl rfl rfl rfl ?_
            refine RW.run ttok 2 rfl ?_
            by_cases hg216 : (x210 != 0) = true
            · skip
              rw [if_pos hg216] at hb193
              refine RW.know 44 rfl (congrArg Value.bool hg216) ?_
              refine RW.run ttok 2 rfl ?_
              obtain ⟨x217, hx218, hb193⟩ := bind_some hb193
              refine RW.idx ttok hS196.ext rfl rfl rfl rfl rfl rfl (by decide) rfl rfl h1_ (idx_some hx218).1 (idx_some hx218).2 rfl rfl (fun p219 es220 ha221 hr222 => ?_)
              cases hr222
              refine RW.load1 ttok rfl rfl rfl rfl rfl (At.ext hS196.ext ha221) 0 rfl rfl rfl rfl ?_
              obtain ⟨r223, hx224, hb193⟩ := bind_some hb193
              refine RW.call rfl rfl rfl enters69 (spec_l23Task_ok  hx224) (fun v225 w226 hR227 => ?_)
              obtain ⟨rfl, hR228⟩ := hR227
              have hS229 := hS196.join hR228
              refine RW.run ttok 2 rfl ?_
              refine RW.nil ?_
              exact ⟨!r223, [(0, .int .i64 x0), (1, .slice A1_ x1.length k1_), (2, .slice A2_ x2.length k2_), (6, .pointer (some ⟨g1, 0, none⟩)), (8, .pointer (some ⟨g33, 0, none⟩)), (9, .int .i64 s40), (51, .bool (!r223))], ⟨rfl, rfl, rfl, rfl, rfl, rfl, rfl, trivial⟩, hb193, hR228.ext, hS229, rfl⟩
            · skip
              rw [if_neg hg216] at hb193
              refine RW.know 44 rfl (congrArg Value.bool (Bool.eq_false_iff.2 hg216)) ?_
              refine RW.run ttok 7 rfl ?_
              refine RW.nil ?_
              exact ⟨false, [(0, .int .i64 x0), (1, .slice A1_ x1.length k1_), (2, .slice A2_ x2.length k2_), (6, .pointer (some ⟨g1, 0, none⟩)), (8, .pointer (some ⟨g33, 0, none⟩)), (9, .int .i64 s40), (51, .bool false)], ⟨rfl, rfl, rfl, rfl, rfl, rfl, rfl, trivial⟩, hb193, (Ext.refl _), hS196, rfl⟩
        · skip
          rw [if_neg (not_t hc)] at hb193
          refine WP.exit ?_
          cases hb193
          exact ⟨_, [(0, .int .i64 x0), (2, .slice A2_ x2.length k2_), (6, .pointer (some ⟨g1, 0, none⟩)), (8, .pointer (some ⟨g33, 0, none⟩))], ⟨rfl, rfl, rfl, rfl, trivial⟩, ho194, hE44, hS196, rfl⟩
  · skip
    refine WP.region ?_
    refine RW.run ttok 1 rfl ?_
    obtain ⟨r230, hx231, hm⟩ := bind_some hm
    refine RW.call rfl rfl rfl enters67 (spec_l00In_ok  hx231) (fun v232 w233 hR234 => ?_)
    obtain ⟨rfl, hR235⟩ := hR234
    have hS236 := hS4.join hR235
    refine RW.run ttok 2 rfl ?_
    by_cases hg237 : (!r230) = true
    · skip
      rw [if_pos hg237] at hm
      refine RW.know 17 rfl (congrArg Value.bool hg237) ?_
      refine RW.run ttok 9 rfl ?_
      refine RW.nil ?_
      exact ⟨true, [(0, .int .i64 x0), (1, .slice A1_ x1.length k1_), (2, .slice A2_ x2.length k2_), (6, .pointer (some ⟨g1, 0, none⟩)), (26, .bool true)], ⟨rfl, rfl, rfl, rfl, rfl, trivial⟩, hm, hR235.ext, hS236, rfl⟩
    · skip
      rw [if_neg hg237] at hm
      refine RW.know 17 rfl (congrArg Value.bool (Bool.eq_false_iff.2 hg237)) ?_
      refine RW.run ttok 5 rfl ?_
      by_cases hg238 : (decide ((x1.length : Int) > 10)) = true
      · skip
        rw [if_pos hg238] at hm
        refine RW.know 22 rfl (congrArg Value.bool hg238) ?_
        refine RW.run ttok 4 rfl ?_
        refine RW.nil ?_
        exact ⟨true, [(0, .int .i64 x0), (1, .slice A1_ x1.length k1_), (2, .slice A2_ x2.length k2_), (6, .pointer (some ⟨g1, 0, none⟩)), (26, .bool true)], ⟨rfl, rfl, rfl, rfl, rfl, trivial⟩, hm, hR235.ext, hS236, rfl⟩
      · skip
        rw [if_neg hg238] at hm
        refine RW.know 22 rfl (congrArg Value.bool (Bool.eq_false_iff.2 hg238)) ?_
        refine RW.run ttok 4 rfl ?_
        refine RW.nil ?_
        exact ⟨decide ((x2.length : Int) > 3), [(0, .int .i64 x0), (1, .slice A1_ x1.length k1_), (2, .slice A2_ x2.length k2_), (6, .pointer (some ⟨g1, 0, none⟩)), (26, .bool (decide ((x2.length : Int) > 3)))], ⟨rfl, rfl, rfl, rfl, rfl, trivial⟩, hm, hR235.ext, hS236, rfl⟩

theorem enters134 : Enters Try.prog 134 := ⟨_, _, Try.func134, rfl, by kernel_rfl⟩
def m_slices_IndexFunc_int64_int64_j1 (fuel : Nat) (t2 : Unit) : Option Int := some (-1)
def m_slices_IndexFunc_int64_int64_b1 (fuel : Nat) (x0 : (List Int)) (x1 : Int → Option Bool) (s1 : Int) : Option (Rd (Int) (Unit) (Int)) := (if (decide (s1 < (x0.length : Int))) = true then ((idx x0 s1).bind fun x17 => ((x1 x17).bind fun r23 => (if r23 = true then some (.ret s1) else some (.next (w64 (s1 + 1)))))) else some (.brk ()))
def m_slices_IndexFunc_int64_int64 (fuel : Nat) (x0 : (List Int)) (x1 : Int → Option Bool) : Option (Int) := ((iter (m_slices_IndexFunc_int64_int64_b1 fuel x0 x1) fuel 0).bind fun o => aft o (m_slices_IndexFunc_int64_int64_j1 fuel))

set_option maxRecDepth 100000 in
theorem slices_IndexFunc_int64_int64_ok {w : World} {A0_ : Option Addr} {k0_ : Nat} {x0 : (List Int)} {f1_ : Nat} {u1_ : List Value} {x1 : Int → Option Bool} (h0_ : ty22.ro w [.slice A0_ x0.length k0_] x0) (h1_ : Enters Try.prog f1_ ∧ ∀ {w9 : World}, Ext w w9 → ∀ {z0 : Int} {y9 : Bool}, x1 z0 = some y9 → Calls Try.prog f1_ ⟨[.int .i64 z0] ++ u1_⟩ w9 (Ret fun v w8 => v = .bool y9 ∧ St w9 w8 [])) {fuel : Nat} {r : Int} (hm : m_slices_IndexFunc_int64_int64 fuel x0 x1 = some r) :
    Calls Try.prog 134 ⟨[.slice A0_ x0.length k0_, .func (.func f1_) #[] ⟨u1_⟩]⟩ w (Ret fun v w8 => v = .int .i64 r ∧ St w w8 []) := by
  refine Calls.into Try.func134 rfl 19 rfl rfl _ rfl ?_
  unfold m_slices_IndexFunc_int64_int64 at hm
  have hS := St.start w
  refine WP.seq ?_
  refine WP.region ?_
  refine RW.run ttok 1 rfl ?_
  refine RW.nil ?_
  refine WP.seq ?_
  refine WP.seq ?_
  refine WP.region ?_
  refine RW.run ttok 3 rfl ?_
  refine RW.nil ?_
  obtain ⟨o8, hl9, hm⟩ := bind_some hm
  refine WP.cut (fun (t2 : Unit) F w9 => o8 = .inl t2 ∧ Ext w w9 ∧ St w w9 [] ∧ F = []) ?_ ?_
  · skip
    rintro t2 F w7 ⟨ho11, hE6, hS10, rfl⟩
    subst ho11
    rw [aft_inl] at hm
    unfold m_slices_IndexFunc_int64_int64_j1 at hm
    refine WP.seq ?_
    refine WP.region ?_
    refine RW.run ttok 1 rfl ?_
    refine RW.nil ?_
    refine WP.ret ?_
    cases hm
    exact ⟨_, .cons (.tmp rfl) .nil, rfl, hS10⟩
  · skip
    refine WP.block ?_
    refine WP.weak [(0, .slice A0_ x0.length k0_), (1, .func (.func f1_) #[] ⟨u1_⟩), (7, .int .i64 (x0.length : Int)), (8, .int .i64 0)] ⟨rfl, rfl, rfl, rfl, trivial⟩ ?_
    refine WP.iter (fun (s1 : Int) F w9 => Ext w w9 ∧ St w w9 [] ∧ F = [(0, .slice A0_ x0.length k0_), (1, .func (.func f1_) #[] ⟨u1_⟩), (7, .int .i64 (x0.length : Int)), (8, .int .i64 s1)]) _ hl9 ⟨(Ext.refl _), hS, rfl⟩ ?_
    rintro s1 F w16 _ o14 ⟨hE5, hS15, rfl⟩ hb12 ho13
    unfold m_slices_IndexFunc_int64_int64_b1 at hb12
    refine WP.seq ?_
    refine WP.region ?_
    refine RW.run ttok 1 rfl ?_
    refine RW.nil ?_
    refine WP.seq ?_
    refine WP.cond (decide (s1 < (x0.length : Int))) rfl (fun hc => ?_) (fun hc => ?_)
    · skip
      rw [if_pos hc] at hb12
      refine WP.skip ?_
      refine WP.seq ?_
      refine WP.block ?_
      refine WP.seq ?_
      refine WP.region ?_
      refine RW.run ttok 2 rfl ?_
      refine RW.nil ?_
      refine WP.seq ?_
      refine WP.region ?_
      refine RW.run ttok 3 rfl ?_
      obtain ⟨x17, hx18, hb12⟩ := bind_some hb12
      refine RW.idx ttok hS15.ext rfl rfl rfl rfl rfl rfl (by decide) rfl rfl h0_ (idx_some hx18).1 (idx_some hx18).2 rfl rfl (fun p19 es20 ha21 hr22 => ?_)
      cases hr22
      refine RW.load1 ttok rfl rfl rfl rfl rfl (At.ext hS15.ext ha21) 0 rfl rfl rfl rfl ?_
      obtain ⟨r23, hx24, hb12⟩ := bind_some hb12
      refine RW.call rfl rfl rfl h1_.1 (h1_.2 hS15.ext  hx24) (fun v25 w26 hR27 => ?_)
      obtain ⟨rfl, hR28⟩ := hR27
      have hS29 := hS15.join hR28
      refine RW.nil ?_
      refine WP.cond r23 rfl (fun hc => ?_) (fun hc => ?_)
      · skip
        rw [if_pos hc] at hb12
        refine WP.seq ?_
        refine WP.region ?_
        refine RW.run ttok 2 rfl ?_
        refine RW.nil ?_
        refine WP.ret ?_
        cases hb12
        cases ho13
        have hm : some _ = some _ := hm
        cases hm
        exact ⟨_, .cons (.tmp rfl) .nil, rfl, hS29⟩
      · skip
        rw [if_neg (not_t hc)] at hb12
        refine WP.skip ?_
        refine WP.region ?_
        refine RW.run ttok 2 rfl ?_
        refine RW.nil ?_
        cases hb12
        exact ⟨_, [(0, .slice A0_ x0.length k0_), (1, .func (.func f1_) #[] ⟨u1_⟩), (7, .int .i64 (x0.length : Int)), (8, .int .i64 (w64 (s1 + 1)))], ⟨rfl, rfl, rfl, rfl, trivial⟩, rfl, (hE5.trans hR28.ext), hS29, rfl⟩
    · skip
      rw [if_neg (not_t hc)] at hb12
      refine WP.exit ?_
      cases hb12
      exact ⟨_, [], trivial, ho13, hE5, hS15, rfl⟩

theorem enters70 : Enters Try.prog 70 := ⟨_, _, Try.func70, rfl, by kernel_rfl⟩
def m_slices_ContainsFunc_int64_int64 (fuel : Nat) (x0 : (List Int)) (x1 : Int → Option Bool) : Option (Bool) := ((m_slices_IndexFunc_int64_int64 fuel x0 x1).bind fun r1 => some (decide (r1 ≥ 0)))

set_option maxRecDepth 100000 in
theorem slices_ContainsFunc_int64_int64_ok {w : World} {A0_ : Option Addr} {k0_ : Nat} {x0 : (List Int)} {f1_ : Nat} {u1_ : List Value} {x1 : Int → Option Bool} (h0_ : ty22.ro w [.slice A0_ x0.length k0_] x0) (h1_ : Enters Try.prog f1_ ∧ ∀ {w9 : World}, Ext w w9 → ∀ {z0 : Int} {y9 : Bool}, x1 z0 = some y9 → Calls Try.prog f1_ ⟨[.int .i64 z0] ++ u1_⟩ w9 (Ret fun v w8 => v = .bool y9 ∧ St w9 w8 [])) {fuel : Nat} {r : Bool} (hm : m_slices_ContainsFunc_int64_int64 fuel x0 x1 = some r) :
    Calls Try.prog 70 ⟨[.slice A0_ x0.length k0_, .func (.func f1_) #[] ⟨u1_⟩]⟩ w (Ret fun v w8 => v = .bool r ∧ St w w8 []) := by
  refine Calls.into Try.func70 rfl 9 rfl rfl _ rfl ?_
  unfold m_slices_ContainsFunc_int64_int64 at hm
  have hS := St.start w
  refine WP.seq ?_
  refine WP.region ?_
  refine RW.run ttok 1 rfl ?_
  refine RW.nil ?_
  refine WP.seq ?_
  refine WP.region ?_
  refine RW.run ttok 2 rfl ?_
  obtain ⟨r1, hx2, hm⟩ := bind_some hm
  refine RW.call rfl rfl rfl enters134 (slices_IndexFunc_int64_int64_ok (ty22.ext hS.ext h0_) ⟨h1_.1, fun e9 => h1_.2 (hS.ext.trans e9)⟩ hx2) (fun v3 w4 hR5 => ?_)
  obtain ⟨rfl, hR6⟩ := hR5
  have hS7 := hS.join hR6
  refine RW.run ttok 2 rfl ?_
  refine RW.nil ?_
  refine WP.ret ?_
  cases hm
  exact ⟨_, .cons (.tmp rfl) .nil, rfl, hS7⟩

theorem enters72 : Enters Try.prog 72 := ⟨_, _, Try.func72, rfl, by kernel_rfl⟩
def m_impl_isTask (fuel : Nat) (x0 : Int) : Option (Bool) := (if (decide (x0 ≥ 1)) = true then some (decide (x0 ≤ 1000)) else some false)

set_option maxRecDepth 100000 in
theorem impl_isTask_ok {w : World} {x0 : Int}  {fuel : Nat} {r : Bool} (hm : m_impl_isTask fuel x0 = some r) :
    Calls Try.prog 72 ⟨[.int .i64 x0]⟩ w (Ret fun v w8 => v = .bool r ∧ St w w8 []) := by
  refine Calls.into Try.func72 rfl 9 rfl rfl _ rfl ?_
  unfold m_impl_isTask at hm
  have hS := St.start w
  refine WP.seq ?_
  refine WP.region ?_
  refine RW.run ttok 1 rfl ?_
  refine RW.nil ?_
  refine WP.seq ?_
  refine WP.region ?_
  refine RW.run ttok 3 rfl ?_
  by_cases hg1 : (decide (x0 ≥ 1)) = true
  · skip
    rw [if_pos hg1] at hm
    refine RW.know 5 rfl (congrArg Value.bool hg1) ?_
    refine RW.run ttok 4 rfl ?_
    refine RW.nil ?_
    refine WP.ret ?_
    cases hm
    exact ⟨_, .cons (.tmp rfl) .nil, rfl, hS⟩
  · skip
    rw [if_neg hg1] at hm
    refine RW.know 5 rfl (congrArg Value.bool (Bool.eq_false_iff.2 hg1)) ?_
    refine RW.run ttok 4 rfl ?_
    refine RW.nil ?_
    refine WP.ret ?_
    cases hm
    exact ⟨_, .cons (.tmp rfl) .nil, rfl, hS⟩

theorem enters71 : Enters Try.prog 71 := ⟨_, _, Try.func71, rfl, by kernel_rfl⟩
def m_impl_NewDeque_c1 (fuel : Nat) (x0 : Int) : Option (Bool) := (if (x0 != 0) = true then ((m_impl_isTask fuel x0).bind fun r2 => some (!r2)) else some false)

set_option maxRecDepth 100000 in
theorem impl_NewDeque_c1_ok {w : World} {x0 : Int}  {fuel : Nat} {r : Bool} (hm : m_impl_NewDeque_c1 fuel x0 = some r) :
    Calls Try.prog 71 ⟨[.int .i64 x0]⟩ w (Ret fun v w8 => v = .bool r ∧ St w w8 []) := by
  refine Calls.into Try.func71 rfl 10 rfl rfl _ rfl ?_
  unfold m_impl_NewDeque_c1 at hm
  have hS := St.start w
  refine WP.seq ?_
  refine WP.region ?_
  refine RW.run ttok 1 rfl ?_
  refine RW.nil ?_
  refine WP.seq ?_
  refine WP.region ?_
  refine RW.run ttok 3 rfl ?_
  by_cases hg1 : (x0 != 0) = true
  · skip
    rw [if_pos hg1] at hm
    refine RW.know 5 rfl (congrArg Value.bool hg1) ?_
    refine RW.run ttok 1 rfl ?_
    obtain ⟨r2, hx3, hm⟩ := bind_some hm
    refine RW.call rfl rfl rfl enters72 (impl_isTask_ok  hx3) (fun v4 w5 hR6 => ?_)
    obtain ⟨rfl, hR7⟩ := hR6
    have hS8 := hS.join hR7
    refine RW.run ttok 3 rfl ?_
    refine RW.nil ?_
    refine WP.ret ?_
    cases hm
    exact ⟨_, .cons (.tmp rfl) .nil, rfl, hS8⟩
  · skip
    rw [if_neg hg1] at hm
    refine RW.know 5 rfl (congrArg Value.bool (Bool.eq_false_iff.2 hg1)) ?_
    refine RW.run ttok 5 rfl ?_
    refine RW.nil ?_
    refine WP.ret ?_
    cases hm
    exact ⟨_, .cons (.tmp rfl) .nil, rfl, hS⟩

theorem enters73 : Enters Try.prog 73 := ⟨_, _, Try.func73, rfl, by kernel_rfl⟩
def m_impl_NewDeque_c2 (fuel : Nat) (x0 : Int) : Option (Bool) := (if (decide (x0 < 0)) = true then some true else some (decide (x0 > 10)))

set_option maxRecDepth 100000 in
theorem impl_NewDeque_c2_ok {w : World} {x0 : Int}  {fuel : Nat} {r : Bool} (hm : m_impl_NewDeque_c2 fuel x0 = some r) :
    Calls Try.prog 73 ⟨[.int .i64 x0]⟩ w (Ret fun v w8 => v = .bool r ∧ St w w8 []) := by
  refine Calls.into Try.func73 rfl 9 rfl rfl _ rfl ?_
  unfold m_impl_NewDeque_c2 at hm
  have hS := St.start w
  refine WP.seq ?_
  refine WP.region ?_
  refine RW.run ttok 1 rfl ?_
  refine RW.nil ?_
  refine WP.seq ?_
  refine WP.region ?_
  refine RW.run ttok 3 rfl ?_
  by_cases hg1 : (decide (x0 < 0)) = true
  · skip
    rw [if_pos hg1] at hm
    refine RW.know 5 rfl (congrArg Value.bool hg1) ?_
    refine RW.run ttok 4 rfl ?_
    refine RW.nil ?_
    refine WP.ret ?_
    cases hm
    exact ⟨_, .cons (.tmp rfl) .nil, rfl, hS⟩
  · skip
    rw [if_neg hg1] at hm
    refine RW.know 5 rfl (congrArg Value.bool (Bool.eq_false_iff.2 hg1)) ?_
    refine RW.run ttok 4 rfl ?_
    refine RW.nil ?_
    refine WP.ret ?_
    cases hm
    exact ⟨_, .cons (.tmp rfl) .nil, rfl, hS⟩

theorem enters74 : Enters Try.prog 74 := ⟨_, _, Try.func74, rfl, by kernel_rfl⟩
def m_slices_Clone_int64_int64 (fuel : Nat) (x0 : (List Int)) : Option ((List Int)) := (if decide ((([] : (List Int)).length : Int) + (x0.length : Int) ≤ 4294967296) = true then some (([] : (List Int)) ++ x0) else none)

set_option maxRecDepth 100000 in
theorem slices_Clone_int64_int64_ok {w : World} {A0_ : Option Addr} {k0_ : Nat} {x0 : (List Int)} (h0_ : ty22.ro w [.slice A0_ x0.length k0_] x0) {fuel : Nat} {r : (List Int)} (hm : m_slices_Clone_int64_int64 fuel x0 = some r) :
    Calls Try.prog 74 ⟨[.slice A0_ x0.length k0_]⟩ w (Ret fun v w8 => ∃ A0 k0, v = .slice A0 r.length k0 ∧ St w w8 [Own ty22 [.slice A0 r.length k0] r]) := by
  refine Calls.into Try.func74 rfl 8 rfl rfl _ rfl ?_
  unfold m_slices_Clone_int64_int64 at hm
  have hS := St.start w
  refine WP.seq ?_
  refine WP.region ?_
  refine RW.run ttok 1 rfl ?_
  refine RW.nil ?_
  refine WP.seq ?_
  refine WP.seq ?_
  refine WP.region ?_
  refine RW.run ttok 1 rfl ?_
  refine RW.quiet rfl (Quiet.nilEq ttok rfl rfl rfl rfl rfl) rfl rfl ?_
  refine RW.nil ?_
  cases A0_ with
  | none =>
    have e := sl_none (by decide) h0_
    subst e
    refine WP.cond true rfl (fun _ => ?_) (fun hc => by cases hc)
    refine WP.seq ?_
    refine WP.region ?_
    refine RW.run ttok 1 rfl ?_
    refine RW.nil ?_
    refine WP.ret ?_
    have hr : r = [] := by simpa using hm.symm
    subst hr
    exact ⟨_, .cons (.tmp rfl) .nil, none, 0, rfl, hS.nilSl tInt 2⟩
  | some p =>
    refine WP.cond false rfl (fun hc => by cases hc) (fun _ => ?_)
    refine WP.skip ?_
    refine WP.seq ?_
    refine WP.region ?_
    refine RW.newSlice0 (U := tInt) ttok hS rfl rfl rfl rfl rfl rfl rfl (fun A1 k1 w1 e1 hS1 => ?_)
    refine RW.run ttok 1 rfl ?_
    by_cases hk : decide ((([] : (List Int)).length : Int) + (x0.length : Int) ≤ 4294967296) = true
    case neg => rw [if_neg hk] at hm; cases hm
    rw [if_pos hk] at hm
    cases hm
    refine RW.appendRo ttok Flat.int hS1 rfl rfl rfl rfl rfl rfl (by decide) rfl rfl (ty22.ext hS1.ext h0_) (of_decide_eq_true hk) (by decide) rfl rfl (fun A2 k2 w2 hS2 => ?_)
    refine RW.run ttok 1 rfl ?_
    refine RW.nil ?_
    refine WP.ret ?_
    exact ⟨_, .cons (.tmp rfl) .nil, A2, k2, rfl, hS2⟩

theorem enters17 : Enters Try.prog 17 := ⟨_, _, Try.func17, rfl, by kernel_rfl⟩
def m_impl_NewDeque_j4 (fuel : Nat) (t29 : (Int × Int × (List Int) × (List D.DequeActor) × (List D.Handed) × (List Int))) (t43 : (List D.DequeActor)) : Option (D.Deque × Int) := some ((⟨t29.1, t29.2.1, t29.2.2.1, t43, t29.2.2.2.2.1, t29.2.2.2.2.2⟩ : D.Deque), 0)
def m_impl_NewDeque_b1 (fuel : Nat) (x2 : (List Int)) (s42 : Int × (List D.DequeActor)) : Option (Rd (Int × (List D.DequeActor)) ((List D.DequeActor)) (D.Deque × Int)) := (if (decide (s42.1 < (x2.length : Int))) = true then ((idx x2 s42.1).bind fun x64 => (if decide (0 ≤ x64 ∧ x64 ≤ 4294967296) = true then (if decide ((s42.2.length : Int) + (([(⟨(List.replicate x64.toNat (0 : Int)), 0, 0, 0, 0⟩ : D.DequeActor)] : (List D.DequeActor)).length : Int) ≤ 4294967296) = true then some (.next (w64 (s42.1 + 1), (s42.2 ++ ([(⟨(List.replicate x64.toNat (0 : Int)), 0, 0, 0, 0⟩ : D.DequeActor)] : (List D.DequeActor))))) else none) else none)) else some (.brk s42.2))
def m_impl_NewDeque_j3 (fuel : Nat) (x2 : (List Int)) (t29 : (Int × Int × (List Int) × (List D.DequeActor) × (List D.Handed) × (List Int))) : Option (D.Deque × Int) := ((iter (m_impl_NewDeque_b1 fuel x2) fuel (0, t29.2.2.2.1)).bind fun o => aft o (m_impl_NewDeque_j4 fuel t29))
def m_impl_NewDeque_j2 (fuel : Nat) (x0 : Int) (x1 : (List Int)) (x2 : (List Int)) (t17 : Bool) : Option (D.Deque × Int) := (if t17 = true then some ((⟨0, 0, [], [], [], []⟩ : D.Deque), 2) else (if decide (0 ≤ x0 ∧ x0 ≤ 4294967296) = true then ((m_slices_Clone_int64_int64 fuel x1).bind fun r105 => m_impl_NewDeque_j3 fuel x2 (0, 0, (List.replicate x0.toNat (0 : Int)), ([(⟨r105, 0, 0, 0, 0⟩ : D.DequeActor)] : (List D.DequeActor)), [], [])) else none))
def m_impl_NewDeque_j1 (fuel : Nat) (x0 : Int) (x1 : (List Int)) (x2 : (List Int)) (t5 : Bool) : Option (D.Deque × Int) := (if t5 = true then some ((⟨0, 0, [], [], [], []⟩ : D.Deque), 2) else ((m_slices_ContainsFunc_int64_int64 fuel x1 (fun y0 => m_impl_NewDeque_c1 fuel y0)).bind fun r408 => (if r408 = true then m_impl_NewDeque_j2 fuel x0 x1 x2 true else ((m_slices_ContainsFunc_int64_int64 fuel x2 (fun y0 => m_impl_NewDeque_c2 fuel y0)).bind fun r416 => m_impl_NewDeque_j2 fuel x0 x1 x2 r416))))
def m_impl_NewDeque (fuel : Nat) (x0 : Int) (x1 : (List Int)) (x2 : (List Int)) : Option (D.Deque × Int) := (if (decide (x0 < 1)) = true then m_impl_NewDeque_j1 fuel x0 x1 x2 true else (if (decide (x0 > 8)) = true then m_impl_NewDeque_j1 fuel x0 x1 x2 true else (if (decide ((x1.length : Int) > 10)) = true then m_impl_NewDeque_j1 fuel x0 x1 x2 true else m_impl_NewDeque_j1 fuel x0 x1 x2 (decide ((x2.length : Int) > 3)))))

set_option maxRecDepth 100000 in
theorem impl_NewDeque_ok {w : World} {x0 : Int} {A1_ : Option Addr} {k1_ : Nat} {x1 : (List Int)} {A2_ : Option Addr} {k2_ : Nat} {x2 : (List Int)} (h1_ : ty22.ro w [.slice A1_ x1.length k1_] x1) (h2_ : ty22.ro w [.slice A2_ x2.length k2_] x2) {fuel : Nat} {r : D.Deque × Int} (hm : m_impl_NewDeque fuel x0 x1 x2 = some r) :
    Calls Try.prog 17 ⟨[.int .i64 x0, .slice A1_ x1.length k1_, .slice A2_ x2.length k2_]⟩ w (Ret fun v w8 => ∃ A0 k0 A1 k1 A2 k2 A3 k3, v = .tuple ⟨[.agg ⟨[.int .i64 r.1.Top, .int .i64 r.1.Bottom, .slice A0 r.1.Buffer.length k0, .slice A1 r.1.Actors.length k1, .slice A2 r.1.Taken.length k2, .slice A3 r.1.Refused.length k3]⟩, .int .i64 r.2]⟩ ∧ St w w8 [Own ty22 [.slice A0 r.1.Buffer.length k0] r.1.Buffer, Own ty23 [.slice A1 r.1.Actors.length k1] r.1.Actors, Own ty24 [.slice A2 r.1.Taken.length k2] r.1.Taken, Own ty22 [.slice A3 r.1.Refused.length k3] r.1.Refused]) := by
  refine Calls.into Try.func17 rfl 58 rfl rfl _ rfl ?_
  unfold m_impl_NewDeque at hm
  have hS := St.start w
  refine WP.seq ?_
  refine WP.region ?_
  refine RW.new ttok hS rfl rfl rfl rfl (fun g1 w2 e3 hS4 => ?_)
  refine RW.run ttok 1 rfl ?_
  refine RW.nil ?_
  refine WP.seq ?_
  refine WP.seq ?_
  refine WP.cut (fun (t5 : Bool) F w9 => m_impl_NewDeque_j1 fuel x0 x1 x2 t5 = some r ∧ Ext w2 w9 ∧ St w w9 [Box g1 [.int .i64 0, .int .i64 0, .slice none 0 0, .slice none 0 0, .slice none 0 0, .slice none 0 0] 26] ∧ F = [(0, .int .i64 x0), (1, .slice A1_ x1.length k1_), (2, .slice A2_ x2.length k2_), (6, .pointer (some ⟨g1, 0, none⟩)), (26, .bool t5)]) ?_ ?_
  · skip
    rintro t5 F w8 ⟨hm, hE6, hS7, rfl⟩
    unfold m_impl_NewDeque_j1 at hm
    refine WP.cond t5 rfl (fun hc => ?_) (fun hc => ?_)
    · skip
      rw [if_pos hc] at hm
      refine WP.seq ?_
      refine WP.region ?_
      refine RW.quiet rfl (Quiet.build ttok rfl rfl rfl rfl rfl) rfl rfl ?_
      have hS10 := hS7.bring 0 rfl
      refine RW.store ttok (A := []) hS10 rfl rfl rfl rfl rfl 0 rfl rfl rfl rfl rfl (fun w11 hS12 => ?_)
      refine RW.run ttok 1 rfl ?_
      refine RW.nil ?_
      refine WP.ret ?_
      cases hm
      have hS13 := hS12.nilSl tInt 2
      have hS14 := hS13.nilSl ty110 110
      have hS15 := hS14.nilSl ty179 179
      have hS16 := hS15.nilSl tInt 2
      exact ⟨_, .cons (ResIs.agg ttok rfl rfl rfl ((hS12.bring 0 rfl).box) rfl) (.cons (.tmp rfl) .nil), none, 0, none, 0, none, 0, none, 0, rfl, (((((hS16.bring 0 rfl).bring 1 rfl).bring 2 rfl).bring 3 rfl).taken 4)⟩
    · skip
      rw [if_neg (not_t hc)] at hm
      refine WP.skip ?_
      refine WP.seq ?_
      refine WP.seq ?_
      refine WP.cut (fun (t17 : Bool) F w9 => m_impl_NewDeque_j2 fuel x0 x1 x2 t17 = some r ∧ Ext w8 w9 ∧ St w w9 [Box g1 [.int .i64 0, .int .i64 0, .slice none 0 0, .slice none 0 0, .slice none 0 0, .slice none 0 0] 26] ∧ F = [(0, .int .i64 x0), (1, .slice A1_ x1.length k1_), (2, .slice A2_ x2.length k2_), (6, .pointer (some ⟨g1, 0, none⟩)), (33, .bool t17)]) ?_ ?_
      · skip
        rintro t17 F w20 ⟨hm, hE18, hS19, rfl⟩
        unfold m_impl_NewDeque_j2 at hm
        refine WP.cond t17 rfl (fun hc => ?_) (fun hc => ?_)
        · skip
          rw [if_pos hc] at hm
          refine WP.seq ?_
          refine WP.region ?_
          refine RW.quiet rfl (Quiet.build ttok rfl rfl rfl rfl rfl) rfl rfl ?_
          have hS22 := hS19.bring 0 rfl
          refine RW.store ttok (A := []) hS22 rfl rfl rfl rfl rfl 0 rfl rfl rfl rfl rfl (fun w23 hS24 => ?_)
          refine RW.run ttok 1 rfl ?_
          refine RW.nil ?_
          refine WP.ret ?_
          cases hm
          have hS25 := hS24.nilSl tInt 2
          have hS26 := hS25.nilSl ty110 110
          have hS27 := hS26.nilSl ty179 179
          have hS28 := hS27.nilSl tInt 2
          exact ⟨_, .cons (ResIs.agg ttok rfl rfl rfl ((hS24.bring 0 rfl).box) rfl) (.cons (.tmp rfl) .nil), none, 0, none, 0, none, 0, none, 0, rfl, (((((hS28.bring 0 rfl).bring 1 rfl).bring 2 rfl).bring 3 rfl).taken 4)⟩
        · skip
          rw [if_neg (not_t hc)] at hm
          refine WP.skip ?_
          refine WP.seq ?_
          refine WP.cut (fun (t29 : (Int × Int × (List Int) × (List D.DequeActor) × (List D.Handed) × (List Int))) F w9 => ∃ g30 A31 k32 A33 k34 A35 k36 A37 k38, m_impl_NewDeque_j3 fuel x2 t29 = some r ∧ St w w9 [Box g30 [.int .i64 t29.1, .int .i64 t29.2.1, .slice A31 t29.2.2.1.length k32, .slice A33 t29.2.2.2.1.length k34, .slice A35 t29.2.2.2.2.1.length k36, .slice A37 t29.2.2.2.2.2.length k38] 26, Own ty22 [.slice A31 t29.2.2.1.length k32] t29.2.2.1, Own ty23 [.slice A33 t29.2.2.2.1.length k34] t29.2.2.2.1, Own ty24 [.slice A35 t29.2.2.2.2.1.length k36] t29.2.2.2.2.1, Own ty22 [.slice A37 t29.2.2.2.2.2.length k38] t29.2.2.2.2.2, Box g1 [.int .i64 0, .int .i64 0, .slice none 0 0, .slice none 0 0, .slice none 0 0, .slice none 0 0] 26] ∧ F = [(2, .slice A2_ x2.length k2_), (6, .pointer (some ⟨g1, 0, none⟩)), (8, .pointer (some ⟨g30, 0, none⟩))]) ?_ ?_
          · skip
            rintro t29 F w40 ⟨g30, A31, k32, A33, k34, A35, k36, A37, k38, hm, hS39, rfl⟩
            unfold m_impl_NewDeque_j3 at hm
            refine WP.seq ?_
            refine WP.seq ?_
            refine WP.region ?_
            refine RW.run ttok 3 rfl ?_
            refine RW.nil ?_
            obtain ⟨o52, hl53, hm⟩ := bind_some hm
            refine WP.cut (fun (t43 : (List D.DequeActor)) F w9 => ∃ A49 k50, o52 = .inl t43 ∧ St w w9 [Box g30 [.int .i64 t29.1, .int .i64 t29.2.1, .slice A31 t29.2.2.1.length k32, .slice A49 t43.length k50, .slice A35 t29.2.2.2.2.1.length k36, .slice A37 t29.2.2.2.2.2.length k38] 26, Own ty22 [.slice A31 t29.2.2.1.length k32] t29.2.2.1, Own ty23 [.slice A49 t43.length k50] t43, Own ty24 [.slice A35 t29.2.2.2.2.1.length k36] t29.2.2.2.2.1, Own ty22 [.slice A37 t29.2.2.2.2.2.length k38] t29.2.2.2.2.2, Box g1 [.int .i64 0, .int .i64 0, .slice none 0 0, .slice none 0 0, .slice none 0 0, .slice none 0 0] 26] ∧ F = [(6, .pointer (some ⟨g1, 0, none⟩)), (8, .pointer (some ⟨g30, 0, none⟩))]) ?_ ?_
            · skip
              rintro t43 F w51 ⟨A49, k50, ho55, hS54, rfl⟩
              subst ho55
              rw [aft_inl] at hm
              unfold m_impl_NewDeque_j4 at hm
              refine WP.seq ?_
              refine WP.region ?_
              refine RW.loadN ttok rfl rfl rfl rfl rfl ((hS54.bring 0 rfl).box) rfl rfl rfl ?_
              have hS56 := hS54.bring 5 rfl
              refine RW.store ttok (A := []) hS56 rfl rfl rfl rfl rfl 0 rfl rfl rfl rfl rfl (fun w57 hS58 => ?_)
              refine RW.run ttok 1 rfl ?_
              refine RW.nil ?_
              refine WP.ret ?_
              cases hm
              exact ⟨_, .cons (ResIs.agg ttok rfl rfl rfl ((hS58.bring 0 rfl).box) rfl) (.cons (.tmp rfl) .nil), A31, k32, A49, k50, A35, k36, A37, k38, rfl, ((hS58.bring 0 rfl).drop.bring 0 rfl).drop⟩
            · skip
              refine WP.block ?_
              refine WP.weak [(6, .pointer (some ⟨g1, 0, none⟩)), (8, .pointer (some ⟨g30, 0, none⟩)), (42, .slice A2_ x2.length k2_), (43, .int .i64 (x2.length : Int)), (44, .int .i64 0)] ⟨rfl, rfl, rfl, rfl, rfl, trivial⟩ ?_
              refine WP.iter (fun (s42 : Int × (List D.DequeActor)) F w9 => ∃ A47 k48, St w w9 [Box g30 [.int .i64 t29.1, .int .i64 t29.2.1, .slice A31 t29.2.2.1.length k32, .slice A47 s42.2.length k48, .slice A35 t29.2.2.2.2.1.length k36, .slice A37 t29.2.2.2.2.2.length k38] 26, Own ty22 [.slice A31 t29.2.2.1.length k32] t29.2.2.1, Own ty23 [.slice A47 s42.2.length k48] s42.2, Own ty24 [.slice A35 t29.2.2.2.2.1.length k36] t29.2.2.2.2.1, Own ty22 [.slice A37 t29.2.2.2.2.2.length k38] t29.2.2.2.2.2, Box g1 [.int .i64 0, .int .i64 0, .slice none 0 0, .slice none 0 0, .slice none 0 0, .slice none 0 0] 26] ∧ F = [(6, .pointer (some ⟨g1, 0, none⟩)), (8, .pointer (some ⟨g30, 0, none⟩)), (42, .slice A2_ x2.length k2_), (43, .int .i64 (x2.length : Int)), (44, .int .i64 s42.1)]) _ hl53 ⟨A33, k34, hS39, rfl⟩ ?_
              rintro s42 F w63 _ o61 ⟨A47, k48, hS62, rfl⟩ hb59 ho60
              unfold m_impl_NewDeque_b1 at hb59
              refine WP.seq ?_
              refine WP.region ?_
              refine RW.run ttok 1 rfl ?_
              refine RW.nil ?_
              refine WP.seq ?_
              refine WP.cond (decide (s42.1 < (x2.length : Int))) rfl (fun hc => ?_) (fun hc => ?_)
              · skip
                rw [if_pos hc] at hb59
                refine WP.skip ?_
                refine WP.seq ?_
                refine WP.block ?_
                refine WP.seq ?_
                refine WP.region ?_
                obtain ⟨x64, hx65, hb59⟩ := bind_some hb59
                refine RW.idx ttok hS62.ext rfl rfl rfl rfl rfl rfl (by decide) rfl rfl h2_ (idx_some hx65).1 (idx_some hx65).2 rfl rfl (fun p66 es67 ha68 hr69 => ?_)
                cases hr69
                refine RW.load1 ttok rfl rfl rfl rfl rfl (At.ext hS62.ext ha68) 0 rfl rfl rfl rfl ?_
                refine RW.run ttok 1 rfl ?_
                refine RW.nil ?_
                refine WP.drawnM 320 mixed 9 (by kernel_rfl) (by kernel_rfl) [([], 511), ([0], 510), ([], 511), ([2, 2], 507), ([3], 503), ([4], 495), ([1, 5], 477), ([0, 1, 2, 3, 4, 5, 6], 511), ([7, 6, 6, 0, 1, 2, 3, 4, 5, 6], 319)] (by kernel_rfl) (fun hsk70 => ?_)
                have hS71 := hS62.step (Ext.draw _)
                refine DM.run (fuel := 7) ttok hsk70 [0, 2] 5 (by kernel_rfl) (by kernel_rfl) rfl ?_
                refine DM.load1 ttok hsk70 1 7 (by kernel_rfl) (by kernel_rfl) (by kernel_rfl) (by kernel_rfl) rfl (by kernel_rfl) rfl rfl rfl rfl rfl ((hS62.bring 0 rfl).box) 3 rfl rfl rfl rfl ?_
                by_cases hk72 : decide (0 ≤ x64 ∧ x64 ≤ 4294967296) = true
                case neg => rw [if_neg hk72] at hb59; cases hb59
                rw [if_pos hk72] at hb59
                have hz78 := of_decide_eq_true hk72
                refine DM.one hsk70 3 (by kernel_rfl) (LM.make (U := tInt) ttok (0 : Int) hS71 hsk70 15 (by kernel_rfl) (by kernel_rfl) rfl rfl rfl rfl rfl rfl rfl rfl rfl hz78.1 (by have := hz78.2; show _ * (8 : Int) ≤ _; omega) (by have := hz78.2; simp only [maxLen]; omega) (fun _ => ⟨rfl, rfl⟩) rfl rfl (fun A73 k74 w75 e76 hS77 => ?_))
                refine DM.quietP hsk70 4 31 (by kernel_rfl) (by kernel_rfl) rfl (by kernel_rfl) rfl (fun _ => Quiet.build ttok rfl rfl rfl rfl rfl) rfl rfl ?_
                have hS79 := hS77.bring 0 rfl
                have hS80 := ty110_shutS (c := (⟨(List.replicate x64.toNat (0 : Int)), 0, 0, 0, 0⟩ : D.DequeActor)) (B := _) hS79
                refine DM.one hsk70 5 (by kernel_rfl) (LM.newSlice (U := ty110) (els := [.slice A73 (List.replicate x64.toNat (0 : Int)).length k74, .int .i64 0, .int .i64 0, .int .i64 0, .int .i64 0]) (ys := [(⟨(List.replicate x64.toNat (0 : Int)), 0, 0, 0, 0⟩ : D.DequeActor)]) ttok (hS80.oneEl) hsk70 63 (by kernel_rfl) (by kernel_rfl) rfl rfl rfl rfl rfl rfl rfl rfl rfl rfl rfl rfl rfl (fun A81 k82 w83 e84 hS85 => ?_))
                have hS86 := hS85.bring 3 rfl
                have hS87 := hS86.bring 1 rfl
                by_cases hk88 : decide ((s42.2.length : Int) + (([(⟨(List.replicate x64.toNat (0 : Int)), 0, 0, 0, 0⟩ : D.DequeActor)] : (List D.DequeActor)).length : Int) ≤ 4294967296) = true
                case neg => rw [if_neg hk88] at hb59; cases hb59
                rw [if_pos hk88] at hb59
                refine DM.one hsk70 6 (by kernel_rfl) (LM.appendOwn ttok hS87 hsk70 127 (by kernel_rfl) (by kernel_rfl) rfl rfl rfl rfl rfl rfl rfl (by decide) rfl rfl (of_decide_eq_true hk88) (by decide) rfl rfl (fun A89 k90 w91 hS92 => ?_))
                refine DM.run (fuel := 1) ttok hsk70 [7] 255 (by kernel_rfl) (by kernel_rfl) rfl ?_
                refine DM.weak [(6, .pointer (some ⟨g1, 0, none⟩)), (8, .pointer (some ⟨g30, 0, none⟩)), (42, .slice A2_ x2.length k2_), (43, .int .i64 (x2.length : Int)), (44, .int .i64 s42.1), (54, .slice A89 (s42.2 ++ ([(⟨(List.replicate x64.toNat (0 : Int)), 0, 0, 0, 0⟩ : D.DequeActor)] : (List D.DequeActor))).length k90), (55, .pointer (some ⟨g30, 3, none⟩))] ⟨rfl, rfl, rfl, rfl, rfl, rfl, rfl, trivial⟩ ?_
                have hS93 := hS92.bring 1 rfl
                refine DM.one hsk70 8 (by kernel_rfl) (LM.store ttok (A := []) hS93 hsk70 511 (by kernel_rfl) (by kernel_rfl) rfl rfl rfl rfl rfl rfl 3 rfl rfl rfl rfl rfl (fun w94 hS95 => ?_))
                refine DM.done hsk70 (by kernel_rfl) ?_
                refine WP.region ?_
                refine RW.run ttok 2 rfl ?_
                refine RW.nil ?_
                cases hb59
                exact ⟨_, [(6, .pointer (some ⟨g1, 0, none⟩)), (8, .pointer (some ⟨g30, 0, none⟩)), (42, .slice A2_ x2.length k2_), (43, .int .i64 (x2.length : Int)), (44, .int .i64 (w64 (s42.1 + 1)))], ⟨rfl, rfl, rfl, rfl, rfl, trivial⟩, rfl, A89, k90, (((hS95.bring 1 rfl).bring 2 rfl).bring 2 rfl), rfl⟩
              · skip
                rw [if_neg (not_t hc)] at hb59
                refine WP.exit ?_
                cases hb59
                exact ⟨_, [(6, .pointer (some ⟨g1, 0, none⟩)), (8, .pointer (some ⟨g30, 0, none⟩))], ⟨rfl, rfl, trivial⟩, A47, k48, ho60, hS62, rfl⟩
          · skip
            refine WP.drawnM 256 mixed 9 (by kernel_rfl) (by kernel_rfl) [([], 511), ([0, 0], 510), ([], 511), ([2], 507), ([3], 503), ([4], 495), ([1, 5], 477), ([], 511), ([7, 6, 3, 0, 1, 2, 3, 4, 5, 6, 7], 319)] (by kernel_rfl) (fun hsk96 => ?_)
            have hS97 := hS19.step (Ext.draw _)
            refine DM.run (fuel := 7) ttok hsk96 [0, 2] 5 (by kernel_rfl) (by kernel_rfl) rfl ?_
            by_cases hk98 : decide (0 ≤ x0 ∧ x0 ≤ 4294967296) = true
            case neg => rw [if_neg hk98] at hm; cases hm
            rw [if_pos hk98] at hm
            obtain ⟨r105, hx106, hm⟩ := bind_some hm
            refine DM.all hsk96 [1, 3, 7] (by kernel_rfl) (by simp) ?_
            intro i128 hi129
            simp only [List.mem_cons, List.not_mem_nil, or_false] at hi129
            rcases hi129 with rfl | rfl | rfl
            · skip
              have hz135 := of_decide_eq_true hk98
              refine LM.make (U := tInt) ttok (0 : Int) hS97 hsk96 7 (by kernel_rfl) (by kernel_rfl) rfl rfl rfl rfl rfl rfl rfl rfl rfl hz135.1 (by have := hz135.2; show _ * (8 : Int) ≤ _; omega) (by have := hz135.2; simp only [maxLen]; omega) (fun _ => ⟨rfl, rfl⟩) rfl rfl (fun A130 k131 w132 e133 hS134 => ?_)
              refine DM.all hsk96 [3, 7] (by kernel_rfl) (by simp) ?_
              intro i136 hi137
              simp only [List.mem_cons, List.not_mem_nil, or_false] at hi137
              rcases hi137 with rfl | rfl
              · skip
                refine LM.call hsk96 15 (by kernel_rfl) (by kernel_rfl) rfl rfl rfl rfl enters74 (slices_Clone_int64_int64_ok (ty22.ext hS134.ext h1_) hx106) (fun v138 w139 hR140 => ?_)
                obtain ⟨A141, k142, rfl, hR143⟩ := hR140
                refine ⟨hR143.ext, ?_⟩
                have hS144 := hS134.join hR143
                refine DM.quietP hsk96 4 31 (by kernel_rfl) (by kernel_rfl) rfl (by kernel_rfl) rfl (fun _ => Quiet.build ttok rfl rfl rfl rfl rfl) rfl rfl ?_
                refine DM.all hsk96 [5, 7] (by kernel_rfl) (by simp) ?_
                intro i145 hi146
                simp only [List.mem_cons, List.not_mem_nil, or_false] at hi146
                rcases hi146 with rfl | rfl
                · skip
                  have hS147 := hS144.bring 0 rfl
                  have hS148 := ty110_shutS (c := (⟨r105, 0, 0, 0, 0⟩ : D.DequeActor)) (B := _) hS147
                  refine LM.newSlice (U := ty110) (els := [.slice A141 r105.length k142, .int .i64 0, .int .i64 0, .int .i64 0, .int .i64 0]) (ys := [(⟨r105, 0, 0, 0, 0⟩ : D.DequeActor)]) ttok (hS148.oneEl) hsk96 63 (by kernel_rfl) (by kernel_rfl) rfl rfl rfl rfl rfl rfl rfl rfl rfl rfl rfl rfl rfl (fun A149 k150 w151 e152 hS153 => ?_)
                  refine DM.quietP hsk96 6 127 (by kernel_rfl) (by kernel_rfl) rfl (by kernel_rfl) rfl (fun _ => Quiet.build ttok rfl rfl rfl rfl rfl) rfl rfl ?_
                  refine DM.one hsk96 7 (by kernel_rfl) (LM.new ttok hsk96 hS153 255 (by kernel_rfl) (by kernel_rfl) rfl rfl rfl rfl rfl (fun g154 w155 e156 hS157 => ?_))
                  have hS158 := hS157.bring 0 rfl
                  refine DM.one hsk96 8 (by kernel_rfl) (LM.store ttok (A := []) hS158 hsk96 511 (by kernel_rfl) (by kernel_rfl) rfl rfl rfl rfl rfl rfl 0 rfl rfl rfl rfl rfl (fun w159 hS160 => ?_))
                  refine DM.done hsk96 (by kernel_rfl) ?_
                  have hS161 := hS160.nilSl ty179 179
                  have hS162 := hS161.nilSl tInt 2
                  exact ⟨(0, 0, (List.replicate x0.toNat (0 : Int)), ([(⟨r105, 0, 0, 0, 0⟩ : D.DequeActor)] : (List D.DequeActor)), [], []), [(2, .slice A2_ x2.length k2_), (6, .pointer (some ⟨g1, 0, none⟩)), (8, .pointer (some ⟨g154, 0, none⟩))], ⟨rfl, rfl, rfl, trivial⟩, g154, A130, k131, A149, k150, none, 0, none, 0, hm, (((((hS162.bring 0 rfl).bring 1 rfl).bring 3 rfl).bring 4 rfl).bring 4 rfl), rfl⟩
                · skip
                  refine LM.new ttok hsk96 hS144 159 (by kernel_rfl) (by kernel_rfl) rfl rfl rfl rfl rfl (fun g163 w164 e165 hS166 => ?_)
                  have hS167 := hS166.bring 1 rfl
                  have hS168 := ty110_shutS (c := (⟨r105, 0, 0, 0, 0⟩ : D.DequeActor)) (B := _) hS167
                  refine DM.one hsk96 5 (by kernel_rfl) (LM.newSlice (U := ty110) (els := [.slice A141 r105.length k142, .int .i64 0, .int .i64 0, .int .i64 0, .int .i64 0]) (ys := [(⟨r105, 0, 0, 0, 0⟩ : D.DequeActor)]) ttok (hS168.oneEl) hsk96 191 (by kernel_rfl) (by kernel_rfl) rfl rfl rfl rfl rfl rfl rfl rfl rfl rfl rfl rfl rfl (fun A169 k170 w171 e172 hS173 => ?_))
                  refine DM.quietP hsk96 6 255 (by kernel_rfl) (by kernel_rfl) rfl (by kernel_rfl) rfl (fun _ => Quiet.build ttok rfl rfl rfl rfl rfl) rfl rfl ?_
                  have hS174 := hS173.bring 1 rfl
                  refine DM.one hsk96 8 (by kernel_rfl) (LM.store ttok (A := []) hS174 hsk96 511 (by kernel_rfl) (by kernel_rfl) rfl rfl rfl rfl rfl rfl 0 rfl rfl rfl rfl rfl (fun w175 hS176 => ?_))
                  refine DM.done hsk96 (by kernel_rfl) ?_
                  have hS177 := hS176.nilSl ty179 179
                  have hS178 := hS177.nilSl tInt 2
                  exact ⟨(0, 0, (List.replicate x0.toNat (0 : Int)), ([(⟨r105, 0, 0, 0, 0⟩ : D.DequeActor)] : (List D.DequeActor)), [], []), [(2, .slice A2_ x2.length k2_), (6, .pointer (some ⟨g1, 0, none⟩)), (8, .pointer (some ⟨g163, 0, none⟩))], ⟨rfl, rfl, rfl, trivial⟩, g163, A130, k131, A169, k170, none, 0, none, 0, hm, (((((hS178.bring 0 rfl).bring 1 rfl).bring 3 rfl).bring 4 rfl).bring 4 rfl), rfl⟩
              · skip
                refine LM.new ttok hsk96 hS134 135 (by kernel_rfl) (by kernel_rfl) rfl rfl rfl rfl rfl (fun g179 w180 e181 hS182 => ?_)
                refine DM.one hsk96 3 (by kernel_rfl) (LM.call hsk96 143 (by kernel_rfl) (by kernel_rfl) rfl rfl rfl rfl enters74 (slices_Clone_int64_int64_ok (ty22.ext hS182.ext h1_) hx106) (fun v183 w184 hR185 => ?_))
                obtain ⟨A186, k187, rfl, hR188⟩ := hR185
                refine ⟨hR188.ext, ?_⟩
                have hS189 := hS182.join hR188
                refine DM.quietP hsk96 4 159 (by kernel_rfl) (by kernel_rfl) rfl (by kernel_rfl) rfl (fun _ => Quiet.build ttok rfl rfl rfl rfl rfl) rfl rfl ?_
                have hS190 := hS189.bring 0 rfl
                have hS191 := ty110_shutS (c := (⟨r105, 0, 0, 0, 0⟩ : D.DequeActor)) (B := _) hS190
                refine DM.one hsk96 5 (by kernel_rfl) (LM.newSlice (U := ty110) (els := [.slice A186 r105.length k187, .int .i64 0, .int .i64 0, .int .i64 0, .int .i64 0]) (ys := [(⟨r105, 0, 0, 0, 0⟩ : D.DequeActor)]) ttok (hS191.oneEl) hsk96 191 (by kernel_rfl) (by kernel_rfl) rfl rfl rfl rfl rfl rfl rfl rfl rfl rfl rfl rfl rfl (fun A192 k193 w194 e195 hS196 => ?_))
                refine DM.quietP hsk96 6 255 (by kernel_rfl) (by kernel_rfl) rfl (by kernel_rfl) rfl (fun _ => Quiet.build ttok rfl rfl rfl rfl rfl) rfl rfl ?_
                have hS197 := hS196.bring 1 rfl
                refine DM.one hsk96 8 (by kernel_rfl) (LM.store ttok (A := []) hS197 hsk96 511 (by kernel_rfl) (by kernel_rfl) rfl rfl rfl rfl rfl rfl 0 rfl rfl rfl rfl rfl (fun w198 hS199 => ?_))
                refine DM.done hsk96 (by kernel_rfl) ?_
                have hS200 := hS199.nilSl ty179 179
                have hS201 := hS200.nilSl tInt 2
                exact ⟨(0, 0, (List.replicate x0.toNat (0 : Int)), ([(⟨r105, 0, 0, 0, 0⟩ : D.DequeActor)] : (List D.DequeActor)), [], []), [(2, .slice A2_ x2.length k2_), (6, .pointer (some ⟨g1, 0, none⟩)), (8, .pointer (some ⟨g179, 0, none⟩))], ⟨rfl, rfl, rfl, trivial⟩, g179, A130, k131, A192, k193, none, 0, none, 0, hm, (((((hS201.bring 0 rfl).bring 1 rfl).bring 3 rfl).bring 4 rfl).bring 4 rfl), rfl⟩
            · skip
              refine LM.call hsk96 13 (by kernel_rfl) (by kernel_rfl) rfl rfl rfl rfl enters74 (slices_Clone_int64_int64_ok (ty22.ext hS97.ext h1_) hx106) (fun v202 w203 hR204 => ?_)
              obtain ⟨A205, k206, rfl, hR207⟩ := hR204
              refine ⟨hR207.ext, ?_⟩
              have hS208 := hS97.join hR207
              refine DM.quietP hsk96 4 29 (by kernel_rfl) (by kernel_rfl) rfl (by kernel_rfl) rfl (fun _ => Quiet.build ttok rfl rfl rfl rfl rfl) rfl rfl ?_
              refine DM.all hsk96 [1, 5, 7] (by kernel_rfl) (by simp) ?_
              intro i209 hi210
              simp only [List.mem_cons, List.not_mem_nil, or_false] at hi210
              rcases hi210 with rfl | rfl | rfl
              · skip
                have hz216 := of_decide_eq_true hk98
                refine LM.make (U := tInt) ttok (0 : Int) hS208 hsk96 31 (by kernel_rfl) (by kernel_rfl) rfl rfl rfl rfl rfl rfl rfl rfl rfl hz216.1 (by have := hz216.2; show _ * (8 : Int) ≤ _; omega) (by have := hz216.2; simp only [maxLen]; omega) (fun _ => ⟨rfl, rfl⟩) rfl rfl (fun A211 k212 w213 e214 hS215 => ?_)
                refine DM.all hsk96 [5, 7] (by kernel_rfl) (by simp) ?_
                intro i217 hi218
                simp only [List.mem_cons, List.not_mem_nil, or_false] at hi218
                rcases hi218 with rfl | rfl
                · skip
                  have hS219 := hS215.bring 1 rfl
                  have hS220 := ty110_shutS (c := (⟨r105, 0, 0, 0, 0⟩ : D.DequeActor)) (B := _) hS219
                  refine LM.newSlice (U := ty110) (els := [.slice A205 r105.length k206, .int .i64 0, .int .i64 0, .int .i64 0, .int .i64 0]) (ys := [(⟨r105, 0, 0, 0, 0⟩ : D.DequeActor)]) ttok (hS220.oneEl) hsk96 63 (by kernel_rfl) (by kernel_rfl) rfl rfl rfl rfl rfl rfl rfl rfl rfl rfl rfl rfl rfl (fun A221 k222 w223 e224 hS225 => ?_)
                  refine DM.quietP hsk96 6 127 (by kernel_rfl) (by kernel_rfl) rfl (by kernel_rfl) rfl (fun _ => Quiet.build ttok rfl rfl rfl rfl rfl) rfl rfl ?_
                  refine DM.one hsk96 7 (by kernel_rfl) (LM.new ttok hsk96 hS225 255 (by kernel_rfl) (by kernel_rfl) rfl rfl rfl rfl rfl (fun g226 w227 e228 hS229 => ?_))
                  have hS230 := hS229.bring 0 rfl
                  refine DM.one hsk96 8 (by kernel_rfl) (LM.store ttok (A := []) hS230 hsk96 511 (by kernel_rfl) (by kernel_rfl) rfl rfl rfl rfl rfl rfl 0 rfl rfl rfl rfl rfl (fun w231 hS232 => ?_))
                  refine DM.done hsk96 (by kernel_rfl) ?_
                  have hS233 := hS232.nilSl ty179 179
                  have hS234 := hS233.nilSl tInt 2
                  exact ⟨(0, 0, (List.replicate x0.toNat (0 : Int)), ([(⟨r105, 0, 0, 0, 0⟩ : D.DequeActor)] : (List D.DequeActor)), [], []), [(2, .slice A2_ x2.length k2_), (6, .pointer (some ⟨g1, 0, none⟩)), (8, .pointer (some ⟨g226, 0, none⟩))], ⟨rfl, rfl, rfl, trivial⟩, g226, A211, k212, A221, k222, none, 0, none, 0, hm, (((((hS234.bring 0 rfl).bring 1 rfl).bring 3 rfl).bring 4 rfl).bring 4 rfl), rfl⟩
                · skip
                  refine LM.new ttok hsk96 hS215 159 (by kernel_rfl) (by kernel_rfl) rfl rfl rfl rfl rfl (fun g235 w236 e237 hS238 => ?_)
                  have hS239 := hS238.bring 2 rfl
                  have hS240 := ty110_shutS (c := (⟨r105, 0, 0, 0, 0⟩ : D.DequeActor)) (B := _) hS239
                  refine DM.one hsk96 5 (by kernel_rfl) (LM.newSlice (U := ty110) (els := [.slice A205 r105.length k206, .int .i64 0, .int .i64 0, .int .i64 0, .int .i64 0]) (ys := [(⟨r105, 0, 0, 0, 0⟩ : D.DequeActor)]) ttok (hS240.oneEl) hsk96 191 (by kernel_rfl) (by kernel_rfl) rfl rfl rfl rfl rfl rfl rfl rfl rfl rfl rfl rfl rfl (fun A241 k242 w243 e244 hS245 => ?_))
                  refine DM.quietP hsk96 6 255 (by kernel_rfl) (by kernel_rfl) rfl (by kernel_rfl) rfl (fun _ => Quiet.build ttok rfl rfl rfl rfl rfl) rfl rfl ?_
                  have hS246 := hS245.bring 1 rfl
                  refine DM.one hsk96 8 (by kernel_rfl) (LM.store ttok (A := []) hS246 hsk96 511 (by kernel_rfl) (by kernel_rfl) rfl rfl rfl rfl rfl rfl 0 rfl rfl rfl rfl rfl (fun w247 hS248 => ?_))
                  refine DM.done hsk96 (by kernel_rfl) ?_
                  have hS249 := hS248.nilSl ty179 179
                  have hS250 := hS249.nilSl tInt 2
                  exact ⟨(0, 0, (List.replicate x0.toNat (0 : Int)), ([(⟨r105, 0, 0, 0, 0⟩ : D.DequeActor)] : (List D.DequeActor)), [], []), [(2, .slice A2_ x2.length k2_), (6, .pointer (some ⟨g1, 0, none⟩)), (8, .pointer (some ⟨g235, 0, none⟩))], ⟨rfl, rfl, rfl, trivial⟩, g235, A211, k212, A241, k242, none, 0, none, 0, hm, (((((hS250.bring 0 rfl).bring 1 rfl).bring 3 rfl).bring 4 rfl).bring 4 rfl), rfl⟩
              · skip
                have hS251 := hS208.bring 0 rfl
                have hS252 := ty110_shutS (c := (⟨r105, 0, 0, 0, 0⟩ : D.DequeActor)) (B := _) hS251
                refine LM.newSlice (U := ty110) (els := [.slice A205 r105.length k206, .int .i64 0, .int .i64 0, .int .i64 0, .int .i64 0]) (ys := [(⟨r105, 0, 0, 0, 0⟩ : D.DequeActor)]) ttok (hS252.oneEl) hsk96 61 (by kernel_rfl) (by kernel_rfl) rfl rfl rfl rfl rfl rfl rfl rfl rfl rfl rfl rfl rfl (fun A253 k254 w255 e256 hS257 => ?_)
                refine DM.all hsk96 [1, 7] (by kernel_rfl) (by simp) ?_
                intro i258 hi259
                simp only [List.mem_cons, List.not_mem_nil, or_false] at hi259
                rcases hi259 with rfl | rfl
                · skip
                  have hz265 := of_decide_eq_true hk98
                  refine LM.make (U := tInt) ttok (0 : Int) hS257 hsk96 63 (by kernel_rfl) (by kernel_rfl) rfl rfl rfl rfl rfl rfl rfl rfl rfl hz265.1 (by have := hz265.2; show _ * (8 : Int) ≤ _; omega) (by have := hz265.2; simp only [maxLen]; omega) (fun _ => ⟨rfl, rfl⟩) rfl rfl (fun A260 k261 w262 e263 hS264 => ?_)
                  refine DM.quietP hsk96 6 127 (by kernel_rfl) (by kernel_rfl) rfl (by kernel_rfl) rfl (fun _ => Quiet.build ttok rfl rfl rfl rfl rfl) rfl rfl ?_
                  refine DM.one hsk96 7 (by kernel_rfl) (LM.new ttok hsk96 hS264 255 (by kernel_rfl) (by kernel_rfl) rfl rfl rfl rfl rfl (fun g266 w267 e268 hS269 => ?_))
                  have hS270 := hS269.bring 0 rfl
                  refine DM.one hsk96 8 (by kernel_rfl) (LM.store ttok (A := []) hS270 hsk96 511 (by kernel_rfl) (by kernel_rfl) rfl rfl rfl rfl rfl rfl 0 rfl rfl rfl rfl rfl (fun w271 hS272 => ?_))
                  refine DM.done hsk96 (by kernel_rfl) ?_
                  have hS273 := hS272.nilSl ty179 179
                  have hS274 := hS273.nilSl tInt 2
                  exact ⟨(0, 0, (List.replicate x0.toNat (0 : Int)), ([(⟨r105, 0, 0, 0, 0⟩ : D.DequeActor)] : (List D.DequeActor)), [], []), [(2, .slice A2_ x2.length k2_), (6, .pointer (some ⟨g1, 0, none⟩)), (8, .pointer (some ⟨g266, 0, none⟩))], ⟨rfl, rfl, rfl, trivial⟩, g266, A260, k261, A253, k254, none, 0, none, 0, hm, (((((hS274.bring 0 rfl).bring 1 rfl).bring 4 rfl).bring 4 rfl).bring 4 rfl), rfl⟩
                · skip
                  refine LM.new ttok hsk96 hS257 189 (by kernel_rfl) (by kernel_rfl) rfl rfl rfl rfl rfl (fun g275 w276 e277 hS278 => ?_)
                  have hz284 := of_decide_eq_true hk98
                  refine DM.one hsk96 1 (by kernel_rfl) (LM.make (U := tInt) ttok (0 : Int) hS278 hsk96 191 (by kernel_rfl) (by kernel_rfl) rfl rfl rfl rfl rfl rfl rfl rfl rfl hz284.1 (by have := hz284.2; show _ * (8 : Int) ≤ _; omega) (by have := hz284.2; simp only [maxLen]; omega) (fun _ => ⟨rfl, rfl⟩) rfl rfl (fun A279 k280 w281 e282 hS283 => ?_))
                  refine DM.quietP hsk96 6 255 (by kernel_rfl) (by kernel_rfl) rfl (by kernel_rfl) rfl (fun _ => Quiet.build ttok rfl rfl rfl rfl rfl) rfl rfl ?_
                  have hS285 := hS283.bring 1 rfl
                  refine DM.one hsk96 8 (by kernel_rfl) (LM.store ttok (A := []) hS285 hsk96 511 (by kernel_rfl) (by kernel_rfl) rfl rfl rfl rfl rfl rfl 0 rfl rfl rfl rfl rfl (fun w286 hS287 => ?_))
                  refine DM.done hsk96 (by kernel_rfl) ?_
                  have hS288 := hS287.nilSl ty179 179
                  have hS289 := hS288.nilSl tInt 2
                  exact ⟨(0, 0, (List.replicate x0.toNat (0 : Int)), ([(⟨r105, 0, 0, 0, 0⟩ : D.DequeActor)] : (List D.DequeActor)), [], []), [(2, .slice A2_ x2.length k2_), (6, .pointer (some ⟨g1, 0, none⟩)), (8, .pointer (some ⟨g275, 0, none⟩))], ⟨rfl, rfl, rfl, trivial⟩, g275, A279, k280, A253, k254, none, 0, none, 0, hm, (((((hS289.bring 0 rfl).bring 1 rfl).bring 4 rfl).bring 4 rfl).bring 4 rfl), rfl⟩
              · skip
                refine LM.new ttok hsk96 hS208 157 (by kernel_rfl) (by kernel_rfl) rfl rfl rfl rfl rfl (fun g290 w291 e292 hS293 => ?_)
                refine DM.all hsk96 [1, 5] (by kernel_rfl) (by simp) ?_
                intro i294 hi295
                simp only [List.mem_cons, List.not_mem_nil, or_false] at hi295
                rcases hi295 with rfl | rfl
                · skip
                  have hz301 := of_decide_eq_true hk98
                  refine LM.make (U := tInt) ttok (0 : Int) hS293 hsk96 159 (by kernel_rfl) (by kernel_rfl) rfl rfl rfl rfl rfl rfl rfl rfl rfl hz301.1 (by have := hz301.2; show _ * (8 : Int) ≤ _; omega) (by have := hz301.2; simp only [maxLen]; omega) (fun _ => ⟨rfl, rfl⟩) rfl rfl (fun A296 k297 w298 e299 hS300 => ?_)
                  have hS302 := hS300.bring 2 rfl
                  have hS303 := ty110_shutS (c := (⟨r105, 0, 0, 0, 0⟩ : D.DequeActor)) (B := _) hS302
                  refine DM.one hsk96 5 (by kernel_rfl) (LM.newSlice (U := ty110) (els := [.slice A205 r105.length k206, .int .i64 0, .int .i64 0, .int .i64 0, .int .i64 0]) (ys := [(⟨r105, 0, 0, 0, 0⟩ : D.DequeActor)]) ttok (hS303.oneEl) hsk96 191 (by kernel_rfl) (by kernel_rfl) rfl rfl rfl rfl rfl rfl rfl rfl rfl rfl rfl rfl rfl (fun A304 k305 w306 e307 hS308 => ?_))
                  refine DM.quietP hsk96 6 255 (by kernel_rfl) (by kernel_rfl) rfl (by kernel_rfl) rfl (fun _ => Quiet.build ttok rfl rfl rfl rfl rfl) rfl rfl ?_
                  have hS309 := hS308.bring 2 rfl
                  refine DM.one hsk96 8 (by kernel_rfl) (LM.store ttok (A := []) hS309 hsk96 511 (by kernel_rfl) (by kernel_rfl) rfl rfl rfl rfl rfl rfl 0 rfl rfl rfl rfl rfl (fun w310 hS311 => ?_))
                  refine DM.done hsk96 (by kernel_rfl) ?_
                  have hS312 := hS311.nilSl ty179 179
                  have hS313 := hS312.nilSl tInt 2
                  exact ⟨(0, 0, (List.replicate x0.toNat (0 : Int)), ([(⟨r105, 0, 0, 0, 0⟩ : D.DequeActor)] : (List D.DequeActor)), [], []), [(2, .slice A2_ x2.length k2_), (6, .pointer (some ⟨g1, 0, none⟩)), (8, .pointer (some ⟨g290, 0, none⟩))], ⟨rfl, rfl, rfl, trivial⟩, g290, A296, k297, A304, k305, none, 0, none, 0, hm, (((((hS313.bring 0 rfl).bring 1 rfl).bring 3 rfl).bring 4 rfl).bring 4 rfl), rfl⟩
                · skip
                  have hS314 := hS293.bring 1 rfl
                  have hS315 := ty110_shutS (c := (⟨r105, 0, 0, 0, 0⟩ : D.DequeActor)) (B := _) hS314
                  refine LM.newSlice (U := ty110) (els := [.slice A205 r105.length k206, .int .i64 0, .int .i64 0, .int .i64 0, .int .i64 0]) (ys := [(⟨r105, 0, 0, 0, 0⟩ : D.DequeActor)]) ttok (hS315.oneEl) hsk96 189 (by kernel_rfl) (by kernel_rfl) rfl rfl rfl rfl rfl rfl rfl rfl rfl rfl rfl rfl rfl (fun A316 k317 w318 e319 hS320 => ?_)
                  have hz326 := of_decide_eq_true hk98
                  refine DM.one hsk96 1 (by kernel_rfl) (LM.make (U := tInt) ttok (0 : Int) hS320 hsk96 191 (by kernel_rfl) (by kernel_rfl) rfl rfl rfl rfl rfl rfl rfl rfl rfl hz326.1 (by have := hz326.2; show _ * (8 : Int) ≤ _; omega) (by have := hz326.2; simp only [maxLen]; omega) (fun _ => ⟨rfl, rfl⟩) rfl rfl (fun A321 k322 w323 e324 hS325 => ?_))
                  refine DM.quietP hsk96 6 255 (by kernel_rfl) (by kernel_rfl) rfl (by kernel_rfl) rfl (fun _ => Quiet.build ttok rfl rfl rfl rfl rfl) rfl rfl ?_
                  have hS327 := hS325.bring 2 rfl
                  refine DM.one hsk96 8 (by kernel_rfl) (LM.store ttok (A := []) hS327 hsk96 511 (by kernel_rfl) (by kernel_rfl) rfl rfl rfl rfl rfl rfl 0 rfl rfl rfl rfl rfl (fun w328 hS329 => ?_))
                  refine DM.done hsk96 (by kernel_rfl) ?_
                  have hS330 := hS329.nilSl ty179 179
                  have hS331 := hS330.nilSl tInt 2
                  exact ⟨(0, 0, (List.replicate x0.toNat (0 : Int)), ([(⟨r105, 0, 0, 0, 0⟩ : D.DequeActor)] : (List D.DequeActor)), [], []), [(2, .slice A2_ x2.length k2_), (6, .pointer (some ⟨g1, 0, none⟩)), (8, .pointer (some ⟨g290, 0, none⟩))], ⟨rfl, rfl, rfl, trivial⟩, g290, A321, k322, A316, k317, none, 0, none, 0, hm, (((((hS331.bring 0 rfl).bring 1 rfl).bring 4 rfl).bring 4 rfl).bring 4 rfl), rfl⟩
            · skip
              refine LM.new ttok hsk96 hS97 133 (by kernel_rfl) (by kernel_rfl) rfl rfl rfl rfl rfl (fun g332 w333 e334 hS335 => ?_)
              refine DM.all hsk96 [1, 3] (by kernel_rfl) (by simp) ?_
              intro i336 hi337
              simp only [List.mem_cons, List.not_mem_nil, or_false] at hi337
              rcases hi337 with rfl | rfl
              · skip
                have hz343 := of_decide_eq_true hk98
                refine LM.make (U := tInt) ttok (0 : Int) hS335 hsk96 135 (by kernel_rfl) (by kernel_rfl) rfl rfl rfl rfl rfl rfl rfl rfl rfl hz343.1 (by have := hz343.2; show _ * (8 : Int) ≤ _; omega) (by have := hz343.2; simp only [maxLen]; omega) (fun _ => ⟨rfl, rfl⟩) rfl rfl (fun A338 k339 w340 e341 hS342 => ?_)
                refine DM.one hsk96 3 (by kernel_rfl) (LM.call hsk96 143 (by kernel_rfl) (by kernel_rfl) rfl rfl rfl rfl enters74 (slices_Clone_int64_int64_ok (ty22.ext hS342.ext h1_) hx106) (fun v344 w345 hR346 => ?_))
                obtain ⟨A347, k348, rfl, hR349⟩ := hR346
                refine ⟨hR349.ext, ?_⟩
                have hS350 := hS342.join hR349
                refine DM.quietP hsk96 4 159 (by kernel_rfl) (by kernel_rfl) rfl (by kernel_rfl) rfl (fun _ => Quiet.build ttok rfl rfl rfl rfl rfl) rfl rfl ?_
                have hS351 := hS350.bring 0 rfl
                have hS352 := ty110_shutS (c := (⟨r105, 0, 0, 0, 0⟩ : D.DequeActor)) (B := _) hS351
                refine DM.one hsk96 5 (by kernel_rfl) (LM.newSlice (U := ty110) (els := [.slice A347 r105.length k348, .int .i64 0, .int .i64 0, .int .i64 0, .int .i64 0]) (ys := [(⟨r105, 0, 0, 0, 0⟩ : D.DequeActor)]) ttok (hS352.oneEl) hsk96 191 (by kernel_rfl) (by kernel_rfl) rfl rfl rfl rfl rfl rfl rfl rfl rfl rfl rfl rfl rfl (fun A353 k354 w355 e356 hS357 => ?_))
                refine DM.quietP hsk96 6 255 (by kernel_rfl) (by kernel_rfl) rfl (by kernel_rfl) rfl (fun _ => Quiet.build ttok rfl rfl rfl rfl rfl) rfl rfl ?_
                have hS358 := hS357.bring 2 rfl
                refine DM.one hsk96 8 (by kernel_rfl) (LM.store ttok (A := []) hS358 hsk96 511 (by kernel_rfl) (by kernel_rfl) rfl rfl rfl rfl rfl rfl 0 rfl rfl rfl rfl rfl (fun w359 hS360 => ?_))
                refine DM.done hsk96 (by kernel_rfl) ?_
                have hS361 := hS360.nilSl ty179 179
                have hS362 := hS361.nilSl tInt 2
                exact ⟨(0, 0, (List.replicate x0.toNat (0 : Int)), ([(⟨r105, 0, 0, 0, 0⟩ : D.DequeActor)] : (List D.DequeActor)), [], []), [(2, .slice A2_ x2.length k2_), (6, .pointer (some ⟨g1, 0, none⟩)), (8, .pointer (some ⟨g332, 0, none⟩))], ⟨rfl, rfl, rfl, trivial⟩, g332, A338, k339, A353, k354, none, 0, none, 0, hm, (((((hS362.bring 0 rfl).bring 1 rfl).bring 3 rfl).bring 4 rfl).bring 4 rfl), rfl⟩
              · skip
                refine LM.call hsk96 141 (by kernel_rfl) (by kernel_rfl) rfl rfl rfl rfl enters74 (slices_Clone_int64_int64_ok (ty22.ext hS335.ext h1_) hx106) (fun v363 w364 hR365 => ?_)
                obtain ⟨A366, k367, rfl, hR368⟩ := hR365
                refine ⟨hR368.ext, ?_⟩
                have hS369 := hS335.join hR368
                refine DM.quietP hsk96 4 157 (by kernel_rfl) (by kernel_rfl) rfl (by kernel_rfl) rfl (fun _ => Quiet.build ttok rfl rfl rfl rfl rfl) rfl rfl ?_
                refine DM.all hsk96 [1, 5] (by kernel_rfl) (by simp) ?_
                intro i370 hi371
                simp only [List.mem_cons, List.not_mem_nil, or_false] at hi371
                rcases hi371 with rfl | rfl
                · skip
                  have hz377 := of_decide_eq_true hk98
                  refine LM.make (U := tInt) ttok (0 : Int) hS369 hsk96 159 (by kernel_rfl) (by kernel_rfl) rfl rfl rfl rfl rfl rfl rfl rfl rfl hz377.1 (by have := hz377.2; show _ * (8 : Int) ≤ _; omega) (by have := hz377.2; simp only [maxLen]; omega) (fun _ => ⟨rfl, rfl⟩) rfl rfl (fun A372 k373 w374 e375 hS376 => ?_)
                  have hS378 := hS376.bring 1 rfl
                  have hS379 := ty110_shutS (c := (⟨r105, 0, 0, 0, 0⟩ : D.DequeActor)) (B := _) hS378
                  refine DM.one hsk96 5 (by kernel_rfl) (LM.newSlice (U := ty110) (els := [.slice A366 r105.length k367, .int .i64 0, .int .i64 0, .int .i64 0, .int .i64 0]) (ys := [(⟨r105, 0, 0, 0, 0⟩ : D.DequeActor)]) ttok (hS379.oneEl) hsk96 191 (by kernel_rfl) (by kernel_rfl) rfl rfl rfl rfl rfl rfl rfl rfl rfl rfl rfl rfl rfl (fun A380 k381 w382 e383 hS384 => ?_))
                  refine DM.quietP hsk96 6 255 (by kernel_rfl) (by kernel_rfl) rfl (by kernel_rfl) rfl (fun _ => Quiet.build ttok rfl rfl rfl rfl rfl) rfl rfl ?_
                  have hS385 := hS384.bring 2 rfl
                  refine DM.one hsk96 8 (by kernel_rfl) (LM.store ttok (A := []) hS385 hsk96 511 (by kernel_rfl) (by kernel_rfl) rfl rfl rfl rfl rfl rfl 0 rfl rfl rfl rfl rfl (fun w386 hS387 => ?_))
                  refine DM.done hsk96 (by kernel_rfl) ?_
                  have hS388 := hS387.nilSl ty179 179
                  have hS389 := hS388.nilSl tInt 2
                  exact ⟨(0, 0, (List.replicate x0.toNat (0 : Int)), ([(⟨r105, 0, 0, 0, 0⟩ : D.DequeActor)] : (List D.DequeActor)), [], []), [(2, .slice A2_ x2.length k2_), (6, .pointer (some ⟨g1, 0, none⟩)), (8, .pointer (some ⟨g332, 0, none⟩))], ⟨rfl, rfl, rfl, trivial⟩, g332, A372, k373, A380, k381, none, 0, none, 0, hm, (((((hS389.bring 0 rfl).bring 1 rfl).bring 3 rfl).bring 4 rfl).bring 4 rfl), rfl⟩
                · skip
                  have hS390 := hS369.bring 0 rfl
                  have hS391 := ty110_shutS (c := (⟨r105, 0, 0, 0, 0⟩ : D.DequeActor)) (B := _) hS390
                  refine LM.newSlice (U := ty110) (els := [.slice A366 r105.length k367, .int .i64 0, .int .i64 0, .int .i64 0, .int .i64 0]) (ys := [(⟨r105, 0, 0, 0, 0⟩ : D.DequeActor)]) ttok (hS391.oneEl) hsk96 189 (by kernel_rfl) (by kernel_rfl) rfl rfl rfl rfl rfl rfl rfl rfl rfl rfl rfl rfl rfl (fun A392 k393 w394 e395 hS396 => ?_)
                  have hz402 := of_decide_eq_true hk98
                  refine DM.one hsk96 1 (by kernel_rfl) (LM.make (U := tInt) ttok (0 : Int) hS396 hsk96 191 (by kernel_rfl) (by kernel_rfl) rfl rfl rfl rfl rfl rfl rfl rfl rfl hz402.1 (by have := hz402.2; show _ * (8 : Int) ≤ _; omega) (by have := hz402.2; simp only [maxLen]; omega) (fun _ => ⟨rfl, rfl⟩) rfl rfl (fun A397 k398 w399 e400 hS401 => ?_))
                  refine DM.quietP hsk96 6 255 (by kernel_rfl) (by kernel_rfl) rfl (by kernel_rfl) rfl (fun _ => Quiet.build ttok rfl rfl rfl rfl rfl) rfl rfl ?_
                  have hS403 := hS401.bring 2 rfl
                  refine DM.one hsk96 8 (by kernel_rfl) (LM.store ttok (A := []) hS403 hsk96 511 (by kernel_rfl) (by kernel_rfl) rfl rfl rfl rfl rfl rfl 0 rfl rfl rfl rfl rfl (fun w404 hS405 => ?_))
                  refine DM.done hsk96 (by kernel_rfl) ?_
                  have hS406 := hS405.nilSl ty179 179
                  have hS407 := hS406.nilSl tInt 2
                  exact ⟨(0, 0, (List.replicate x0.toNat (0 : Int)), ([(⟨r105, 0, 0, 0, 0⟩ : D.DequeActor)] : (List D.DequeActor)), [], []), [(2, .slice A2_ x2.length k2_), (6, .pointer (some ⟨g1, 0, none⟩)), (8, .pointer (some ⟨g332, 0, none⟩))], ⟨rfl, rfl, rfl, trivial⟩, g332, A397, k398, A392, k393, none, 0, none, 0, hm, (((((hS407.bring 0 rfl).bring 1 rfl).bring 4 rfl).bring 4 rfl).bring 4 rfl), rfl⟩
      · skip
        refine WP.region ?_
        refine RW.run ttok 1 rfl ?_
        obtain ⟨r408, hx409, hm⟩ := bind_some hm
        refine RW.call rfl rfl rfl enters70 (slices_ContainsFunc_int64_int64_ok (ty22.ext hS7.ext h1_) ⟨enters71, fun e9 => (fun  hx9 => impl_NewDeque_c1_ok  hx9)⟩ hx409) (fun v410 w411 hR412 => ?_)
        obtain ⟨rfl, hR413⟩ := hR412
        have hS414 := hS7.join hR413
        refine RW.run ttok 1 rfl ?_
        by_cases hg415 : r408 = true
        · skip
          rw [if_pos hg415] at hm
          refine RW.know 30 rfl (congrArg Value.bool hg415) ?_
          refine RW.run ttok 3 rfl ?_
          refine RW.nil ?_
          exact ⟨true, [(0, .int .i64 x0), (1, .slice A1_ x1.length k1_), (2, .slice A2_ x2.length k2_), (6, .pointer (some ⟨g1, 0, none⟩)), (33, .bool true)], ⟨rfl, rfl, rfl, rfl, rfl, trivial⟩, hm, hR413.ext, hS414, rfl⟩
        · skip
          rw [if_neg hg415] at hm
          refine RW.know 30 rfl (congrArg Value.bool (Bool.eq_false_iff.2 hg415)) ?_
          refine RW.run ttok 1 rfl ?_
          obtain ⟨r416, hx417, hm⟩ := bind_some hm
          refine RW.call rfl rfl rfl enters70 (slices_ContainsFunc_int64_int64_ok (ty22.ext hS414.ext h2_) ⟨enters73, fun e9 => (fun  hx9 => impl_NewDeque_c2_ok  hx9)⟩ hx417) (fun v418 w419 hR420 => ?_)
          obtain ⟨rfl, hR421⟩ := hR420
          have hS422 := hS414.join hR421
          refine RW.run ttok 1 rfl ?_
          refine RW.nil ?_
          exact ⟨r416, [(0, .int .i64 x0), (1, .slice A1_ x1.length k1_), (2, .slice A2_ x2.length k2_), (6, .pointer (some ⟨g1, 0, none⟩)), (33, .bool r416)], ⟨rfl, rfl, rfl, rfl, rfl, trivial⟩, hm, (hR413.ext.trans hR421.ext), hS422, rfl⟩
  · skip
    refine WP.region ?_
    refine RW.run ttok 3 rfl ?_
    by_cases hg423 : (decide (x0 < 1)) = true
    · skip
      rw [if_pos hg423] at hm
      refine RW.know 13 rfl (congrArg Value.bool hg423) ?_
      refine RW.run ttok 13 rfl ?_
      refine RW.nil ?_
      exact ⟨true, [(0, .int .i64 x0), (1, .slice A1_ x1.length k1_), (2, .slice A2_ x2.length k2_), (6, .pointer (some ⟨g1, 0, none⟩)), (26, .bool true)], ⟨rfl, rfl, rfl, rfl, rfl, trivial⟩, hm, (Ext.refl _), hS4, rfl⟩
    · skip
      rw [if_neg hg423] at hm
      refine RW.know 13 rfl (congrArg Value.bool (Bool.eq_false_iff.2 hg423)) ?_
      refine RW.run ttok 4 rfl ?_
      by_cases hg424 : (decide (x0 > 8)) = true
      · skip
        rw [if_pos hg424] at hm
        refine RW.know 17 rfl (congrArg Value.bool hg424) ?_
        refine RW.run ttok 9 rfl ?_
        refine RW.nil ?_
        exact ⟨true, [(0, .int .i64 x0), (1, .slice A1_ x1.length k1_), (2, .slice A2_ x2.length k2_), (6, .pointer (some ⟨g1, 0, none⟩)), (26, .bool true)], ⟨rfl, rfl, rfl, rfl, rfl, trivial⟩, hm, (Ext.refl _), hS4, rfl⟩
      · skip
        rw [if_neg hg424] at hm
        refine RW.know 17 rfl (congrArg Value.bool (Bool.eq_false_iff.2 hg424)) ?_
        refine RW.run ttok 5 rfl ?_
        by_cases hg425 : (decide ((x1.length : Int) > 10)) = true
        · skip
          rw [if_pos hg425] at hm
          refine RW.know 22 rfl (congrArg Value.bool hg425) ?_
          refine RW.run ttok 4 rfl ?_
          refine RW.nil ?_
          exact ⟨true, [(0, .int .i64 x0), (1, .slice A1_ x1.length k1_), (2, .slice A2_ x2.length k2_), (6, .pointer (some ⟨g1, 0, none⟩)), (26, .bool true)], ⟨rfl, rfl, rfl, rfl, rfl, trivial⟩, hm, (Ext.refl _), hS4, rfl⟩
        · skip
          rw [if_neg hg425] at hm
          refine RW.know 22 rfl (congrArg Value.bool (Bool.eq_false_iff.2 hg425)) ?_
          refine RW.run ttok 4 rfl ?_
          refine RW.nil ?_
          exact ⟨decide ((x2.length : Int) > 3), [(0, .int .i64 x0), (1, .slice A1_ x1.length k1_), (2, .slice A2_ x2.length k2_), (6, .pointer (some ⟨g1, 0, none⟩)), (26, .bool (decide ((x2.length : Int) > 3)))], ⟨rfl, rfl, rfl, rfl, rfl, trivial⟩, hm, (Ext.refl _), hS4, rfl⟩

theorem enters19 : Enters Try.prog 19 := ⟨_, _, Try.func19, rfl, by kernel_rfl⟩
def m_laws_eqInt64S_j1 (fuel : Nat) (t2 : Unit) : Option Bool := some true
def m_laws_eqInt64S_b1 (fuel : Nat) (x0 : (List Int)) (x1 : (List Int)) (s1 : Int) : Option (Rd (Int) (Unit) (Bool)) := (if (decide (s1 < (x0.length : Int))) = true then ((idx x0 s1).bind fun x19 => ((idx x1 s1).bind fun x25 => (if (x19 != x25) = true then some (.ret false) else some (.next (w64 (s1 + 1)))))) else some (.brk ()))
def m_laws_eqInt64S (fuel : Nat) (x0 : (List Int)) (x1 : (List Int)) : Option (Bool) := (if ((x0.length : Int) != (x1.length : Int)) = true then some false else ((iter (m_laws_eqInt64S_b1 fuel x0 x1) fuel 0).bind fun o => aft o (m_laws_eqInt64S_j1 fuel)))

set_option maxRecDepth 100000 in
theorem laws_eqInt64S_ok {w : World} {A0_ : Option Addr} {k0_ : Nat} {x0 : (List Int)} {A1_ : Option Addr} {k1_ : Nat} {x1 : (List Int)} (h0_ : ty22.ro w [.slice A0_ x0.length k0_] x0) (h1_ : ty22.ro w [.slice A1_ x1.length k1_] x1) {fuel : Nat} {r : Bool} (hm : m_laws_eqInt64S fuel x0 x1 = some r) :
    Calls Try.prog 19 ⟨[.slice A0_ x0.length k0_, .slice A1_ x1.length k1_]⟩ w (Ret fun v w8 => v = .bool r ∧ St w w8 []) := by
  refine Calls.into Try.func19 rfl 26 rfl rfl _ rfl ?_
  unfold m_laws_eqInt64S at hm
  have hS := St.start w
  refine WP.seq ?_
  refine WP.region ?_
  refine RW.run ttok 1 rfl ?_
  refine RW.nil ?_
  refine WP.seq ?_
  refine WP.seq ?_
  refine WP.region ?_
  refine RW.run ttok 5 rfl ?_
  refine RW.nil ?_
  refine WP.cond ((x0.length : Int) != (x1.length : Int)) rfl (fun hc => ?_) (fun hc => ?_)
  · skip
    rw [if_pos hc] at hm
    refine WP.seq ?_
    refine WP.region ?_
    refine RW.run ttok 1 rfl ?_
    refine RW.nil ?_
    refine WP.ret ?_
    cases hm
    exact ⟨_, .cons (.tmp rfl) .nil, rfl, hS⟩
  · skip
    rw [if_neg (not_t hc)] at hm
    refine WP.skip ?_
    refine WP.seq ?_
    refine WP.seq ?_
    refine WP.region ?_
    refine RW.run ttok 1 rfl ?_
    refine RW.nil ?_
    obtain ⟨o8, hl9, hm⟩ := bind_some hm
    refine WP.cut (fun (t2 : Unit) F w9 => o8 = .inl t2 ∧ Ext w w9 ∧ St w w9 [] ∧ F = []) ?_ ?_
    · skip
      rintro t2 F w7 ⟨ho11, hE6, hS10, rfl⟩
      subst ho11
      rw [aft_inl] at hm
      unfold m_laws_eqInt64S_j1 at hm
      refine WP.seq ?_
      refine WP.region ?_
      refine RW.run ttok 1 rfl ?_
      refine RW.nil ?_
      refine WP.ret ?_
      cases hm
      exact ⟨_, .cons (.tmp rfl) .nil, rfl, hS10⟩
    · skip
      refine WP.block ?_
      refine WP.weak [(0, .slice A0_ x0.length k0_), (1, .slice A1_ x1.length k1_), (5, .int .i64 0)] ⟨rfl, rfl, rfl, trivial⟩ ?_
      refine WP.iter (fun (s1 : Int) F w9 => Ext w w9 ∧ St w w9 [] ∧ F = [(0, .slice A0_ x0.length k0_), (1, .slice A1_ x1.length k1_), (5, .int .i64 s1)]) _ hl9 ⟨(Ext.refl _), hS, rfl⟩ ?_
      rintro s1 F w16 _ o14 ⟨hE5, hS15, rfl⟩ hb12 ho13
      unfold m_laws_eqInt64S_b1 at hb12
      refine WP.seq ?_
      refine WP.seq ?_
      refine WP.region ?_
      refine RW.run ttok 4 rfl ?_
      refine RW.nil ?_
      refine WP.cond (decide (s1 < (x0.length : Int))) rfl (fun hc => ?_) (fun hc => ?_)
      · skip
        rw [if_pos hc] at hb12
        refine WP.skip ?_
        refine WP.seq ?_
        refine WP.block ?_
        refine WP.seq ?_
        refine WP.drawnM 0 mixed 9 (by kernel_rfl) (by kernel_rfl) [([], 511), ([], 511), ([0, 1], 508), ([2], 507), ([], 511), ([], 511), ([4, 5], 463), ([6], 447), ([3, 7], 375)] (by kernel_rfl) (fun hsk17 => ?_)
        have hS18 := hS15.step (Ext.draw _)
        refine DM.run (fuel := 5) ttok hsk17 [0, 1, 4, 5] 51 (by kernel_rfl) (by kernel_rfl) rfl ?_
        obtain ⟨x19, hx20, hb12⟩ := bind_some hb12
        refine DM.idx ttok hS15.ext hsk17 2 55 (by kernel_rfl) (by kernel_rfl) (by kernel_rfl) (by kernel_rfl) rfl (by kernel_rfl) rfl rfl rfl rfl rfl rfl (by decide) rfl rfl h0_ (idx_some hx20).1 (idx_some hx20).2 rfl rfl (fun p21 es22 ha23 hr24 => ?_)
        cases hr24
        refine DM.load1 ttok hsk17 3 63 (by kernel_rfl) (by kernel_rfl) (by kernel_rfl) (by kernel_rfl) rfl (by kernel_rfl) rfl rfl rfl rfl rfl (At.ext hS15.ext ha23) 0 rfl rfl rfl rfl ?_
        obtain ⟨x25, hx26, hb12⟩ := bind_some hb12
        refine DM.idx ttok hS15.ext hsk17 6 127 (by kernel_rfl) (by kernel_rfl) (by kernel_rfl) (by kernel_rfl) rfl (by kernel_rfl) rfl rfl rfl rfl rfl rfl (by decide) rfl rfl h1_ (idx_some hx26).1 (idx_some hx26).2 rfl rfl (fun p27 es28 ha29 hr30 => ?_)
        cases hr30
        refine DM.load1 ttok hsk17 7 255 (by kernel_rfl) (by kernel_rfl) (by kernel_rfl) (by kernel_rfl) rfl (by kernel_rfl) rfl rfl rfl rfl rfl (At.ext hS15.ext ha29) 0 rfl rfl rfl rfl ?_
        refine DM.run (fuel := 0) ttok hsk17 [8] 511 (by kernel_rfl) (by kernel_rfl) rfl ?_
        refine DM.weak [(0, .slice A0_ x0.length k0_), (1, .slice A1_ x1.length k1_), (5, .int .i64 s1), (25, .bool (x19 != x25))] ⟨rfl, rfl, rfl, rfl, trivial⟩ ?_
        refine DM.done hsk17 (by kernel_rfl) ?_
        refine WP.cond (x19 != x25) rfl (fun hc => ?_) (fun hc => ?_)
        · skip
          rw [if_pos hc] at hb12
          refine WP.seq ?_
          refine WP.region ?_
          refine RW.run ttok 1 rfl ?_
          refine RW.nil ?_
          refine WP.ret ?_
          cases hb12
          cases ho13
          have hm : some _ = some _ := hm
          cases hm
          exact ⟨_, .cons (.tmp rfl) .nil, rfl, hS18⟩
        · skip
          rw [if_neg (not_t hc)] at hb12
          refine WP.skip ?_
          refine WP.region ?_
          refine RW.run ttok 3 rfl ?_
          refine RW.nil ?_
          cases hb12
          exact ⟨_, [(0, .slice A0_ x0.length k0_), (1, .slice A1_ x1.length k1_), (5, .int .i64 (w64 (s1 + 1)))], ⟨rfl, rfl, rfl, trivial⟩, rfl, (hE5.trans (Ext.draw _)), hS18, rfl⟩
      · skip
        rw [if_neg (not_t hc)] at hb12
        refine WP.exit ?_
        cases hb12
        exact ⟨_, [], trivial, ho13, hE5, hS15, rfl⟩

theorem enters135 : Enters Try.prog 135 := ⟨_, _, Try.func135, rfl, by kernel_rfl⟩
def m_laws_eqDequeActor (fuel : Nat) (x0 : D.DequeActor) (x1 : D.DequeActor) : Option (Bool) := ((m_laws_eqInt64S fuel x0.Todo x1.Todo).bind fun r17 => (if (!r17) = true then some false else (if (x0.Pc != x1.Pc) = true then some false else (if (x0.T != x1.T) = true then some false else (if (x0.B != x1.B) = true then some false else (if (x0.X != x1.X) = true then some false else some true))))))

set_option maxRecDepth 100000 in
theorem laws_eqDequeActor_ok {w : World} {c0_ : List Value} {x0 : D.DequeActor} {c1_ : List Value} {x1 : D.DequeActor} (h0_ : ty110.ro w c0_ x0) (h1_ : ty110.ro w c1_ x1) {fuel : Nat} {r : Bool} (hm : m_laws_eqDequeActor fuel x0 x1 = some r) :
    Calls Try.prog 135 ⟨[.agg ⟨c0_⟩, .agg ⟨c1_⟩]⟩ w (Ret fun v w8 => v = .bool r ∧ St w w8 []) := by
  obtain ⟨A1, k2, e4, h3⟩ := ty110_open h0_; subst e4
  obtain ⟨A5, k6, e8, h7⟩ := ty110_open h1_; subst e8
  refine Calls.into Try.func135 rfl 31 rfl rfl _ rfl ?_
  unfold m_laws_eqDequeActor at hm
  have hS := St.start w
  refine WP.seq ?_
  refine WP.region ?_
  refine RW.new ttok hS rfl rfl rfl rfl (fun g9 w10 e11 hS12 => ?_)
  refine RW.new ttok hS12 rfl rfl rfl rfl (fun g13 w14 e15 hS16 => ?_)
  refine RW.run ttok 1 rfl ?_
  refine RW.nil ?_
  refine WP.seq ?_
  refine WP.seq ?_
  refine WP.region ?_
  refine RW.run ttok 1 rfl ?_
  refine RW.load1 ttok rfl rfl rfl rfl rfl ((hS16.bring 1 rfl).box) 0 rfl rfl rfl rfl ?_
  refine RW.run ttok 1 rfl ?_
  refine RW.load1 ttok rfl rfl rfl rfl rfl ((hS16.bring 0 rfl).box) 0 rfl rfl rfl rfl ?_
  obtain ⟨r17, hx18, hm⟩ := bind_some hm
  refine RW.call rfl rfl rfl enters19 (laws_eqInt64S_ok (ty22.ext hS16.ext h3) (ty22.ext hS16.ext h7) hx18) (fun v19 w20 hR21 => ?_)
  obtain ⟨rfl, hR22⟩ := hR21
  have hS23 := hS16.join hR22
  refine RW.run ttok 1 rfl ?_
  refine RW.nil ?_
  refine WP.cond (!r17) rfl (fun hc => ?_) (fun hc => ?_)
  · skip
    rw [if_pos hc] at hm
    refine WP.seq ?_
    refine WP.region ?_
    refine RW.run ttok 1 rfl ?_
    refine RW.nil ?_
    refine WP.ret ?_
    cases hm
    exact ⟨_, .cons (.tmp rfl) .nil, rfl, (hS23.taken 0)⟩
  · skip
    rw [if_neg (not_t hc)] at hm
    refine WP.skip ?_
    refine WP.seq ?_
    refine WP.seq ?_
    refine WP.region ?_
    refine RW.run ttok 1 rfl ?_
    refine RW.load1 ttok rfl rfl rfl rfl rfl ((hS23.bring 1 rfl).box) 1 rfl rfl rfl rfl ?_
    refine RW.run ttok 1 rfl ?_
    refine RW.load1 ttok rfl rfl rfl rfl rfl ((hS23.bring 0 rfl).box) 1 rfl rfl rfl rfl ?_
    refine RW.run ttok 1 rfl ?_
    refine RW.nil ?_
    refine WP.cond (x0.Pc != x1.Pc) rfl (fun hc => ?_) (fun hc => ?_)
    · skip
      rw [if_pos hc] at hm
      refine WP.seq ?_
      refine WP.region ?_
      refine RW.run ttok 1 rfl ?_
      refine RW.nil ?_
      refine WP.ret ?_
      cases hm
      exact ⟨_, .cons (.tmp rfl) .nil, rfl, (hS23.taken 0)⟩
    · skip
      rw [if_neg (not_t hc)] at hm
      refine WP.skip ?_
      refine WP.seq ?_
      refine WP.seq ?_
      refine WP.region ?_
      refine RW.run ttok 1 rfl ?_
      refine RW.load1 ttok rfl rfl rfl rfl rfl ((hS23.bring 1 rfl).box) 2 rfl rfl rfl rfl ?_
      refine RW.run ttok 1 rfl ?_
      refine RW.load1 ttok rfl rfl rfl rfl rfl ((hS23.bring 0 rfl).box) 2 rfl rfl rfl rfl ?_
      refine RW.run ttok 1 rfl ?_
      refine RW.nil ?_
      refine WP.cond (x0.T != x1.T) rfl (fun hc => ?_) (fun hc => ?_)
      · skip
        rw [if_pos hc] at hm
        refine WP.seq ?_
        refine WP.region ?_
        refine RW.run ttok 1 rfl ?_
        refine RW.nil ?_
        refine WP.ret ?_
        cases hm
        exact ⟨_, .cons (.tmp rfl) .nil, rfl, (hS23.taken 0)⟩
      · skip
        rw [if_neg (not_t hc)] at hm
        refine WP.skip ?_
        refine WP.seq ?_
        refine WP.seq ?_
        refine WP.region ?_
        refine RW.run ttok 1 rfl ?_
        refine RW.load1 ttok rfl rfl rfl rfl rfl ((hS23.bring 1 rfl).box) 3 rfl rfl rfl rfl ?_
        refine RW.run ttok 1 rfl ?_
        refine RW.load1 ttok rfl rfl rfl rfl rfl ((hS23.bring 0 rfl).box) 3 rfl rfl rfl rfl ?_
        refine RW.run ttok 1 rfl ?_
        refine RW.nil ?_
        refine WP.cond (x0.B != x1.B) rfl (fun hc => ?_) (fun hc => ?_)
        · skip
          rw [if_pos hc] at hm
          refine WP.seq ?_
          refine WP.region ?_
          refine RW.run ttok 1 rfl ?_
          refine RW.nil ?_
          refine WP.ret ?_
          cases hm
          exact ⟨_, .cons (.tmp rfl) .nil, rfl, (hS23.taken 0)⟩
        · skip
          rw [if_neg (not_t hc)] at hm
          refine WP.skip ?_
          refine WP.seq ?_
          refine WP.seq ?_
          refine WP.region ?_
          refine RW.run ttok 1 rfl ?_
          refine RW.load1 ttok rfl rfl rfl rfl rfl ((hS23.bring 1 rfl).box) 4 rfl rfl rfl rfl ?_
          refine RW.run ttok 1 rfl ?_
          refine RW.load1 ttok rfl rfl rfl rfl rfl ((hS23.bring 0 rfl).box) 4 rfl rfl rfl rfl ?_
          refine RW.run ttok 1 rfl ?_
          refine RW.nil ?_
          refine WP.cond (x0.X != x1.X) rfl (fun hc => ?_) (fun hc => ?_)
          · skip
            rw [if_pos hc] at hm
            refine WP.seq ?_
            refine WP.region ?_
            refine RW.run ttok 1 rfl ?_
            refine RW.nil ?_
            refine WP.ret ?_
            cases hm
            exact ⟨_, .cons (.tmp rfl) .nil, rfl, (hS23.taken 0)⟩
          · skip
            rw [if_neg (not_t hc)] at hm
            refine WP.skip ?_
            refine WP.seq ?_
            refine WP.region ?_
            refine RW.run ttok 1 rfl ?_
            refine RW.nil ?_
            refine WP.ret ?_
            cases hm
            exact ⟨_, .cons (.tmp rfl) .nil, rfl, (hS23.taken 0)⟩

theorem enters75 : Enters Try.prog 75 := ⟨_, _, Try.func75, rfl, by kernel_rfl⟩
def m_laws_eqDequeActorS_j1 (fuel : Nat) (t2 : Unit) : Option Bool := some true
def m_laws_eqDequeActorS_b1 (fuel : Nat) (x0 : (List D.DequeActor)) (x1 : (List D.DequeActor)) (s1 : Int) : Option (Rd (Int) (Unit) (Bool)) := (if (decide (s1 < (x0.length : Int))) = true then ((idx x0 s1).bind fun x19 => ((idx x1 s1).bind fun x29 => ((m_laws_eqDequeActor fuel x19 x29).bind fun r39 => (if (!r39) = true then some (.ret false) else some (.next (w64 (s1 + 1))))))) else some (.brk ()))
def m_laws_eqDequeActorS (fuel : Nat) (x0 : (List D.DequeActor)) (x1 : (List D.DequeActor)) : Option (Bool) := (if ((x0.length : Int) != (x1.length : Int)) = true then some false else ((iter (m_laws_eqDequeActorS_b1 fuel x0 x1) fuel 0).bind fun o => aft o (m_laws_eqDequeActorS_j1 fuel)))

set_option maxRecDepth 100000 in
theorem laws_eqDequeActorS_ok {w : World} {A0_ : Option Addr} {k0_ : Nat} {x0 : (List D.DequeActor)} {A1_ : Option Addr} {k1_ : Nat} {x1 : (List D.DequeActor)} (h0_ : ty23.ro w [.slice A0_ x0.length k0_] x0) (h1_ : ty23.ro w [.slice A1_ x1.length k1_] x1) {fuel : Nat} {r : Bool} (hm : m_laws_eqDequeActorS fuel x0 x1 = some r) :
    Calls Try.prog 75 ⟨[.slice A0_ x0.length k0_, .slice A1_ x1.length k1_]⟩ w (Ret fun v w8 => v = .bool r ∧ St w w8 []) := by
  refine Calls.into Try.func75 rfl 27 rfl rfl _ rfl ?_
  unfold m_laws_eqDequeActorS at hm
  have hS := St.start w
  refine WP.seq ?_
  refine WP.region ?_
  refine RW.run ttok 1 rfl ?_
  refine RW.nil ?_
  refine WP.seq ?_
  refine WP.seq ?_
  refine WP.region ?_
  refine RW.run ttok 5 rfl ?_
  refine RW.nil ?_
  refine WP.cond ((x0.length : Int) != (x1.length : Int)) rfl (fun hc => ?_) (fun hc => ?_)
  · skip
    rw [if_pos hc] at hm
    refine WP.seq ?_
    refine WP.region ?_
    refine RW.run ttok 1 rfl ?_
    refine RW.nil ?_
    refine WP.ret ?_
    cases hm
    exact ⟨_, .cons (.tmp rfl) .nil, rfl, hS⟩
  · skip
    rw [if_neg (not_t hc)] at hm
    refine WP.skip ?_
    refine WP.seq ?_
    refine WP.seq ?_
    refine WP.region ?_
    refine RW.run ttok 1 rfl ?_
    refine RW.nil ?_
    obtain ⟨o8, hl9, hm⟩ := bind_some hm
    refine WP.cut (fun (t2 : Unit) F w9 => o8 = .inl t2 ∧ Ext w w9 ∧ St w w9 [] ∧ F = []) ?_ ?_
    · skip
      rintro t2 F w7 ⟨ho11, hE6, hS10, rfl⟩
      subst ho11
      rw [aft_inl] at hm
      unfold m_laws_eqDequeActorS_j1 at hm
      refine WP.seq ?_
      refine WP.region ?_
      refine RW.run ttok 1 rfl ?_
      refine RW.nil ?_
      refine WP.ret ?_
      cases hm
      exact ⟨_, .cons (.tmp rfl) .nil, rfl, hS10⟩
    · skip
      refine WP.block ?_
      refine WP.weak [(0, .slice A0_ x0.length k0_), (1, .slice A1_ x1.length k1_), (5, .int .i64 0)] ⟨rfl, rfl, rfl, trivial⟩ ?_
      refine WP.iter (fun (s1 : Int) F w9 => Ext w w9 ∧ St w w9 [] ∧ F = [(0, .slice A0_ x0.length k0_), (1, .slice A1_ x1.length k1_), (5, .int .i64 s1)]) _ hl9 ⟨(Ext.refl _), hS, rfl⟩ ?_
      rintro s1 F w16 _ o14 ⟨hE5, hS15, rfl⟩ hb12 ho13
      unfold m_laws_eqDequeActorS_b1 at hb12
      refine WP.seq ?_
      refine WP.seq ?_
      refine WP.region ?_
      refine RW.run ttok 4 rfl ?_
      refine RW.nil ?_
      refine WP.cond (decide (s1 < (x0.length : Int))) rfl (fun hc => ?_) (fun hc => ?_)
      · skip
        rw [if_pos hc] at hb12
        refine WP.skip ?_
        refine WP.seq ?_
        refine WP.block ?_
        refine WP.seq ?_
        refine WP.drawnM 0 mixed 10 (by kernel_rfl) (by kernel_rfl) [([], 1023), ([], 1023), ([0, 1], 1020), ([2], 1019), ([], 1023), ([], 1023), ([4, 5], 975), ([6], 959), ([3, 7], 887), ([8], 767)] (by kernel_rfl) (fun hsk17 => ?_)
        have hS18 := hS15.step (Ext.draw _)
        refine DM.run (fuel := 6) ttok hsk17 [0, 1, 4, 5] 51 (by kernel_rfl) (by kernel_rfl) rfl ?_
        obtain ⟨x19, hx20, hb12⟩ := bind_some hb12
        refine DM.idx ttok hS15.ext hsk17 2 55 (by kernel_rfl) (by kernel_rfl) (by kernel_rfl) (by kernel_rfl) rfl (by kernel_rfl) rfl rfl rfl rfl rfl rfl (by decide) rfl rfl h0_ (idx_some hx20).1 (idx_some hx20).2 rfl rfl (fun p21 es22 ha23 hr24 => ?_)
        obtain ⟨A25, k26, e28, h27⟩ := ty110_open hr24; subst e28
        refine DM.loadN ttok hsk17 3 63 (by kernel_rfl) (by kernel_rfl) (by kernel_rfl) (by kernel_rfl) rfl (by kernel_rfl) rfl rfl rfl rfl rfl (At.ext hS15.ext ha23) rfl rfl rfl ?_
        obtain ⟨x29, hx30, hb12⟩ := bind_some hb12
        refine DM.idx ttok hS15.ext hsk17 6 127 (by kernel_rfl) (by kernel_rfl) (by kernel_rfl) (by kernel_rfl) rfl (by kernel_rfl) rfl rfl rfl rfl rfl rfl (by decide) rfl rfl h1_ (idx_some hx30).1 (idx_some hx30).2 rfl rfl (fun p31 es32 ha33 hr34 => ?_)
        obtain ⟨A35, k36, e38, h37⟩ := ty110_open hr34; subst e38
        refine DM.loadN ttok hsk17 7 255 (by kernel_rfl) (by kernel_rfl) (by kernel_rfl) (by kernel_rfl) rfl (by kernel_rfl) rfl rfl rfl rfl rfl (At.ext hS15.ext ha33) rfl rfl rfl ?_
        obtain ⟨r39, hx40, hb12⟩ := bind_some hb12
        refine DM.one hsk17 8 (by kernel_rfl) (LM.call hsk17 511 (by kernel_rfl) (by kernel_rfl) rfl rfl rfl rfl enters135 (laws_eqDequeActor_ok (ty110.ext hS18.ext hr24) (ty110.ext hS18.ext hr34) hx40) (fun v41 w42 hR43 => ?_))
        obtain ⟨rfl, hR44⟩ := hR43
        refine ⟨hR44.ext, ?_⟩
        have hS45 := hS18.join hR44
        refine DM.run (fuel := 0) ttok hsk17 [9] 1023 (by kernel_rfl) (by kernel_rfl) rfl ?_
        refine DM.weak [(0, .slice A0_ x0.length k0_), (1, .slice A1_ x1.length k1_), (5, .int .i64 s1), (26, .bool (!r39))] ⟨rfl, rfl, rfl, rfl, trivial⟩ ?_
        refine DM.done hsk17 (by kernel_rfl) ?_
        refine WP.cond (!r39) rfl (fun hc => ?_) (fun hc => ?_)
        · skip
          rw [if_pos hc] at hb12
          refine WP.seq ?_
          refine WP.region ?_
          refine RW.run ttok 1 rfl ?_
          refine RW.nil ?_
          refine WP.ret ?_
          cases hb12
          cases ho13
          have hm : some _ = some _ := hm
          cases hm
          exact ⟨_, .cons (.tmp rfl) .nil, rfl, hS45⟩
        · skip
          rw [if_neg (not_t hc)] at hb12
          refine WP.skip ?_
          refine WP.region ?_
          refine RW.run ttok 3 rfl ?_
          refine RW.nil ?_
          cases hb12
          exact ⟨_, [(0, .slice A0_ x0.length k0_), (1, .slice A1_ x1.length k1_), (5, .int .i64 (w64 (s1 + 1)))], ⟨rfl, rfl, rfl, trivial⟩, rfl, ((hE5.trans (Ext.draw _)).trans hR44.ext), hS45, rfl⟩
      · skip
        rw [if_neg (not_t hc)] at hb12
        refine WP.exit ?_
        cases hb12
        exact ⟨_, [], trivial, ho13, hE5, hS15, rfl⟩

theorem enters136 : Enters Try.prog 136 := ⟨_, _, Try.func136, rfl, by kernel_rfl⟩
def m_laws_eqHanded (fuel : Nat) (x0 : D.Handed) (x1 : D.Handed) : Option (Bool) := (if (x0.Actor != x1.Actor) = true then some false else (if (x0.Value != x1.Value) = true then some false else some true))

set_option maxRecDepth 100000 in
theorem laws_eqHanded_ok {w : World} {c0_ : List Value} {x0 : D.Handed} {c1_ : List Value} {x1 : D.Handed} (h0_ : ty179.ro w c0_ x0) (h1_ : ty179.ro w c1_ x1) {fuel : Nat} {r : Bool} (hm : m_laws_eqHanded fuel x0 x1 = some r) :
    Calls Try.prog 136 ⟨[.agg ⟨c0_⟩, .agg ⟨c1_⟩]⟩ w (Ret fun v w8 => v = .bool r ∧ St w w8 []) := by
  have e1 := ty179_open h0_; subst e1
  have e2 := ty179_open h1_; subst e2
  refine Calls.into Try.func136 rfl 15 rfl rfl _ rfl ?_
  unfold m_laws_eqHanded at hm
  have hS := St.start w
  refine WP.seq ?_
  refine WP.region ?_
  refine RW.new ttok hS rfl rfl rfl rfl (fun g3 w4 e5 hS6 => ?_)
  refine RW.new ttok hS6 rfl rfl rfl rfl (fun g7 w8 e9 hS10 => ?_)
  refine RW.run ttok 1 rfl ?_
  refine RW.nil ?_
  refine WP.seq ?_
  refine WP.seq ?_
  refine WP.region ?_
  refine RW.run ttok 1 rfl ?_
  refine RW.load1 ttok rfl rfl rfl rfl rfl ((hS10.bring 1 rfl).box) 0 rfl rfl rfl rfl ?_
  refine RW.run ttok 1 rfl ?_
  refine RW.load1 ttok rfl rfl rfl rfl rfl ((hS10.bring 0 rfl).box) 0 rfl rfl rfl rfl ?_
  refine RW.run ttok 1 rfl ?_
  refine RW.nil ?_
  refine WP.cond (x0.Actor != x1.Actor) rfl (fun hc => ?_) (fun hc => ?_)
  · skip
    rw [if_pos hc] at hm
    refine WP.seq ?_
    refine WP.region ?_
    refine RW.run ttok 1 rfl ?_
    refine RW.nil ?_
    refine WP.ret ?_
    cases hm
    exact ⟨_, .cons (.tmp rfl) .nil, rfl, (hS10.taken 0)⟩
  · skip
    rw [if_neg (not_t hc)] at hm
    refine WP.skip ?_
    refine WP.seq ?_
    refine WP.seq ?_
    refine WP.region ?_
    refine RW.run ttok 1 rfl ?_
    refine RW.load1 ttok rfl rfl rfl rfl rfl ((hS10.bring 1 rfl).box) 1 rfl rfl rfl rfl ?_
    refine RW.run ttok 1 rfl ?_
    refine RW.load1 ttok rfl rfl rfl rfl rfl ((hS10.bring 0 rfl).box) 1 rfl rfl rfl rfl ?_
    refine RW.run ttok 1 rfl ?_
    refine RW.nil ?_
    refine WP.cond (x0.Value != x1.Value) rfl (fun hc => ?_) (fun hc => ?_)
    · skip
      rw [if_pos hc] at hm
      refine WP.seq ?_
      refine WP.region ?_
      refine RW.run ttok 1 rfl ?_
      refine RW.nil ?_
      refine WP.ret ?_
      cases hm
      exact ⟨_, .cons (.tmp rfl) .nil, rfl, (hS10.taken 0)⟩
    · skip
      rw [if_neg (not_t hc)] at hm
      refine WP.skip ?_
      refine WP.seq ?_
      refine WP.region ?_
      refine RW.run ttok 1 rfl ?_
      refine RW.nil ?_
      refine WP.ret ?_
      cases hm
      exact ⟨_, .cons (.tmp rfl) .nil, rfl, (hS10.taken 0)⟩

theorem enters76 : Enters Try.prog 76 := ⟨_, _, Try.func76, rfl, by kernel_rfl⟩
def m_laws_eqHandedS_j1 (fuel : Nat) (t2 : Unit) : Option Bool := some true
def m_laws_eqHandedS_b1 (fuel : Nat) (x0 : (List D.Handed)) (x1 : (List D.Handed)) (s1 : Int) : Option (Rd (Int) (Unit) (Bool)) := (if (decide (s1 < (x0.length : Int))) = true then ((idx x0 s1).bind fun x19 => ((idx x1 s1).bind fun x26 => ((m_laws_eqHanded fuel x19 x26).bind fun r33 => (if (!r33) = true then some (.ret false) else some (.next (w64 (s1 + 1))))))) else some (.brk ()))
def m_laws_eqHandedS (fuel : Nat) (x0 : (List D.Handed)) (x1 : (List D.Handed)) : Option (Bool) := (if ((x0.length : Int) != (x1.length : Int)) = true then some false else ((iter (m_laws_eqHandedS_b1 fuel x0 x1) fuel 0).bind fun o => aft o (m_laws_eqHandedS_j1 fuel)))

set_option maxRecDepth 100000 in
theorem laws_eqHandedS_ok {w : World} {A0_ : Option Addr} {k0_ : Nat} {x0 : (List D.Handed)} {A1_ : Option Addr} {k1_ : Nat} {x1 : (List D.Handed)} (h0_ : ty24.ro w [.slice A0_ x0.length k0_] x0) (h1_ : ty24.ro w [.slice A1_ x1.length k1_] x1) {fuel : Nat} {r : Bool} (hm : m_laws_eqHandedS fuel x0 x1 = some r) :
    Calls Try.prog 76 ⟨[.slice A0_ x0.length k0_, .slice A1_ x1.length k1_]⟩ w (Ret fun v w8 => v = .bool r ∧ St w w8 []) := by
  refine Calls.into Try.func76 rfl 27 rfl rfl _ rfl ?_
  unfold m_laws_eqHandedS at hm
  have hS := St.start w
  refine WP.seq ?_
  refine WP.region ?_
  refine RW.run ttok 1 rfl ?_
  refine RW.nil ?_
  refine WP.seq ?_
  refine WP.seq ?_
  refine WP.region ?_
  refine RW.run ttok 5 rfl ?_
  refine RW.nil ?_
  refine WP.cond ((x0.length : Int) != (x1.length : Int)) rfl (fun hc => ?_) (fun hc => ?_)
  · skip
    rw [if_pos hc] at hm
    refine WP.seq ?_
    refine WP.region ?_
    refine RW.run ttok 1 rfl ?_
    refine RW.nil ?_
    refine WP.ret ?_
    cases hm
    exact ⟨_, .cons (.tmp rfl) .nil, rfl, hS⟩
  · skip
    rw [if_neg (not_t hc)] at hm
    refine WP.skip ?_
    refine WP.seq ?_
    refine WP.seq ?_
    refine WP.region ?_
    refine RW.run ttok 1 rfl ?_
    refine RW.nil ?_
    obtain ⟨o8, hl9, hm⟩ := bind_some hm
    refine WP.cut (fun (t2 : Unit) F w9 => o8 = .inl t2 ∧ Ext w w9 ∧ St w w9 [] ∧ F = []) ?_ ?_
    · skip
      rintro t2 F w7 ⟨ho11, hE6, hS10, rfl⟩
      subst ho11
      rw [aft_inl] at hm
      unfold m_laws_eqHandedS_j1 at hm
      refine WP.seq ?_
      refine WP.region ?_
      refine RW.run ttok 1 rfl ?_
      refine RW.nil ?_
      refine WP.ret ?_
      cases hm
      exact ⟨_, .cons (.tmp rfl) .nil, rfl, hS10⟩
    · skip
      refine WP.block ?_
      refine WP.weak [(0, .slice A0_ x0.length k0_), (1, .slice A1_ x1.length k1_), (5, .int .i64 0)] ⟨rfl, rfl, rfl, trivial⟩ ?_
      refine WP.iter (fun (s1 : Int) F w9 => Ext w w9 ∧ St w w9 [] ∧ F = [(0, .slice A0_ x0.length k0_), (1, .slice A1_ x1.length k1_), (5, .int .i64 s1)]) _ hl9 ⟨(Ext.refl _), hS, rfl⟩ ?_
      rintro s1 F w16 _ o14 ⟨hE5, hS15, rfl⟩ hb12 ho13
      unfold m_laws_eqHandedS_b1 at hb12
      refine WP.seq ?_
      refine WP.seq ?_
      refine WP.region ?_
      refine RW.run ttok 4 rfl ?_
      refine RW.nil ?_
      refine WP.cond (decide (s1 < (x0.length : Int))) rfl (fun hc => ?_) (fun hc => ?_)
      · skip
        rw [if_pos hc] at hb12
        refine WP.skip ?_
        refine WP.seq ?_
        refine WP.block ?_
        refine WP.seq ?_
        refine WP.drawnM 0 mixed 10 (by kernel_rfl) (by kernel_rfl) [([], 1023), ([], 1023), ([0, 1], 1020), ([2], 1019), ([], 1023), ([], 1023), ([4, 5], 975), ([6], 959), ([3, 7], 887), ([8], 767)] (by kernel_rfl) (fun hsk17 => ?_)
        have hS18 := hS15.step (Ext.draw _)
        refine DM.run (fuel := 6) ttok hsk17 [0, 1, 4, 5] 51 (by kernel_rfl) (by kernel_rfl) rfl ?_
        obtain ⟨x19, hx20, hb12⟩ := bind_some hb12
        refine DM.idx ttok hS15.ext hsk17 2 55 (by kernel_rfl) (by kernel_rfl) (by kernel_rfl) (by kernel_rfl) rfl (by kernel_rfl) rfl rfl rfl rfl rfl rfl (by decide) rfl rfl h0_ (idx_some hx20).1 (idx_some hx20).2 rfl rfl (fun p21 es22 ha23 hr24 => ?_)
        have e25 := ty179_open hr24; subst e25
        refine DM.loadN ttok hsk17 3 63 (by kernel_rfl) (by kernel_rfl) (by kernel_rfl) (by kernel_rfl) rfl (by kernel_rfl) rfl rfl rfl rfl rfl (At.ext hS15.ext ha23) rfl rfl rfl ?_
        obtain ⟨x26, hx27, hb12⟩ := bind_some hb12
        refine DM.idx ttok hS15.ext hsk17 6 127 (by kernel_rfl) (by kernel_rfl) (by kernel_rfl) (by kernel_rfl) rfl (by kernel_rfl) rfl rfl rfl rfl rfl rfl (by decide) rfl rfl h1_ (idx_some hx27).1 (idx_some hx27).2 rfl rfl (fun p28 es29 ha30 hr31 => ?_)
        have e32 := ty179_open hr31; subst e32
        refine DM.loadN ttok hsk17 7 255 (by kernel_rfl) (by kernel_rfl) (by kernel_rfl) (by kernel_rfl) rfl (by kernel_rfl) rfl rfl rfl rfl rfl (At.ext hS15.ext ha30) rfl rfl rfl ?_
        obtain ⟨r33, hx34, hb12⟩ := bind_some hb12
        refine DM.one hsk17 8 (by kernel_rfl) (LM.call hsk17 511 (by kernel_rfl) (by kernel_rfl) rfl rfl rfl rfl enters136 (laws_eqHanded_ok (ty179.ext hS18.ext hr24) (ty179.ext hS18.ext hr31) hx34) (fun v35 w36 hR37 => ?_))
        obtain ⟨rfl, hR38⟩ := hR37
        refine ⟨hR38.ext, ?_⟩
        have hS39 := hS18.join hR38
        refine DM.run (fuel := 0) ttok hsk17 [9] 1023 (by kernel_rfl) (by kernel_rfl) rfl ?_
        refine DM.weak [(0, .slice A0_ x0.length k0_), (1, .slice A1_ x1.length k1_), (5, .int .i64 s1), (26, .bool (!r33))] ⟨rfl, rfl, rfl, rfl, trivial⟩ ?_
        refine DM.done hsk17 (by kernel_rfl) ?_
        refine WP.cond (!r33) rfl (fun hc => ?_) (fun hc => ?_)
        · skip
          rw [if_pos hc] at hb12
          refine WP.seq ?_
          refine WP.region ?_
          refine RW.run ttok 1 rfl ?_
          refine RW.nil ?_
          refine WP.ret ?_
          cases hb12
          cases ho13
          have hm : some _ = some _ := hm
          cases hm
          exact ⟨_, .cons (.tmp rfl) .nil, rfl, hS39⟩
        · skip
          rw [if_neg (not_t hc)] at hb12
          refine WP.skip ?_
          refine WP.region ?_
          refine RW.run ttok 3 rfl ?_
          refine RW.nil ?_
          cases hb12
          exact ⟨_, [(0, .slice A0_ x0.length k0_), (1, .slice A1_ x1.length k1_), (5, .int .i64 (w64 (s1 + 1)))], ⟨rfl, rfl, rfl, trivial⟩, rfl, ((hE5.trans (Ext.draw _)).trans hR38.ext), hS39, rfl⟩
      · skip
        rw [if_neg (not_t hc)] at hb12
        refine WP.exit ?_
        cases hb12
        exact ⟨_, [], trivial, ho13, hE5, hS15, rfl⟩

theorem enters18 : Enters Try.prog 18 := ⟨_, _, Try.func18, rfl, by kernel_rfl⟩
def m_laws_eqDeque (fuel : Nat) (x0 : D.Deque) (x1 : D.Deque) : Option (Bool) := (if (x0.Top != x1.Top) = true then some false else (if (x0.Bottom != x1.Bottom) = true then some false else ((m_laws_eqInt64S fuel x0.Buffer x1.Buffer).bind fun r35 => (if (!r35) = true then some false else ((m_laws_eqDequeActorS fuel x0.Actors x1.Actors).bind fun r42 => (if (!r42) = true then some false else ((m_laws_eqHandedS fuel x0.Taken x1.Taken).bind fun r49 => (if (!r49) = true then some false else ((m_laws_eqInt64S fuel x0.Refused x1.Refused).bind fun r56 => (if (!r56) = true then some false else some true))))))))))

set_option maxRecDepth 100000 in
theorem laws_eqDeque_ok {w : World} {c0_ : List Value} {x0 : D.Deque} {c1_ : List Value} {x1 : D.Deque} (h0_ : ty26.ro w c0_ x0) (h1_ : ty26.ro w c1_ x1) {fuel : Nat} {r : Bool} (hm : m_laws_eqDeque fuel x0 x1 = some r) :
    Calls Try.prog 18 ⟨[.agg ⟨c0_⟩, .agg ⟨c1_⟩]⟩ w (Ret fun v w8 => v = .bool r ∧ St w w8 []) := by
  obtain ⟨A1, k2, A4, k5, A7, k8, A10, k11, e13, h3, h6, h9, h12⟩ := ty26_open h0_; subst e13
  obtain ⟨A14, k15, A17, k18, A20, k21, A23, k24, e26, h16, h19, h22, h25⟩ := ty26_open h1_; subst e26
  refine Calls.into Try.func18 rfl 39 rfl rfl _ rfl ?_
  unfold m_laws_eqDeque at hm
  have hS := St.start w
  refine WP.seq ?_
  refine WP.region ?_
  refine RW.new ttok hS rfl rfl rfl rfl (fun g27 w28 e29 hS30 => ?_)
  refine RW.new ttok hS30 rfl rfl rfl rfl (fun g31 w32 e33 hS34 => ?_)
  refine RW.run ttok 1 rfl ?_
  refine RW.nil ?_
  refine WP.seq ?_
  refine WP.seq ?_
  refine WP.region ?_
  refine RW.run ttok 1 rfl ?_
  refine RW.load1 ttok rfl rfl rfl rfl rfl ((hS34.bring 1 rfl).box) 0 rfl rfl rfl rfl ?_
  refine RW.run ttok 1 rfl ?_
  refine RW.load1 ttok rfl rfl rfl rfl rfl ((hS34.bring 0 rfl).box) 0 rfl rfl rfl rfl ?_
  refine RW.run ttok 1 rfl ?_
  refine RW.nil ?_
  refine WP.cond (x0.Top != x1.Top) rfl (fun hc => ?_) (fun hc => ?_)
  · skip
    rw [if_pos hc] at hm
    refine WP.seq ?_
    refine WP.region ?_
    refine RW.run ttok 1 rfl ?_
    refine RW.nil ?_
    refine WP.ret ?_
    cases hm
    exact ⟨_, .cons (.tmp rfl) .nil, rfl, (hS34.taken 0)⟩
  · skip
    rw [if_neg (not_t hc)] at hm
    refine WP.skip ?_
    refine WP.seq ?_
    refine WP.seq ?_
    refine WP.region ?_
    refine RW.run ttok 1 rfl ?_
    refine RW.load1 ttok rfl rfl rfl rfl rfl ((hS34.bring 1 rfl).box) 1 rfl rfl rfl rfl ?_
    refine RW.run ttok 1 rfl ?_
    refine RW.load1 ttok rfl rfl rfl rfl rfl ((hS34.bring 0 rfl).box) 1 rfl rfl rfl rfl ?_
    refine RW.run ttok 1 rfl ?_
    refine RW.nil ?_
    refine WP.cond (x0.Bottom != x1.Bottom) rfl (fun hc => ?_) (fun hc => ?_)
    · skip
      rw [if_pos hc] at hm
      refine WP.seq ?_
      refine WP.region ?_
      refine RW.run ttok 1 rfl ?_
      refine RW.nil ?_
      refine WP.ret ?_
      cases hm
      exact ⟨_, .cons (.tmp rfl) .nil, rfl, (hS34.taken 0)⟩
    · skip
      rw [if_neg (not_t hc)] at hm
      refine WP.skip ?_
      refine WP.seq ?_
      refine WP.seq ?_
      refine WP.region ?_
      refine RW.run ttok 1 rfl ?_
      refine RW.load1 ttok rfl rfl rfl rfl rfl ((hS34.bring 1 rfl).box) 2 rfl rfl rfl rfl ?_
      refine RW.run ttok 1 rfl ?_
      refine RW.load1 ttok rfl rfl rfl rfl rfl ((hS34.bring 0 rfl).box) 2 rfl rfl rfl rfl ?_
      obtain ⟨r35, hx36, hm⟩ := bind_some hm
      refine RW.call rfl rfl rfl enters19 (laws_eqInt64S_ok (ty22.ext hS34.ext h3) (ty22.ext hS34.ext h16) hx36) (fun v37 w38 hR39 => ?_)
      obtain ⟨rfl, hR40⟩ := hR39
      have hS41 := hS34.join hR40
      refine RW.run ttok 1 rfl ?_
      refine RW.nil ?_
      refine WP.cond (!r35) rfl (fun hc => ?_) (fun hc => ?_)
      · skip
        rw [if_pos hc] at hm
        refine WP.seq ?_
        refine WP.region ?_
        refine RW.run ttok 1 rfl ?_
        refine RW.nil ?_
        refine WP.ret ?_
        cases hm
        exact ⟨_, .cons (.tmp rfl) .nil, rfl, (hS41.taken 0)⟩
      · skip
        rw [if_neg (not_t hc)] at hm
        refine WP.skip ?_
        refine WP.seq ?_
        refine WP.seq ?_
        refine WP.region ?_
        refine RW.run ttok 1 rfl ?_
        refine RW.load1 ttok rfl rfl rfl rfl rfl ((hS41.bring 1 rfl).box) 3 rfl rfl rfl rfl ?_
        refine RW.run ttok 1 rfl ?_
        refine RW.load1 ttok rfl rfl rfl rfl rfl ((hS41.bring 0 rfl).box) 3 rfl rfl rfl rfl ?_
        obtain ⟨r42, hx43, hm⟩ := bind_some hm
        refine RW.call rfl rfl rfl enters75 (laws_eqDequeActorS_ok (ty23.ext hS41.ext h6) (ty23.ext hS41.ext h19) hx43) (fun v44 w45 hR46 => ?_)
        obtain ⟨rfl, hR47⟩ := hR46
        have hS48 := hS41.join hR47
        refine RW.run ttok 1 rfl ?_
        refine RW.nil ?_
        refine WP.cond (!r42) rfl (fun hc => ?_) (fun hc => ?_)
        · skip
          rw [if_pos hc] at hm
          refine WP.seq ?_
          refine WP.region ?_
          refine RW.run ttok 1 rfl ?_
          refine RW.nil ?_
          refine WP.ret ?_
          cases hm
          exact ⟨_, .cons (.tmp rfl) .nil, rfl, (hS48.taken 0)⟩
        · skip
          rw [if_neg (not_t hc)] at hm
          refine WP.skip ?_
          refine WP.seq ?_
          refine WP.seq ?_
          refine WP.region ?_
          refine RW.run ttok 1 rfl ?_
          refine RW.load1 ttok rfl rfl rfl rfl rfl ((hS48.bring 1 rfl).box) 4 rfl rfl rfl rfl ?_
          refine RW.run ttok 1 rfl ?_
          refine RW.load1 ttok rfl rfl rfl rfl rfl ((hS48.bring 0 rfl).box) 4 rfl rfl rfl rfl ?_
          obtain ⟨r49, hx50, hm⟩ := bind_some hm
          refine RW.call rfl rfl rfl enters76 (laws_eqHandedS_ok (ty24.ext hS48.ext h9) (ty24.ext hS48.ext h22) hx50) (fun v51 w52 hR53 => ?_)
          obtain ⟨rfl, hR54⟩ := hR53
          have hS55 := hS48.join hR54
          refine RW.run ttok 1 rfl ?_
          refine RW.nil ?_
          refine WP.cond (!r49) rfl (fun hc => ?_) (fun hc => ?_)
          · skip
            rw [if_pos hc] at hm
            refine WP.seq ?_
            refine WP.region ?_
            refine RW.run ttok 1 rfl ?_
            refine RW.nil ?_
            refine WP.ret ?_
            cases hm
            exact ⟨_, .cons (.tmp rfl) .nil, rfl, (hS55.taken 0)⟩
          · skip
            rw [if_neg (not_t hc)] at hm
            refine WP.skip ?_
            refine WP.seq ?_
            refine WP.seq ?_
            refine WP.region ?_
            refine RW.run ttok 1 rfl ?_
            refine RW.load1 ttok rfl rfl rfl rfl rfl ((hS55.bring 1 rfl).box) 5 rfl rfl rfl rfl ?_
            refine RW.run ttok 1 rfl ?_
            refine RW.load1 ttok rfl rfl rfl rfl rfl ((hS55.bring 0 rfl).box) 5 rfl rfl rfl rfl ?_
            obtain ⟨r56, hx57, hm⟩ := bind_some hm
            refine RW.call rfl rfl rfl enters19 (laws_eqInt64S_ok (ty22.ext hS55.ext h12) (ty22.ext hS55.ext h25) hx57) (fun v58 w59 hR60 => ?_)
            obtain ⟨rfl, hR61⟩ := hR60
            have hS62 := hS55.join hR61
            refine RW.run ttok 1 rfl ?_
            refine RW.nil ?_
            refine WP.cond (!r56) rfl (fun hc => ?_) (fun hc => ?_)
            · skip
              rw [if_pos hc] at hm
              refine WP.seq ?_
              refine WP.region ?_
              refine RW.run ttok 1 rfl ?_
              refine RW.nil ?_
              refine WP.ret ?_
              cases hm
              exact ⟨_, .cons (.tmp rfl) .nil, rfl, (hS62.taken 0)⟩
            · skip
              rw [if_neg (not_t hc)] at hm
              refine WP.skip ?_
              refine WP.seq ?_
              refine WP.region ?_
              refine RW.run ttok 1 rfl ?_
              refine RW.nil ?_
              refine WP.ret ?_
              cases hm
              exact ⟨_, .cons (.tmp rfl) .nil, rfl, (hS62.taken 0)⟩

theorem enters20 : Enters Try.prog 20 := ⟨_, _, Try.func20, rfl, by kernel_rfl⟩
def m_laws_markInt64S_j1 (fuel : Nat) (t2 : Int × (List Int)) : Option (Int × (List Int)) := some (t2.1, t2.2)
def m_laws_markInt64S_b1 (fuel : Nat) (x0 : (List Int)) (s1 : Int × Int × (List Int)) : Option (Rd (Int × Int × (List Int)) (Int × (List Int)) (Int × (List Int))) := (if (decide (s1.2.1 < (x0.length : Int))) = true then (if decide (0 ≤ s1.2.1 ∧ s1.2.1.toNat < s1.2.2.length) = true then some (.next (w64 (s1.1 + 1), w64 (s1.2.1 + 1), (s1.2.2.set s1.2.1.toNat s1.1))) else none) else some (.brk (s1.1, s1.2.2)))
def m_laws_markInt64S (fuel : Nat) (x0 : (List Int)) (x1 : Int) : Option (Int × (List Int)) := ((iter (m_laws_markInt64S_b1 fuel x0) fuel (x1, 0, x0)).bind fun o => aft o (m_laws_markInt64S_j1 fuel))

set_option maxRecDepth 100000 in
theorem laws_markInt64S_ok {W w : World} {RR : List Res} {A0_ : Option Addr} {k0_ : Nat} {x0 : (List Int)} {x1 : Int} (hS : St W w (Own ty22 [.slice A0_ x0.length k0_] x0 :: RR)) {fuel : Nat} {r : Int × (List Int)} (hm : m_laws_markInt64S fuel x0 x1 = some r) :
    Calls Try.prog 20 ⟨[.slice A0_ x0.length k0_, .int .i64 x1]⟩ w (Ret fun v w8 => v = .int .i64 r.1 ∧ St W w8 (Own ty22 [.slice A0_ x0.length k0_] r.2 :: RR)) := by
  refine Calls.into Try.func20 rfl 19 rfl rfl _ rfl ?_
  unfold m_laws_markInt64S at hm
  refine WP.seq ?_
  refine WP.region ?_
  refine RW.run ttok 1 rfl ?_
  refine RW.nil ?_
  refine WP.seq ?_
  refine WP.seq ?_
  refine WP.region ?_
  refine RW.run ttok 1 rfl ?_
  refine RW.nil ?_
  obtain ⟨o5, hl6, hm⟩ := bind_some hm
  refine WP.cut (fun (t2 : Int × (List Int)) F w9 => o5 = .inl t2 ∧ St W w9 (Own ty22 [.slice A0_ x0.length k0_] t2.2 :: RR) ∧ F = [(1, .int .i64 t2.1)]) ?_ ?_
  · skip
    rintro t2 F w4 ⟨ho8, hS7, rfl⟩
    subst ho8
    rw [aft_inl] at hm
    unfold m_laws_markInt64S_j1 at hm
    refine WP.seq ?_
    refine WP.region ?_
    refine RW.run ttok 2 rfl ?_
    refine RW.nil ?_
    refine WP.ret ?_
    cases hm
    exact ⟨_, .cons (.tmp rfl) .nil, rfl, hS7⟩
  · skip
    refine WP.block ?_
    refine WP.weak [(0, .slice A0_ x0.length k0_), (1, .int .i64 x1), (5, .int .i64 0)] ⟨rfl, rfl, rfl, trivial⟩ ?_
    refine WP.iter (fun (s1 : Int × Int × (List Int)) F w9 => St W w9 (Own ty22 [.slice A0_ x0.length k0_] s1.2.2 :: RR) ∧ F = [(0, .slice A0_ x0.length k0_), (1, .int .i64 s1.1), (5, .int .i64 s1.2.1)]) _ hl6 ⟨hS, rfl⟩ ?_
    rintro s1 F w13 _ o11 ⟨hS12, rfl⟩ hb9 ho10
    unfold m_laws_markInt64S_b1 at hb9
    refine WP.seq ?_
    refine WP.seq ?_
    refine WP.region ?_
    refine RW.run ttok 4 rfl ?_
    refine RW.nil ?_
    refine WP.cond (decide (s1.2.1 < (x0.length : Int))) rfl (fun hc => ?_) (fun hc => ?_)
    · skip
      rw [if_pos hc] at hb9
      refine WP.skip ?_
      refine WP.seq ?_
      refine WP.block ?_
      refine WP.seq ?_
      refine WP.region ?_
      refine RW.run ttok 3 rfl ?_
      have hS14 := hS12.bring 0 rfl
      by_cases hk15 : decide (0 ≤ s1.2.1 ∧ s1.2.1.toNat < s1.2.2.length) = true
      case neg => rw [if_neg hk15] at hb9; cases hb9
      rw [if_pos hk15] at hb9
      have hb16 := of_decide_eq_true hk15
      refine RW.idxOwnN ttok hS14 rfl rfl rfl rfl rfl rfl rfl rfl hb16.1 hb16.2 rfl rfl (fun q17 hq18 => ?_)
      have hS19 := hS14.flat (T := tInt) (cs := [.int .i64 s1.1]) (x := s1.1) ⟨rfl, rfl⟩
      have hS20 := hS19.bring 1 rfl
      refine RW.storeElN ttok hS20 rfl rfl rfl rfl rfl rfl hb16.2 hq18 rfl rfl (fun w21 hS22 => ?_)
      refine RW.nil ?_
      refine WP.region ?_
      refine RW.run ttok 3 rfl ?_
      refine RW.nil ?_
      refine WP.region ?_
      refine RW.run ttok 3 rfl ?_
      refine RW.nil ?_
      cases hb9
      exact ⟨_, [(0, .slice A0_ x0.length k0_), (1, .int .i64 (w64 (s1.1 + 1))), (5, .int .i64 (w64 (s1.2.1 + 1)))], ⟨rfl, rfl, rfl, trivial⟩, rfl, hS22, rfl⟩
    · skip
      rw [if_neg (not_t hc)] at hb9
      refine WP.exit ?_
      cases hb9
      exact ⟨_, [(1, .int .i64 s1.1)], ⟨rfl, trivial⟩, ho10, hS12, rfl⟩

theorem enters77 : Enters Try.prog 77 := ⟨_, _, Try.func77, rfl, by kernel_rfl⟩
def m_laws_markDequeActorS_j1 (fuel : Nat) (t2 : Int × (List D.DequeActor)) : Option (Int × (List D.DequeActor)) := some (t2.1, t2.2)
def m_laws_markDequeActorS_b1 (fuel : Nat) (x0 : (List D.DequeActor)) (s1 : Int × Int × (List D.DequeActor)) : Option (Rd (Int × Int × (List D.DequeActor)) (Int × (List D.DequeActor)) (Int × (List D.DequeActor))) := (if (decide (s1.2.1 < (x0.length : Int))) = true then ((idx s1.2.2 s1.2.1).bind fun x15 => ((m_laws_markInt64S fuel x15.Todo s1.1).bind fun r25 => some (.next (w64 ((w64 ((w64 ((w64 (r25.1 + 1)) + 1)) + 1)) + 1), w64 (s1.2.1 + 1), (s1.2.2.set s1.2.1.toNat (⟨r25.2, r25.1, w64 (r25.1 + 1), w64 ((w64 (r25.1 + 1)) + 1), w64 ((w64 ((w64 (r25.1 + 1)) + 1)) + 1)⟩ : D.DequeActor)))))) else some (.brk (s1.1, s1.2.2)))
def m_laws_markDequeActorS (fuel : Nat) (x0 : (List D.DequeActor)) (x1 : Int) : Option (Int × (List D.DequeActor)) := ((iter (m_laws_markDequeActorS_b1 fuel x0) fuel (x1, 0, x0)).bind fun o => aft o (m_laws_markDequeActorS_j1 fuel))

set_option maxRecDepth 100000 in
theorem laws_markDequeActorS_ok {W w : World} {RR : List Res} {A0_ : Option Addr} {k0_ : Nat} {x0 : (List D.DequeActor)} {x1 : Int} (hS : St W w (Own ty23 [.slice A0_ x0.length k0_] x0 :: RR)) {fuel : Nat} {r : Int × (List D.DequeActor)} (hm : m_laws_markDequeActorS fuel x0 x1 = some r) :
    Calls Try.prog 77 ⟨[.slice A0_ x0.length k0_, .int .i64 x1]⟩ w (Ret fun v w8 => v = .int .i64 r.1 ∧ St W w8 (Own ty23 [.slice A0_ x0.length k0_] r.2 :: RR)) := by
  refine Calls.into Try.func77 rfl 48 rfl rfl _ rfl ?_
  unfold m_laws_markDequeActorS at hm
  refine WP.seq ?_
  refine WP.region ?_
  refine RW.run ttok 1 rfl ?_
  refine RW.nil ?_
  refine WP.seq ?_
  refine WP.seq ?_
  refine WP.region ?_
  refine RW.run ttok 1 rfl ?_
  refine RW.nil ?_
  obtain ⟨o5, hl6, hm⟩ := bind_some hm
  refine WP.cut (fun (t2 : Int × (List D.DequeActor)) F w9 => o5 = .inl t2 ∧ St W w9 (Own ty23 [.slice A0_ x0.length k0_] t2.2 :: RR) ∧ F = [(1, .int .i64 t2.1)]) ?_ ?_
  · skip
    rintro t2 F w4 ⟨ho8, hS7, rfl⟩
    subst ho8
    rw [aft_inl] at hm
    unfold m_laws_markDequeActorS_j1 at hm
    refine WP.seq ?_
    refine WP.region ?_
    refine RW.run ttok 2 rfl ?_
    refine RW.nil ?_
    refine WP.ret ?_
    cases hm
    exact ⟨_, .cons (.tmp rfl) .nil, rfl, hS7⟩
  · skip
    refine WP.block ?_
    refine WP.weak [(0, .slice A0_ x0.length k0_), (1, .int .i64 x1), (5, .int .i64 0)] ⟨rfl, rfl, rfl, trivial⟩ ?_
    refine WP.iter (fun (s1 : Int × Int × (List D.DequeActor)) F w9 => St W w9 (Own ty23 [.slice A0_ x0.length k0_] s1.2.2 :: RR) ∧ F = [(0, .slice A0_ x0.length k0_), (1, .int .i64 s1.1), (5, .int .i64 s1.2.1)]) _ hl6 ⟨hS, rfl⟩ ?_
    rintro s1 F w13 _ o11 ⟨hS12, rfl⟩ hb9 ho10
    unfold m_laws_markDequeActorS_b1 at hb9
    refine WP.seq ?_
    refine WP.seq ?_
    refine WP.region ?_
    refine RW.run ttok 4 rfl ?_
    refine RW.nil ?_
    refine WP.cond (decide (s1.2.1 < (x0.length : Int))) rfl (fun hc => ?_) (fun hc => ?_)
    · skip
      rw [if_pos hc] at hb9
      refine WP.skip ?_
      refine WP.seq ?_
      refine WP.block ?_
      refine WP.seq ?_
      refine WP.region ?_
      refine RW.run ttok 2 rfl ?_
      have hS14 := hS12.bring 0 rfl
      obtain ⟨x15, hx16, hb9⟩ := bind_some hb9
      refine RW.focus ttok hS14 rfl rfl rfl rfl rfl rfl rfl rfl (idx_some hx16).1 (idx_some hx16).2 rfl rfl (fun q17 es18 hq19 hS20 => ?_)
      obtain ⟨A23, k24, e22, hS21⟩ := ty110_openS (hS20.bring 1 rfl); subst e22
      refine RW.run ttok 1 rfl ?_
      refine RW.load1 ttok rfl rfl rfl rfl rfl ((hS21.bring 1 rfl).hole_atN hq19) 0 rfl rfl rfl rfl ?_
      refine RW.run ttok 1 rfl ?_
      obtain ⟨r25, hx26, hb9⟩ := bind_some hb9
      refine RW.call rfl rfl rfl enters20 (laws_markInt64S_ok (W := W) (RR := _) hS21  hx26) (fun v27 w28 hR29 => ?_)
      obtain ⟨rfl, hS30⟩ := hR29
      refine RW.run ttok 1 rfl ?_
      refine RW.nil ?_
      refine WP.seq ?_
      refine WP.region ?_
      refine RW.run ttok 3 rfl ?_
      refine RW.idxAgain ttok (hS30.bring 1 rfl) rfl rfl rfl rfl rfl rfl rfl rfl (idx_some hx16).1 rfl rfl (fun q31 hq32 => ?_)
      refine RW.run ttok 1 rfl ?_
      have hS33 := hS30.bring 1 rfl
      refine RW.storeHoleN ttok hS33 hq32 rfl rfl rfl rfl rfl 1 rfl rfl rfl rfl rfl (fun w34 hS35 => ?_)
      refine RW.nil ?_
      refine WP.seq ?_
      refine WP.region ?_
      refine RW.run ttok 3 rfl ?_
      refine RW.nil ?_
      refine WP.seq ?_
      refine WP.region ?_
      refine RW.run ttok 3 rfl ?_
      refine RW.idxAgain ttok (hS35.bring 0 rfl) rfl rfl rfl rfl rfl rfl rfl rfl (idx_some hx16).1 rfl rfl (fun q36 hq37 => ?_)
      refine RW.run ttok 1 rfl ?_
      have hS38 := hS35.bring 0 rfl
      refine RW.storeHoleN ttok hS38 hq37 rfl rfl rfl rfl rfl 2 rfl rfl rfl rfl rfl (fun w39 hS40 => ?_)
      refine RW.nil ?_
      refine WP.seq ?_
      refine WP.region ?_
      refine RW.run ttok 3 rfl ?_
      refine RW.nil ?_
      refine WP.seq ?_
      refine WP.region ?_
      refine RW.run ttok 3 rfl ?_
      refine RW.idxAgain ttok (hS40.bring 0 rfl) rfl rfl rfl rfl rfl rfl rfl rfl (idx_some hx16).1 rfl rfl (fun q41 hq42 => ?_)
      refine RW.run ttok 1 rfl ?_
      have hS43 := hS40.bring 0 rfl
      refine RW.storeHoleN ttok hS43 hq42 rfl rfl rfl rfl rfl 3 rfl rfl rfl rfl rfl (fun w44 hS45 => ?_)
      refine RW.nil ?_
      refine WP.seq ?_
      refine WP.region ?_
      refine RW.run ttok 3 rfl ?_
      refine RW.nil ?_
      refine WP.seq ?_
      refine WP.region ?_
      refine RW.run ttok 3 rfl ?_
      refine RW.idxAgain ttok (hS45.bring 0 rfl) rfl rfl rfl rfl rfl rfl rfl rfl (idx_some hx16).1 rfl rfl (fun q46 hq47 => ?_)
      refine RW.run ttok 1 rfl ?_
      have hS48 := hS45.bring 0 rfl
      refine RW.storeHoleN ttok hS48 hq47 rfl rfl rfl rfl rfl 4 rfl rfl rfl rfl rfl (fun w49 hS50 => ?_)
      refine RW.nil ?_
      refine WP.region ?_
      refine RW.run ttok 3 rfl ?_
      refine RW.nil ?_
      refine WP.region ?_
      refine RW.run ttok 3 rfl ?_
      refine RW.nil ?_
      have hn51 := (hS50.bring 1 rfl).lenEq
      have hS52 := (hS50.bring 1 rfl).reLen hn51
      have hS53 := (hS52.bring 1 rfl).reHole (es' := [.slice A23 r25.2.length k24, .int .i64 r25.1, .int .i64 (w64 (r25.1 + 1)), .int .i64 (w64 ((w64 (r25.1 + 1)) + 1)), .int .i64 (w64 ((w64 ((w64 (r25.1 + 1)) + 1)) + 1))]) (by show ([.slice A23 x15.Todo.length k24, .int .i64 r25.1, .int .i64 (w64 (r25.1 + 1)), .int .i64 (w64 ((w64 (r25.1 + 1)) + 1)), .int .i64 (w64 ((w64 ((w64 (r25.1 + 1)) + 1)) + 1))] : List Value) = [.slice A23 r25.2.length k24, .int .i64 r25.1, .int .i64 (w64 (r25.1 + 1)), .int .i64 (w64 ((w64 (r25.1 + 1)) + 1)), .int .i64 (w64 ((w64 ((w64 (r25.1 + 1)) + 1)) + 1))]; simp only [hn51])
      have h54 := (show ty22.ro _ [.slice A23 x15.Todo.length k24] r25.2 from (Eq.symm hn51) ▸ ((hS53.bring 1 rfl).own))
      have hS55 := hS53.bring 1 rfl
      have hS56 := ty110_shutS (c := (⟨r25.2, r25.1, w64 (r25.1 + 1), w64 ((w64 (r25.1 + 1)) + 1), w64 ((w64 ((w64 (r25.1 + 1)) + 1)) + 1)⟩ : D.DequeActor)) (B := _) hS55
      have hS57 := hS56.bring 1 rfl
      have hS58 := St.unfocusN hS57
      cases hb9
      exact ⟨_, [(0, .slice A0_ x0.length k0_), (1, .int .i64 (w64 ((w64 ((w64 ((w64 (r25.1 + 1)) + 1)) + 1)) + 1))), (5, .int .i64 (w64 (s1.2.1 + 1)))], ⟨rfl, rfl, rfl, trivial⟩, rfl, hS58, rfl⟩
    · skip
      rw [if_neg (not_t hc)] at hb9
      refine WP.exit ?_
      cases hb9
      exact ⟨_, [(1, .int .i64 s1.1)], ⟨rfl, trivial⟩, ho10, hS12, rfl⟩

theorem enters78 : Enters Try.prog 78 := ⟨_, _, Try.func78, rfl, by kernel_rfl⟩
def m_laws_markHandedS_j1 (fuel : Nat) (t2 : Int × (List D.Handed)) : Option (Int × (List D.Handed)) := some (t2.1, t2.2)
def m_laws_markHandedS_b1 (fuel : Nat) (x0 : (List D.Handed)) (s1 : Int × Int × (List D.Handed)) : Option (Rd (Int × Int × (List D.Handed)) (Int × (List D.Handed)) (Int × (List D.Handed))) := (if (decide (s1.2.1 < (x0.length : Int))) = true then ((idx s1.2.2 s1.2.1).bind fun x15 => some (.next (w64 ((w64 (s1.1 + 1)) + 1), w64 (s1.2.1 + 1), (s1.2.2.set s1.2.1.toNat (⟨s1.1, w64 (s1.1 + 1)⟩ : D.Handed))))) else some (.brk (s1.1, s1.2.2)))
def m_laws_markHandedS (fuel : Nat) (x0 : (List D.Handed)) (x1 : Int) : Option (Int × (List D.Handed)) := ((iter (m_laws_markHandedS_b1 fuel x0) fuel (x1, 0, x0)).bind fun o => aft o (m_laws_markHandedS_j1 fuel))

set_option maxRecDepth 100000 in
theorem laws_markHandedS_ok {W w : World} {RR : List Res} {A0_ : Option Addr} {k0_ : Nat} {x0 : (List D.Handed)} {x1 : Int} (hS : St W w (Own ty24 [.slice A0_ x0.length k0_] x0 :: RR)) {fuel : Nat} {r : Int × (List D.Handed)} (hm : m_laws_markHandedS fuel x0 x1 = some r) :
    Calls Try.prog 78 ⟨[.slice A0_ x0.length k0_, .int .i64 x1]⟩ w (Ret fun v w8 => v = .int .i64 r.1 ∧ St W w8 (Own ty24 [.slice A0_ x0.length k0_] r.2 :: RR)) := by
  refine Calls.into Try.func78 rfl 27 rfl rfl _ rfl ?_
  unfold m_laws_markHandedS at hm
  refine WP.seq ?_
  refine WP.region ?_
  refine RW.run ttok 1 rfl ?_
  refine RW.nil ?_
  refine WP.seq ?_
  refine WP.seq ?_
  refine WP.region ?_
  refine RW.run ttok 1 rfl ?_
  refine RW.nil ?_
  obtain ⟨o5, hl6, hm⟩ := bind_some hm
  refine WP.cut (fun (t2 : Int × (List D.Handed)) F w9 => o5 = .inl t2 ∧ St W w9 (Own ty24 [.slice A0_ x0.length k0_] t2.2 :: RR) ∧ F = [(1, .int .i64 t2.1)]) ?_ ?_
  · skip
    rintro t2 F w4 ⟨ho8, hS7, rfl⟩
    subst ho8
    rw [aft_inl] at hm
    unfold m_laws_markHandedS_j1 at hm
    refine WP.seq ?_
    refine WP.region ?_
    refine RW.run ttok 2 rfl ?_
    refine RW.nil ?_
    refine WP.ret ?_
    cases hm
    exact ⟨_, .cons (.tmp rfl) .nil, rfl, hS7⟩
  · skip
    refine WP.block ?_
    refine WP.weak [(0, .slice A0_ x0.length k0_), (1, .int .i64 x1), (5, .int .i64 0)] ⟨rfl, rfl, rfl, trivial⟩ ?_
    refine WP.iter (fun (s1 : Int × Int × (List D.Handed)) F w9 => St W w9 (Own ty24 [.slice A0_ x0.length k0_] s1.2.2 :: RR) ∧ F = [(0, .slice A0_ x0.length k0_), (1, .int .i64 s1.1), (5, .int .i64 s1.2.1)]) _ hl6 ⟨hS, rfl⟩ ?_
    rintro s1 F w13 _ o11 ⟨hS12, rfl⟩ hb9 ho10
    unfold m_laws_markHandedS_b1 at hb9
    refine WP.seq ?_
    refine WP.seq ?_
    refine WP.region ?_
    refine RW.run ttok 4 rfl ?_
    refine RW.nil ?_
    refine WP.cond (decide (s1.2.1 < (x0.length : Int))) rfl (fun hc => ?_) (fun hc => ?_)
    · skip
      rw [if_pos hc] at hb9
      refine WP.skip ?_
      refine WP.seq ?_
      refine WP.block ?_
      refine WP.seq ?_
      refine WP.region ?_
      refine RW.run ttok 3 rfl ?_
      have hS14 := hS12.bring 0 rfl
      obtain ⟨x15, hx16, hb9⟩ := bind_some hb9
      refine RW.focus ttok hS14 rfl rfl rfl rfl rfl rfl rfl rfl (idx_some hx16).1 (idx_some hx16).2 rfl rfl (fun q17 es18 hq19 hS20 => ?_)
      obtain ⟨e22, hS21⟩ := ty179_openS (hS20.bring 1 rfl); subst e22
      refine RW.run ttok 1 rfl ?_
      have hS23 := hS21.bring 0 rfl
      refine RW.storeHoleN ttok hS23 hq19 rfl rfl rfl rfl rfl 0 rfl rfl rfl rfl rfl (fun w24 hS25 => ?_)
      refine RW.nil ?_
      refine WP.seq ?_
      refine WP.region ?_
      refine RW.run ttok 3 rfl ?_
      refine RW.nil ?_
      refine WP.seq ?_
      refine WP.region ?_
      refine RW.run ttok 3 rfl ?_
      refine RW.idxAgain ttok (hS25.bring 0 rfl) rfl rfl rfl rfl rfl rfl rfl rfl (idx_some hx16).1 rfl rfl (fun q26 hq27 => ?_)
      refine RW.run ttok 1 rfl ?_
      have hS28 := hS25.bring 0 rfl
      refine RW.storeHoleN ttok hS28 hq27 rfl rfl rfl rfl rfl 1 rfl rfl rfl rfl rfl (fun w29 hS30 => ?_)
      refine RW.nil ?_
      refine WP.region ?_
      refine RW.run ttok 3 rfl ?_
      refine RW.nil ?_
      refine WP.region ?_
      refine RW.run ttok 3 rfl ?_
      refine RW.nil ?_
      have hS31 := ty179_shutS (c := (⟨s1.1, w64 (s1.1 + 1)⟩ : D.Handed)) (B := _) hS30
      have hS32 := hS31.bring 1 rfl
      have hS33 := St.unfocusN hS32
      cases hb9
      exact ⟨_, [(0, .slice A0_ x0.length k0_), (1, .int .i64 (w64 ((w64 (s1.1 + 1)) + 1))), (5, .int .i64 (w64 (s1.2.1 + 1)))], ⟨rfl, rfl, rfl, trivial⟩, rfl, hS33, rfl⟩
    · skip
      rw [if_neg (not_t hc)] at hb9
      refine WP.exit ?_
      cases hb9
      exact ⟨_, [(1, .int .i64 s1.1)], ⟨rfl, trivial⟩, ho10, hS12, rfl⟩

theorem enters21 : Enters Try.prog 21 := ⟨_, _, Try.func21, rfl, by kernel_rfl⟩
def m_laws_markDeque (fuel : Nat) (x0 : D.Deque) (x1 : Int) : Option (Int × (List Int) × (List D.DequeActor) × (List D.Handed) × (List Int)) := ((m_laws_markInt64S fuel x0.Buffer x1).bind fun r5 => ((m_laws_markDequeActorS fuel x0.Actors r5.1).bind fun r11 => ((m_laws_markHandedS fuel x0.Taken r11.1).bind fun r17 => ((m_laws_markInt64S fuel x0.Refused r17.1).bind fun r23 => some (r23.1, r5.2, r11.2, r17.2, r23.2)))))

set_option maxRecDepth 100000 in
theorem laws_markDeque_ok {W w : World} {RR : List Res} {x0 : D.Deque} {A0_2 : Option Addr} {k0_2 : Nat} {A0_3 : Option Addr} {k0_3 : Nat} {A0_4 : Option Addr} {k0_4 : Nat} {A0_5 : Option Addr} {k0_5 : Nat} {x1 : Int} (hS : St W w (Own ty22 [.slice A0_2 x0.Buffer.length k0_2] x0.Buffer :: Own ty23 [.slice A0_3 x0.Actors.length k0_3] x0.Actors :: Own ty24 [.slice A0_4 x0.Taken.length k0_4] x0.Taken :: Own ty22 [.slice A0_5 x0.Refused.length k0_5] x0.Refused :: RR)) {fuel : Nat} {r : Int × (List Int) × (List D.DequeActor) × (List D.Handed) × (List Int)} (hm : m_laws_markDeque fuel x0 x1 = some r) :
    Calls Try.prog 21 ⟨[.agg ⟨[.int .i64 x0.Top, .int .i64 x0.Bottom, .slice A0_2 x0.Buffer.length k0_2, .slice A0_3 x0.Actors.length k0_3, .slice A0_4 x0.Taken.length k0_4, .slice A0_5 x0.Refused.length k0_5]⟩, .int .i64 x1]⟩ w (Ret fun v w8 => v = .int .i64 r.1 ∧ St W w8 (Own ty22 [.slice A0_2 x0.Buffer.length k0_2] r.2.1 :: Own ty23 [.slice A0_3 x0.Actors.length k0_3] r.2.2.1 :: Own ty24 [.slice A0_4 x0.Taken.length k0_4] r.2.2.2.1 :: Own ty22 [.slice A0_5 x0.Refused.length k0_5] r.2.2.2.2 :: RR)) := by
  refine Calls.into Try.func21 rfl 22 rfl rfl _ rfl ?_
  unfold m_laws_markDeque at hm
  refine WP.seq ?_
  refine WP.region ?_
  refine RW.new ttok hS rfl rfl rfl rfl (fun g1 w2 e3 hS4 => ?_)
  refine RW.run ttok 1 rfl ?_
  refine RW.nil ?_
  refine WP.seq ?_
  refine WP.region ?_
  refine RW.run ttok 1 rfl ?_
  refine RW.load1 ttok rfl rfl rfl rfl rfl ((hS4.bring 0 rfl).box) 2 rfl rfl rfl rfl ?_
  refine RW.run ttok 1 rfl ?_
  obtain ⟨r5, hx6, hm⟩ := bind_some hm
  refine RW.call rfl rfl rfl enters20 (laws_markInt64S_ok (W := W) (RR := _) (hS4.bring 1 rfl)  hx6) (fun v7 w8 hR9 => ?_)
  obtain ⟨rfl, hS10⟩ := hR9
  refine RW.run ttok 1 rfl ?_
  refine RW.nil ?_
  refine WP.seq ?_
  refine WP.region ?_
  refine RW.run ttok 1 rfl ?_
  refine RW.load1 ttok rfl rfl rfl rfl rfl ((hS10.bring 1 rfl).box) 3 rfl rfl rfl rfl ?_
  refine RW.run ttok 1 rfl ?_
  obtain ⟨r11, hx12, hm⟩ := bind_some hm
  refine RW.call rfl rfl rfl enters77 (laws_markDequeActorS_ok (W := W) (RR := _) (hS10.bring 2 rfl)  hx12) (fun v13 w14 hR15 => ?_)
  obtain ⟨rfl, hS16⟩ := hR15
  refine RW.run ttok 1 rfl ?_
  refine RW.nil ?_
  refine WP.seq ?_
  refine WP.region ?_
  refine RW.run ttok 1 rfl ?_
  refine RW.load1 ttok rfl rfl rfl rfl rfl ((hS16.bring 2 rfl).box) 4 rfl rfl rfl rfl ?_
  refine RW.run ttok 1 rfl ?_
  obtain ⟨r17, hx18, hm⟩ := bind_some hm
  refine RW.call rfl rfl rfl enters78 (laws_markHandedS_ok (W := W) (RR := _) (hS16.bring 3 rfl)  hx18) (fun v19 w20 hR21 => ?_)
  obtain ⟨rfl, hS22⟩ := hR21
  refine RW.run ttok 1 rfl ?_
  refine RW.nil ?_
  refine WP.seq ?_
  refine WP.region ?_
  refine RW.run ttok 1 rfl ?_
  refine RW.load1 ttok rfl rfl rfl rfl rfl ((hS22.bring 3 rfl).box) 5 rfl rfl rfl rfl ?_
  refine RW.run ttok 1 rfl ?_
  obtain ⟨r23, hx24, hm⟩ := bind_some hm
  refine RW.call rfl rfl rfl enters20 (laws_markInt64S_ok (W := W) (RR := _) (hS22.bring 4 rfl)  hx24) (fun v25 w26 hR27 => ?_)
  obtain ⟨rfl, hS28⟩ := hR27
  refine RW.run ttok 1 rfl ?_
  refine RW.nil ?_
  refine WP.seq ?_
  refine WP.region ?_
  refine RW.run ttok 2 rfl ?_
  refine RW.nil ?_
  refine WP.ret ?_
  cases hm
  exact ⟨_, .cons (.tmp rfl) .nil, rfl, (((((hS28.bring 4 rfl).drop.bring 0 rfl).bring 1 rfl).bring 2 rfl).bring 3 rfl)⟩

theorem enters36 : Enters Try.prog 36 := ⟨_, _, Try.func36, rfl, by kernel_rfl⟩
def m_laws_heldInt64S_j1 (fuel : Nat) (t2 : Int) : Option Int := some t2
def m_laws_heldInt64S_b1 (fuel : Nat) (x0 : (List Int)) (s1 : Int × Int) : Option (Rd (Int × Int) (Int) (Int)) := (if (decide (s1.2 < (x0.length : Int))) = true then ((idx x0 s1.2).bind fun x17 => (if (x17 != s1.1) = true then some (.ret (-1)) else some (.next (w64 (s1.1 + 1), w64 (s1.2 + 1))))) else some (.brk s1.1))
def m_laws_heldInt64S (fuel : Nat) (x0 : (List Int)) (x1 : Int) : Option (Int) := ((iter (m_laws_heldInt64S_b1 fuel x0) fuel (x1, 0)).bind fun o => aft o (m_laws_heldInt64S_j1 fuel))

set_option maxRecDepth 100000 in
theorem laws_heldInt64S_ok {w : World} {A0_ : Option Addr} {k0_ : Nat} {x0 : (List Int)} {x1 : Int} (h0_ : ty22.ro w [.slice A0_ x0.length k0_] x0) {fuel : Nat} {r : Int} (hm : m_laws_heldInt64S fuel x0 x1 = some r) :
    Calls Try.prog 36 ⟨[.slice A0_ x0.length k0_, .int .i64 x1]⟩ w (Ret fun v w8 => v = .int .i64 r ∧ St w w8 []) := by
  refine Calls.into Try.func36 rfl 21 rfl rfl _ rfl ?_
  unfold m_laws_heldInt64S at hm
  have hS := St.start w
  refine WP.seq ?_
  refine WP.region ?_
  refine RW.run ttok 1 rfl ?_
  refine RW.nil ?_
  refine WP.seq ?_
  refine WP.seq ?_
  refine WP.region ?_
  refine RW.run ttok 1 rfl ?_
  refine RW.nil ?_
  obtain ⟨o8, hl9, hm⟩ := bind_some hm
  refine WP.cut (fun (t2 : Int) F w9 => o8 = .inl t2 ∧ Ext w w9 ∧ St w w9 [] ∧ F = [(1, .int .i64 t2)]) ?_ ?_
  · skip
    rintro t2 F w7 ⟨ho11, hE6, hS10, rfl⟩
    subst ho11
    rw [aft_inl] at hm
    unfold m_laws_heldInt64S_j1 at hm
    refine WP.seq ?_
    refine WP.region ?_
    refine RW.run ttok 2 rfl ?_
    refine RW.nil ?_
    refine WP.ret ?_
    cases hm
    exact ⟨_, .cons (.tmp rfl) .nil, rfl, hS10⟩
  · skip
    refine WP.block ?_
    refine WP.weak [(0, .slice A0_ x0.length k0_), (1, .int .i64 x1), (5, .int .i64 0)] ⟨rfl, rfl, rfl, trivial⟩ ?_
    refine WP.iter (fun (s1 : Int × Int) F w9 => Ext w w9 ∧ St w w9 [] ∧ F = [(0, .slice A0_ x0.length k0_), (1, .int .i64 s1.1), (5, .int .i64 s1.2)]) _ hl9 ⟨(Ext.refl _), hS, rfl⟩ ?_
    rintro s1 F w16 _ o14 ⟨hE5, hS15, rfl⟩ hb12 ho13
    unfold m_laws_heldInt64S_b1 at hb12
    refine WP.seq ?_
    refine WP.seq ?_
    refine WP.region ?_
    refine RW.run ttok 4 rfl ?_
    refine RW.nil ?_
    refine WP.cond (decide (s1.2 < (x0.length : Int))) rfl (fun hc => ?_) (fun hc => ?_)
    · skip
      rw [if_pos hc] at hb12
      refine WP.skip ?_
      refine WP.seq ?_
      refine WP.block ?_
      refine WP.seq ?_
      refine WP.seq ?_
      refine WP.region ?_
      refine RW.run ttok 2 rfl ?_
      obtain ⟨x17, hx18, hb12⟩ := bind_some hb12
      refine RW.idx ttok hS15.ext rfl rfl rfl rfl rfl rfl (by decide) rfl rfl h0_ (idx_some hx18).1 (idx_some hx18).2 rfl rfl (fun p19 es20 ha21 hr22 => ?_)
      cases hr22
      refine RW.load1 ttok rfl rfl rfl rfl rfl (At.ext hS15.ext ha21) 0 rfl rfl rfl rfl ?_
      refine RW.run ttok 2 rfl ?_
      refine RW.nil ?_
      refine WP.cond (x17 != s1.1) rfl (fun hc => ?_) (fun hc => ?_)
      · skip
        rw [if_pos hc] at hb12
        refine WP.seq ?_
        refine WP.region ?_
        refine RW.run ttok 1 rfl ?_
        refine RW.nil ?_
        refine WP.ret ?_
        cases hb12
        cases ho13
        have hm : some _ = some _ := hm
        cases hm
        exact ⟨_, .cons (.tmp rfl) .nil, rfl, hS15⟩
      · skip
        rw [if_neg (not_t hc)] at hb12
        refine WP.skip ?_
        refine WP.region ?_
        refine RW.run ttok 3 rfl ?_
        refine RW.nil ?_
        refine WP.region ?_
        refine RW.run ttok 3 rfl ?_
        refine RW.nil ?_
        cases hb12
        exact ⟨_, [(0, .slice A0_ x0.length k0_), (1, .int .i64 (w64 (s1.1 + 1))), (5, .int .i64 (w64 (s1.2 + 1)))], ⟨rfl, rfl, rfl, trivial⟩, rfl, hE5, hS15, rfl⟩
    · skip
      rw [if_neg (not_t hc)] at hb12
      refine WP.exit ?_
      cases hb12
      exact ⟨_, [(1, .int .i64 s1.1)], ⟨rfl, trivial⟩, ho13, hE5, hS15, rfl⟩

theorem enters79 : Enters Try.prog 79 := ⟨_, _, Try.func79, rfl, by kernel_rfl⟩
def m_laws_heldDequeActorS_j1 (fuel : Nat) (t2 : Int) : Option Int := some t2
def m_laws_heldDequeActorS_b1 (fuel : Nat) (x0 : (List D.DequeActor)) (s1 : Int × Int) : Option (Rd (Int × Int) (Int) (Int)) := (if (decide (s1.2 < (x0.length : Int))) = true then ((idx x0 s1.2).bind fun x17 => ((m_laws_heldInt64S fuel x17.Todo s1.1).bind fun r27 => (if (decide (r27 < 0)) = true then some (.ret (-1)) else ((idx x0 s1.2).bind fun x34 => (if (x34.Pc != r27) = true then some (.ret (-1)) else ((idx x0 s1.2).bind fun x44 => (if (x44.T != (w64 (r27 + 1))) = true then some (.ret (-1)) else ((idx x0 s1.2).bind fun x54 => (if (x54.B != (w64 ((w64 (r27 + 1)) + 1))) = true then some (.ret (-1)) else ((idx x0 s1.2).bind fun x64 => (if (x64.X != (w64 ((w64 ((w64 (r27 + 1)) + 1)) + 1))) = true then some (.ret (-1)) else some (.next (w64 ((w64 ((w64 ((w64 (r27 + 1)) + 1)) + 1)) + 1), w64 (s1.2 + 1)))))))))))))) else some (.brk s1.1))
def m_laws_heldDequeActorS (fuel : Nat) (x0 : (List D.DequeActor)) (x1 : Int) : Option (Int) := ((iter (m_laws_heldDequeActorS_b1 fuel x0) fuel (x1, 0)).bind fun o => aft o (m_laws_heldDequeActorS_j1 fuel))

set_option maxRecDepth 100000 in
theorem laws_heldDequeActorS_ok {w : World} {A0_ : Option Addr} {k0_ : Nat} {x0 : (List D.DequeActor)} {x1 : Int} (h0_ : ty23.ro w [.slice A0_ x0.length k0_] x0) {fuel : Nat} {r : Int} (hm : m_laws_heldDequeActorS fuel x0 x1 = some r) :
    Calls Try.prog 79 ⟨[.slice A0_ x0.length k0_, .int .i64 x1]⟩ w (Ret fun v w8 => v = .int .i64 r ∧ St w w8 []) := by
  refine Calls.into Try.func79 rfl 58 rfl rfl _ rfl ?_
  unfold m_laws_heldDequeActorS at hm
  have hS := St.start w
  refine WP.seq ?_
  refine WP.region ?_
  refine RW.run ttok 1 rfl ?_
  refine RW.nil ?_
  refine WP.seq ?_
  refine WP.seq ?_
  refine WP.region ?_
  refine RW.run ttok 1 rfl ?_
  refine RW.nil ?_
  obtain ⟨o8, hl9, hm⟩ := bind_some hm
  refine WP.cut (fun (t2 : Int) F w9 => o8 = .inl t2 ∧ Ext w w9 ∧ St w w9 [] ∧ F = [(1, .int .i64 t2)]) ?_ ?_
  · skip
    rintro t2 F w7 ⟨ho11, hE6, hS10, rfl⟩
    subst ho11
    rw [aft_inl] at hm
    unfold m_laws_heldDequeActorS_j1 at hm
    refine WP.seq ?_
    refine WP.region ?_
    refine RW.run ttok 2 rfl ?_
    refine RW.nil ?_
    refine WP.ret ?_
    cases hm
    exact ⟨_, .cons (.tmp rfl) .nil, rfl, hS10⟩
  · skip
    refine WP.block ?_
    refine WP.weak [(0, .slice A0_ x0.length k0_), (1, .int .i64 x1), (5, .int .i64 0)] ⟨rfl, rfl, rfl, trivial⟩ ?_
    refine WP.iter (fun (s1 : Int × Int) F w9 => Ext w w9 ∧ St w w9 [] ∧ F = [(0, .slice A0_ x0.length k0_), (1, .int .i64 s1.1), (5, .int .i64 s1.2)]) _ hl9 ⟨(Ext.refl _), hS, rfl⟩ ?_
    rintro s1 F w16 _ o14 ⟨hE5, hS15, rfl⟩ hb12 ho13
    unfold m_laws_heldDequeActorS_b1 at hb12
    refine WP.seq ?_
    refine WP.seq ?_
    refine WP.region ?_
    refine RW.run ttok 4 rfl ?_
    refine RW.nil ?_
    refine WP.cond (decide (s1.2 < (x0.length : Int))) rfl (fun hc => ?_) (fun hc => ?_)
    · skip
      rw [if_pos hc] at hb12
      refine WP.skip ?_
      refine WP.seq ?_
      refine WP.block ?_
      refine WP.seq ?_
      refine WP.region ?_
      refine RW.run ttok 2 rfl ?_
      obtain ⟨x17, hx18, hb12⟩ := bind_some hb12
      refine RW.idx ttok hS15.ext rfl rfl rfl rfl rfl rfl (by decide) rfl rfl h0_ (idx_some hx18).1 (idx_some hx18).2 rfl rfl (fun p19 es20 ha21 hr22 => ?_)
      obtain ⟨A23, k24, e26, h25⟩ := ty110_open hr22; subst e26
      refine RW.run ttok 1 rfl ?_
      refine RW.load1 ttok rfl rfl rfl rfl rfl (At.ext hS15.ext ha21) 0 rfl rfl rfl rfl ?_
      refine RW.run ttok 1 rfl ?_
      obtain ⟨r27, hx28, hb12⟩ := bind_some hb12
      refine RW.call rfl rfl rfl enters36 (laws_heldInt64S_ok (ty22.ext hS15.ext h25) hx28) (fun v29 w30 hR31 => ?_)
      obtain ⟨rfl, hR32⟩ := hR31
      have hS33 := hS15.join hR32
      refine RW.run ttok 1 rfl ?_
      refine RW.nil ?_
      refine WP.seq ?_
      refine WP.seq ?_
      refine WP.region ?_
      refine RW.run ttok 2 rfl ?_
      refine RW.nil ?_
      refine WP.cond (decide (r27 < 0)) rfl (fun hc => ?_) (fun hc => ?_)
      · skip
        rw [if_pos hc] at hb12
        refine WP.seq ?_
        refine WP.region ?_
        refine RW.run ttok 1 rfl ?_
        refine RW.nil ?_
        refine WP.ret ?_
        cases hb12
        cases ho13
        have hm : some _ = some _ := hm
        cases hm
        exact ⟨_, .cons (.tmp rfl) .nil, rfl, hS33⟩
      · skip
        rw [if_neg (not_t hc)] at hb12
        refine WP.skip ?_
        refine WP.seq ?_
        refine WP.seq ?_
        refine WP.region ?_
        refine RW.run ttok 2 rfl ?_
        obtain ⟨x34, hx35, hb12⟩ := bind_some hb12
        refine RW.idx ttok hS33.ext rfl rfl rfl rfl rfl rfl (by decide) rfl rfl h0_ (idx_some hx35).1 (idx_some hx35).2 rfl rfl (fun p36 es37 ha38 hr39 => ?_)
        obtain ⟨A40, k41, e43, h42⟩ := ty110_open hr39; subst e43
        refine RW.run ttok 1 rfl ?_
        refine RW.load1 ttok rfl rfl rfl rfl rfl (At.ext hS33.ext ha38) 1 rfl rfl rfl rfl ?_
        refine RW.run ttok 2 rfl ?_
        refine RW.nil ?_
        refine WP.cond (x34.Pc != r27) rfl (fun hc => ?_) (fun hc => ?_)
        · skip
          rw [if_pos hc] at hb12
          refine WP.seq ?_
          refine WP.region ?_
          refine RW.run ttok 1 rfl ?_
          refine RW.nil ?_
          refine WP.ret ?_
          cases hb12
          cases ho13
          have hm : some _ = some _ := hm
          cases hm
          exact ⟨_, .cons (.tmp rfl) .nil, rfl, hS33⟩
        · skip
          rw [if_neg (not_t hc)] at hb12
          refine WP.skip ?_
          refine WP.seq ?_
          refine WP.region ?_
          refine RW.run ttok 3 rfl ?_
          refine RW.nil ?_
          refine WP.seq ?_
          refine WP.seq ?_
          refine WP.region ?_
          refine RW.run ttok 2 rfl ?_
          obtain ⟨x44, hx45, hb12⟩ := bind_some hb12
          refine RW.idx ttok hS33.ext rfl rfl rfl rfl rfl rfl (by decide) rfl rfl h0_ (idx_some hx45).1 (idx_some hx45).2 rfl rfl (fun p46 es47 ha48 hr49 => ?_)
          obtain ⟨A50, k51, e53, h52⟩ := ty110_open hr49; subst e53
          refine RW.run ttok 1 rfl ?_
          refine RW.load1 ttok rfl rfl rfl rfl rfl (At.ext hS33.ext ha48) 2 rfl rfl rfl rfl ?_
          refine RW.run ttok 2 rfl ?_
          refine RW.nil ?_
          refine WP.cond (x44.T != (w64 (r27 + 1))) rfl (fun hc => ?_) (fun hc => ?_)
          · skip
            rw [if_pos hc] at hb12
            refine WP.seq ?_
            refine WP.region ?_
            refine RW.run ttok 1 rfl ?_
            refine RW.nil ?_
            refine WP.ret ?_
            cases hb12
            cases ho13
            have hm : some _ = some _ := hm
            cases hm
            exact ⟨_, .cons (.tmp rfl) .nil, rfl, hS33⟩
          · skip
            rw [if_neg (not_t hc)] at hb12
            refine WP.skip ?_
            refine WP.seq ?_
            refine WP.region ?_
            refine RW.run ttok 3 rfl ?_
            refine RW.nil ?_
            refine WP.seq ?_
            refine WP.seq ?_
            refine WP.region ?_
            refine RW.run ttok 2 rfl ?_
            obtain ⟨x54, hx55, hb12⟩ := bind_some hb12
            refine RW.idx ttok hS33.ext rfl rfl rfl rfl rfl rfl (by decide) rfl rfl h0_ (idx_some hx55).1 (idx_some hx55).2 rfl rfl (fun p56 es57 ha58 hr59 => ?_)
            obtain ⟨A60, k61, e63, h62⟩ := ty110_open hr59; subst e63
            refine RW.run ttok 1 rfl ?_
            refine RW.load1 ttok rfl rfl rfl rfl rfl (At.ext hS33.ext ha58) 3 rfl rfl rfl rfl ?_
            refine RW.run ttok 2 rfl ?_
            refine RW.nil ?_
            refine WP.cond (x54.B != (w64 ((w64 (r27 + 1)) + 1))) rfl (fun hc => ?_) (fun hc => ?_)
            · skip
              rw [if_pos hc] at hb12
              refine WP.seq ?_
              refine WP.region ?_
              refine RW.run ttok 1 rfl ?_
              refine RW.nil ?_
              refine WP.ret ?_
              cases hb12
              cases ho13
              have hm : some _ = some _ := hm
              cases hm
              exact ⟨_, .cons (.tmp rfl) .nil, rfl, hS33⟩
            · skip
              rw [if_neg (not_t hc)] at hb12
              refine WP.skip ?_
              refine WP.seq ?_
              refine WP.region ?_
              refine RW.run ttok 3 rfl ?_
              refine RW.nil ?_
              refine WP.seq ?_
              refine WP.seq ?_
              refine WP.region ?_
              refine RW.run ttok 2 rfl ?_
              obtain ⟨x64, hx65, hb12⟩ := bind_some hb12
              refine RW.idx ttok hS33.ext rfl rfl rfl rfl rfl rfl (by decide) rfl rfl h0_ (idx_some hx65).1 (idx_some hx65).2 rfl rfl (fun p66 es67 ha68 hr69 => ?_)
              obtain ⟨A70, k71, e73, h72⟩ := ty110_open hr69; subst e73
              refine RW.run ttok 1 rfl ?_
              refine RW.load1 ttok rfl rfl rfl rfl rfl (At.ext hS33.ext ha68) 4 rfl rfl rfl rfl ?_
              refine RW.run ttok 2 rfl ?_
              refine RW.nil ?_
              refine WP.cond (x64.X != (w64 ((w64 ((w64 (r27 + 1)) + 1)) + 1))) rfl (fun hc => ?_) (fun hc => ?_)
              · skip
                rw [if_pos hc] at hb12
                refine WP.seq ?_
                refine WP.region ?_
                refine RW.run ttok 1 rfl ?_
                refine RW.nil ?_
                refine WP.ret ?_
                cases hb12
                cases ho13
                have hm : some _ = some _ := hm
                cases hm
                exact ⟨_, .cons (.tmp rfl) .nil, rfl, hS33⟩
              · skip
                rw [if_neg (not_t hc)] at hb12
                refine WP.skip ?_
                refine WP.region ?_
                refine RW.run ttok 3 rfl ?_
                refine RW.nil ?_
                refine WP.region ?_
                refine RW.run ttok 3 rfl ?_
                refine RW.nil ?_
                cases hb12
                exact ⟨_, [(0, .slice A0_ x0.length k0_), (1, .int .i64 (w64 ((w64 ((w64 ((w64 (r27 + 1)) + 1)) + 1)) + 1))), (5, .int .i64 (w64 (s1.2 + 1)))], ⟨rfl, rfl, rfl, trivial⟩, rfl, (hE5.trans hR32.ext), hS33, rfl⟩
    · skip
      rw [if_neg (not_t hc)] at hb12
      refine WP.exit ?_
      cases hb12
      exact ⟨_, [(1, .int .i64 s1.1)], ⟨rfl, trivial⟩, ho13, hE5, hS15, rfl⟩

theorem enters80 : Enters Try.prog 80 := ⟨_, _, Try.func80, rfl, by kernel_rfl⟩
def m_laws_heldHandedS_j1 (fuel : Nat) (t2 : Int) : Option Int := some t2
def m_laws_heldHandedS_b1 (fuel : Nat) (x0 : (List D.Handed)) (s1 : Int × Int) : Option (Rd (Int × Int) (Int) (Int)) := (if (decide (s1.2 < (x0.length : Int))) = true then ((idx x0 s1.2).bind fun x17 => (if (x17.Actor != s1.1) = true then some (.ret (-1)) else ((idx x0 s1.2).bind fun x24 => (if (x24.Value != (w64 (s1.1 + 1))) = true then some (.ret (-1)) else some (.next (w64 ((w64 (s1.1 + 1)) + 1), w64 (s1.2 + 1))))))) else some (.brk s1.1))
def m_laws_heldHandedS (fuel : Nat) (x0 : (List D.Handed)) (x1 : Int) : Option (Int) := ((iter (m_laws_heldHandedS_b1 fuel x0) fuel (x1, 0)).bind fun o => aft o (m_laws_heldHandedS_j1 fuel))

set_option maxRecDepth 100000 in
theorem laws_heldHandedS_ok {w : World} {A0_ : Option Addr} {k0_ : Nat} {x0 : (List D.Handed)} {x1 : Int} (h0_ : ty24.ro w [.slice A0_ x0.length k0_] x0) {fuel : Nat} {r : Int} (hm : m_laws_heldHandedS fuel x0 x1 = some r) :
    Calls Try.prog 80 ⟨[.slice A0_ x0.length k0_, .int .i64 x1]⟩ w (Ret fun v w8 => v = .int .i64 r ∧ St w w8 []) := by
  refine Calls.into Try.func80 rfl 31 rfl rfl _ rfl ?_
  unfold m_laws_heldHandedS at hm
  have hS := St.start w
  refine WP.seq ?_
  refine WP.region ?_
  refine RW.run ttok 1 rfl ?_
  refine RW.nil ?_
  refine WP.seq ?_
  refine WP.seq ?_
  refine WP.region ?_
  refine RW.run ttok 1 rfl ?_
  refine RW.nil ?_
  obtain ⟨o8, hl9, hm⟩ := bind_some hm
  refine WP.cut (fun (t2 : Int) F w9 => o8 = .inl t2 ∧ Ext w w9 ∧ St w w9 [] ∧ F = [(1, .int .i64 t2)]) ?_ ?_
  · skip
    rintro t2 F w7 ⟨ho11, hE6, hS10, rfl⟩
    subst ho11
    rw [aft_inl] at hm
    unfold m_laws_heldHandedS_j1 at hm
    refine WP.seq ?_
    refine WP.region ?_
    refine RW.run ttok 2 rfl ?_
    refine RW.nil ?_
    refine WP.ret ?_
    cases hm
    exact ⟨_, .cons (.tmp rfl) .nil, rfl, hS10⟩
  · skip
    refine WP.block ?_
    refine WP.weak [(0, .slice A0_ x0.length k0_), (1, .int .i64 x1), (5, .int .i64 0)] ⟨rfl, rfl, rfl, trivial⟩ ?_
    refine WP.iter (fun (s1 : Int × Int) F w9 => Ext w w9 ∧ St w w9 [] ∧ F = [(0, .slice A0_ x0.length k0_), (1, .int .i64 s1.1), (5, .int .i64 s1.2)]) _ hl9 ⟨(Ext.refl _), hS, rfl⟩ ?_
    rintro s1 F w16 _ o14 ⟨hE5, hS15, rfl⟩ hb12 ho13
    unfold m_laws_heldHandedS_b1 at hb12
    refine WP.seq ?_
    refine WP.seq ?_
    refine WP.region ?_
    refine RW.run ttok 4 rfl ?_
    refine RW.nil ?_
    refine WP.cond (decide (s1.2 < (x0.length : Int))) rfl (fun hc => ?_) (fun hc => ?_)
    · skip
      rw [if_pos hc] at hb12
      refine WP.skip ?_
      refine WP.seq ?_
      refine WP.block ?_
      refine WP.seq ?_
      refine WP.seq ?_
      refine WP.region ?_
      refine RW.run ttok 2 rfl ?_
      obtain ⟨x17, hx18, hb12⟩ := bind_some hb12
      refine RW.idx ttok hS15.ext rfl rfl rfl rfl rfl rfl (by decide) rfl rfl h0_ (idx_some hx18).1 (idx_some hx18).2 rfl rfl (fun p19 es20 ha21 hr22 => ?_)
      have e23 := ty179_open hr22; subst e23
      refine RW.run ttok 1 rfl ?_
      refine RW.load1 ttok rfl rfl rfl rfl rfl (At.ext hS15.ext ha21) 0 rfl rfl rfl rfl ?_
      refine RW.run ttok 2 rfl ?_
      refine RW.nil ?_
      refine WP.cond (x17.Actor != s1.1) rfl (fun hc => ?_) (fun hc => ?_)
      · skip
        rw [if_pos hc] at hb12
        refine WP.seq ?_
        refine WP.region ?_
        refine RW.run ttok 1 rfl ?_
        refine RW.nil ?_
        refine WP.ret ?_
        cases hb12
        cases ho13
        have hm : some _ = some _ := hm
        cases hm
        exact ⟨_, .cons (.tmp rfl) .nil, rfl, hS15⟩
      · skip
        rw [if_neg (not_t hc)] at hb12
        refine WP.skip ?_
        refine WP.seq ?_
        refine WP.region ?_
        refine RW.run ttok 3 rfl ?_
        refine RW.nil ?_
        refine WP.seq ?_
        refine WP.seq ?_
        refine WP.region ?_
        refine RW.run ttok 2 rfl ?_
        obtain ⟨x24, hx25, hb12⟩ := bind_some hb12
        refine RW.idx ttok hS15.ext rfl rfl rfl rfl rfl rfl (by decide) rfl rfl h0_ (idx_some hx25).1 (idx_some hx25).2 rfl rfl (fun p26 es27 ha28 hr29 => ?_)
        have e30 := ty179_open hr29; subst e30
        refine RW.run ttok 1 rfl ?_
        refine RW.load1 ttok rfl rfl rfl rfl rfl (At.ext hS15.ext ha28) 1 rfl rfl rfl rfl ?_
        refine RW.run ttok 2 rfl ?_
        refine RW.nil ?_
        refine WP.cond (x24.Value != (w64 (s1.1 + 1))) rfl (fun hc => ?_) (fun hc => ?_)
        · skip
          rw [if_pos hc] at hb12
          refine WP.seq ?_
          refine WP.region ?_
          refine RW.run ttok 1 rfl ?_
          refine RW.nil ?_
          refine WP.ret ?_
          cases hb12
          cases ho13
          have hm : some _ = some _ := hm
          cases hm
          exact ⟨_, .cons (.tmp rfl) .nil, rfl, hS15⟩
        · skip
          rw [if_neg (not_t hc)] at hb12
          refine WP.skip ?_
          refine WP.region ?_
          refine RW.run ttok 3 rfl ?_
          refine RW.nil ?_
          refine WP.region ?_
          refine RW.run ttok 3 rfl ?_
          refine RW.nil ?_
          cases hb12
          exact ⟨_, [(0, .slice A0_ x0.length k0_), (1, .int .i64 (w64 ((w64 (s1.1 + 1)) + 1))), (5, .int .i64 (w64 (s1.2 + 1)))], ⟨rfl, rfl, rfl, trivial⟩, rfl, hE5, hS15, rfl⟩
    · skip
      rw [if_neg (not_t hc)] at hb12
      refine WP.exit ?_
      cases hb12
      exact ⟨_, [(1, .int .i64 s1.1)], ⟨rfl, trivial⟩, ho13, hE5, hS15, rfl⟩

theorem enters22 : Enters Try.prog 22 := ⟨_, _, Try.func22, rfl, by kernel_rfl⟩
def m_laws_heldDeque (fuel : Nat) (x0 : D.Deque) (x1 : Int) : Option (Int) := ((m_laws_heldInt64S fuel x0.Buffer x1).bind fun r18 => (if (decide (r18 < 0)) = true then some (-1) else ((m_laws_heldDequeActorS fuel x0.Actors r18).bind fun r25 => (if (decide (r25 < 0)) = true then some (-1) else ((m_laws_heldHandedS fuel x0.Taken r25).bind fun r32 => (if (decide (r32 < 0)) = true then some (-1) else ((m_laws_heldInt64S fuel x0.Refused r32).bind fun r39 => (if (decide (r39 < 0)) = true then some (-1) else some r39))))))))

set_option maxRecDepth 100000 in
theorem laws_heldDeque_ok {w : World} {c0_ : List Value} {x0 : D.Deque} {x1 : Int} (h0_ : ty26.ro w c0_ x0) {fuel : Nat} {r : Int} (hm : m_laws_heldDeque fuel x0 x1 = some r) :
    Calls Try.prog 22 ⟨[.agg ⟨c0_⟩, .int .i64 x1]⟩ w (Ret fun v w8 => v = .int .i64 r ∧ St w w8 []) := by
  obtain ⟨A1, k2, A4, k5, A7, k8, A10, k11, e13, h3, h6, h9, h12⟩ := ty26_open h0_; subst e13
  refine Calls.into Try.func22 rfl 30 rfl rfl _ rfl ?_
  unfold m_laws_heldDeque at hm
  have hS := St.start w
  refine WP.seq ?_
  refine WP.region ?_
  refine RW.new ttok hS rfl rfl rfl rfl (fun g14 w15 e16 hS17 => ?_)
  refine RW.run ttok 1 rfl ?_
  refine RW.nil ?_
  refine WP.seq ?_
  refine WP.region ?_
  refine RW.run ttok 1 rfl ?_
  refine RW.load1 ttok rfl rfl rfl rfl rfl ((hS17.bring 0 rfl).box) 2 rfl rfl rfl rfl ?_
  refine RW.run ttok 1 rfl ?_
  obtain ⟨r18, hx19, hm⟩ := bind_some hm
  refine RW.call rfl rfl rfl enters36 (laws_heldInt64S_ok (ty22.ext hS17.ext h3) hx19) (fun v20 w21 hR22 => ?_)
  obtain ⟨rfl, hR23⟩ := hR22
  have hS24 := hS17.join hR23
  refine RW.run ttok 1 rfl ?_
  refine RW.nil ?_
  refine WP.seq ?_
  refine WP.seq ?_
  refine WP.region ?_
  refine RW.run ttok 2 rfl ?_
  refine RW.nil ?_
  refine WP.cond (decide (r18 < 0)) rfl (fun hc => ?_) (fun hc => ?_)
  · skip
    rw [if_pos hc] at hm
    refine WP.seq ?_
    refine WP.region ?_
    refine RW.run ttok 1 rfl ?_
    refine RW.nil ?_
    refine WP.ret ?_
    cases hm
    exact ⟨_, .cons (.tmp rfl) .nil, rfl, (hS24.taken 0)⟩
  · skip
    rw [if_neg (not_t hc)] at hm
    refine WP.skip ?_
    refine WP.seq ?_
    refine WP.region ?_
    refine RW.run ttok 1 rfl ?_
    refine RW.load1 ttok rfl rfl rfl rfl rfl ((hS24.bring 0 rfl).box) 3 rfl rfl rfl rfl ?_
    refine RW.run ttok 1 rfl ?_
    obtain ⟨r25, hx26, hm⟩ := bind_some hm
    refine RW.call rfl rfl rfl enters79 (laws_heldDequeActorS_ok (ty23.ext hS24.ext h6) hx26) (fun v27 w28 hR29 => ?_)
    obtain ⟨rfl, hR30⟩ := hR29
    have hS31 := hS24.join hR30
    refine RW.run ttok 1 rfl ?_
    refine RW.nil ?_
    refine WP.seq ?_
    refine WP.seq ?_
    refine WP.region ?_
    refine RW.run ttok 2 rfl ?_
    refine RW.nil ?_
    refine WP.cond (decide (r25 < 0)) rfl (fun hc => ?_) (fun hc => ?_)
    · skip
      rw [if_pos hc] at hm
      refine WP.seq ?_
      refine WP.region ?_
      refine RW.run ttok 1 rfl ?_
      refine RW.nil ?_
      refine WP.ret ?_
      cases hm
      exact ⟨_, .cons (.tmp rfl) .nil, rfl, (hS31.taken 0)⟩
    · skip
      rw [if_neg (not_t hc)] at hm
      refine WP.skip ?_
      refine WP.seq ?_
      refine WP.region ?_
      refine RW.run ttok 1 rfl ?_
      refine RW.load1 ttok rfl rfl rfl rfl rfl ((hS31.bring 0 rfl).box) 4 rfl rfl rfl rfl ?_
      refine RW.run ttok 1 rfl ?_
      obtain ⟨r32, hx33, hm⟩ := bind_some hm
      refine RW.call rfl rfl rfl enters80 (laws_heldHandedS_ok (ty24.ext hS31.ext h9) hx33) (fun v34 w35 hR36 => ?_)
      obtain ⟨rfl, hR37⟩ := hR36
      have hS38 := hS31.join hR37
      refine RW.run ttok 1 rfl ?_
      refine RW.nil ?_
      refine WP.seq ?_
      refine WP.seq ?_
      refine WP.region ?_
      refine RW.run ttok 2 rfl ?_
      refine RW.nil ?_
      refine WP.cond (decide (r32 < 0)) rfl (fun hc => ?_) (fun hc => ?_)
      · skip
        rw [if_pos hc] at hm
        refine WP.seq ?_
        refine WP.region ?_
        refine RW.run ttok 1 rfl ?_
        refine RW.nil ?_
        refine WP.ret ?_
        cases hm
        exact ⟨_, .cons (.tmp rfl) .nil, rfl, (hS38.taken 0)⟩
      · skip
        rw [if_neg (not_t hc)] at hm
        refine WP.skip ?_
        refine WP.seq ?_
        refine WP.region ?_
        refine RW.run ttok 1 rfl ?_
        refine RW.load1 ttok rfl rfl rfl rfl rfl ((hS38.bring 0 rfl).box) 5 rfl rfl rfl rfl ?_
        refine RW.run ttok 1 rfl ?_
        obtain ⟨r39, hx40, hm⟩ := bind_some hm
        refine RW.call rfl rfl rfl enters36 (laws_heldInt64S_ok (ty22.ext hS38.ext h12) hx40) (fun v41 w42 hR43 => ?_)
        obtain ⟨rfl, hR44⟩ := hR43
        have hS45 := hS38.join hR44
        refine RW.run ttok 1 rfl ?_
        refine RW.nil ?_
        refine WP.seq ?_
        refine WP.seq ?_
        refine WP.region ?_
        refine RW.run ttok 2 rfl ?_
        refine RW.nil ?_
        refine WP.cond (decide (r39 < 0)) rfl (fun hc => ?_) (fun hc => ?_)
        · skip
          rw [if_pos hc] at hm
          refine WP.seq ?_
          refine WP.region ?_
          refine RW.run ttok 1 rfl ?_
          refine RW.nil ?_
          refine WP.ret ?_
          cases hm
          exact ⟨_, .cons (.tmp rfl) .nil, rfl, (hS45.taken 0)⟩
        · skip
          rw [if_neg (not_t hc)] at hm
          refine WP.skip ?_
          refine WP.seq ?_
          refine WP.region ?_
          refine RW.run ttok 2 rfl ?_
          refine RW.nil ?_
          refine WP.ret ?_
          cases hm
          exact ⟨_, .cons (.tmp rfl) .nil, rfl, (hS45.taken 0)⟩

theorem enters3 : Enters Try.prog 3 := ⟨_, _, Try.func3, rfl, by kernel_rfl⟩
def m_laws_FnExactNewDeque_j3 (fuel : Nat) (r59 : D.Deque × Int) (r135 : Int × (List Int) × (List D.DequeActor) × (List D.Handed) × (List Int)) (t200 : Bool) : Option Bool := (if t200 = true then some false else ((m_laws_heldDeque fuel (⟨r59.1.Top, r59.1.Bottom, r135.2.1, r135.2.2.1, r135.2.2.2.1, r135.2.2.2.2⟩ : D.Deque) 1).bind fun r205 => (if (decide (r205 < 0)) = true then some false else (if (r205 != r135.1) = true then some false else some true))))
def m_laws_FnExactNewDeque_j2 (fuel : Nat) (x0 : Int) (x1 : (List Int)) (x2 : (List Int)) (r19 : D.Deque × Int) (r59 : D.Deque × Int) (t130 : Bool) : Option Bool := (if t130 = true then some false else ((m_laws_markDeque fuel r59.1 1).bind fun r135 => ((m_laws_heldDeque fuel (⟨r59.1.Top, r59.1.Bottom, r135.2.1, r135.2.2.1, r135.2.2.2.1, r135.2.2.2.2⟩ : D.Deque) 1).bind fun r153 => (if (decide (r153 < 0)) = true then some false else (if (r153 != r135.1) = true then some false else ((m_laws_toInt64S fuel x1).bind fun r160 => ((m_laws_toInt64S fuel x2).bind fun r169 => ((m_impl_NewDeque fuel x0 r160 r169).bind fun r178 => ((m_laws_eqDeque fuel r178.1 r19.1).bind fun r212 => (if (!r212) = true then m_laws_FnExactNewDeque_j3 fuel r59 r135 true else m_laws_FnExactNewDeque_j3 fuel r59 r135 (r178.2 != r19.2)))))))))))
def m_laws_FnExactNewDeque_j1 (fuel : Nat) (x0 : Int) (x1 : (List Int)) (x2 : (List Int)) (r19 : D.Deque × Int) (r41 : (List Int)) (r50 : (List Int)) (r59 : D.Deque × Int) (t81 : Bool) : Option Bool := (if t81 = true then some false else ((m_laws_toInt64S fuel x1).bind fun r86 => ((m_laws_eqInt64S fuel r41 r86).bind fun r95 => (if (!r95) = true then some false else ((m_laws_toInt64S fuel x2).bind fun r102 => ((m_laws_eqInt64S fuel r50 r102).bind fun r111 => (if (!r111) = true then some false else ((m_laws_markInt64S fuel r41 1).bind fun r118 => ((m_laws_markInt64S fuel r50 r118.1).bind fun r124 => (if (decide (r124.1 < 0)) = true then m_laws_FnExactNewDeque_j2 fuel x0 x1 x2 r19 r59 true else ((m_laws_eqDeque fuel r59.1 r19.1).bind fun r221 => (if (!r221) = true then m_laws_FnExactNewDeque_j2 fuel x0 x1 x2 r19 r59 true else m_laws_FnExactNewDeque_j2 fuel x0 x1 x2 r19 r59 (r59.2 != r19.2)))))))))))))
def m_laws_FnExactNewDeque (fuel : Nat) (x0 : Int) (x1 : (List Int)) (x2 : (List Int)) : Option (Bool) := (if (decide ((x1.length : Int) > 1048576)) = true then some true else (if (decide ((x2.length : Int) > 1048576)) = true then some true else ((m_laws_toInt64S fuel x1).bind fun r1 => ((m_laws_toInt64S fuel x2).bind fun r10 => ((m_spec_NewDeque fuel x0 r1 r10).bind fun r19 => ((m_laws_toInt64S fuel x1).bind fun r41 => ((m_laws_toInt64S fuel x2).bind fun r50 => ((m_impl_NewDeque fuel x0 r41 r50).bind fun r59 => ((m_laws_eqDeque fuel r59.1 r19.1).bind fun r229 => (if (!r229) = true then m_laws_FnExactNewDeque_j1 fuel x0 x1 x2 r19 r41 r50 r59 true else m_laws_FnExactNewDeque_j1 fuel x0 x1 x2 r19 r41 r50 r59 (r59.2 != r19.2)))))))))))

set_option maxRecDepth 100000 in
theorem laws_FnExactNewDeque_ok {w : World} {x0 : Int} {A1_ : Option Addr} {k1_ : Nat} {x1 : (List Int)} {A2_ : Option Addr} {k2_ : Nat} {x2 : (List Int)} (h1_ : ty22.ro w [.slice A1_ x1.length k1_] x1) (h2_ : ty22.ro w [.slice A2_ x2.length k2_] x2) {fuel : Nat} {r : Bool} (hm : m_laws_FnExactNewDeque fuel x0 x1 x2 = some r) :
    Calls Try.prog 3 ⟨[.int .i64 x0, .slice A1_ x1.length k1_, .slice A2_ x2.length k2_]⟩ w (Ret fun v w8 => v = .bool r ∧ St w w8 []) := by
  refine Calls.into Try.func3 rfl 119 rfl rfl _ rfl ?_
  unfold m_laws_FnExactNewDeque at hm
  have hS := St.start w
  refine WP.seq ?_
  refine WP.region ?_
  refine RW.run ttok 1 rfl ?_
  refine RW.nil ?_
  refine WP.seq ?_
  refine WP.seq ?_
  refine WP.region ?_
  refine RW.run ttok 3 rfl ?_
  refine RW.nil ?_
  refine WP.cond (decide ((x1.length : Int) > 1048576)) rfl (fun hc => ?_) (fun hc => ?_)
  · skip
    rw [if_pos hc] at hm
    refine WP.seq ?_
    refine WP.region ?_
    refine RW.run ttok 1 rfl ?_
    refine RW.nil ?_
    refine WP.ret ?_
    cases hm
    exact ⟨_, .cons (.tmp rfl) .nil, rfl, hS⟩
  · skip
    rw [if_neg (not_t hc)] at hm
    refine WP.skip ?_
    refine WP.seq ?_
    refine WP.seq ?_
    refine WP.region ?_
    refine RW.run ttok 3 rfl ?_
    refine RW.nil ?_
    refine WP.cond (decide ((x2.length : Int) > 1048576)) rfl (fun hc => ?_) (fun hc => ?_)
    · skip
      rw [if_pos hc] at hm
      refine WP.seq ?_
      refine WP.region ?_
      refine RW.run ttok 1 rfl ?_
      refine RW.nil ?_
      refine WP.ret ?_
      cases hm
      exact ⟨_, .cons (.tmp rfl) .nil, rfl, hS⟩
    · skip
      rw [if_neg (not_t hc)] at hm
      refine WP.skip ?_
      refine WP.seq ?_
      refine WP.region ?_
      refine RW.run ttok 2 rfl ?_
      obtain ⟨r1, hx2, hm⟩ := bind_some hm
      refine RW.call rfl rfl rfl enters16 (laws_toInt64S_ok (ty22.ext hS.ext h1_) hx2) (fun v3 w4 hR5 => ?_)
      obtain ⟨A6, k7, rfl, hR8⟩ := hR5
      have hS9 := hS.join hR8
      refine RW.run ttok 1 rfl ?_
      obtain ⟨r10, hx11, hm⟩ := bind_some hm
      refine RW.call rfl rfl rfl enters16 (laws_toInt64S_ok (ty22.ext hS9.ext h2_) hx11) (fun v12 w13 hR14 => ?_)
      obtain ⟨A15, k16, rfl, hR17⟩ := hR14
      have hS18 := hS9.join hR17
      obtain ⟨r19, hx20, hm⟩ := bind_some hm
      refine RW.call rfl rfl rfl enters15 (spec_NewDeque_ok ((hS18.bring 1 rfl).own) ((hS18.bring 0 rfl).own) hx20) (fun v21 w22 hR23 => ?_)
      obtain ⟨A24, k25, A26, k27, A28, k29, A30, k31, rfl, hR32⟩ := hR23
      have hS33 := hS18.join hR32
      refine RW.run ttok 3 rfl ?_
      refine RW.new ttok hS33 rfl rfl rfl rfl (fun g34 w35 e36 hS37 => ?_)
      have hS38 := hS37.bring 0 rfl
      refine RW.store ttok (A := []) hS38 rfl rfl rfl rfl rfl 0 rfl rfl rfl rfl rfl (fun w39 hS40 => ?_)
      refine RW.run ttok 1 rfl ?_
      refine RW.nil ?_
      refine WP.seq ?_
      refine WP.region ?_
      refine RW.run ttok 1 rfl ?_
      obtain ⟨r41, hx42, hm⟩ := bind_some hm
      refine RW.call rfl rfl rfl enters16 (laws_toInt64S_ok (ty22.ext hS40.ext h1_) hx42) (fun v43 w44 hR45 => ?_)
      obtain ⟨A46, k47, rfl, hR48⟩ := hR45
      have hS49 := hS40.join hR48
      refine RW.run ttok 1 rfl ?_
      refine RW.nil ?_
      refine WP.seq ?_
      refine WP.region ?_
      refine RW.run ttok 1 rfl ?_
      obtain ⟨r50, hx51, hm⟩ := bind_some hm
      refine RW.call rfl rfl rfl enters16 (laws_toInt64S_ok (ty22.ext hS49.ext h2_) hx51) (fun v52 w53 hR54 => ?_)
      obtain ⟨A55, k56, rfl, hR57⟩ := hR54
      have hS58 := hS49.join hR57
      refine RW.run ttok 1 rfl ?_
      refine RW.nil ?_
      refine WP.seq ?_
      refine WP.region ?_
      refine RW.run ttok 3 rfl ?_
      obtain ⟨r59, hx60, hm⟩ := bind_some hm
      refine RW.call rfl rfl rfl enters17 (impl_NewDeque_ok ((hS58.bring 1 rfl).own) ((hS58.bring 0 rfl).own) hx60) (fun v61 w62 hR63 => ?_)
      obtain ⟨A64, k65, A66, k67, A68, k69, A70, k71, rfl, hR72⟩ := hR63
      have hS73 := hS58.join hR72
      refine RW.run ttok 3 rfl ?_
      refine RW.new ttok hS73 rfl rfl rfl rfl (fun g74 w75 e76 hS77 => ?_)
      have hS78 := hS77.bring 0 rfl
      refine RW.store ttok (A := []) hS78 rfl rfl rfl rfl rfl 0 rfl rfl rfl rfl rfl (fun w79 hS80 => ?_)
      refine RW.run ttok 1 rfl ?_
      refine RW.nil ?_
      refine WP.seq ?_
      refine WP.seq ?_
      refine WP.cut (fun (t81 : Bool) F w9 => m_laws_FnExactNewDeque_j1 fuel x0 x1 x2 r19 r41 r50 r59 t81 = some r ∧ Ext w79 w9 ∧ St w w9 [Box g74 [.int .i64 r59.1.Top, .int .i64 r59.1.Bottom, .slice A64 r59.1.Buffer.length k65, .slice A66 r59.1.Actors.length k67, .slice A68 r59.1.Taken.length k69, .slice A70 r59.1.Refused.length k71] 26, Own ty22 [.slice A64 r59.1.Buffer.length k65] r59.1.Buffer, Own ty23 [.slice A66 r59.1.Actors.length k67] r59.1.Actors, Own ty24 [.slice A68 r59.1.Taken.length k69] r59.1.Taken, Own ty22 [.slice A70 r59.1.Refused.length k71] r59.1.Refused, Own ty22 [.slice A55 r50.length k56] r50, Own ty22 [.slice A46 r41.length k47] r41, Box g34 [.int .i64 r19.1.Top, .int .i64 r19.1.Bottom, .slice A24 r19.1.Buffer.length k25, .slice A26 r19.1.Actors.length k27, .slice A28 r19.1.Taken.length k29, .slice A30 r19.1.Refused.length k31] 26, Own ty22 [.slice A24 r19.1.Buffer.length k25] r19.1.Buffer, Own ty23 [.slice A26 r19.1.Actors.length k27] r19.1.Actors, Own ty24 [.slice A28 r19.1.Taken.length k29] r19.1.Taken, Own ty22 [.slice A30 r19.1.Refused.length k31] r19.1.Refused, Own ty22 [.slice A15 r10.length k16] r10, Own ty22 [.slice A6 r1.length k7] r1] ∧ F = [(0, .int .i64 x0), (1, .slice A1_ x1.length k1_), (2, .slice A2_ x2.length k2_), (7, .pointer (some ⟨g34, 0, none⟩)), (8, .int .i64 r19.2), (9, .slice A46 r41.length k47), (10, .slice A55 r50.length k56), (11, .pointer (some ⟨g74, 0, none⟩)), (12, .int .i64 r59.2), (52, .bool t81)]) ?_ ?_
      · skip
        rintro t81 F w84 ⟨hm, hE82, hS83, rfl⟩
        unfold m_laws_FnExactNewDeque_j1 at hm
        refine WP.cond t81 rfl (fun hc => ?_) (fun hc => ?_)
        · skip
          rw [if_pos hc] at hm
          refine WP.seq ?_
          refine WP.region ?_
          refine RW.run ttok 1 rfl ?_
          refine RW.nil ?_
          refine WP.ret ?_
          cases hm
          exact ⟨_, .cons (.tmp rfl) .nil, rfl, (hS83.taken 0)⟩
        · skip
          rw [if_neg (not_t hc)] at hm
          refine WP.skip ?_
          refine WP.seq ?_
          refine WP.seq ?_
          refine WP.region ?_
          refine RW.run ttok 2 rfl ?_
          obtain ⟨r86, hx87, hm⟩ := bind_some hm
          refine RW.call rfl rfl rfl enters16 (laws_toInt64S_ok (ty22.ext hS83.ext h1_) hx87) (fun v88 w89 hR90 => ?_)
          obtain ⟨A91, k92, rfl, hR93⟩ := hR90
          have hS94 := hS83.join hR93
          obtain ⟨r95, hx96, hm⟩ := bind_some hm
          refine RW.call rfl rfl rfl enters19 (laws_eqInt64S_ok ((hS94.bring 7 rfl).own) ((hS94.bring 0 rfl).own) hx96) (fun v97 w98 hR99 => ?_)
          obtain ⟨rfl, hR100⟩ := hR99
          have hS101 := hS94.join hR100
          refine RW.run ttok 1 rfl ?_
          refine RW.nil ?_
          refine WP.cond (!r95) rfl (fun hc => ?_) (fun hc => ?_)
          · skip
            rw [if_pos hc] at hm
            refine WP.seq ?_
            refine WP.region ?_
            refine RW.run ttok 1 rfl ?_
            refine RW.nil ?_
            refine WP.ret ?_
            cases hm
            exact ⟨_, .cons (.tmp rfl) .nil, rfl, (hS101.taken 0)⟩
          · skip
            rw [if_neg (not_t hc)] at hm
            refine WP.skip ?_
            refine WP.seq ?_
            refine WP.seq ?_
            refine WP.region ?_
            refine RW.run ttok 2 rfl ?_
            obtain ⟨r102, hx103, hm⟩ := bind_some hm
            refine RW.call rfl rfl rfl enters16 (laws_toInt64S_ok (ty22.ext hS101.ext h2_) hx103) (fun v104 w105 hR106 => ?_)
            obtain ⟨A107, k108, rfl, hR109⟩ := hR106
            have hS110 := hS101.join hR109
            obtain ⟨r111, hx112, hm⟩ := bind_some hm
            refine RW.call rfl rfl rfl enters19 (laws_eqInt64S_ok ((hS110.bring 7 rfl).own) ((hS110.bring 0 rfl).own) hx112) (fun v113 w114 hR115 => ?_)
            obtain ⟨rfl, hR116⟩ := hR115
            have hS117 := hS110.join hR116
            refine RW.run ttok 1 rfl ?_
            refine RW.nil ?_
            refine WP.cond (!r111) rfl (fun hc => ?_) (fun hc => ?_)
            · skip
              rw [if_pos hc] at hm
              refine WP.seq ?_
              refine WP.region ?_
              refine RW.run ttok 1 rfl ?_
              refine RW.nil ?_
              refine WP.ret ?_
              cases hm
              exact ⟨_, .cons (.tmp rfl) .nil, rfl, (hS117.taken 0)⟩
            · skip
              rw [if_neg (not_t hc)] at hm
              refine WP.skip ?_
              refine WP.seq ?_
              refine WP.region ?_
              refine RW.run ttok 1 rfl ?_
              refine RW.nil ?_
              refine WP.seq ?_
              refine WP.region ?_
              refine RW.run ttok 2 rfl ?_
              obtain ⟨r118, hx119, hm⟩ := bind_some hm
              refine RW.call rfl rfl rfl enters20 (laws_markInt64S_ok (W := w) (RR := _) (hS117.bring 8 rfl)  hx119) (fun v120 w121 hR122 => ?_)
              obtain ⟨rfl, hS123⟩ := hR122
              refine RW.run ttok 1 rfl ?_
              refine RW.nil ?_
              refine WP.seq ?_
              refine WP.region ?_
              refine RW.run ttok 2 rfl ?_
              obtain ⟨r124, hx125, hm⟩ := bind_some hm
              refine RW.call rfl rfl rfl enters20 (laws_markInt64S_ok (W := w) (RR := _) (hS123.bring 8 rfl)  hx125) (fun v126 w127 hR128 => ?_)
              obtain ⟨rfl, hS129⟩ := hR128
              refine RW.run ttok 1 rfl ?_
              refine RW.nil ?_
              refine WP.seq ?_
              refine WP.seq ?_
              refine WP.cut (fun (t130 : Bool) F w9 => m_laws_FnExactNewDeque_j2 fuel x0 x1 x2 r19 r59 t130 = some r ∧ Ext w127 w9 ∧ St w w9 [Own ty22 [.slice A55 r50.length k56] r124.2, Own ty22 [.slice A46 r41.length k47] r118.2, Own ty22 [.slice A107 r102.length k108] r102, Own ty22 [.slice A91 r86.length k92] r86, Box g74 [.int .i64 r59.1.Top, .int .i64 r59.1.Bottom, .slice A64 r59.1.Buffer.length k65, .slice A66 r59.1.Actors.length k67, .slice A68 r59.1.Taken.length k69, .slice A70 r59.1.Refused.length k71] 26, Own ty22 [.slice A64 r59.1.Buffer.length k65] r59.1.Buffer, Own ty23 [.slice A66 r59.1.Actors.length k67] r59.1.Actors, Own ty24 [.slice A68 r59.1.Taken.length k69] r59.1.Taken, Own ty22 [.slice A70 r59.1.Refused.length k71] r59.1.Refused, Box g34 [.int .i64 r19.1.Top, .int .i64 r19.1.Bottom, .slice A24 r19.1.Buffer.length k25, .slice A26 r19.1.Actors.length k27, .slice A28 r19.1.Taken.length k29, .slice A30 r19.1.Refused.length k31] 26, Own ty22 [.slice A24 r19.1.Buffer.length k25] r19.1.Buffer, Own ty23 [.slice A26 r19.1.Actors.length k27] r19.1.Actors, Own ty24 [.slice A28 r19.1.Taken.length k29] r19.1.Taken, Own ty22 [.slice A30 r19.1.Refused.length k31] r19.1.Refused, Own ty22 [.slice A15 r10.length k16] r10, Own ty22 [.slice A6 r1.length k7] r1] ∧ F = [(0, .int .i64 x0), (1, .slice A1_ x1.length k1_), (2, .slice A2_ x2.length k2_), (7, .pointer (some ⟨g34, 0, none⟩)), (8, .int .i64 r19.2), (11, .pointer (some ⟨g74, 0, none⟩)), (81, .bool t130)]) ?_ ?_
              · skip
                rintro t130 F w133 ⟨hm, hE131, hS132, rfl⟩
                unfold m_laws_FnExactNewDeque_j2 at hm
                refine WP.cond t130 rfl (fun hc => ?_) (fun hc => ?_)
                · skip
                  rw [if_pos hc] at hm
                  refine WP.seq ?_
                  refine WP.region ?_
                  refine RW.run ttok 1 rfl ?_
                  refine RW.nil ?_
                  refine WP.ret ?_
                  cases hm
                  exact ⟨_, .cons (.tmp rfl) .nil, rfl, (hS132.taken 0)⟩
                · skip
                  rw [if_neg (not_t hc)] at hm
                  refine WP.skip ?_
                  refine WP.seq ?_
                  refine WP.region ?_
                  refine RW.run ttok 1 rfl ?_
                  refine RW.nil ?_
                  refine WP.seq ?_
                  refine WP.region ?_
                  refine RW.loadN ttok rfl rfl rfl rfl rfl ((hS132.bring 4 rfl).box) rfl rfl rfl ?_
                  refine RW.run ttok 1 rfl ?_
                  obtain ⟨r135, hx136, hm⟩ := bind_some hm
                  refine RW.call rfl rfl rfl enters21 (laws_markDeque_ok (W := w) (RR := _) ((((hS132.bring 8 rfl).bring 8 rfl).bring 8 rfl).bring 8 rfl)  hx136) (fun v137 w138 hR139 => ?_)
                  obtain ⟨rfl, hS140⟩ := hR139
                  refine RW.run ttok 1 rfl ?_
                  refine RW.nil ?_
                  refine WP.seq ?_
                  refine WP.region ?_
                  refine RW.run ttok 1 rfl ?_
                  refine RW.nil ?_
                  refine WP.seq ?_
                  refine WP.region ?_
                  refine RW.loadN ttok rfl rfl rfl rfl rfl ((hS140.bring 8 rfl).box) rfl rfl rfl ?_
                  refine RW.run ttok 1 rfl ?_
                  have hn141 := (hS140.bring 0 rfl).lenEq
                  have hS142 := (hS140.bring 0 rfl).reLen hn141
                  have hS143 := (hS142.bring 8 rfl).reBox (cs' := [.int .i64 r59.1.Top, .int .i64 r59.1.Bottom, .slice A64 r135.2.1.length k65, .slice A66 r59.1.Actors.length k67, .slice A68 r59.1.Taken.length k69, .slice A70 r59.1.Refused.length k71]) (by show ([.int .i64 r59.1.Top, .int .i64 r59.1.Bottom, .slice A64 r59.1.Buffer.length k65, .slice A66 r59.1.Actors.length k67, .slice A68 r59.1.Taken.length k69, .slice A70 r59.1.Refused.length k71] : List Value) = [.int .i64 r59.1.Top, .int .i64 r59.1.Bottom, .slice A64 r135.2.1.length k65, .slice A66 r59.1.Actors.length k67, .slice A68 r59.1.Taken.length k69, .slice A70 r59.1.Refused.length k71]; simp only [hn141])
                  have hn144 := (hS143.bring 2 rfl).lenEq
                  have hS145 := (hS143.bring 2 rfl).reLen hn144
                  have hS146 := (hS145.bring 1 rfl).reBox (cs' := [.int .i64 r59.1.Top, .int .i64 r59.1.Bottom, .slice A64 r135.2.1.length k65, .slice A66 r135.2.2.1.length k67, .slice A68 r59.1.Taken.length k69, .slice A70 r59.1.Refused.length k71]) (by show ([.int .i64 r59.1.Top, .int .i64 r59.1.Bottom, .slice A64 r135.2.1.length k65, .slice A66 r59.1.Actors.length k67, .slice A68 r59.1.Taken.length k69, .slice A70 r59.1.Refused.length k71] : List Value) = [.int .i64 r59.1.Top, .int .i64 r59.1.Bottom, .slice A64 r135.2.1.length k65, .slice A66 r135.2.2.1.length k67, .slice A68 r59.1.Taken.length k69, .slice A70 r59.1.Refused.length k71]; simp only [hn144])
                  have hn147 := (hS146.bring 3 rfl).lenEq
                  have hS148 := (hS146.bring 3 rfl).reLen hn147
                  have hS149 := (hS148.bring 1 rfl).reBox (cs' := [.int .i64 r59.1.Top, .int .i64 r59.1.Bottom, .slice A64 r135.2.1.length k65, .slice A66 r135.2.2.1.length k67, .slice A68 r135.2.2.2.1.length k69, .slice A70 r59.1.Refused.length k71]) (by show ([.int .i64 r59.1.Top, .int .i64 r59.1.Bottom, .slice A64 r135.2.1.length k65, .slice A66 r135.2.2.1.length k67, .slice A68 r59.1.Taken.length k69, .slice A70 r59.1.Refused.length k71] : List Value) = [.int .i64 r59.1.Top, .int .i64 r59.1.Bottom, .slice A64 r135.2.1.length k65, .slice A66 r135.2.2.1.length k67, .slice A68 r135.2.2.2.1.length k69, .slice A70 r59.1.Refused.length k71]; simp only [hn147])
                  have hn150 := (hS149.bring 4 rfl).lenEq
                  have hS151 := (hS149.bring 4 rfl).reLen hn150
                  have hS152 := (hS151.bring 1 rfl).reBox (cs' := [.int .i64 r59.1.Top, .int .i64 r59.1.Bottom, .slice A64 r135.2.1.length k65, .slice A66 r135.2.2.1.length k67, .slice A68 r135.2.2.2.1.length k69, .slice A70 r135.2.2.2.2.length k71]) (by show ([.int .i64 r59.1.Top, .int .i64 r59.1.Bottom, .slice A64 r135.2.1.length k65, .slice A66 r135.2.2.1.length k67, .slice A68 r135.2.2.2.1.length k69, .slice A70 r59.1.Refused.length k71] : List Value) = [.int .i64 r59.1.Top, .int .i64 r59.1.Bottom, .slice A64 r135.2.1.length k65, .slice A66 r135.2.2.1.length k67, .slice A68 r135.2.2.2.1.length k69, .slice A70 r135.2.2.2.2.length k71]; simp only [hn150])
                  refine RW.know (u := .agg ⟨[.int .i64 r59.1.Top, .int .i64 r59.1.Bottom, .slice A64 r135.2.1.length k65, .slice A66 r135.2.2.1.length k67, .slice A68 r135.2.2.2.1.length k69, .slice A70 r135.2.2.2.2.length k71]⟩) 85 rfl (by simp only [hn141, hn144, hn147, hn150]) ?_
                  obtain ⟨r153, hx154, hm⟩ := bind_some hm
                  refine RW.call rfl rfl rfl enters22 (laws_heldDeque_ok (ty26_shut (⟨r59.1.Top, r59.1.Bottom, r135.2.1, r135.2.2.1, r135.2.2.2.1, r135.2.2.2.2⟩ : D.Deque) ((hS152.bring 4 rfl).own) ((hS152.bring 3 rfl).own) ((hS152.bring 2 rfl).own) ((hS152.bring 1 rfl).own)) hx154) (fun v155 w156 hR157 => ?_)
                  obtain ⟨rfl, hR158⟩ := hR157
                  have hS159 := hS152.join hR158
                  refine RW.run ttok 1 rfl ?_
                  refine RW.nil ?_
                  refine WP.seq ?_
                  refine WP.seq ?_
                  refine WP.region ?_
                  refine RW.run ttok 2 rfl ?_
                  refine RW.nil ?_
                  refine WP.cond (decide (r153 < 0)) rfl (fun hc => ?_) (fun hc => ?_)
                  · skip
                    rw [if_pos hc] at hm
                    refine WP.seq ?_
                    refine WP.region ?_
                    refine RW.run ttok 1 rfl ?_
                    refine RW.nil ?_
                    refine WP.ret ?_
                    cases hm
                    exact ⟨_, .cons (.tmp rfl) .nil, rfl, (hS159.taken 0)⟩
                  · skip
                    rw [if_neg (not_t hc)] at hm
                    refine WP.skip ?_
                    refine WP.seq ?_
                    refine WP.seq ?_
                    refine WP.region ?_
                    refine RW.run ttok 3 rfl ?_
                    refine RW.nil ?_
                    refine WP.cond (r153 != r135.1) rfl (fun hc => ?_) (fun hc => ?_)
                    · skip
                      rw [if_pos hc] at hm
                      refine WP.seq ?_
                      refine WP.region ?_
                      refine RW.run ttok 1 rfl ?_
                      refine RW.nil ?_
                      refine WP.ret ?_
                      cases hm
                      exact ⟨_, .cons (.tmp rfl) .nil, rfl, (hS159.taken 0)⟩
                    · skip
                      rw [if_neg (not_t hc)] at hm
                      refine WP.skip ?_
                      refine WP.seq ?_
                      refine WP.region ?_
                      refine RW.run ttok 2 rfl ?_
                      obtain ⟨r160, hx161, hm⟩ := bind_some hm
                      refine RW.call rfl rfl rfl enters16 (laws_toInt64S_ok (ty22.ext hS159.ext h1_) hx161) (fun v162 w163 hR164 => ?_)
                      obtain ⟨A165, k166, rfl, hR167⟩ := hR164
                      have hS168 := hS159.join hR167
                      refine RW.run ttok 1 rfl ?_
                      obtain ⟨r169, hx170, hm⟩ := bind_some hm
                      refine RW.call rfl rfl rfl enters16 (laws_toInt64S_ok (ty22.ext hS168.ext h2_) hx170) (fun v171 w172 hR173 => ?_)
                      obtain ⟨A174, k175, rfl, hR176⟩ := hR173
                      have hS177 := hS168.join hR176
                      obtain ⟨r178, hx179, hm⟩ := bind_some hm
                      refine RW.call rfl rfl rfl enters17 (impl_NewDeque_ok ((hS177.bring 1 rfl).own) ((hS177.bring 0 rfl).own) hx179) (fun v180 w181 hR182 => ?_)
                      obtain ⟨A183, k184, A185, k186, A187, k188, A189, k190, rfl, hR191⟩ := hR182
                      have hS192 := hS177.join hR191
                      refine RW.run ttok 3 rfl ?_
                      refine RW.new ttok hS192 rfl rfl rfl rfl (fun g193 w194 e195 hS196 => ?_)
                      have hS197 := hS196.bring 0 rfl
                      refine RW.store ttok (A := []) hS197 rfl rfl rfl rfl rfl 0 rfl rfl rfl rfl rfl (fun w198 hS199 => ?_)
                      refine RW.run ttok 1 rfl ?_
                      refine RW.nil ?_
                      refine WP.seq ?_
                      refine WP.seq ?_
                      refine WP.cut (fun (t200 : Bool) F w9 => m_laws_FnExactNewDeque_j3 fuel r59 r135 t200 = some r ∧ Ext w198 w9 ∧ St w w9 [Box g193 [.int .i64 r178.1.Top, .int .i64 r178.1.Bottom, .slice A183 r178.1.Buffer.length k184, .slice A185 r178.1.Actors.length k186, .slice A187 r178.1.Taken.length k188, .slice A189 r178.1.Refused.length k190] 26, Own ty22 [.slice A183 r178.1.Buffer.length k184] r178.1.Buffer, Own ty23 [.slice A185 r178.1.Actors.length k186] r178.1.Actors, Own ty24 [.slice A187 r178.1.Taken.length k188] r178.1.Taken, Own ty22 [.slice A189 r178.1.Refused.length k190] r178.1.Refused, Own ty22 [.slice A174 r169.length k175] r169, Own ty22 [.slice A165 r160.length k166] r160, Box g74 [.int .i64 r59.1.Top, .int .i64 r59.1.Bottom, .slice A64 r135.2.1.length k65, .slice A66 r135.2.2.1.length k67, .slice A68 r135.2.2.2.1.length k69, .slice A70 r135.2.2.2.2.length k71] 26, Own ty22 [.slice A70 r135.2.2.2.2.length k71] r135.2.2.2.2, Own ty24 [.slice A68 r135.2.2.2.1.length k69] r135.2.2.2.1, Own ty23 [.slice A66 r135.2.2.1.length k67] r135.2.2.1, Own ty22 [.slice A64 r135.2.1.length k65] r135.2.1, Own ty22 [.slice A55 r50.length k56] r124.2, Own ty22 [.slice A46 r41.length k47] r118.2, Own ty22 [.slice A107 r102.length k108] r102, Own ty22 [.slice A91 r86.length k92] r86, Box g34 [.int .i64 r19.1.Top, .int .i64 r19.1.Bottom, .slice A24 r19.1.Buffer.length k25, .slice A26 r19.1.Actors.length k27, .slice A28 r19.1.Taken.length k29, .slice A30 r19.1.Refused.length k31] 26, Own ty22 [.slice A24 r19.1.Buffer.length k25] r19.1.Buffer, Own ty23 [.slice A26 r19.1.Actors.length k27] r19.1.Actors, Own ty24 [.slice A28 r19.1.Taken.length k29] r19.1.Taken, Own ty22 [.slice A30 r19.1.Refused.length k31] r19.1.Refused, Own ty22 [.slice A15 r10.length k16] r10, Own ty22 [.slice A6 r1.length k7] r1] ∧ F = [(11, .pointer (some ⟨g74, 0, none⟩)), (14, .int .i64 r135.1), (110, .bool t200)]) ?_ ?_
                      · skip
                        rintro t200 F w203 ⟨hm, hE201, hS202, rfl⟩
                        unfold m_laws_FnExactNewDeque_j3 at hm
                        refine WP.cond t200 rfl (fun hc => ?_) (fun hc => ?_)
                        · skip
                          rw [if_pos hc] at hm
                          refine WP.seq ?_
                          refine WP.region ?_
                          refine RW.run ttok 1 rfl ?_
                          refine RW.nil ?_
                          refine WP.ret ?_
                          cases hm
                          exact ⟨_, .cons (.tmp rfl) .nil, rfl, (hS202.taken 0)⟩
                        · skip
                          rw [if_neg (not_t hc)] at hm
                          refine WP.skip ?_
                          refine WP.seq ?_
                          refine WP.region ?_
                          refine RW.run ttok 1 rfl ?_
                          refine RW.nil ?_
                          refine WP.seq ?_
                          refine WP.region ?_
                          refine RW.loadN ttok rfl rfl rfl rfl rfl ((hS202.bring 7 rfl).box) rfl rfl rfl ?_
                          refine RW.run ttok 1 rfl ?_
                          obtain ⟨r205, hx206, hm⟩ := bind_some hm
                          refine RW.call rfl rfl rfl enters22 (laws_heldDeque_ok (ty26_shut (⟨r59.1.Top, r59.1.Bottom, r135.2.1, r135.2.2.1, r135.2.2.2.1, r135.2.2.2.2⟩ : D.Deque) ((hS202.bring 11 rfl).own) ((hS202.bring 10 rfl).own) ((hS202.bring 9 rfl).own) ((hS202.bring 8 rfl).own)) hx206) (fun v207 w208 hR209 => ?_)
                          obtain ⟨rfl, hR210⟩ := hR209
                          have hS211 := hS202.join hR210
                          refine RW.run ttok 1 rfl ?_
                          refine RW.nil ?_
                          refine WP.seq ?_
                          refine WP.seq ?_
                          refine WP.region ?_
                          refine RW.run ttok 2 rfl ?_
                          refine RW.nil ?_
                          refine WP.cond (decide (r205 < 0)) rfl (fun hc => ?_) (fun hc => ?_)
                          · skip
                            rw [if_pos hc] at hm
                            refine WP.seq ?_
                            refine WP.region ?_
                            refine RW.run ttok 1 rfl ?_
                            refine RW.nil ?_
                            refine WP.ret ?_
                            cases hm
                            exact ⟨_, .cons (.tmp rfl) .nil, rfl, (hS211.taken 0)⟩
                          · skip
                            rw [if_neg (not_t hc)] at hm
                            refine WP.skip ?_
                            refine WP.seq ?_
                            refine WP.seq ?_
                            refine WP.region ?_
                            refine RW.run ttok 3 rfl ?_
                            refine RW.nil ?_
                            refine WP.cond (r205 != r135.1) rfl (fun hc => ?_) (fun hc => ?_)
                            · skip
                              rw [if_pos hc] at hm
                              refine WP.seq ?_
                              refine WP.region ?_
                              refine RW.run ttok 1 rfl ?_
                              refine RW.nil ?_
                              refine WP.ret ?_
                              cases hm
                              exact ⟨_, .cons (.tmp rfl) .nil, rfl, (hS211.taken 0)⟩
                            · skip
                              rw [if_neg (not_t hc)] at hm
                              refine WP.skip ?_
                              refine WP.seq ?_
                              refine WP.region ?_
                              refine RW.run ttok 1 rfl ?_
                              refine RW.nil ?_
                              refine WP.ret ?_
                              cases hm
                              exact ⟨_, .cons (.tmp rfl) .nil, rfl, (hS211.taken 0)⟩
                      · skip
                        refine WP.region ?_
                        refine RW.loadN ttok rfl rfl rfl rfl rfl ((hS199.bring 0 rfl).box) rfl rfl rfl ?_
                        refine RW.loadN ttok rfl rfl rfl rfl rfl ((hS199.bring 16 rfl).box) rfl rfl rfl ?_
                        obtain ⟨r212, hx213, hm⟩ := bind_some hm
                        refine RW.call rfl rfl rfl enters18 (laws_eqDeque_ok (ty26_shut r178.1 ((hS199.bring 1 rfl).own) ((hS199.bring 2 rfl).own) ((hS199.bring 3 rfl).own) ((hS199.bring 4 rfl).own)) (ty26_shut r19.1 ((hS199.bring 17 rfl).own) ((hS199.bring 18 rfl).own) ((hS199.bring 19 rfl).own) ((hS199.bring 20 rfl).own)) hx213) (fun v214 w215 hR216 => ?_)
                        obtain ⟨rfl, hR217⟩ := hR216
                        have hS218 := hS199.join hR217
                        refine RW.run ttok 2 rfl ?_
                        by_cases hg219 : (!r212) = true
                        · skip
                          rw [if_pos hg219] at hm
                          refine RW.know 106 rfl (congrArg Value.bool hg219) ?_
                          refine RW.run ttok 4 rfl ?_
                          refine RW.nil ?_
                          exact ⟨true, [(11, .pointer (some ⟨g74, 0, none⟩)), (14, .int .i64 r135.1), (110, .bool true)], ⟨rfl, rfl, rfl, trivial⟩, hm, hR217.ext, hS218, rfl⟩
                        · skip
                          rw [if_neg hg219] at hm
                          refine RW.know 106 rfl (congrArg Value.bool (Bool.eq_false_iff.2 hg219)) ?_
                          refine RW.run ttok 4 rfl ?_
                          refine RW.nil ?_
                          exact ⟨(r178.2 != r19.2), [(11, .pointer (some ⟨g74, 0, none⟩)), (14, .int .i64 r135.1), (110, .bool (r178.2 != r19.2))], ⟨rfl, rfl, rfl, trivial⟩, hm, hR217.ext, hS218, rfl⟩
              · skip
                refine WP.region ?_
                refine RW.run ttok 3 rfl ?_
                by_cases hg220 : (decide (r124.1 < 0)) = true
                · skip
                  rw [if_pos hg220] at hm
                  refine RW.know 71 rfl (congrArg Value.bool hg220) ?_
                  refine RW.run ttok 10 rfl ?_
                  refine RW.nil ?_
                  exact ⟨true, [(0, .int .i64 x0), (1, .slice A1_ x1.length k1_), (2, .slice A2_ x2.length k2_), (7, .pointer (some ⟨g34, 0, none⟩)), (8, .int .i64 r19.2), (11, .pointer (some ⟨g74, 0, none⟩)), (81, .bool true)], ⟨rfl, rfl, rfl, rfl, rfl, rfl, rfl, trivial⟩, hm, (Ext.refl _), hS129, rfl⟩
                · skip
                  rw [if_neg hg220] at hm
                  refine RW.know 71 rfl (congrArg Value.bool (Bool.eq_false_iff.2 hg220)) ?_
                  refine RW.loadN ttok rfl rfl rfl rfl rfl ((hS129.bring 4 rfl).box) rfl rfl rfl ?_
                  refine RW.loadN ttok rfl rfl rfl rfl rfl ((hS129.bring 9 rfl).box) rfl rfl rfl ?_
                  obtain ⟨r221, hx222, hm⟩ := bind_some hm
                  refine RW.call rfl rfl rfl enters18 (laws_eqDeque_ok (ty26_shut r59.1 ((hS129.bring 5 rfl).own) ((hS129.bring 6 rfl).own) ((hS129.bring 7 rfl).own) ((hS129.bring 8 rfl).own)) (ty26_shut r19.1 ((hS129.bring 10 rfl).own) ((hS129.bring 11 rfl).own) ((hS129.bring 12 rfl).own) ((hS129.bring 13 rfl).own)) hx222) (fun v223 w224 hR225 => ?_)
                  obtain ⟨rfl, hR226⟩ := hR225
                  have hS227 := hS129.join hR226
                  refine RW.run ttok 3 rfl ?_
                  by_cases hg228 : (!r221) = true
                  · skip
                    rw [if_pos hg228] at hm
                    refine RW.know 77 rfl (congrArg Value.bool hg228) ?_
                    refine RW.run ttok 4 rfl ?_
                    refine RW.nil ?_
                    exact ⟨true, [(0, .int .i64 x0), (1, .slice A1_ x1.length k1_), (2, .slice A2_ x2.length k2_), (7, .pointer (some ⟨g34, 0, none⟩)), (8, .int .i64 r19.2), (11, .pointer (some ⟨g74, 0, none⟩)), (81, .bool true)], ⟨rfl, rfl, rfl, rfl, rfl, rfl, rfl, trivial⟩, hm, hR226.ext, hS227, rfl⟩
                  · skip
                    rw [if_neg hg228] at hm
                    refine RW.know 77 rfl (congrArg Value.bool (Bool.eq_false_iff.2 hg228)) ?_
                    refine RW.run ttok 4 rfl ?_
                    refine RW.nil ?_
                    exact ⟨(r59.2 != r19.2), [(0, .int .i64 x0), (1, .slice A1_ x1.length k1_), (2, .slice A2_ x2.length k2_), (7, .pointer (some ⟨g34, 0, none⟩)), (8, .int .i64 r19.2), (11, .pointer (some ⟨g74, 0, none⟩)), (81, .bool (r59.2 != r19.2))], ⟨rfl, rfl, rfl, rfl, rfl, rfl, rfl, trivial⟩, hm, hR226.ext, hS227, rfl⟩
      · skip
        refine WP.region ?_
        refine RW.loadN ttok rfl rfl rfl rfl rfl ((hS80.bring 0 rfl).box) rfl rfl rfl ?_
        refine RW.loadN ttok rfl rfl rfl rfl rfl ((hS80.bring 7 rfl).box) rfl rfl rfl ?_
        obtain ⟨r229, hx230, hm⟩ := bind_some hm
        refine RW.call rfl rfl rfl enters18 (laws_eqDeque_ok (ty26_shut r59.1 ((hS80.bring 1 rfl).own) ((hS80.bring 2 rfl).own) ((hS80.bring 3 rfl).own) ((hS80.bring 4 rfl).own)) (ty26_shut r19.1 ((hS80.bring 8 rfl).own) ((hS80.bring 9 rfl).own) ((hS80.bring 10 rfl).own) ((hS80.bring 11 rfl).own)) hx230) (fun v231 w232 hR233 => ?_)
        obtain ⟨rfl, hR234⟩ := hR233
        have hS235 := hS80.join hR234
        refine RW.run ttok 2 rfl ?_
        by_cases hg236 : (!r229) = true
        · skip
          rw [if_pos hg236] at hm
          refine RW.know 48 rfl (congrArg Value.bool hg236) ?_
          refine RW.run ttok 4 rfl ?_
          refine RW.nil ?_
          exact ⟨true, [(0, .int .i64 x0), (1, .slice A1_ x1.length k1_), (2, .slice A2_ x2.length k2_), (7, .pointer (some ⟨g34, 0, none⟩)), (8, .int .i64 r19.2), (9, .slice A46 r41.length k47), (10, .slice A55 r50.length k56), (11, .pointer (some ⟨g74, 0, none⟩)), (12, .int .i64 r59.2), (52, .bool true)], ⟨rfl, rfl, rfl, rfl, rfl, rfl, rfl, rfl, rfl, rfl, trivial⟩, hm, hR234.ext, hS235, rfl⟩
        · skip
          rw [if_neg hg236] at hm
          refine RW.know 48 rfl (congrArg Value.bool (Bool.eq_false_iff.2 hg236)) ?_
          refine RW.run ttok 4 rfl ?_
          refine RW.nil ?_
          exact ⟨(r59.2 != r19.2), [(0, .int .i64 x0), (1, .slice A1_ x1.length k1_), (2, .slice A2_ x2.length k2_), (7, .pointer (some ⟨g34, 0, none⟩)), (8, .int .i64 r19.2), (9, .slice A46 r41.length k47), (10, .slice A55 r50.length k56), (11, .pointer (some ⟨g74, 0, none⟩)), (12, .int .i64 r59.2), (52, .bool (r59.2 != r19.2))], ⟨rfl, rfl, rfl, rfl, rfl, rfl, rfl, rfl, rfl, rfl, trivial⟩, hm, hR234.ext, hS235, rfl⟩

end Go.E
