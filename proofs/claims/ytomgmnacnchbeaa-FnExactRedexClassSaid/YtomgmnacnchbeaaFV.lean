/- Models of functions and proofs that the code runs as they say (written by program). Conditions: the model gives a value. -/
import Derived.Test.YtomgmnacnchbeaaFA
namespace Go.E
open Go.RowKit Go.Proofs
set_option linter.unusedVariables false
set_option linter.unusedSimpArgs false
set_option maxHeartbeats 2000000

theorem enters233 : Enters Try.prog 233 := ⟨_, _, Try.func233, rfl, by kernel_rfl⟩
def m_spec_l21IsAgent (fuel : Nat) (x0 : D.Cell) : Option (Bool) := ((m_spec_l00In fuel x0.Kind 2 12).bind fun r10 => some r10)

set_option maxRecDepth 100000 in
theorem spec_l21IsAgent_ok {W w : World} (hE : Ext W w) {p0_ : Addr} {c0_ : List Value} {x0 : D.Cell} (h0_ : ty157.ro W c0_ x0) (g0_ : At W p0_ c0_) {fuel : Nat} {r : Bool} (hm : m_spec_l21IsAgent fuel x0 = some r) :
    Calls Try.prog 233 ⟨[.pointer (some p0_)]⟩ w (Ret fun v w8 => v = .bool r ∧ St w w8 []) := by
  obtain ⟨A1, k2, A4, k5, e7, h3, h6⟩ := ty157_open h0_; subst e7
  refine Calls.into Try.func233 rfl 8 rfl rfl _ rfl ?_
  unfold m_spec_l21IsAgent at hm
  have hS := St.start w
  refine WP.seq ?_
  refine WP.region ?_
  refine RW.run ttok 1 rfl ?_
  refine RW.nil ?_
  refine WP.seq ?_
  refine WP.region ?_
  refine RW.run ttok 3 rfl ?_
  refine RW.load1 ttok rfl rfl rfl rfl rfl (At.ext (hE.trans hS.ext) g0_) 0 rfl rfl rfl rfl ?_
  obtain ⟨r10, hx11, hm⟩ := bind_some hm
  refine RW.call rfl rfl rfl enters102 (spec_l00In_ok (hE.trans hS.ext)  hx11) (fun v12 w13 hR14 => ?_)
  obtain ⟨rfl, hR15⟩ := hR14
  have hS16 := hS.join hR15
  refine RW.run ttok 1 rfl ?_
  refine RW.nil ?_
  refine WP.ret ?_
  cases hm
  exact ⟨_, .cons (.tmp rfl) .nil, rfl, hS16⟩

theorem enters143 : Enters Try.prog 143 := ⟨_, _, Try.func143, rfl, by kernel_rfl⟩
def m_spec_l21Agent_j2 (fuel : Nat) (t14 : (Int × Int × Int × (List Int) × (List D.Port))) (t25 : (List D.Port)) : Option D.Agent := some (⟨t14.1, t14.2.1, t14.2.2.1, t14.2.2.2.1, t25⟩ : D.Agent)
def m_spec_l21Agent_b1 (fuel : Nat) (x0 : D.Cell) (s24 : Int × (List D.Port)) : Option (Rd (Int × (List D.Port)) ((List D.Port)) (D.Agent)) := (if (decide (s24.1 < (x0.Words.length : Int))) = true then (if decide ((s24.2.length : Int) + (([(⟨0, 0⟩ : D.Port)] : (List D.Port)).length : Int) ≤ 4294967296) = true then some (.next (w64 (s24.1 + 1), (s24.2 ++ ([(⟨0, 0⟩ : D.Port)] : (List D.Port))))) else none) else some (.brk s24.2))
def m_spec_l21Agent_j1 (fuel : Nat) (x0 : D.Cell) (t14 : (Int × Int × Int × (List Int) × (List D.Port))) : Option D.Agent := ((iter (m_spec_l21Agent_b1 fuel x0) fuel (0, t14.2.2.2.2)).bind fun o => aft o (m_spec_l21Agent_j2 fuel t14))
def m_spec_l21Agent (fuel : Nat) (x0 : D.Cell) : Option (D.Agent) := m_spec_l21Agent_j1 fuel x0 (x0.Kind, x0.Level, x0.Value, x0.Data, ([(⟨0, 0⟩ : D.Port)] : (List D.Port)))

set_option maxRecDepth 100000 in
theorem spec_l21Agent_ok {W w : World} (hE : Ext W w) {p0_ : Addr} {c0_ : List Value} {x0 : D.Cell} (h0_ : ty157.ro W c0_ x0) (g0_ : At W p0_ c0_) {fuel : Nat} {r : D.Agent} (hm : m_spec_l21Agent fuel x0 = some r) :
    Calls Try.prog 143 ⟨[.pointer (some p0_)]⟩ w (Ret fun v w8 => ∃ A0 k0 A1 k1, v = .agg ⟨[.int .i64 r.Kind, .int .i64 r.Level, .int .i64 r.Value, .slice A0 r.Data.length k0, .slice A1 r.Ports.length k1]⟩ ∧ St w w8 [Own ty110 [.slice A1 r.Ports.length k1] r.Ports] ∧ ty103.ro W [.slice A0 r.Data.length k0] r.Data) := by
  obtain ⟨A1, k2, A4, k5, e7, h3, h6⟩ := ty157_open h0_; subst e7
  refine Calls.into Try.func143 rfl 40 rfl rfl _ rfl ?_
  unfold m_spec_l21Agent at hm
  have hS := St.start w
  refine WP.seq ?_
  refine WP.region ?_
  refine RW.new ttok hS rfl rfl rfl rfl (fun g10 w11 e12 hS13 => ?_)
  refine RW.nil ?_
  refine WP.seq ?_
  refine WP.cut (fun (t14 : (Int × Int × Int × (List Int) × (List D.Port))) F w9 => ∃ g15 A16 k17 A19 k20, m_spec_l21Agent_j1 fuel x0 t14 = some r ∧ ty103.ro W [.slice A16 t14.2.2.2.1.length k17] t14.2.2.2.1 ∧ St w w9 [Box g15 [.int .i64 t14.1, .int .i64 t14.2.1, .int .i64 t14.2.2.1, .slice A16 t14.2.2.2.1.length k17, .slice A19 t14.2.2.2.2.length k20] 112, Own ty110 [.slice A19 t14.2.2.2.2.length k20] t14.2.2.2.2, Box g10 [.int .i64 0, .int .i64 0, .int .i64 0, .slice none 0 0, .slice none 0 0] 112] ∧ F = [(0, .pointer (some p0_)), (2, .pointer (some ⟨g10, 0, none⟩)), (3, .pointer (some ⟨g15, 0, none⟩))]) ?_ ?_
  · skip
    rintro t14 F w22 ⟨g15, A16, k17, A19, k20, hm, h18, hS21, rfl⟩
    unfold m_spec_l21Agent_j1 at hm
    refine WP.seq ?_
    refine WP.seq ?_
    refine WP.region ?_
    refine RW.run ttok 1 rfl ?_
    refine RW.nil ?_
    obtain ⟨o34, hl35, hm⟩ := bind_some hm
    refine WP.cut (fun (t25 : (List D.Port)) F w9 => ∃ A31 k32, o34 = .inl t25 ∧ St w w9 [Box g15 [.int .i64 t14.1, .int .i64 t14.2.1, .int .i64 t14.2.2.1, .slice A16 t14.2.2.2.1.length k17, .slice A31 t25.length k32] 112, Own ty110 [.slice A31 t25.length k32] t25, Box g10 [.int .i64 0, .int .i64 0, .int .i64 0, .slice none 0 0, .slice none 0 0] 112] ∧ F = [(2, .pointer (some ⟨g10, 0, none⟩)), (3, .pointer (some ⟨g15, 0, none⟩))]) ?_ ?_
    · skip
      rintro t25 F w33 ⟨A31, k32, ho37, hS36, rfl⟩
      subst ho37
      rw [aft_inl] at hm
      unfold m_spec_l21Agent_j2 at hm
      refine WP.seq ?_
      refine WP.region ?_
      refine RW.loadN ttok rfl rfl rfl rfl rfl ((hS36.bring 0 rfl).box) rfl rfl rfl ?_
      have hS38 := hS36.bring 2 rfl
      refine RW.store ttok (A := []) hS38 rfl rfl rfl rfl rfl 0 rfl rfl rfl rfl rfl (fun w39 hS40 => ?_)
      refine RW.nil ?_
      refine WP.ret ?_
      cases hm
      exact ⟨_, .cons (ResIs.agg ttok rfl rfl rfl ((hS40.bring 0 rfl).box) rfl) .nil, A16, k17, A31, k32, rfl, ((hS40.bring 2 rfl).taken 1), h18⟩
    · skip
      refine WP.block ?_
      refine WP.weak [(0, .pointer (some p0_)), (2, .pointer (some ⟨g10, 0, none⟩)), (3, .pointer (some ⟨g15, 0, none⟩)), (4, .int .i64 0)] ⟨rfl, rfl, rfl, rfl, trivial⟩ ?_
      refine WP.iter (fun (s24 : Int × (List D.Port)) F w9 => ∃ A29 k30, St w w9 [Box g15 [.int .i64 t14.1, .int .i64 t14.2.1, .int .i64 t14.2.2.1, .slice A16 t14.2.2.2.1.length k17, .slice A29 s24.2.length k30] 112, Own ty110 [.slice A29 s24.2.length k30] s24.2, Box g10 [.int .i64 0, .int .i64 0, .int .i64 0, .slice none 0 0, .slice none 0 0] 112] ∧ F = [(0, .pointer (some p0_)), (2, .pointer (some ⟨g10, 0, none⟩)), (3, .pointer (some ⟨g15, 0, none⟩)), (4, .int .i64 s24.1)]) _ hl35 ⟨A19, k20, hS21, rfl⟩ ?_
      rintro s24 F w45 _ o43 ⟨A29, k30, hS44, rfl⟩ hb41 ho42
      unfold m_spec_l21Agent_b1 at hb41
      refine WP.seq ?_
      refine WP.seq ?_
      refine WP.region ?_
      refine RW.run ttok 4 rfl ?_
      refine RW.load1 ttok rfl rfl rfl rfl rfl (At.ext (hE.trans hS44.ext) g0_) 4 rfl rfl rfl rfl ?_
      refine RW.run ttok 2 rfl ?_
      refine RW.nil ?_
      refine WP.cond (decide (s24.1 < (x0.Words.length : Int))) rfl (fun hc => ?_) (fun hc => ?_)
      · skip
        rw [if_pos hc] at hb41
        refine WP.skip ?_
        refine WP.seq ?_
        refine WP.block ?_
        refine WP.region ?_
        refine RW.run ttok 1 rfl ?_
        refine RW.load1 ttok rfl rfl rfl rfl rfl ((hS44.bring 0 rfl).box) 4 rfl rfl rfl rfl ?_
        refine RW.quiet rfl (Quiet.build ttok rfl rfl rfl rfl rfl) rfl rfl ?_
        refine RW.newSlice (U := ty38) (els := [.int .i64 0, .int .i64 0]) (ys := [(⟨0, 0⟩ : D.Port)]) ttok (hS44.flatEls (U := ty38) (els := [.int .i64 0, .int .i64 0]) (ys := [(⟨0, 0⟩ : D.Port)]) ⟨[.int .i64 0, .int .i64 0], _, [], [], rfl, rfl, (ty38_ownI (c := (⟨0, 0⟩ : D.Port)) rfl), ⟨rfl, rfl⟩⟩) rfl rfl rfl rfl rfl rfl rfl rfl rfl rfl rfl rfl (fun A46 k47 w48 e49 hS50 => ?_)
        have hS51 := hS50.bring 2 rfl
        by_cases hk52 : decide ((s24.2.length : Int) + (([(⟨0, 0⟩ : D.Port)] : (List D.Port)).length : Int) ≤ 4294967296) = true
        case neg => rw [if_neg hk52] at hb41; cases hb41
        rw [if_pos hk52] at hb41
        refine RW.appendRo ttok (Flat.map (Flat.pair Flat.int (Flat.pair Flat.int Flat.unit))) hS51 rfl rfl rfl rfl rfl rfl (by decide) rfl rfl ((hS51.bring 1 rfl).own) (of_decide_eq_true hk52) (by decide) rfl rfl (fun A53 k54 w55 hS56 => ?_)
        refine RW.run ttok 1 rfl ?_
        have hS57 := hS56.bring 2 rfl
        refine RW.store ttok (A := []) hS57 rfl rfl rfl rfl rfl 4 rfl rfl rfl rfl rfl (fun w58 hS59 => ?_)
        refine RW.nil ?_
        refine WP.region ?_
        refine RW.run ttok 3 rfl ?_
        refine RW.nil ?_
        cases hb41
        exact ⟨_, [(0, .pointer (some p0_)), (2, .pointer (some ⟨g10, 0, none⟩)), (3, .pointer (some ⟨g15, 0, none⟩)), (4, .int .i64 (w64 (s24.1 + 1)))], ⟨rfl, rfl, rfl, rfl, trivial⟩, rfl, A53, k54, (hS59.bring 2 rfl).drop, rfl⟩
      · skip
        rw [if_neg (not_t hc)] at hb41
        refine WP.exit ?_
        cases hb41
        exact ⟨_, [(2, .pointer (some ⟨g10, 0, none⟩)), (3, .pointer (some ⟨g15, 0, none⟩))], ⟨rfl, rfl, trivial⟩, A29, k30, ho42, hS44, rfl⟩
  · skip
    refine WP.drawnM 1048576 mixed 21 (by kernel_rfl) (by kernel_rfl) [([], 2097151), ([0], 2097150), ([1], 2097149), ([2], 2097147), ([], 2097151), ([4], 2097135), ([5], 2097119), ([6], 2097087), ([], 2097151), ([8], 2096895), ([9], 2096639), ([10], 2096127), ([], 2097151), ([12], 2093055), ([13], 2088959), ([14], 2080767), ([], 2097151), ([16], 2031615), ([3, 7, 11, 15, 17], 1931127), ([], 2097151), ([19, 18, 0, 1, 2, 3, 4, 5, 6, 7, 8, 9, 10, 11, 12, 13, 14, 15, 16, 17, 18, 19], 1310719)] (by kernel_rfl) hS13.ext (fun hsk60 => ?_)
    have hS61 := hS13.step (Ext.draw _)
    refine DM.run (fuel := 9) ttok hsk60 [0, 1, 2, 4, 5, 6, 8, 9, 10, 12, 13, 14] 30583 (by kernel_rfl) (by kernel_rfl) rfl ?_
    refine DM.weak [(0, .pointer (some p0_)), (2, .pointer (some ⟨g10, 0, none⟩)), (7, .pointer (some p0_)), (11, .pointer (some (p0_.add 1))), (15, .pointer (some (p0_.add 2))), (19, .pointer (some (p0_.add 3)))] ⟨rfl, rfl, rfl, rfl, rfl, rfl, trivial⟩ ?_
    refine DM.load1 ttok hsk60 3 30591 (by kernel_rfl) (by kernel_rfl) (by kernel_rfl) (by kernel_rfl) rfl (by kernel_rfl) rfl rfl rfl rfl rfl (At.ext (hE.trans hS13.ext) g0_) 0 rfl rfl rfl rfl ?_
    refine DM.load1 ttok hsk60 7 30719 (by kernel_rfl) (by kernel_rfl) (by kernel_rfl) (by kernel_rfl) rfl (by kernel_rfl) rfl rfl rfl rfl rfl (At.ext (hE.trans hS13.ext) g0_) 1 rfl rfl rfl rfl ?_
    refine DM.load1 ttok hsk60 11 32767 (by kernel_rfl) (by kernel_rfl) (by kernel_rfl) (by kernel_rfl) rfl (by kernel_rfl) rfl rfl rfl rfl rfl (At.ext (hE.trans hS13.ext) g0_) 2 rfl rfl rfl rfl ?_
    refine DM.load1 ttok hsk60 15 65535 (by kernel_rfl) (by kernel_rfl) (by kernel_rfl) (by kernel_rfl) rfl (by kernel_rfl) rfl rfl rfl rfl rfl (At.ext (hE.trans hS13.ext) g0_) 3 rfl rfl rfl rfl ?_
    refine DM.quietP hsk60 16 131071 (by kernel_rfl) (by kernel_rfl) rfl (by kernel_rfl) rfl (fun _ => Quiet.build ttok rfl rfl rfl rfl rfl) rfl rfl ?_
    refine DM.all hsk60 [17, 19] (by kernel_rfl) (by simp) ?_
    intro i75 hi76
    simp only [List.mem_cons, List.not_mem_nil, or_false] at hi76
    rcases hi76 with rfl | rfl
    · skip
      refine LM.newSlice (U := ty38) (els := [.int .i64 0, .int .i64 0]) (ys := [(⟨0, 0⟩ : D.Port)]) ttok (hS61.flatEls (U := ty38) (els := [.int .i64 0, .int .i64 0]) (ys := [(⟨0, 0⟩ : D.Port)]) ⟨[.int .i64 0, .int .i64 0], _, [], [], rfl, rfl, (ty38_ownI (c := (⟨0, 0⟩ : D.Port)) rfl), ⟨rfl, rfl⟩⟩) hsk60 262143 (by kernel_rfl) (by kernel_rfl) rfl rfl rfl rfl rfl rfl rfl rfl rfl rfl rfl rfl rfl (fun A77 k78 w79 e80 hS81 => ?_)
      refine DM.quietP hsk60 18 524287 (by kernel_rfl) (by kernel_rfl) rfl (by kernel_rfl) rfl (fun _ => Quiet.build ttok rfl rfl rfl rfl rfl) rfl rfl ?_
      refine DM.one hsk60 19 (by kernel_rfl) (LM.new ttok hsk60 hS81 1048575 (by kernel_rfl) (by kernel_rfl) rfl rfl rfl rfl rfl (fun g82 w83 e84 hS85 => ?_))
      have hS86 := hS85.bring 0 rfl
      refine DM.one hsk60 20 (by kernel_rfl) (LM.store ttok (A := []) hS86 hsk60 2097151 (by kernel_rfl) (by kernel_rfl) rfl rfl rfl rfl rfl rfl 0 rfl rfl rfl rfl rfl (fun w87 hS88 => ?_))
      refine DM.done hsk60 (by kernel_rfl) ?_
      exact ⟨(x0.Kind, x0.Level, x0.Value, x0.Data, ([(⟨0, 0⟩ : D.Port)] : (List D.Port))), [(0, .pointer (some p0_)), (2, .pointer (some ⟨g10, 0, none⟩)), (3, .pointer (some ⟨g82, 0, none⟩))], ⟨rfl, rfl, rfl, trivial⟩, g82, A1, k2, A77, k78, hm, h3, hS88, rfl⟩
    · skip
      refine LM.new ttok hsk60 hS61 655359 (by kernel_rfl) (by kernel_rfl) rfl rfl rfl rfl rfl (fun g89 w90 e91 hS92 => ?_)
      refine DM.one hsk60 17 (by kernel_rfl) (LM.newSlice (U := ty38) (els := [.int .i64 0, .int .i64 0]) (ys := [(⟨0, 0⟩ : D.Port)]) ttok (hS92.flatEls (U := ty38) (els := [.int .i64 0, .int .i64 0]) (ys := [(⟨0, 0⟩ : D.Port)]) ⟨[.int .i64 0, .int .i64 0], _, [], [], rfl, rfl, (ty38_ownI (c := (⟨0, 0⟩ : D.Port)) rfl), ⟨rfl, rfl⟩⟩) hsk60 786431 (by kernel_rfl) (by kernel_rfl) rfl rfl rfl rfl rfl rfl rfl rfl rfl rfl rfl rfl rfl (fun A93 k94 w95 e96 hS97 => ?_))
      refine DM.quietP hsk60 18 1048575 (by kernel_rfl) (by kernel_rfl) rfl (by kernel_rfl) rfl (fun _ => Quiet.build ttok rfl rfl rfl rfl rfl) rfl rfl ?_
      have hS98 := hS97.bring 1 rfl
      refine DM.one hsk60 20 (by kernel_rfl) (LM.store ttok (A := []) hS98 hsk60 2097151 (by kernel_rfl) (by kernel_rfl) rfl rfl rfl rfl rfl rfl 0 rfl rfl rfl rfl rfl (fun w99 hS100 => ?_))
      refine DM.done hsk60 (by kernel_rfl) ?_
      exact ⟨(x0.Kind, x0.Level, x0.Value, x0.Data, ([(⟨0, 0⟩ : D.Port)] : (List D.Port))), [(0, .pointer (some p0_)), (2, .pointer (some ⟨g10, 0, none⟩)), (3, .pointer (some ⟨g89, 0, none⟩))], ⟨rfl, rfl, rfl, trivial⟩, g89, A1, k2, A93, k94, hm, h3, hS100, rfl⟩

theorem enters230 : Enters Try.prog 230 := ⟨_, _, Try.func230, rfl, by kernel_rfl⟩
def m_spec_l21Cell (fuel : Nat) (x0 : D.Cell) (x1 : Int) : Option (Bool) := (if (x0.Kind == 0) = true then (if (x0.Level == 0) = true then (if ((x0.Data.length : Int) == 0) = true then (if ((x0.Words.length : Int) == 0) = true then ((m_spec_l00In fuel x0.Value (-1) (w64 (x1 - 1))).bind fun r13 => some r13) else some false) else some false) else some false) else (if (x0.Kind == 13) = true then (if (x0.Level == 0) = true then (if (x0.Value == 0) = true then (if ((x0.Data.length : Int) == 0) = true then some (decide ((x0.Words.length : Int) < 2)) else some false) else some false) else some false) else ((m_spec_l21IsAgent fuel x0).bind fun r23 => (if r23 = true then ((m_spec_l21Agent fuel x0).bind fun r30 => ((m_spec_l11Agent fuel (⟨r30.Kind, r30.Level, r30.Value, r30.Data, r30.Ports⟩ : D.Agent)).bind fun r49 => some r49)) else some false))))

set_option maxRecDepth 100000 in
theorem spec_l21Cell_ok {W w : World} (hE : Ext W w) {p0_ : Addr} {c0_ : List Value} {x0 : D.Cell} {x1 : Int} (h0_ : ty157.ro W c0_ x0) (g0_ : At W p0_ c0_) {fuel : Nat} {r : Bool} (hm : m_spec_l21Cell fuel x0 x1 = some r) :
    Calls Try.prog 230 ⟨[.pointer (some p0_), .int .i64 x1]⟩ w (Ret fun v w8 => v = .bool r ∧ St w w8 []) := by
  obtain ⟨A1, k2, A4, k5, e7, h3, h6⟩ := ty157_open h0_; subst e7
  refine Calls.into Try.func230 rfl 82 rfl rfl _ rfl ?_
  unfold m_spec_l21Cell at hm
  have hS := St.start w
  refine WP.seq ?_
  refine WP.region ?_
  refine RW.run ttok 1 rfl ?_
  refine RW.nil ?_
  refine WP.seq ?_
  refine WP.block ?_
  refine WP.seq ?_
  refine WP.region ?_
  refine RW.run ttok 3 rfl ?_
  refine RW.load1 ttok rfl rfl rfl rfl rfl (At.ext (hE.trans hS.ext) g0_) 0 rfl rfl rfl rfl ?_
  refine RW.run ttok 2 rfl ?_
  refine RW.nil ?_
  refine WP.cond (x0.Kind == 0) rfl (fun hc => ?_) (fun hc => ?_)
  · skip
    rw [if_pos hc] at hm
    refine WP.seq ?_
    refine WP.region ?_
    refine RW.run ttok 3 rfl ?_
    refine RW.load1 ttok rfl rfl rfl rfl rfl (At.ext (hE.trans hS.ext) g0_) 1 rfl rfl rfl rfl ?_
    refine RW.run ttok 2 rfl ?_
    by_cases hg10 : (x0.Level == 0) = true
    · skip
      rw [if_pos hg10] at hm
      refine RW.know 17 rfl (congrArg Value.bool hg10) ?_
      refine RW.run ttok 3 rfl ?_
      refine RW.load1 ttok rfl rfl rfl rfl rfl (At.ext (hE.trans hS.ext) g0_) 3 rfl rfl rfl rfl ?_
      refine RW.run ttok 4 rfl ?_
      by_cases hg11 : ((x0.Data.length : Int) == 0) = true
      · skip
        rw [if_pos hg11] at hm
        refine RW.know 25 rfl (congrArg Value.bool hg11) ?_
        refine RW.run ttok 3 rfl ?_
        refine RW.load1 ttok rfl rfl rfl rfl rfl (At.ext (hE.trans hS.ext) g0_) 4 rfl rfl rfl rfl ?_
        refine RW.run ttok 4 rfl ?_
        by_cases hg12 : ((x0.Words.length : Int) == 0) = true
        · skip
          rw [if_pos hg12] at hm
          refine RW.know 33 rfl (congrArg Value.bool hg12) ?_
          refine RW.run ttok 3 rfl ?_
          refine RW.load1 ttok rfl rfl rfl rfl rfl (At.ext (hE.trans hS.ext) g0_) 2 rfl rfl rfl rfl ?_
          refine RW.run ttok 2 rfl ?_
          obtain ⟨r13, hx14, hm⟩ := bind_some hm
          refine RW.call rfl rfl rfl enters102 (spec_l00In_ok (hE.trans hS.ext)  hx14) (fun v15 w16 hR17 => ?_)
          obtain ⟨rfl, hR18⟩ := hR17
          have hS19 := hS.join hR18
          refine RW.run ttok 2 rfl ?_
          refine RW.nil ?_
          refine WP.ret ?_
          cases hm
          exact ⟨_, .cons (.tmp rfl) .nil, rfl, hS19⟩
        · skip
          rw [if_neg hg12] at hm
          refine RW.know 33 rfl (congrArg Value.bool (Bool.eq_false_iff.2 hg12)) ?_
          refine RW.run ttok 9 rfl ?_
          refine RW.nil ?_
          refine WP.ret ?_
          cases hm
          exact ⟨_, .cons (.tmp rfl) .nil, rfl, hS⟩
      · skip
        rw [if_neg hg11] at hm
        refine RW.know 25 rfl (congrArg Value.bool (Bool.eq_false_iff.2 hg11)) ?_
        refine RW.run ttok 17 rfl ?_
        refine RW.nil ?_
        refine WP.ret ?_
        cases hm
        exact ⟨_, .cons (.tmp rfl) .nil, rfl, hS⟩
    · skip
      rw [if_neg hg10] at hm
      refine RW.know 17 rfl (congrArg Value.bool (Bool.eq_false_iff.2 hg10)) ?_
      refine RW.run ttok 25 rfl ?_
      refine RW.nil ?_
      refine WP.ret ?_
      cases hm
      exact ⟨_, .cons (.tmp rfl) .nil, rfl, hS⟩
  · skip
    rw [if_neg (not_t hc)] at hm
    refine WP.seq ?_
    refine WP.region ?_
    refine RW.run ttok 3 rfl ?_
    refine RW.load1 ttok rfl rfl rfl rfl rfl (At.ext (hE.trans hS.ext) g0_) 0 rfl rfl rfl rfl ?_
    refine RW.run ttok 2 rfl ?_
    refine RW.nil ?_
    refine WP.cond (x0.Kind == 13) rfl (fun hc => ?_) (fun hc => ?_)
    · skip
      rw [if_pos hc] at hm
      refine WP.seq ?_
      refine WP.region ?_
      refine RW.run ttok 3 rfl ?_
      refine RW.load1 ttok rfl rfl rfl rfl rfl (At.ext (hE.trans hS.ext) g0_) 1 rfl rfl rfl rfl ?_
      refine RW.run ttok 2 rfl ?_
      by_cases hg20 : (x0.Level == 0) = true
      · skip
        rw [if_pos hg20] at hm
        refine RW.know 53 rfl (congrArg Value.bool hg20) ?_
        refine RW.run ttok 3 rfl ?_
        refine RW.load1 ttok rfl rfl rfl rfl rfl (At.ext (hE.trans hS.ext) g0_) 2 rfl rfl rfl rfl ?_
        refine RW.run ttok 3 rfl ?_
        by_cases hg21 : (x0.Value == 0) = true
        · skip
          rw [if_pos hg21] at hm
          refine RW.know 60 rfl (congrArg Value.bool hg21) ?_
          refine RW.run ttok 3 rfl ?_
          refine RW.load1 ttok rfl rfl rfl rfl rfl (At.ext (hE.trans hS.ext) g0_) 3 rfl rfl rfl rfl ?_
          refine RW.run ttok 4 rfl ?_
          by_cases hg22 : ((x0.Data.length : Int) == 0) = true
          · skip
            rw [if_pos hg22] at hm
            refine RW.know 68 rfl (congrArg Value.bool hg22) ?_
            refine RW.run ttok 3 rfl ?_
            refine RW.load1 ttok rfl rfl rfl rfl rfl (At.ext (hE.trans hS.ext) g0_) 4 rfl rfl rfl rfl ?_
            refine RW.run ttok 4 rfl ?_
            refine RW.nil ?_
            refine WP.ret ?_
            cases hm
            exact ⟨_, .cons (.tmp rfl) .nil, rfl, hS⟩
          · skip
            rw [if_neg hg22] at hm
            refine RW.know 68 rfl (congrArg Value.bool (Bool.eq_false_iff.2 hg22)) ?_
            refine RW.run ttok 8 rfl ?_
            refine RW.nil ?_
            refine WP.ret ?_
            cases hm
            exact ⟨_, .cons (.tmp rfl) .nil, rfl, hS⟩
        · skip
          rw [if_neg hg21] at hm
          refine RW.know 60 rfl (congrArg Value.bool (Bool.eq_false_iff.2 hg21)) ?_
          refine RW.run ttok 16 rfl ?_
          refine RW.nil ?_
          refine WP.ret ?_
          cases hm
          exact ⟨_, .cons (.tmp rfl) .nil, rfl, hS⟩
      · skip
        rw [if_neg hg20] at hm
        refine RW.know 53 rfl (congrArg Value.bool (Bool.eq_false_iff.2 hg20)) ?_
        refine RW.run ttok 23 rfl ?_
        refine RW.nil ?_
        refine WP.ret ?_
        cases hm
        exact ⟨_, .cons (.tmp rfl) .nil, rfl, hS⟩
    · skip
      rw [if_neg (not_t hc)] at hm
      refine WP.seq ?_
      refine WP.region ?_
      refine RW.run ttok 1 rfl ?_
      obtain ⟨r23, hx24, hm⟩ := bind_some hm
      refine RW.call rfl rfl rfl enters233 (spec_l21IsAgent_ok (hE.trans hS.ext) h0_ g0_ hx24) (fun v25 w26 hR27 => ?_)
      obtain ⟨rfl, hR28⟩ := hR27
      have hS29 := hS.join hR28
      refine RW.run ttok 1 rfl ?_
      refine RW.nil ?_
      refine WP.cond r23 rfl (fun hc => ?_) (fun hc => ?_)
      · skip
        rw [if_pos hc] at hm
        refine WP.seq ?_
        refine WP.region ?_
        refine RW.run ttok 1 rfl ?_
        obtain ⟨r30, hx31, hm⟩ := bind_some hm
        refine RW.call rfl rfl rfl enters143 (spec_l21Agent_ok (hE.trans hS29.ext) h0_ g0_ hx31) (fun v32 w33 hR34 => ?_)
        obtain ⟨A35, k36, A38, k39, rfl, hR40, h37⟩ := hR34
        have hS41 := hS29.join hR40
        refine RW.new ttok hS41 rfl rfl rfl rfl (fun g42 w43 e44 hS45 => ?_)
        have hS46 := hS45.bring 0 rfl
        refine RW.store ttok (A := []) hS46 rfl rfl rfl rfl rfl 0 rfl rfl rfl rfl rfl (fun w47 hS48 => ?_)
        refine RW.nil ?_
        refine WP.seq ?_
        refine WP.region ?_
        obtain ⟨r49, hx50, hm⟩ := bind_some hm
        refine RW.call rfl rfl rfl enters122 (spec_l11Agent_ok (Ext.refl _) (ty112_shut (⟨r30.Kind, r30.Level, r30.Value, r30.Data, r30.Ports⟩ : D.Agent) (ty103.ext (hE.trans hS48.ext) h37) ((hS48.bring 1 rfl).own)) ((hS48.bring 0 rfl).box) hx50) (fun v51 w52 hR53 => ?_)
        obtain ⟨rfl, hR54⟩ := hR53
        have hS55 := hS48.join hR54
        refine RW.run ttok 1 rfl ?_
        refine RW.nil ?_
        refine WP.ret ?_
        cases hm
        exact ⟨_, .cons (.tmp rfl) .nil, rfl, (hS55.taken 0)⟩
      · skip
        rw [if_neg (not_t hc)] at hm
        refine WP.skip ?_
        refine WP.seq ?_
        refine WP.region ?_
        refine RW.run ttok 1 rfl ?_
        refine RW.nil ?_
        refine WP.ret ?_
        cases hm
        exact ⟨_, .cons (.tmp rfl) .nil, rfl, hS29⟩

theorem enters231 : Enters Try.prog 231 := ⟨_, _, Try.func231, rfl, by kernel_rfl⟩
def m_spec_l21Words_j1 (fuel : Nat) (t16 : (List D.Word)) : Option (List D.Word) := some t16
def m_spec_l21Words_b1 (fuel : Nat) (x0 : D.Memory) (s15 : Int × (List D.Word)) : Option (Rd (Int × (List D.Word)) ((List D.Word)) ((List D.Word))) := (if (decide (s15.1 < (x0.Cells.length : Int))) = true then ((idx x0.Cells s15.1).bind fun x34 => (if decide ((s15.2.length : Int) + (x34.Words.length : Int) ≤ 4294967296) = true then some (.next (w64 (s15.1 + 1), (s15.2 ++ x34.Words))) else none)) else some (.brk s15.2))
def m_spec_l21Words (fuel : Nat) (x0 : D.Memory) : Option ((List D.Word)) := ((iter (m_spec_l21Words_b1 fuel x0) fuel (0, ([x0.Root] : (List D.Word)))).bind fun o => aft o (m_spec_l21Words_j1 fuel))

set_option maxRecDepth 100000 in
theorem spec_l21Words_ok {W w : World} (hE : Ext W w) {p0_ : Addr} {c0_ : List Value} {x0 : D.Memory} (h0_ : ty80.ro W c0_ x0) (g0_ : At W p0_ c0_) {fuel : Nat} {r : (List D.Word)} (hm : m_spec_l21Words fuel x0 = some r) :
    Calls Try.prog 231 ⟨[.pointer (some p0_)]⟩ w (Ret fun v w8 => ∃ A0 k0, v = .slice A0 r.length k0 ∧ St w w8 [Own ty155 [.slice A0 r.length k0] r]) := by
  obtain ⟨A1, k2, A4, k5, e7, h3, h6⟩ := ty80_open h0_; subst e7
  refine Calls.into Try.func231 rfl 30 rfl rfl _ rfl ?_
  unfold m_spec_l21Words at hm
  have hS := St.start w
  refine WP.seq ?_
  refine WP.region ?_
  refine RW.run ttok 1 rfl ?_
  refine RW.nil ?_
  refine WP.seq ?_
  refine WP.region ?_
  refine RW.run ttok 3 rfl ?_
  refine RW.loadN ttok rfl rfl rfl rfl rfl (At.sub (At.ext (hE.trans hS.ext) g0_) 2 2) rfl rfl rfl ?_
  refine RW.newSlice (U := ty77) (els := [.int .i64 x0.Root.Tag, .int .i64 x0.Root.At]) (ys := [x0.Root]) ttok (hS.flatEls (U := ty77) (els := [.int .i64 x0.Root.Tag, .int .i64 x0.Root.At]) (ys := [x0.Root]) ⟨[.int .i64 x0.Root.Tag, .int .i64 x0.Root.At], _, [], [], rfl, rfl, (ty77_ownI (c := x0.Root) rfl), ⟨rfl, rfl⟩⟩) rfl rfl rfl rfl rfl rfl rfl rfl rfl rfl rfl rfl (fun A10 k11 w12 e13 hS14 => ?_)
  refine RW.run ttok 1 rfl ?_
  refine RW.nil ?_
  refine WP.seq ?_
  refine WP.seq ?_
  refine WP.region ?_
  refine RW.run ttok 1 rfl ?_
  refine RW.nil ?_
  obtain ⟨o25, hl26, hm⟩ := bind_some hm
  refine WP.cut (fun (t16 : (List D.Word)) F w9 => ∃ A22 k23, o25 = .inl t16 ∧ St w w9 [Own ty155 [.slice A22 t16.length k23] t16] ∧ F = [(3, .slice A22 t16.length k23)]) ?_ ?_
  · skip
    rintro t16 F w24 ⟨A22, k23, ho28, hS27, rfl⟩
    subst ho28
    rw [aft_inl] at hm
    unfold m_spec_l21Words_j1 at hm
    refine WP.seq ?_
    refine WP.region ?_
    refine RW.run ttok 2 rfl ?_
    refine RW.nil ?_
    refine WP.ret ?_
    cases hm
    exact ⟨_, .cons (.tmp rfl) .nil, A22, k23, rfl, hS27⟩
  · skip
    refine WP.block ?_
    refine WP.weak [(0, .pointer (some p0_)), (3, .slice A10 ([x0.Root] : (List D.Word)).length k11), (4, .int .i64 0)] ⟨rfl, rfl, rfl, trivial⟩ ?_
    refine WP.iter (fun (s15 : Int × (List D.Word)) F w9 => ∃ A20 k21, St w w9 [Own ty155 [.slice A20 s15.2.length k21] s15.2] ∧ F = [(0, .pointer (some p0_)), (3, .slice A20 s15.2.length k21), (4, .int .i64 s15.1)]) _ hl26 ⟨A10, k11, hS14, rfl⟩ ?_
    rintro s15 F w33 _ o31 ⟨A20, k21, hS32, rfl⟩ hb29 ho30
    unfold m_spec_l21Words_b1 at hb29
    refine WP.seq ?_
    refine WP.seq ?_
    refine WP.region ?_
    refine RW.run ttok 4 rfl ?_
    refine RW.load1 ttok rfl rfl rfl rfl rfl (At.ext (hE.trans hS32.ext) g0_) 0 rfl rfl rfl rfl ?_
    refine RW.run ttok 2 rfl ?_
    refine RW.nil ?_
    refine WP.cond (decide (s15.1 < (x0.Cells.length : Int))) rfl (fun hc => ?_) (fun hc => ?_)
    · skip
      rw [if_pos hc] at hb29
      refine WP.skip ?_
      refine WP.seq ?_
      refine WP.block ?_
      refine WP.region ?_
      refine RW.run ttok 4 rfl ?_
      refine RW.load1 ttok rfl rfl rfl rfl rfl (At.ext (hE.trans hS32.ext) g0_) 0 rfl rfl rfl rfl ?_
      refine RW.run ttok 1 rfl ?_
      obtain ⟨x34, hx35, hb29⟩ := bind_some hb29
      refine RW.idx ttok (hE.trans hS32.ext) rfl rfl rfl rfl rfl rfl (by decide) rfl rfl h3 (idx_some hx35).1 (idx_some hx35).2 rfl rfl (fun p36 es37 ha38 hr39 => ?_)
      obtain ⟨A40, k41, A43, k44, e46, h42, h45⟩ := ty157_open hr39; subst e46
      refine RW.run ttok 1 rfl ?_
      refine RW.load1 ttok rfl rfl rfl rfl rfl (At.ext (hE.trans hS32.ext) ha38) 4 rfl rfl rfl rfl ?_
      have hS47 := hS32.bring 0 rfl
      by_cases hk48 : decide ((s15.2.length : Int) + (x34.Words.length : Int) ≤ 4294967296) = true
      case neg => rw [if_neg hk48] at hb29; cases hb29
      rw [if_pos hk48] at hb29
      refine RW.appendRo ttok (Flat.map (Flat.pair Flat.int (Flat.pair Flat.int Flat.unit))) hS47 rfl rfl rfl rfl rfl rfl (by decide) rfl rfl (ty155.ext (hE.trans hS47.ext) h45) (of_decide_eq_true hk48) (by decide) rfl rfl (fun A49 k50 w51 hS52 => ?_)
      refine RW.run ttok 1 rfl ?_
      refine RW.nil ?_
      refine WP.region ?_
      refine RW.run ttok 3 rfl ?_
      refine RW.nil ?_
      cases hb29
      exact ⟨_, [(0, .pointer (some p0_)), (3, .slice A49 (s15.2 ++ x34.Words).length k50), (4, .int .i64 (w64 (s15.1 + 1)))], ⟨rfl, rfl, rfl, trivial⟩, rfl, A49, k50, hS52, rfl⟩
    · skip
      rw [if_neg (not_t hc)] at hb29
      refine WP.exit ?_
      cases hb29
      exact ⟨_, [(3, .slice A20 s15.2.length k21)], ⟨rfl, trivial⟩, A20, k21, ho30, hS32, rfl⟩

theorem enters232 : Enters Try.prog 232 := ⟨_, _, Try.func232, rfl, by kernel_rfl⟩
def m_spec_l21Word (fuel : Nat) (x0 : D.Memory) (x1 : D.Word) : Option (Bool) := ((m_spec_l00In fuel x1.At 0 (w64 ((x0.Cells.length : Int) - 1))).bind fun r17 => (if (!r17) = true then some false else ((idx x0.Cells x1.At).bind fun x26 => (if (x1.Tag == 1) = true then ((m_spec_l21IsAgent fuel x26).bind fun r40 => (if r40 = true then some true else (if (x1.Tag == 2) = true then some (x26.Kind == 13) else some false))) else (if (x1.Tag == 2) = true then some (x26.Kind == 13) else some false)))))

set_option maxRecDepth 100000 in
theorem spec_l21Word_ok {W w : World} (hE : Ext W w) {p0_ : Addr} {c0_ : List Value} {x0 : D.Memory} {c1_ : List Value} {x1 : D.Word} (h0_ : ty80.ro W c0_ x0) (g0_ : At W p0_ c0_) (h1_ : ty77.ro W c1_ x1) {fuel : Nat} {r : Bool} (hm : m_spec_l21Word fuel x0 x1 = some r) :
    Calls Try.prog 232 ⟨[.pointer (some p0_), .agg ⟨c1_⟩]⟩ w (Ret fun v w8 => v = .bool r ∧ St w w8 []) := by
  obtain ⟨A1, k2, A4, k5, e7, h3, h6⟩ := ty80_open h0_; subst e7
  have e10 := ty77_open h1_; subst e10
  refine Calls.into Try.func232 rfl 42 rfl rfl _ rfl ?_
  unfold m_spec_l21Word at hm
  have hS := St.start w
  refine WP.seq ?_
  refine WP.region ?_
  refine RW.new ttok hS rfl rfl rfl rfl (fun g11 w12 e13 hS14 => ?_)
  refine RW.run ttok 1 rfl ?_
  refine RW.nil ?_
  refine WP.seq ?_
  refine WP.seq ?_
  refine WP.drawnM 0 mixed 10 (by kernel_rfl) (by kernel_rfl) [([], 1023), ([0], 1022), ([], 1023), ([2], 1019), ([3], 1015), ([4], 1007), ([5], 991), ([6], 959), ([1, 7], 893), ([8], 767)] (by kernel_rfl) hS14.ext (fun hsk15 => ?_)
  have hS16 := hS14.step (Ext.draw _)
  refine DM.run (fuel := 6) ttok hsk15 [0, 2, 3, 4] 29 (by kernel_rfl) (by kernel_rfl) rfl ?_
  refine DM.load1 ttok hsk15 1 31 (by kernel_rfl) (by kernel_rfl) (by kernel_rfl) (by kernel_rfl) rfl (by kernel_rfl) rfl rfl rfl rfl rfl ((hS14.bring 0 rfl).box) 1 rfl rfl rfl rfl ?_
  refine DM.load1 ttok hsk15 5 63 (by kernel_rfl) (by kernel_rfl) (by kernel_rfl) (by kernel_rfl) rfl (by kernel_rfl) rfl rfl rfl rfl rfl (At.ext (hE.trans hS14.ext) g0_) 0 rfl rfl rfl rfl ?_
  refine DM.run (fuel := 2) ttok hsk15 [6, 7] 255 (by kernel_rfl) (by kernel_rfl) rfl ?_
  refine DM.weak [(0, .pointer (some p0_)), (3, .pointer (some ⟨g11, 0, none⟩)), (7, .int .i64 x1.At), (13, .int .i64 (w64 ((x0.Cells.length : Int) - 1)))] ⟨rfl, rfl, rfl, rfl, trivial⟩ ?_
  obtain ⟨r17, hx18, hm⟩ := bind_some hm
  refine DM.one hsk15 8 (by kernel_rfl) (LM.call hsk15 511 (by kernel_rfl) (by kernel_rfl) rfl rfl rfl rfl enters102 (spec_l00In_ok (hE.trans hS16.ext)  hx18) (fun v19 w20 hR21 => ?_))
  obtain ⟨rfl, hR22⟩ := hR21
  refine ⟨hR22.ext, ?_⟩
  have hS23 := hS16.join hR22
  refine DM.run (fuel := 0) ttok hsk15 [9] 1023 (by kernel_rfl) (by kernel_rfl) rfl ?_
  refine DM.done hsk15 (by kernel_rfl) ?_
  refine WP.cond (!r17) rfl (fun hc => ?_) (fun hc => ?_)
  · skip
    rw [if_pos hc] at hm
    refine WP.seq ?_
    refine WP.region ?_
    refine RW.run ttok 1 rfl ?_
    refine RW.nil ?_
    refine WP.ret ?_
    cases hm
    exact ⟨_, .cons (.tmp rfl) .nil, rfl, (hS23.taken 0)⟩
  · skip
    rw [if_neg (not_t hc)] at hm
    refine WP.skip ?_
    refine WP.seq ?_
    refine WP.drawnM 0 mixed 8 (by kernel_rfl) (by kernel_rfl) [([], 255), ([0], 254), ([1], 253), ([2], 251), ([], 255), ([4], 239), ([3, 5], 215), ([6, 0, 1, 2, 3, 4, 5, 6], 191)] (by kernel_rfl) hS23.ext (fun hsk24 => ?_)
    have hS25 := hS23.step (Ext.draw _)
    refine DM.run (fuel := 4) ttok hsk24 [0, 1, 2, 4] 23 (by kernel_rfl) (by kernel_rfl) rfl ?_
    refine DM.weak [(3, .pointer (some ⟨g11, 0, none⟩)), (18, .pointer (some p0_)), (20, .pointer (some ⟨g11, 1, none⟩))] ⟨rfl, rfl, rfl, trivial⟩ ?_
    refine DM.load1 ttok hsk24 3 31 (by kernel_rfl) (by kernel_rfl) (by kernel_rfl) (by kernel_rfl) rfl (by kernel_rfl) rfl rfl rfl rfl rfl (At.ext (hE.trans hS23.ext) g0_) 0 rfl rfl rfl rfl ?_
    refine DM.load1 ttok hsk24 5 63 (by kernel_rfl) (by kernel_rfl) (by kernel_rfl) (by kernel_rfl) rfl (by kernel_rfl) rfl rfl rfl rfl rfl ((hS23.bring 0 rfl).box) 1 rfl rfl rfl rfl ?_
    obtain ⟨x26, hx27, hm⟩ := bind_some hm
    refine DM.idx ttok (hE.trans hS23.ext) hsk24 6 127 (by kernel_rfl) (by kernel_rfl) (by kernel_rfl) (by kernel_rfl) rfl (by kernel_rfl) rfl rfl rfl rfl rfl rfl (by decide) rfl rfl h3 (idx_some hx27).1 (idx_some hx27).2 rfl rfl (fun p28 es29 ha30 hr31 => ?_)
    obtain ⟨A32, k33, A35, k36, e38, h34, h37⟩ := ty157_open hr31; subst e38
    refine DM.run (fuel := 0) ttok hsk24 [7] 255 (by kernel_rfl) (by kernel_rfl) rfl ?_
    refine DM.done hsk24 (by kernel_rfl) ?_
    refine WP.seq ?_
    refine WP.region ?_
    refine RW.run ttok 1 rfl ?_
    refine RW.load1 ttok rfl rfl rfl rfl rfl ((hS25.bring 0 rfl).box) 0 rfl rfl rfl rfl ?_
    refine RW.run ttok 2 rfl ?_
    by_cases hg39 : (x1.Tag == 1) = true
    · skip
      rw [if_pos hg39] at hm
      refine RW.know 26 rfl (congrArg Value.bool hg39) ?_
      refine RW.run ttok 1 rfl ?_
      obtain ⟨r40, hx41, hm⟩ := bind_some hm
      refine RW.call rfl rfl rfl enters233 (spec_l21IsAgent_ok (hE.trans hS25.ext) hr31 ha30 hx41) (fun v42 w43 hR44 => ?_)
      obtain ⟨rfl, hR45⟩ := hR44
      have hS46 := hS25.join hR45
      refine RW.run ttok 2 rfl ?_
      by_cases hg47 : r40 = true
      · skip
        rw [if_pos hg47] at hm
        refine RW.know 30 rfl (congrArg Value.bool hg47) ?_
        refine RW.run ttok 12 rfl ?_
        refine RW.nil ?_
        refine WP.ret ?_
        cases hm
        exact ⟨_, .cons (.tmp rfl) .nil, rfl, (hS46.taken 0)⟩
      · skip
        rw [if_neg hg47] at hm
        refine RW.know 30 rfl (congrArg Value.bool (Bool.eq_false_iff.2 hg47)) ?_
        refine RW.run ttok 1 rfl ?_
        refine RW.load1 ttok rfl rfl rfl rfl rfl ((hS46.bring 0 rfl).box) 0 rfl rfl rfl rfl ?_
        refine RW.run ttok 2 rfl ?_
        by_cases hg48 : (x1.Tag == 2) = true
        · skip
          rw [if_pos hg48] at hm
          refine RW.know 34 rfl (congrArg Value.bool hg48) ?_
          refine RW.run ttok 3 rfl ?_
          refine RW.load1 ttok rfl rfl rfl rfl rfl (At.ext (hE.trans hS46.ext) ha30) 0 rfl rfl rfl rfl ?_
          refine RW.run ttok 4 rfl ?_
          refine RW.nil ?_
          refine WP.ret ?_
          cases hm
          exact ⟨_, .cons (.tmp rfl) .nil, rfl, (hS46.taken 0)⟩
        · skip
          rw [if_neg hg48] at hm
          refine RW.know 34 rfl (congrArg Value.bool (Bool.eq_false_iff.2 hg48)) ?_
          refine RW.run ttok 8 rfl ?_
          refine RW.nil ?_
          refine WP.ret ?_
          cases hm
          exact ⟨_, .cons (.tmp rfl) .nil, rfl, (hS46.taken 0)⟩
    · skip
      rw [if_neg hg39] at hm
      refine RW.know 26 rfl (congrArg Value.bool (Bool.eq_false_iff.2 hg39)) ?_
      refine RW.run ttok 5 rfl ?_
      refine RW.load1 ttok rfl rfl rfl rfl rfl ((hS25.bring 0 rfl).box) 0 rfl rfl rfl rfl ?_
      refine RW.run ttok 2 rfl ?_
      by_cases hg49 : (x1.Tag == 2) = true
      · skip
        rw [if_pos hg49] at hm
        refine RW.know 34 rfl (congrArg Value.bool hg49) ?_
        refine RW.run ttok 3 rfl ?_
        refine RW.load1 ttok rfl rfl rfl rfl rfl (At.ext (hE.trans hS25.ext) ha30) 0 rfl rfl rfl rfl ?_
        refine RW.run ttok 4 rfl ?_
        refine RW.nil ?_
        refine WP.ret ?_
        cases hm
        exact ⟨_, .cons (.tmp rfl) .nil, rfl, (hS25.taken 0)⟩
      · skip
        rw [if_neg hg49] at hm
        refine RW.know 34 rfl (congrArg Value.bool (Bool.eq_false_iff.2 hg49)) ?_
        refine RW.run ttok 8 rfl ?_
        refine RW.nil ?_
        refine WP.ret ?_
        cases hm
        exact ⟨_, .cons (.tmp rfl) .nil, rfl, (hS25.taken 0)⟩

theorem enters154 : Enters Try.prog 154 := ⟨_, _, Try.func154, rfl, by kernel_rfl⟩
def m_spec_l21Resolve_j1 (fuel : Nat) (t20 : Int × Int) : Option (D.Word × Bool) := some ((⟨t20.1, t20.2⟩ : D.Word), false)
def m_spec_l21Resolve_j2 (fuel : Nat) (x0 : D.Memory) (s19 : Int × Int × Int) (t35 : Bool) : Option (Rd (Int × Int × Int) (Int × Int) (D.Word × Bool)) := (if t35 = true then some (.ret ((⟨s19.2.1, s19.2.2⟩ : D.Word), true)) else ((idx x0.Cells s19.2.2).bind fun x45 => ((idx x45.Words 0).bind fun x58 => some (.next (w64 (s19.1 - 1), x58.Tag, x58.At)))))
def m_spec_l21Resolve_b1 (fuel : Nat) (x0 : D.Memory) (s19 : Int × Int × Int) : Option (Rd (Int × Int × Int) (Int × Int) (D.Word × Bool)) := (if (decide (s19.1 ≥ 0)) = true then (if (s19.2.1 != 2) = true then m_spec_l21Resolve_j2 fuel x0 s19 true else ((idx x0.Cells s19.2.2).bind fun x72 => m_spec_l21Resolve_j2 fuel x0 s19 ((x72.Words.length : Int) == 0))) else some (.brk (s19.2.1, s19.2.2)))
def m_spec_l21Resolve (fuel : Nat) (x0 : D.Memory) (x1 : D.Word) : Option (D.Word × Bool) := ((iter (m_spec_l21Resolve_b1 fuel x0) fuel ((x0.Cells.length : Int), x1.Tag, x1.At)).bind fun o => aft o (m_spec_l21Resolve_j1 fuel))

set_option maxRecDepth 100000 in
theorem spec_l21Resolve_ok {W w : World} (hE : Ext W w) {p0_ : Addr} {c0_ : List Value} {x0 : D.Memory} {c1_ : List Value} {x1 : D.Word} (h0_ : ty80.ro W c0_ x0) (g0_ : At W p0_ c0_) (h1_ : ty77.ro W c1_ x1) {fuel : Nat} {r : D.Word × Bool} (hm : m_spec_l21Resolve fuel x0 x1 = some r) :
    Calls Try.prog 154 ⟨[.pointer (some p0_), .agg ⟨c1_⟩]⟩ w (Ret fun v w8 => v = .tuple ⟨[.agg ⟨[.int .i64 r.1.Tag, .int .i64 r.1.At]⟩, .bool r.2]⟩ ∧ St w w8 []) := by
  obtain ⟨A1, k2, A4, k5, e7, h3, h6⟩ := ty80_open h0_; subst e7
  have e10 := ty77_open h1_; subst e10
  refine Calls.into Try.func154 rfl 45 rfl rfl _ rfl ?_
  unfold m_spec_l21Resolve at hm
  have hS := St.start w
  refine WP.seq ?_
  refine WP.region ?_
  refine RW.new ttok hS rfl rfl rfl rfl (fun g11 w12 e13 hS14 => ?_)
  refine RW.new ttok hS14 rfl rfl rfl rfl (fun g15 w16 e17 hS18 => ?_)
  refine RW.run ttok 1 rfl ?_
  refine RW.nil ?_
  refine WP.seq ?_
  refine WP.seq ?_
  refine WP.region ?_
  refine RW.run ttok 3 rfl ?_
  refine RW.load1 ttok rfl rfl rfl rfl rfl (At.ext (hE.trans hS18.ext) g0_) 0 rfl rfl rfl rfl ?_
  refine RW.run ttok 2 rfl ?_
  refine RW.nil ?_
  obtain ⟨o23, hl24, hm⟩ := bind_some hm
  refine WP.cut (fun (t20 : Int × Int) F w9 => o23 = .inl t20 ∧ St w w9 [Box g15 [.int .i64 0, .int .i64 0] 77, Box g11 [.int .i64 t20.1, .int .i64 t20.2] 77] ∧ F = [(3, .pointer (some ⟨g11, 0, none⟩)), (4, .pointer (some ⟨g15, 0, none⟩))]) ?_ ?_
  · skip
    rintro t20 F w22 ⟨ho26, hS25, rfl⟩
    subst ho26
    rw [aft_inl] at hm
    unfold m_spec_l21Resolve_j1 at hm
    refine WP.seq ?_
    refine WP.region ?_
    refine RW.loadN ttok rfl rfl rfl rfl rfl ((hS25.bring 1 rfl).box) rfl rfl rfl ?_
    have hS27 := hS25.bring 0 rfl
    refine RW.store ttok (A := []) hS27 rfl rfl rfl rfl rfl 0 rfl rfl rfl rfl rfl (fun w28 hS29 => ?_)
    refine RW.run ttok 1 rfl ?_
    refine RW.nil ?_
    refine WP.ret ?_
    cases hm
    exact ⟨_, .cons (ResIs.agg ttok rfl rfl rfl ((hS29.bring 0 rfl).box) rfl) (.cons (.tmp rfl) .nil), rfl, (hS29.taken 0)⟩
  · skip
    refine WP.block ?_
    refine WP.weak [(0, .pointer (some p0_)), (3, .pointer (some ⟨g11, 0, none⟩)), (4, .pointer (some ⟨g15, 0, none⟩)), (6, .int .i64 (x0.Cells.length : Int))] ⟨rfl, rfl, rfl, rfl, trivial⟩ ?_
    refine WP.iter (fun (s19 : Int × Int × Int) F w9 => St w w9 [Box g15 [.int .i64 0, .int .i64 0] 77, Box g11 [.int .i64 s19.2.1, .int .i64 s19.2.2] 77] ∧ F = [(0, .pointer (some p0_)), (3, .pointer (some ⟨g11, 0, none⟩)), (4, .pointer (some ⟨g15, 0, none⟩)), (6, .int .i64 s19.1)]) _ hl24 ⟨hS18, rfl⟩ ?_
    rintro s19 F w34 _ o32 ⟨hS33, rfl⟩ hb30 ho31
    unfold m_spec_l21Resolve_b1 at hb30
    refine WP.seq ?_
    refine WP.seq ?_
    refine WP.region ?_
    refine RW.run ttok 2 rfl ?_
    refine RW.nil ?_
    refine WP.cond (decide (s19.1 ≥ 0)) rfl (fun hc => ?_) (fun hc => ?_)
    · skip
      rw [if_pos hc] at hb30
      refine WP.skip ?_
      refine WP.seq ?_
      refine WP.block ?_
      refine WP.seq ?_
      refine WP.seq ?_
      refine WP.cut (fun (t35 : Bool) F w9 => m_spec_l21Resolve_j2 fuel x0 s19 t35 = some o32 ∧ Ext w34 w9 ∧ St w w9 [Box g15 [.int .i64 0, .int .i64 0] 77, Box g11 [.int .i64 s19.2.1, .int .i64 s19.2.2] 77] ∧ F = [(0, .pointer (some p0_)), (3, .pointer (some ⟨g11, 0, none⟩)), (4, .pointer (some ⟨g15, 0, none⟩)), (6, .int .i64 s19.1), (31, .bool t35)]) ?_ ?_
      · skip
        rintro t35 F w38 ⟨hb30, hE36, hS37, rfl⟩
        unfold m_spec_l21Resolve_j2 at hb30
        refine WP.cond t35 rfl (fun hc => ?_) (fun hc => ?_)
        · skip
          rw [if_pos hc] at hb30
          refine WP.seq ?_
          refine WP.region ?_
          refine RW.loadN ttok rfl rfl rfl rfl rfl ((hS37.bring 1 rfl).box) rfl rfl rfl ?_
          have hS40 := hS37.bring 0 rfl
          refine RW.store ttok (A := []) hS40 rfl rfl rfl rfl rfl 0 rfl rfl rfl rfl rfl (fun w41 hS42 => ?_)
          refine RW.run ttok 1 rfl ?_
          refine RW.nil ?_
          refine WP.ret ?_
          cases hb30
          cases ho31
          have hm : some _ = some _ := hm
          cases hm
          exact ⟨_, .cons (ResIs.agg ttok rfl rfl rfl ((hS42.bring 0 rfl).box) rfl) (.cons (.tmp rfl) .nil), rfl, (hS42.taken 0)⟩
        · skip
          rw [if_neg (not_t hc)] at hb30
          refine WP.skip ?_
          refine WP.drawnM 2048 mixed 12 (by kernel_rfl) (by kernel_rfl) [([], 4095), ([0], 4094), ([1], 4093), ([2], 4091), ([], 4095), ([4], 4079), ([3, 5], 4055), ([6], 4031), ([7], 3967), ([8], 3839), ([9], 3583), ([10, 0, 1, 2, 3, 4, 5, 6, 7, 8, 9, 10], 3071)] (by kernel_rfl) hS37.ext (fun hsk43 => ?_)
          have hS44 := hS37.step (Ext.draw _)
          refine DM.run (fuel := 8) ttok hsk43 [0, 1, 2, 4] 23 (by kernel_rfl) (by kernel_rfl) rfl ?_
          refine DM.load1 ttok hsk43 3 31 (by kernel_rfl) (by kernel_rfl) (by kernel_rfl) (by kernel_rfl) rfl (by kernel_rfl) rfl rfl rfl rfl rfl (At.ext (hE.trans hS37.ext) g0_) 0 rfl rfl rfl rfl ?_
          refine DM.load1 ttok hsk43 5 63 (by kernel_rfl) (by kernel_rfl) (by kernel_rfl) (by kernel_rfl) rfl (by kernel_rfl) rfl rfl rfl rfl rfl ((hS37.bring 1 rfl).box) 1 rfl rfl rfl rfl ?_
          obtain ⟨x45, hx46, hb30⟩ := bind_some hb30
          refine DM.idx ttok (hE.trans hS37.ext) hsk43 6 127 (by kernel_rfl) (by kernel_rfl) (by kernel_rfl) (by kernel_rfl) rfl (by kernel_rfl) rfl rfl rfl rfl rfl rfl (by decide) rfl rfl h3 (idx_some hx46).1 (idx_some hx46).2 rfl rfl (fun p47 es48 ha49 hr50 => ?_)
          obtain ⟨A51, k52, A54, k55, e57, h53, h56⟩ := ty157_open hr50; subst e57
          refine DM.run (fuel := 4) ttok hsk43 [7] 255 (by kernel_rfl) (by kernel_rfl) rfl ?_
          refine DM.weak [(0, .pointer (some p0_)), (3, .pointer (some ⟨g11, 0, none⟩)), (4, .pointer (some ⟨g15, 0, none⟩)), (6, .int .i64 s19.1), (40, .pointer (some (p47.add 4)))] ⟨rfl, rfl, rfl, rfl, rfl, trivial⟩ ?_
          refine DM.load1 ttok hsk43 8 511 (by kernel_rfl) (by kernel_rfl) (by kernel_rfl) (by kernel_rfl) rfl (by kernel_rfl) rfl rfl rfl rfl rfl (At.ext (hE.trans hS37.ext) ha49) 4 rfl rfl rfl rfl ?_
          obtain ⟨x58, hx59, hb30⟩ := bind_some hb30
          refine DM.idx ttok (hE.trans hS37.ext) hsk43 9 1023 (by kernel_rfl) (by kernel_rfl) (by kernel_rfl) (by kernel_rfl) rfl (by kernel_rfl) rfl rfl rfl rfl rfl rfl (by decide) rfl rfl h56 (idx_some hx59).1 (idx_some hx59).2 rfl rfl (fun p60 es61 ha62 hr63 => ?_)
          have e65 := ty77_open hr63; subst e65
          refine DM.loadN ttok hsk43 10 2047 (by kernel_rfl) (by kernel_rfl) (by kernel_rfl) (by kernel_rfl) rfl (by kernel_rfl) rfl rfl rfl rfl rfl (At.ext (hE.trans hS37.ext) ha62) rfl rfl rfl ?_
          have hS66 := hS44.bring 1 rfl
          refine DM.one hsk43 11 (by kernel_rfl) (LM.store ttok (A := []) hS66 hsk43 4095 (by kernel_rfl) (by kernel_rfl) rfl rfl rfl rfl rfl rfl 0 rfl rfl rfl rfl rfl (fun w67 hS68 => ?_))
          refine DM.done hsk43 (by kernel_rfl) ?_
          refine WP.region ?_
          refine RW.run ttok 3 rfl ?_
          refine RW.nil ?_
          cases hb30
          exact ⟨_, [(0, .pointer (some p0_)), (3, .pointer (some ⟨g11, 0, none⟩)), (4, .pointer (some ⟨g15, 0, none⟩)), (6, .int .i64 (w64 (s19.1 - 1)))], ⟨rfl, rfl, rfl, rfl, trivial⟩, rfl, ((hS68.bring 0 rfl).bring 1 rfl), rfl⟩
      · skip
        refine WP.drawnM 0 mixed 16 (by kernel_rfl) (by kernel_rfl) [([], 65535), ([0], 65534), ([1], 65533), ([2], 65531), ([3], 65527), ([4, 3], 65511), ([5, 3], 65495), ([6, 3], 65463), ([3], 65527), ([8, 3], 65271), ([7, 9, 3], 64887), ([10, 3], 64503), ([11, 3], 63479), ([12, 3], 61431), ([13, 3], 57335), ([3, 14], 49143)] (by kernel_rfl) hS33.ext (fun hsk69 => ?_)
        have hS70 := hS33.step (Ext.draw _)
        refine DM.run (fuel := 15) ttok hsk69 [0] 1 (by kernel_rfl) (by kernel_rfl) rfl ?_
        refine DM.load1 ttok hsk69 1 3 (by kernel_rfl) (by kernel_rfl) (by kernel_rfl) (by kernel_rfl) rfl (by kernel_rfl) rfl rfl rfl rfl rfl ((hS33.bring 1 rfl).box) 0 rfl rfl rfl rfl ?_
        refine DM.run (fuel := 12) ttok hsk69 [2, 3] 15 (by kernel_rfl) (by kernel_rfl) rfl ?_
        by_cases hg71 : (s19.2.1 != 2) = true
        · skip
          rw [if_pos hg71] at hb30
          refine DM.know 19 rfl (congrArg Value.bool hg71) ?_
          refine DM.run (fuel := 0) ttok hsk69 [4, 5, 6, 7, 8, 9, 10, 11, 12, 13, 14, 15] 65535 (by kernel_rfl) (by kernel_rfl) rfl ?_
          refine DM.weak [(0, .pointer (some p0_)), (3, .pointer (some ⟨g11, 0, none⟩)), (4, .pointer (some ⟨g15, 0, none⟩)), (6, .int .i64 s19.1), (31, .bool true)] ⟨rfl, rfl, rfl, rfl, rfl, trivial⟩ ?_
          refine DM.done hsk69 (by kernel_rfl) ?_
          exact ⟨true, [(0, .pointer (some p0_)), (3, .pointer (some ⟨g11, 0, none⟩)), (4, .pointer (some ⟨g15, 0, none⟩)), (6, .int .i64 s19.1), (31, .bool true)], ⟨rfl, rfl, rfl, rfl, rfl, trivial⟩, hb30, (Ext.draw _), hS70, rfl⟩
        · skip
          rw [if_neg hg71] at hb30
          refine DM.know 19 rfl (congrArg Value.bool (Bool.eq_false_iff.2 hg71)) ?_
          refine DM.run (fuel := 8) ttok hsk69 [4, 5, 6, 8] 383 (by kernel_rfl) (by kernel_rfl) rfl ?_
          refine DM.weak [(0, .pointer (some p0_)), (3, .pointer (some ⟨g11, 0, none⟩)), (4, .pointer (some ⟨g15, 0, none⟩)), (6, .int .i64 s19.1), (19, .bool false), (22, .pointer (some p0_)), (24, .pointer (some ⟨g11, 1, none⟩))] ⟨rfl, rfl, rfl, rfl, rfl, rfl, rfl, trivial⟩ ?_
          refine DM.load1 ttok hsk69 7 511 (by kernel_rfl) (by kernel_rfl) (by kernel_rfl) (by kernel_rfl) rfl (by kernel_rfl) rfl rfl rfl rfl rfl (At.ext (hE.trans hS33.ext) g0_) 0 rfl rfl rfl rfl ?_
          refine DM.load1 ttok hsk69 9 1023 (by kernel_rfl) (by kernel_rfl) (by kernel_rfl) (by kernel_rfl) rfl (by kernel_rfl) rfl rfl rfl rfl rfl ((hS33.bring 1 rfl).box) 1 rfl rfl rfl rfl ?_
          obtain ⟨x72, hx73, hb30⟩ := bind_some hb30
          refine DM.idx ttok (hE.trans hS33.ext) hsk69 10 2047 (by kernel_rfl) (by kernel_rfl) (by kernel_rfl) (by kernel_rfl) rfl (by kernel_rfl) rfl rfl rfl rfl rfl rfl (by decide) rfl rfl h3 (idx_some hx73).1 (idx_some hx73).2 rfl rfl (fun p74 es75 ha76 hr77 => ?_)
          obtain ⟨A78, k79, A81, k82, e84, h80, h83⟩ := ty157_open hr77; subst e84
          refine DM.run (fuel := 4) ttok hsk69 [11] 4095 (by kernel_rfl) (by kernel_rfl) rfl ?_
          refine DM.load1 ttok hsk69 12 8191 (by kernel_rfl) (by kernel_rfl) (by kernel_rfl) (by kernel_rfl) rfl (by kernel_rfl) rfl rfl rfl rfl rfl (At.ext (hE.trans hS33.ext) ha76) 4 rfl rfl rfl rfl ?_
          refine DM.run (fuel := 0) ttok hsk69 [13, 14, 15] 65535 (by kernel_rfl) (by kernel_rfl) rfl ?_
          refine DM.weak [(0, .pointer (some p0_)), (3, .pointer (some ⟨g11, 0, none⟩)), (4, .pointer (some ⟨g15, 0, none⟩)), (6, .int .i64 s19.1), (31, .bool ((x72.Words.length : Int) == 0))] ⟨rfl, rfl, rfl, rfl, rfl, trivial⟩ ?_
          refine DM.done hsk69 (by kernel_rfl) ?_
          exact ⟨((x72.Words.length : Int) == 0), [(0, .pointer (some p0_)), (3, .pointer (some ⟨g11, 0, none⟩)), (4, .pointer (some ⟨g15, 0, none⟩)), (6, .int .i64 s19.1), (31, .bool ((x72.Words.length : Int) == 0))], ⟨rfl, rfl, rfl, rfl, rfl, trivial⟩, hb30, (Ext.draw _), hS70, rfl⟩
    · skip
      rw [if_neg (not_t hc)] at hb30
      refine WP.exit ?_
      cases hb30
      exact ⟨_, [(3, .pointer (some ⟨g11, 0, none⟩)), (4, .pointer (some ⟨g15, 0, none⟩))], ⟨rfl, rfl, trivial⟩, ho31, hS33, rfl⟩

theorem enters234 : Enters Try.prog 234 := ⟨_, _, Try.func234, rfl, by kernel_rfl⟩
def m_spec_l21Chain_j2 (fuel : Nat) (t22 : Int) : Option Bool := some (t22 == (-1))
def m_spec_l21Chain_j3 (fuel : Nat) (x0 : D.Memory) (s21 : Int × Int) (t37 : Bool) : Option (Rd (Int × Int) (Int) (Bool)) := (if t37 = true then some (.ret false) else ((idx x0.Cells s21.2).bind fun x42 => some (.next (w64 (s21.1 - 1), x42.Value))))
def m_spec_l21Chain_b2 (fuel : Nat) (x0 : D.Memory) (s21 : Int × Int) : Option (Rd (Int × Int) (Int) (Bool)) := (if (decide (s21.1 > 0)) = true then ((m_spec_l00In fuel s21.2 0 (w64 ((x0.Cells.length : Int) - 1))).bind fun r55 => (if (!r55) = true then m_spec_l21Chain_j3 fuel x0 s21 true else ((idx x0.Cells s21.2).bind fun x63 => m_spec_l21Chain_j3 fuel x0 s21 (x63.Kind != 0)))) else some (.brk s21.2))
def m_spec_l21Chain_j1 (fuel : Nat) (x0 : D.Memory) (t11 : Int) : Option Bool := ((iter (m_spec_l21Chain_b2 fuel x0) fuel (t11, x0.Free)).bind fun o => aft o (m_spec_l21Chain_j2 fuel))
def m_spec_l21Chain_j4 (fuel : Nat) (s10 : Int × Int) (t95 : Int) : Option (Rd (Int × Int) (Int) (Bool)) := some (.next (t95, w64 (s10.2 + 1)))
def m_spec_l21Chain_b1 (fuel : Nat) (x0 : D.Memory) (s10 : Int × Int) : Option (Rd (Int × Int) (Int) (Bool)) := (if (decide (s10.2 < (x0.Cells.length : Int))) = true then ((idx x0.Cells s10.2).bind fun x82 => (if (x82.Kind == 0) = true then m_spec_l21Chain_j4 fuel s10 (w64 (s10.1 + 1)) else m_spec_l21Chain_j4 fuel s10 s10.1)) else some (.brk s10.1))
def m_spec_l21Chain (fuel : Nat) (x0 : D.Memory) : Option (Bool) := ((iter (m_spec_l21Chain_b1 fuel x0) fuel (0, 0)).bind fun o => aft o (m_spec_l21Chain_j1 fuel x0))

set_option maxRecDepth 100000 in
theorem spec_l21Chain_ok {W w : World} (hE : Ext W w) {p0_ : Addr} {c0_ : List Value} {x0 : D.Memory} (h0_ : ty80.ro W c0_ x0) (g0_ : At W p0_ c0_) {fuel : Nat} {r : Bool} (hm : m_spec_l21Chain fuel x0 = some r) :
    Calls Try.prog 234 ⟨[.pointer (some p0_)]⟩ w (Ret fun v w8 => v = .bool r ∧ St w w8 []) := by
  obtain ⟨A1, k2, A4, k5, e7, h3, h6⟩ := ty80_open h0_; subst e7
  refine Calls.into Try.func234 rfl 64 rfl rfl _ rfl ?_
  unfold m_spec_l21Chain at hm
  have hS := St.start w
  refine WP.seq ?_
  refine WP.region ?_
  refine RW.run ttok 1 rfl ?_
  refine RW.nil ?_
  refine WP.seq ?_
  refine WP.region ?_
  refine RW.run ttok 1 rfl ?_
  refine RW.nil ?_
  refine WP.seq ?_
  refine WP.seq ?_
  refine WP.region ?_
  refine RW.run ttok 1 rfl ?_
  refine RW.nil ?_
  obtain ⟨o17, hl18, hm⟩ := bind_some hm
  refine WP.cut (fun (t11 : Int) F w9 => o17 = .inl t11 ∧ Ext w w9 ∧ St w w9 [] ∧ F = [(0, .pointer (some p0_)), (3, .int .i64 t11)]) ?_ ?_
  · skip
    rintro t11 F w16 ⟨ho20, hE15, hS19, rfl⟩
    subst ho20
    rw [aft_inl] at hm
    unfold m_spec_l21Chain_j1 at hm
    refine WP.seq ?_
    refine WP.region ?_
    refine RW.run ttok 3 rfl ?_
    refine RW.load1 ttok rfl rfl rfl rfl rfl (At.ext (hE.trans hS19.ext) g0_) 1 rfl rfl rfl rfl ?_
    refine RW.run ttok 1 rfl ?_
    refine RW.nil ?_
    refine WP.seq ?_
    obtain ⟨o28, hl29, hm⟩ := bind_some hm
    refine WP.cut (fun (t22 : Int) F w9 => o28 = .inl t22 ∧ Ext w16 w9 ∧ St w w9 [] ∧ F = [(5, .int .i64 t22)]) ?_ ?_
    · skip
      rintro t22 F w27 ⟨ho31, hE26, hS30, rfl⟩
      subst ho31
      rw [aft_inl] at hm
      unfold m_spec_l21Chain_j2 at hm
      refine WP.seq ?_
      refine WP.region ?_
      refine RW.run ttok 3 rfl ?_
      refine RW.nil ?_
      refine WP.ret ?_
      cases hm
      exact ⟨_, .cons (.tmp rfl) .nil, rfl, hS30⟩
    · skip
      refine WP.block ?_
      refine WP.weak [(0, .pointer (some p0_)), (3, .int .i64 t11), (5, .int .i64 x0.Free)] ⟨rfl, rfl, rfl, trivial⟩ ?_
      refine WP.iter (fun (s21 : Int × Int) F w9 => Ext w16 w9 ∧ St w w9 [] ∧ F = [(0, .pointer (some p0_)), (3, .int .i64 s21.1), (5, .int .i64 s21.2)]) _ hl29 ⟨(Ext.refl _), hS19, rfl⟩ ?_
      rintro s21 F w36 _ o34 ⟨hE25, hS35, rfl⟩ hb32 ho33
      unfold m_spec_l21Chain_b2 at hb32
      refine WP.seq ?_
      refine WP.seq ?_
      refine WP.region ?_
      refine RW.run ttok 2 rfl ?_
      refine RW.nil ?_
      refine WP.cond (decide (s21.1 > 0)) rfl (fun hc => ?_) (fun hc => ?_)
      · skip
        rw [if_pos hc] at hb32
        refine WP.skip ?_
        refine WP.seq ?_
        refine WP.block ?_
        refine WP.seq ?_
        refine WP.seq ?_
        refine WP.cut (fun (t37 : Bool) F w9 => m_spec_l21Chain_j3 fuel x0 s21 t37 = some o34 ∧ Ext w36 w9 ∧ St w w9 [] ∧ F = [(0, .pointer (some p0_)), (3, .int .i64 s21.1), (5, .int .i64 s21.2), (53, .bool t37)]) ?_ ?_
        · skip
          rintro t37 F w40 ⟨hb32, hE38, hS39, rfl⟩
          unfold m_spec_l21Chain_j3 at hb32
          refine WP.cond t37 rfl (fun hc => ?_) (fun hc => ?_)
          · skip
            rw [if_pos hc] at hb32
            refine WP.seq ?_
            refine WP.region ?_
            refine RW.run ttok 1 rfl ?_
            refine RW.nil ?_
            refine WP.ret ?_
            cases hb32
            cases ho33
            have hm : some _ = some _ := hm
            cases hm
            exact ⟨_, .cons (.tmp rfl) .nil, rfl, hS39⟩
          · skip
            rw [if_neg (not_t hc)] at hb32
            refine WP.skip ?_
            refine WP.region ?_
            refine RW.run ttok 3 rfl ?_
            refine RW.load1 ttok rfl rfl rfl rfl rfl (At.ext (hE.trans hS39.ext) g0_) 0 rfl rfl rfl rfl ?_
            refine RW.run ttok 1 rfl ?_
            obtain ⟨x42, hx43, hb32⟩ := bind_some hb32
            refine RW.idx ttok (hE.trans hS39.ext) rfl rfl rfl rfl rfl rfl (by decide) rfl rfl h3 (idx_some hx43).1 (idx_some hx43).2 rfl rfl (fun p44 es45 ha46 hr47 => ?_)
            obtain ⟨A48, k49, A51, k52, e54, h50, h53⟩ := ty157_open hr47; subst e54
            refine RW.run ttok 1 rfl ?_
            refine RW.load1 ttok rfl rfl rfl rfl rfl (At.ext (hE.trans hS39.ext) ha46) 2 rfl rfl rfl rfl ?_
            refine RW.run ttok 1 rfl ?_
            refine RW.nil ?_
            refine WP.region ?_
            refine RW.run ttok 3 rfl ?_
            refine RW.nil ?_
            cases hb32
            exact ⟨_, [(0, .pointer (some p0_)), (3, .int .i64 (w64 (s21.1 - 1))), (5, .int .i64 x42.Value)], ⟨rfl, rfl, rfl, trivial⟩, rfl, (hE25.trans hE38), hS39, rfl⟩
        · skip
          refine WP.region ?_
          refine RW.run ttok 4 rfl ?_
          refine RW.load1 ttok rfl rfl rfl rfl rfl (At.ext (hE.trans hS35.ext) g0_) 0 rfl rfl rfl rfl ?_
          refine RW.run ttok 2 rfl ?_
          obtain ⟨r55, hx56, hb32⟩ := bind_some hb32
          refine RW.call rfl rfl rfl enters102 (spec_l00In_ok (hE.trans hS35.ext)  hx56) (fun v57 w58 hR59 => ?_)
          obtain ⟨rfl, hR60⟩ := hR59
          have hS61 := hS35.join hR60
          refine RW.run ttok 2 rfl ?_
          by_cases hg62 : (!r55) = true
          · skip
            rw [if_pos hg62] at hb32
            refine RW.know 43 rfl (congrArg Value.bool hg62) ?_
            refine RW.run ttok 10 rfl ?_
            refine RW.nil ?_
            exact ⟨true, [(0, .pointer (some p0_)), (3, .int .i64 s21.1), (5, .int .i64 s21.2), (53, .bool true)], ⟨rfl, rfl, rfl, rfl, trivial⟩, hb32, hR60.ext, hS61, rfl⟩
          · skip
            rw [if_neg hg62] at hb32
            refine RW.know 43 rfl (congrArg Value.bool (Bool.eq_false_iff.2 hg62)) ?_
            refine RW.run ttok 3 rfl ?_
            refine RW.load1 ttok rfl rfl rfl rfl rfl (At.ext (hE.trans hS61.ext) g0_) 0 rfl rfl rfl rfl ?_
            refine RW.run ttok 1 rfl ?_
            obtain ⟨x63, hx65, hb32⟩ := bind_some hb32
            refine RW.idx ttok (hE.trans hS61.ext) rfl rfl rfl rfl rfl rfl (by decide) rfl rfl h3 (idx_some hx65).1 (idx_some hx65).2 rfl rfl (fun p66 es67 ha68 hr69 => ?_)
            obtain ⟨A70, k71, A73, k74, e76, h72, h75⟩ := ty157_open hr69; subst e76
            refine RW.run ttok 1 rfl ?_
            refine RW.load1 ttok rfl rfl rfl rfl rfl (At.ext (hE.trans hS61.ext) ha68) 0 rfl rfl rfl rfl ?_
            refine RW.run ttok 2 rfl ?_
            refine RW.nil ?_
            exact ⟨(x63.Kind != 0), [(0, .pointer (some p0_)), (3, .int .i64 s21.1), (5, .int .i64 s21.2), (53, .bool (x63.Kind != 0))], ⟨rfl, rfl, rfl, rfl, trivial⟩, hb32, hR60.ext, hS61, rfl⟩
      · skip
        rw [if_neg (not_t hc)] at hb32
        refine WP.exit ?_
        cases hb32
        exact ⟨_, [(5, .int .i64 s21.2)], ⟨rfl, trivial⟩, ho33, hE25, hS35, rfl⟩
  · skip
    refine WP.block ?_
    refine WP.weak [(0, .pointer (some p0_)), (3, .int .i64 0), (4, .int .i64 0)] ⟨rfl, rfl, rfl, trivial⟩ ?_
    refine WP.iter (fun (s10 : Int × Int) F w9 => Ext w w9 ∧ St w w9 [] ∧ F = [(0, .pointer (some p0_)), (3, .int .i64 s10.1), (4, .int .i64 s10.2)]) _ hl18 ⟨(Ext.refl _), hS, rfl⟩ ?_
    rintro s10 F w81 _ o79 ⟨hE14, hS80, rfl⟩ hb77 ho78
    unfold m_spec_l21Chain_b1 at hb77
    refine WP.seq ?_
    refine WP.seq ?_
    refine WP.region ?_
    refine RW.run ttok 4 rfl ?_
    refine RW.load1 ttok rfl rfl rfl rfl rfl (At.ext (hE.trans hS80.ext) g0_) 0 rfl rfl rfl rfl ?_
    refine RW.run ttok 2 rfl ?_
    refine RW.nil ?_
    refine WP.cond (decide (s10.2 < (x0.Cells.length : Int))) rfl (fun hc => ?_) (fun hc => ?_)
    · skip
      rw [if_pos hc] at hb77
      refine WP.skip ?_
      refine WP.seq ?_
      refine WP.block ?_
      refine WP.seq ?_
      refine WP.region ?_
      refine RW.run ttok 3 rfl ?_
      refine RW.load1 ttok rfl rfl rfl rfl rfl (At.ext (hE.trans hS80.ext) g0_) 0 rfl rfl rfl rfl ?_
      refine RW.run ttok 1 rfl ?_
      obtain ⟨x82, hx83, hb77⟩ := bind_some hb77
      refine RW.idx ttok (hE.trans hS80.ext) rfl rfl rfl rfl rfl rfl (by decide) rfl rfl h3 (idx_some hx83).1 (idx_some hx83).2 rfl rfl (fun p84 es85 ha86 hr87 => ?_)
      obtain ⟨A88, k89, A91, k92, e94, h90, h93⟩ := ty157_open hr87; subst e94
      refine RW.run ttok 1 rfl ?_
      refine RW.load1 ttok rfl rfl rfl rfl rfl (At.ext (hE.trans hS80.ext) ha86) 0 rfl rfl rfl rfl ?_
      refine RW.run ttok 1 rfl ?_
      refine RW.nil ?_
      refine WP.cut (fun (t95 : Int) F w9 => m_spec_l21Chain_j4 fuel s10 t95 = some o79 ∧ Ext w81 w9 ∧ St w w9 [] ∧ F = [(0, .pointer (some p0_)), (3, .int .i64 t95), (4, .int .i64 s10.2)]) ?_ ?_
      · skip
        rintro t95 F w98 ⟨hb77, hE96, hS97, rfl⟩
        unfold m_spec_l21Chain_j4 at hb77
        refine WP.region ?_
        refine RW.run ttok 3 rfl ?_
        refine RW.nil ?_
        cases hb77
        exact ⟨_, [(0, .pointer (some p0_)), (3, .int .i64 t95), (4, .int .i64 (w64 (s10.2 + 1)))], ⟨rfl, rfl, rfl, trivial⟩, rfl, (hE14.trans hE96), hS97, rfl⟩
      · skip
        refine WP.cond (x82.Kind == 0) rfl (fun hc => ?_) (fun hc => ?_)
        · skip
          rw [if_pos hc] at hb77
          refine WP.region ?_
          refine RW.run ttok 3 rfl ?_
          refine RW.nil ?_
          exact ⟨w64 (s10.1 + 1), [(0, .pointer (some p0_)), (3, .int .i64 (w64 (s10.1 + 1))), (4, .int .i64 s10.2)], ⟨rfl, rfl, rfl, trivial⟩, hb77, (Ext.refl _), hS80, rfl⟩
        · skip
          rw [if_neg (not_t hc)] at hb77
          refine WP.skip ?_
          exact ⟨s10.1, [(0, .pointer (some p0_)), (3, .int .i64 s10.1), (4, .int .i64 s10.2)], ⟨rfl, rfl, rfl, trivial⟩, hb77, (Ext.refl _), hS80, rfl⟩
    · skip
      rw [if_neg (not_t hc)] at hb77
      refine WP.exit ?_
      cases hb77
      exact ⟨_, [(0, .pointer (some p0_)), (3, .int .i64 s10.1)], ⟨rfl, rfl, trivial⟩, ho78, hE14, hS80, rfl⟩

theorem enters152 : Enters Try.prog 152 := ⟨_, _, Try.func152, rfl, by kernel_rfl⟩
def m_spec_l21With_j5 (fuel : Nat) (x0 : D.Memory) (t67 : Unit) : Option Bool := ((m_spec_l21Chain fuel x0).bind fun r74 => some r74)
def m_spec_l21With_j7 (fuel : Nat) (s66 : Int) (t104 : Unit) : Option (Rd (Int) (Unit) (Bool)) := some (.next (w64 (s66 + 1)))
def m_spec_l21With_j6 (fuel : Nat) (x0 : D.Memory) (s66 : Int) (x86 : D.Cell) (t99 : Bool) : Option (Rd (Int) (Unit) (Bool)) := (if t99 = true then some (.ret false) else (if (x86.Kind == 13) = true then ((m_spec_l21Resolve fuel x0 (⟨2, s66⟩ : D.Word)).bind fun r108 => (if (!r108.2) = true then some (.ret false) else m_spec_l21With_j7 fuel s66 ())) else m_spec_l21With_j7 fuel s66 ()))
def m_spec_l21With_b4 (fuel : Nat) (x0 : D.Memory) (t58 : (List Int)) (s66 : Int) : Option (Rd (Int) (Unit) (Bool)) := (if (decide (s66 < (x0.Cells.length : Int))) = true then ((idx x0.Cells s66).bind fun x86 => ((m_spec_l21IsAgent fuel x86).bind fun r124 => (if r124 = true then ((idx t58 s66).bind fun x132 => (if (x132 != 1) = true then m_spec_l21With_j6 fuel x0 s66 x86 true else (if (x86.Kind == 13) = true then ((idx t58 s66).bind fun x140 => m_spec_l21With_j6 fuel x0 s66 x86 (x140 != (w64 (2 - (x86.Words.length : Int))))) else m_spec_l21With_j6 fuel x0 s66 x86 false))) else (if (x86.Kind == 13) = true then ((idx t58 s66).bind fun x147 => m_spec_l21With_j6 fuel x0 s66 x86 (x147 != (w64 (2 - (x86.Words.length : Int))))) else m_spec_l21With_j6 fuel x0 s66 x86 false)))) else some (.brk ()))
def m_spec_l21With_j4 (fuel : Nat) (x0 : D.Memory) (t58 : (List Int)) : Option Bool := ((iter (m_spec_l21With_b4 fuel x0 t58) fuel 0).bind fun o => aft o (m_spec_l21With_j5 fuel x0))
def m_spec_l21With_j8 (fuel : Nat) (s57 : Int × (List Int)) (x158 : D.Pair) (t172 : Bool) : Option (Rd (Int × (List Int)) ((List Int)) (Bool)) := (if t172 = true then some (.ret false) else ((idx s57.2 x158.A).bind fun x177 => (if decide (0 ≤ x158.A ∧ x158.A.toNat < s57.2.length) = true then ((idx (s57.2.set x158.A.toNat (w64 (x177 + 1))) x158.B).bind fun x192 => (if decide (0 ≤ x158.B ∧ x158.B.toNat < (s57.2.set x158.A.toNat (w64 (x177 + 1))).length) = true then some (.next (w64 (s57.1 + 1), ((s57.2.set x158.A.toNat (w64 (x177 + 1))).set x158.B.toNat (w64 (x192 + 1))))) else none)) else none)))
def m_spec_l21With_b3 (fuel : Nat) (x0 : D.Memory) (x2 : (List D.Pair)) (s57 : Int × (List Int)) : Option (Rd (Int × (List Int)) ((List Int)) (Bool)) := (if (decide (s57.1 < (x2.length : Int))) = true then ((idx x2 s57.1).bind fun x158 => ((m_spec_l00In fuel x158.B 1 (w64 ((x0.Cells.length : Int) - 1))).bind fun r209 => (if (!r209) = true then m_spec_l21With_j8 fuel s57 x158 true else ((m_spec_l00In fuel x158.A 0 (w64 (x158.B - 1))).bind fun r217 => (if (!r217) = true then m_spec_l21With_j8 fuel s57 x158 true else ((idx x0.Cells x158.A).bind fun x225 => ((m_spec_l21IsAgent fuel x225).bind fun r238 => (if (!r238) = true then m_spec_l21With_j8 fuel s57 x158 true else ((idx x0.Cells x158.B).bind fun x246 => ((m_spec_l21IsAgent fuel x246).bind fun r259 => m_spec_l21With_j8 fuel s57 x158 (!r259))))))))))) else some (.brk s57.2))
def m_spec_l21With_j3 (fuel : Nat) (x0 : D.Memory) (x2 : (List D.Pair)) (t50 : (List Int)) : Option Bool := ((iter (m_spec_l21With_b3 fuel x0 x2) fuel (0, t50)).bind fun o => aft o (m_spec_l21With_j4 fuel x0))
def m_spec_l21With_b2 (fuel : Nat) (x0 : D.Memory) (x1 : (List D.Word)) (r34 : (List D.Word)) (s49 : Int × (List Int)) : Option (Rd (Int × (List Int)) ((List Int)) (Bool)) := (if (decide (s49.1 < ((r34 ++ x1).length : Int))) = true then ((idx (r34 ++ x1) s49.1).bind fun x271 => ((m_spec_l21Word fuel x0 x271).bind fun r278 => (if (!r278) = true then some (.ret false) else ((idx (r34 ++ x1) s49.1).bind fun x285 => ((idx s49.2 x285.At).bind fun x292 => (if decide (0 ≤ x285.At ∧ x285.At.toNat < s49.2.length) = true then some (.next (w64 (s49.1 + 1), (s49.2.set x285.At.toNat (w64 (x292 + 1))))) else none)))))) else some (.brk s49.2))
def m_spec_l21With_j2 (fuel : Nat) (x0 : D.Memory) (x1 : (List D.Word)) (x2 : (List D.Pair)) (t21 : (List Int)) : Option Bool := ((m_spec_l21Words fuel x0).bind fun r34 => (if decide ((r34.length : Int) + (x1.length : Int) ≤ 4294967296) = true then ((iter (m_spec_l21With_b2 fuel x0 x1 r34) fuel (0, t21)).bind fun o => aft o (m_spec_l21With_j3 fuel x0 x2)) else none))
def m_spec_l21With_b1 (fuel : Nat) (x0 : D.Memory) (s20 : Int × (List Int)) : Option (Rd (Int × (List Int)) ((List Int)) (Bool)) := (if (decide (s20.1 < (x0.Cells.length : Int))) = true then ((idx x0.Cells s20.1).bind fun x312 => ((m_spec_l21Cell fuel x312 (x0.Cells.length : Int)).bind fun r325 => (if (!r325) = true then some (.ret false) else (if decide ((s20.2.length : Int) + (([0] : (List Int)).length : Int) ≤ 4294967296) = true then some (.next (w64 (s20.1 + 1), (s20.2 ++ ([0] : (List Int))))) else none)))) else some (.brk s20.2))
def m_spec_l21With_j1 (fuel : Nat) (x0 : D.Memory) (x1 : (List D.Word)) (x2 : (List D.Pair)) (t10 : Bool) : Option Bool := (if t10 = true then some false else ((iter (m_spec_l21With_b1 fuel x0) fuel (0, ([] : (List Int)))).bind fun o => aft o (m_spec_l21With_j2 fuel x0 x1 x2)))
def m_spec_l21With (fuel : Nat) (x0 : D.Memory) (x1 : (List D.Word)) (x2 : (List D.Pair)) : Option (Bool) := ((m_spec_l00In fuel (x0.Cells.length : Int) 1 1500).bind fun r343 => (if (!r343) = true then m_spec_l21With_j1 fuel x0 x1 x2 true else m_spec_l21With_j1 fuel x0 x1 x2 (decide ((x2.length : Int) > (x0.Cells.length : Int)))))

set_option maxRecDepth 100000 in
theorem spec_l21With_ok {W w : World} (hE : Ext W w) {p0_ : Addr} {c0_ : List Value} {x0 : D.Memory} {A1_ : Option Addr} {k1_ : Nat} {x1 : (List D.Word)} {A2_ : Option Addr} {k2_ : Nat} {x2 : (List D.Pair)} (h0_ : ty80.ro W c0_ x0) (g0_ : At W p0_ c0_) (h1_ : ty155.ro W [.slice A1_ x1.length k1_] x1) (h2_ : ty78.ro W [.slice A2_ x2.length k2_] x2) {fuel : Nat} {r : Bool} (hm : m_spec_l21With fuel x0 x1 x2 = some r) :
    Calls Try.prog 152 ⟨[.pointer (some p0_), .slice A1_ x1.length k1_, .slice A2_ x2.length k2_]⟩ w (Ret fun v w8 => v = .bool r ∧ St w w8 []) := by
  obtain ⟨A1, k2, A4, k5, e7, h3, h6⟩ := ty80_open h0_; subst e7
  refine Calls.into Try.func152 rfl 202 rfl rfl _ rfl ?_
  unfold m_spec_l21With at hm
  have hS := St.start w
  refine WP.seq ?_
  refine WP.region ?_
  refine RW.run ttok 1 rfl ?_
  refine RW.nil ?_
  refine WP.seq ?_
  refine WP.region ?_
  refine RW.run ttok 3 rfl ?_
  refine RW.load1 ttok rfl rfl rfl rfl rfl (At.ext (hE.trans hS.ext) g0_) 0 rfl rfl rfl rfl ?_
  refine RW.run ttok 2 rfl ?_
  refine RW.nil ?_
  refine WP.seq ?_
  refine WP.seq ?_
  refine WP.cut (fun (t10 : Bool) F w9 => m_spec_l21With_j1 fuel x0 x1 x2 t10 = some r ∧ Ext w w9 ∧ St w w9 [] ∧ F = [(0, .pointer (some p0_)), (1, .slice A1_ x1.length k1_), (2, .slice A2_ x2.length k2_), (7, .int .i64 (x0.Cells.length : Int)), (31, .bool t10)]) ?_ ?_
  · skip
    rintro t10 F w13 ⟨hm, hE11, hS12, rfl⟩
    unfold m_spec_l21With_j1 at hm
    refine WP.cond t10 rfl (fun hc => ?_) (fun hc => ?_)
    · skip
      rw [if_pos hc] at hm
      refine WP.seq ?_
      refine WP.region ?_
      refine RW.run ttok 1 rfl ?_
      refine RW.nil ?_
      refine WP.ret ?_
      cases hm
      exact ⟨_, .cons (.tmp rfl) .nil, rfl, hS12⟩
    · skip
      rw [if_neg (not_t hc)] at hm
      refine WP.skip ?_
      refine WP.seq ?_
      refine WP.region ?_
      refine RW.newSlice0 (U := tInt) ttok hS12 rfl rfl rfl rfl rfl rfl rfl (fun A15 k16 w17 e18 hS19 => ?_)
      refine RW.run ttok 1 rfl ?_
      refine RW.nil ?_
      refine WP.seq ?_
      refine WP.seq ?_
      refine WP.region ?_
      refine RW.run ttok 1 rfl ?_
      refine RW.nil ?_
      obtain ⟨o30, hl31, hm⟩ := bind_some hm
      refine WP.cut (fun (t21 : (List Int)) F w9 => ∃ A27 k28, o30 = .inl t21 ∧ St w w9 [Own ty103 [.slice A27 t21.length k28] t21] ∧ F = [(0, .pointer (some p0_)), (1, .slice A1_ x1.length k1_), (2, .slice A2_ x2.length k2_), (7, .int .i64 (x0.Cells.length : Int)), (8, .slice A27 t21.length k28)]) ?_ ?_
      · skip
        rintro t21 F w29 ⟨A27, k28, ho33, hS32, rfl⟩
        subst ho33
        rw [aft_inl] at hm
        unfold m_spec_l21With_j2 at hm
        refine WP.seq ?_
        refine WP.region ?_
        refine RW.run ttok 1 rfl ?_
        obtain ⟨r34, hx35, hm⟩ := bind_some hm
        refine RW.call rfl rfl rfl enters231 (spec_l21Words_ok (hE.trans hS32.ext) h0_ g0_ hx35) (fun v36 w37 hR38 => ?_)
        obtain ⟨A39, k40, rfl, hR41⟩ := hR38
        have hS42 := hS32.join hR41
        refine RW.run ttok 1 rfl ?_
        have hS43 := hS42.bring 0 rfl
        by_cases hk44 : decide ((r34.length : Int) + (x1.length : Int) ≤ 4294967296) = true
        case neg => rw [if_neg hk44] at hm; cases hm
        rw [if_pos hk44] at hm
        refine RW.appendRo ttok (Flat.map (Flat.pair Flat.int (Flat.pair Flat.int Flat.unit))) hS43 rfl rfl rfl rfl rfl rfl (by decide) rfl rfl (ty155.ext (hE.trans hS43.ext) h1_) (of_decide_eq_true hk44) (by decide) rfl rfl (fun A45 k46 w47 hS48 => ?_)
        refine RW.run ttok 1 rfl ?_
        refine RW.nil ?_
        refine WP.seq ?_
        refine WP.seq ?_
        refine WP.region ?_
        refine RW.run ttok 1 rfl ?_
        refine RW.nil ?_
        obtain ⟨o53, hl54, hm⟩ := bind_some hm
        refine WP.cut (fun (t50 : (List Int)) F w9 => o53 = .inl t50 ∧ St w w9 [Own ty155 [.slice A45 (r34 ++ x1).length k46] (r34 ++ x1), Own ty103 [.slice A27 t21.length k28] t50] ∧ F = [(0, .pointer (some p0_)), (2, .slice A2_ x2.length k2_), (7, .int .i64 (x0.Cells.length : Int)), (8, .slice A27 t21.length k28)]) ?_ ?_
        · skip
          rintro t50 F w52 ⟨ho56, hS55, rfl⟩
          subst ho56
          rw [aft_inl] at hm
          unfold m_spec_l21With_j3 at hm
          refine WP.seq ?_
          refine WP.seq ?_
          refine WP.region ?_
          refine RW.run ttok 1 rfl ?_
          refine RW.nil ?_
          obtain ⟨o61, hl62, hm⟩ := bind_some hm
          refine WP.cut (fun (t58 : (List Int)) F w9 => o61 = .inl t58 ∧ St w w9 [Own ty155 [.slice A45 (r34 ++ x1).length k46] (r34 ++ x1), Own ty103 [.slice A27 t21.length k28] t58] ∧ F = [(0, .pointer (some p0_)), (8, .slice A27 t21.length k28)]) ?_ ?_
          · skip
            rintro t58 F w60 ⟨ho65, hS63, rfl⟩
            subst ho65
            rw [aft_inl] at hm
            unfold m_spec_l21With_j4 at hm
            refine WP.seq ?_
            refine WP.seq ?_
            refine WP.region ?_
            refine RW.run ttok 1 rfl ?_
            refine RW.nil ?_
            obtain ⟨o70, hl71, hm⟩ := bind_some hm
            refine WP.cut (fun (t67 : Unit) F w9 => o70 = .inl t67 ∧ St w w9 [Own ty155 [.slice A45 (r34 ++ x1).length k46] (r34 ++ x1), Own ty103 [.slice A27 t21.length k28] t58] ∧ F = [(0, .pointer (some p0_))]) ?_ ?_
            · skip
              rintro t67 F w69 ⟨ho73, hS72, rfl⟩
              subst ho73
              rw [aft_inl] at hm
              unfold m_spec_l21With_j5 at hm
              refine WP.seq ?_
              refine WP.region ?_
              refine RW.run ttok 1 rfl ?_
              obtain ⟨r74, hx75, hm⟩ := bind_some hm
              refine RW.call rfl rfl rfl enters234 (spec_l21Chain_ok (hE.trans hS72.ext) h0_ g0_ hx75) (fun v76 w77 hR78 => ?_)
              obtain ⟨rfl, hR79⟩ := hR78
              have hS80 := hS72.join hR79
              refine RW.run ttok 1 rfl ?_
              refine RW.nil ?_
              refine WP.ret ?_
              cases hm
              exact ⟨_, .cons (.tmp rfl) .nil, rfl, (hS80.taken 0)⟩
            · skip
              refine WP.block ?_
              refine WP.weak [(0, .pointer (some p0_)), (8, .slice A27 t21.length k28), (14, .int .i64 0)] ⟨rfl, rfl, rfl, trivial⟩ ?_
              refine WP.iter (fun (s66 : Int) F w9 => St w w9 [Own ty155 [.slice A45 (r34 ++ x1).length k46] (r34 ++ x1), Own ty103 [.slice A27 t21.length k28] t58] ∧ F = [(0, .pointer (some p0_)), (8, .slice A27 t21.length k28), (14, .int .i64 s66)]) _ hl71 ⟨hS63, rfl⟩ ?_
              rintro s66 F w85 _ o83 ⟨hS84, rfl⟩ hb81 ho82
              unfold m_spec_l21With_b4 at hb81
              refine WP.seq ?_
              refine WP.seq ?_
              refine WP.region ?_
              refine RW.run ttok 4 rfl ?_
              refine RW.load1 ttok rfl rfl rfl rfl rfl (At.ext (hE.trans hS84.ext) g0_) 0 rfl rfl rfl rfl ?_
              refine RW.run ttok 2 rfl ?_
              refine RW.nil ?_
              refine WP.cond (decide (s66 < (x0.Cells.length : Int))) rfl (fun hc => ?_) (fun hc => ?_)
              · skip
                rw [if_pos hc] at hb81
                refine WP.skip ?_
                refine WP.seq ?_
                refine WP.block ?_
                refine WP.seq ?_
                refine WP.region ?_
                refine RW.run ttok 3 rfl ?_
                refine RW.load1 ttok rfl rfl rfl rfl rfl (At.ext (hE.trans hS84.ext) g0_) 0 rfl rfl rfl rfl ?_
                refine RW.run ttok 1 rfl ?_
                obtain ⟨x86, hx87, hb81⟩ := bind_some hb81
                refine RW.idx ttok (hE.trans hS84.ext) rfl rfl rfl rfl rfl rfl (by decide) rfl rfl h3 (idx_some hx87).1 (idx_some hx87).2 rfl rfl (fun p88 es89 ha90 hr91 => ?_)
                obtain ⟨A92, k93, A95, k96, e98, h94, h97⟩ := ty157_open hr91; subst e98
                refine RW.run ttok 1 rfl ?_
                refine RW.nil ?_
                refine WP.seq ?_
                refine WP.seq ?_
                refine WP.cut (fun (t99 : Bool) F w9 => m_spec_l21With_j6 fuel x0 s66 x86 t99 = some o83 ∧ Ext w85 w9 ∧ St w w9 [Own ty155 [.slice A45 (r34 ++ x1).length k46] (r34 ++ x1), Own ty103 [.slice A27 t21.length k28] t58] ∧ F = [(0, .pointer (some p0_)), (8, .slice A27 t21.length k28), (14, .int .i64 s66), (15, .pointer (some p88)), (185, .bool t99)]) ?_ ?_
                · skip
                  rintro t99 F w102 ⟨hb81, hE100, hS101, rfl⟩
                  unfold m_spec_l21With_j6 at hb81
                  refine WP.cond t99 rfl (fun hc => ?_) (fun hc => ?_)
                  · skip
                    rw [if_pos hc] at hb81
                    refine WP.seq ?_
                    refine WP.region ?_
                    refine RW.run ttok 1 rfl ?_
                    refine RW.nil ?_
                    refine WP.ret ?_
                    cases hb81
                    cases ho82
                    have hm : some _ = some _ := hm
                    cases hm
                    exact ⟨_, .cons (.tmp rfl) .nil, rfl, (hS101.taken 0)⟩
                  · skip
                    rw [if_neg (not_t hc)] at hb81
                    refine WP.skip ?_
                    refine WP.seq ?_
                    refine WP.region ?_
                    refine RW.run ttok 3 rfl ?_
                    refine RW.load1 ttok rfl rfl rfl rfl rfl (At.ext (hE.trans hS101.ext) ha90) 0 rfl rfl rfl rfl ?_
                    refine RW.run ttok 1 rfl ?_
                    refine RW.nil ?_
                    refine WP.cut (fun (t104 : Unit) F w9 => m_spec_l21With_j7 fuel s66 t104 = some o83 ∧ St w w9 [Own ty155 [.slice A45 (r34 ++ x1).length k46] (r34 ++ x1), Own ty103 [.slice A27 t21.length k28] t58] ∧ F = [(0, .pointer (some p0_)), (8, .slice A27 t21.length k28), (14, .int .i64 s66)]) ?_ ?_
                    · skip
                      rintro t104 F w106 ⟨hb81, hS105, rfl⟩
                      unfold m_spec_l21With_j7 at hb81
                      refine WP.region ?_
                      refine RW.run ttok 3 rfl ?_
                      refine RW.nil ?_
                      cases hb81
                      exact ⟨_, [(0, .pointer (some p0_)), (8, .slice A27 t21.length k28), (14, .int .i64 (w64 (s66 + 1)))], ⟨rfl, rfl, rfl, trivial⟩, rfl, hS105, rfl⟩
                    · skip
                      refine WP.cond (x86.Kind == 13) rfl (fun hc => ?_) (fun hc => ?_)
                      · skip
                        rw [if_pos hc] at hb81
                        refine WP.seq ?_
                        refine WP.region ?_
                        refine RW.run ttok 2 rfl ?_
                        refine RW.quiet rfl (Quiet.build ttok rfl rfl rfl rfl rfl) rfl rfl ?_
                        obtain ⟨r108, hx109, hb81⟩ := bind_some hb81
                        refine RW.call rfl rfl rfl enters154 (spec_l21Resolve_ok (hE.trans hS101.ext) h0_ g0_ (ty77_shut (⟨2, s66⟩ : D.Word)) hx109) (fun v110 w111 hR112 => ?_)
                        obtain ⟨rfl, hR113⟩ := hR112
                        have hS114 := hS101.join hR113
                        refine RW.run ttok 3 rfl ?_
                        refine RW.new ttok hS114 rfl rfl rfl rfl (fun g115 w116 e117 hS118 => ?_)
                        have hS119 := hS118.bring 0 rfl
                        refine RW.store ttok (A := []) hS119 rfl rfl rfl rfl rfl 0 rfl rfl rfl rfl rfl (fun w120 hS121 => ?_)
                        refine RW.run ttok 1 rfl ?_
                        refine RW.nil ?_
                        refine WP.seq ?_
                        refine WP.region ?_
                        refine RW.run ttok 2 rfl ?_
                        refine RW.nil ?_
                        refine WP.cond (!r108.2) rfl (fun hc => ?_) (fun hc => ?_)
                        · skip
                          rw [if_pos hc] at hb81
                          refine WP.seq ?_
                          refine WP.region ?_
                          refine RW.run ttok 1 rfl ?_
                          refine RW.nil ?_
                          refine WP.ret ?_
                          cases hb81
                          cases ho82
                          have hm : some _ = some _ := hm
                          cases hm
                          exact ⟨_, .cons (.tmp rfl) .nil, rfl, (hS121.taken 0)⟩
                        · skip
                          rw [if_neg (not_t hc)] at hb81
                          refine WP.skip ?_
                          exact ⟨(), [(0, .pointer (some p0_)), (8, .slice A27 t21.length k28), (14, .int .i64 s66)], ⟨rfl, rfl, rfl, trivial⟩, hb81, (hS121.bring 0 rfl).drop, rfl⟩
                      · skip
                        rw [if_neg (not_t hc)] at hb81
                        refine WP.skip ?_
                        exact ⟨(), [(0, .pointer (some p0_)), (8, .slice A27 t21.length k28), (14, .int .i64 s66)], ⟨rfl, rfl, rfl, trivial⟩, hb81, hS101, rfl⟩
                · skip
                  refine WP.drawnM 0 mixed 29 (by kernel_rfl) (by kernel_rfl) [([], 536870911), ([0], 536870910), ([1, 1], 536870909), ([2], 536870907), ([2], 536870907), ([3, 4, 2], 536870883), ([5, 2], 536870875), ([6, 2], 536870843), ([2, 7], 536870779), ([8, 2], 536870655), ([9], 536870399), ([10, 9], 536869375), ([11, 9], 536868351), ([12, 9], 536866303), ([13, 9], 536862207), ([14, 9, 9], 536854015), ([15], 536838143), ([15], 536838143), ([16, 17, 15], 536641535), ([18, 15], 536575999), ([15], 536838143), ([20, 15], 535789567), ([21, 15], 534740991), ([22, 15], 532643839), ([23, 15], 528449535), ([24, 15], 520060927), ([19, 25, 15], 502759423), ([15, 26, 9], 469728767), ([9, 27], 402652671)] (by kernel_rfl) hS84.ext (fun hsk122 => ?_)
                  have hS123 := hS84.step (Ext.draw _)
                  refine DM.run (fuel := 28) ttok hsk122 [0] 1 (by kernel_rfl) (by kernel_rfl) rfl ?_
                  refine DM.weak [(0, .pointer (some p0_)), (8, .slice A27 t21.length k28), (14, .int .i64 s66), (15, .pointer (some p88)), (157, .pointer (some p88))] ⟨rfl, rfl, rfl, rfl, rfl, trivial⟩ ?_
                  obtain ⟨r124, hx125, hb81⟩ := bind_some hb81
                  refine DM.one hsk122 1 (by kernel_rfl) (LM.call hsk122 3 (by kernel_rfl) (by kernel_rfl) rfl rfl rfl rfl enters233 (spec_l21IsAgent_ok (hE.trans hS123.ext) hr91 ha90 hx125) (fun v126 w127 hR128 => ?_))
                  obtain ⟨rfl, hR129⟩ := hR128
                  refine ⟨hR129.ext, ?_⟩
                  have hS130 := hS123.join hR129
                  refine DM.run (fuel := 26) ttok hsk122 [2] 7 (by kernel_rfl) (by kernel_rfl) rfl ?_
                  by_cases hg131 : r124 = true
                  · skip
                    rw [if_pos hg131] at hb81
                    refine DM.know 159 rfl (congrArg Value.bool hg131) ?_
                    refine DM.run (fuel := 24) ttok hsk122 [3, 4] 31 (by kernel_rfl) (by kernel_rfl) rfl ?_
                    obtain ⟨x132, hx133, hb81⟩ := bind_some hb81
                    refine DM.idx ttok (Ext.refl _) hsk122 5 63 (by kernel_rfl) (by kernel_rfl) (by kernel_rfl) (by kernel_rfl) rfl (by kernel_rfl) rfl rfl rfl rfl rfl rfl (by decide) rfl rfl ((hS84.bring 1 rfl).own) (idx_some hx133).1 (idx_some hx133).2 rfl rfl (fun p134 es135 ha136 hr137 => ?_)
                    cases hr137
                    refine DM.load1 ttok hsk122 6 127 (by kernel_rfl) (by kernel_rfl) (by kernel_rfl) (by kernel_rfl) rfl (by kernel_rfl) rfl rfl rfl rfl rfl ha136 0 rfl rfl rfl rfl ?_
                    refine DM.run (fuel := 19) ttok hsk122 [7, 8, 9] 1023 (by kernel_rfl) (by kernel_rfl) rfl ?_
                    refine DM.weak [(0, .pointer (some p0_)), (8, .slice A27 t21.length k28), (14, .int .i64 s66), (15, .pointer (some p88)), (166, .bool (x132 != 1))] ⟨rfl, rfl, rfl, rfl, rfl, trivial⟩ ?_
                    by_cases hg138 : (x132 != 1) = true
                    · skip
                      rw [if_pos hg138] at hb81
                      refine DM.know 166 rfl (congrArg Value.bool hg138) ?_
                      refine DM.run (fuel := 0) ttok hsk122 [10, 11, 12, 13, 14, 15, 16, 17, 18, 19, 20, 21, 22, 23, 24, 25, 26, 27, 28] 536870911 (by kernel_rfl) (by kernel_rfl) rfl ?_
                      refine DM.weak [(0, .pointer (some p0_)), (8, .slice A27 t21.length k28), (14, .int .i64 s66), (15, .pointer (some p88)), (185, .bool true)] ⟨rfl, rfl, rfl, rfl, rfl, trivial⟩ ?_
                      refine DM.done hsk122 (by kernel_rfl) ?_
                      exact ⟨true, [(0, .pointer (some p0_)), (8, .slice A27 t21.length k28), (14, .int .i64 s66), (15, .pointer (some p88)), (185, .bool true)], ⟨rfl, rfl, rfl, rfl, rfl, trivial⟩, hb81, ((Ext.draw _).trans hR129.ext), hS130, rfl⟩
                    · skip
                      rw [if_neg hg138] at hb81
                      refine DM.know 166 rfl (congrArg Value.bool (Bool.eq_false_iff.2 hg138)) ?_
                      refine DM.run (fuel := 16) ttok hsk122 [10, 11, 12] 8191 (by kernel_rfl) (by kernel_rfl) rfl ?_
                      refine DM.load1 ttok hsk122 13 16383 (by kernel_rfl) (by kernel_rfl) (by kernel_rfl) (by kernel_rfl) rfl (by kernel_rfl) rfl rfl rfl rfl rfl (At.ext (hE.trans hS84.ext) ha90) 0 rfl rfl rfl rfl ?_
                      refine DM.run (fuel := 13) ttok hsk122 [14, 15] 65535 (by kernel_rfl) (by kernel_rfl) rfl ?_
                      by_cases hg139 : (x86.Kind == 13) = true
                      · skip
                        rw [if_pos hg139] at hb81
                        refine DM.know 172 rfl (congrArg Value.bool hg139) ?_
                        refine DM.run (fuel := 8) ttok hsk122 [16, 17, 20, 21, 22] 7602175 (by kernel_rfl) (by kernel_rfl) rfl ?_
                        refine DM.weak [(0, .pointer (some p0_)), (8, .slice A27 t21.length k28), (14, .int .i64 s66), (15, .pointer (some p88)), (166, .bool false), (172, .bool true), (173, .slice A27 t21.length k28), (174, .int .i64 s66), (179, .pointer (some (p88.add 4)))] ⟨rfl, rfl, rfl, rfl, rfl, rfl, rfl, rfl, rfl, trivial⟩ ?_
                        obtain ⟨x140, hx141, hb81⟩ := bind_some hb81
                        refine DM.idx ttok (Ext.refl _) hsk122 18 7864319 (by kernel_rfl) (by kernel_rfl) (by kernel_rfl) (by kernel_rfl) rfl (by kernel_rfl) rfl rfl rfl rfl rfl rfl (by decide) rfl rfl ((hS84.bring 1 rfl).own) (idx_some hx141).1 (idx_some hx141).2 rfl rfl (fun p142 es143 ha144 hr145 => ?_)
                        cases hr145
                        refine DM.load1 ttok hsk122 19 8388607 (by kernel_rfl) (by kernel_rfl) (by kernel_rfl) (by kernel_rfl) rfl (by kernel_rfl) rfl rfl rfl rfl rfl ha144 0 rfl rfl rfl rfl ?_
                        refine DM.load1 ttok hsk122 23 16777215 (by kernel_rfl) (by kernel_rfl) (by kernel_rfl) (by kernel_rfl) rfl (by kernel_rfl) rfl rfl rfl rfl rfl (At.ext (hE.trans hS84.ext) ha90) 4 rfl rfl rfl rfl ?_
                        refine DM.run (fuel := 0) ttok hsk122 [24, 25, 26, 27, 28] 536870911 (by kernel_rfl) (by kernel_rfl) rfl ?_
                        refine DM.weak [(0, .pointer (some p0_)), (8, .slice A27 t21.length k28), (14, .int .i64 s66), (15, .pointer (some p88)), (185, .bool (x140 != (w64 (2 - (x86.Words.length : Int)))))] ⟨rfl, rfl, rfl, rfl, rfl, trivial⟩ ?_
                        refine DM.done hsk122 (by kernel_rfl) ?_
                        exact ⟨(x140 != (w64 (2 - (x86.Words.length : Int)))), [(0, .pointer (some p0_)), (8, .slice A27 t21.length k28), (14, .int .i64 s66), (15, .pointer (some p88)), (185, .bool (x140 != (w64 (2 - (x86.Words.length : Int)))))], ⟨rfl, rfl, rfl, rfl, rfl, trivial⟩, hb81, ((Ext.draw _).trans hR129.ext), hS130, rfl⟩
                      · skip
                        rw [if_neg hg139] at hb81
                        refine DM.know 172 rfl (congrArg Value.bool (Bool.eq_false_iff.2 hg139)) ?_
                        refine DM.run (fuel := 0) ttok hsk122 [16, 17, 18, 19, 20, 21, 22, 23, 24, 25, 26, 27, 28] 536870911 (by kernel_rfl) (by kernel_rfl) rfl ?_
                        refine DM.weak [(0, .pointer (some p0_)), (8, .slice A27 t21.length k28), (14, .int .i64 s66), (15, .pointer (some p88)), (185, .bool false)] ⟨rfl, rfl, rfl, rfl, rfl, trivial⟩ ?_
                        refine DM.done hsk122 (by kernel_rfl) ?_
                        exact ⟨false, [(0, .pointer (some p0_)), (8, .slice A27 t21.length k28), (14, .int .i64 s66), (15, .pointer (some p88)), (185, .bool false)], ⟨rfl, rfl, rfl, rfl, rfl, trivial⟩, hb81, ((Ext.draw _).trans hR129.ext), hS130, rfl⟩
                  · skip
                    rw [if_neg hg131] at hb81
                    refine DM.know 159 rfl (congrArg Value.bool (Bool.eq_false_iff.2 hg131)) ?_
                    refine DM.run (fuel := 16) ttok hsk122 [3, 4, 5, 6, 7, 8, 9, 10, 11, 12] 8191 (by kernel_rfl) (by kernel_rfl) rfl ?_
                    refine DM.weak [(0, .pointer (some p0_)), (8, .slice A27 t21.length k28), (14, .int .i64 s66), (15, .pointer (some p88)), (166, .bool false), (169, .pointer (some p88))] ⟨rfl, rfl, rfl, rfl, rfl, rfl, trivial⟩ ?_
                    refine DM.load1 ttok hsk122 13 16383 (by kernel_rfl) (by kernel_rfl) (by kernel_rfl) (by kernel_rfl) rfl (by kernel_rfl) rfl rfl rfl rfl rfl (At.ext (hE.trans hS84.ext) ha90) 0 rfl rfl rfl rfl ?_
                    refine DM.run (fuel := 13) ttok hsk122 [14, 15] 65535 (by kernel_rfl) (by kernel_rfl) rfl ?_
                    by_cases hg146 : (x86.Kind == 13) = true
                    · skip
                      rw [if_pos hg146] at hb81
                      refine DM.know 172 rfl (congrArg Value.bool hg146) ?_
                      refine DM.run (fuel := 8) ttok hsk122 [16, 17, 20, 21, 22] 7602175 (by kernel_rfl) (by kernel_rfl) rfl ?_
                      obtain ⟨x147, hx148, hb81⟩ := bind_some hb81
                      refine DM.idx ttok (Ext.refl _) hsk122 18 7864319 (by kernel_rfl) (by kernel_rfl) (by kernel_rfl) (by kernel_rfl) rfl (by kernel_rfl) rfl rfl rfl rfl rfl rfl (by decide) rfl rfl ((hS84.bring 1 rfl).own) (idx_some hx148).1 (idx_some hx148).2 rfl rfl (fun p149 es150 ha151 hr152 => ?_)
                      cases hr152
                      refine DM.load1 ttok hsk122 19 8388607 (by kernel_rfl) (by kernel_rfl) (by kernel_rfl) (by kernel_rfl) rfl (by kernel_rfl) rfl rfl rfl rfl rfl ha151 0 rfl rfl rfl rfl ?_
                      refine DM.load1 ttok hsk122 23 16777215 (by kernel_rfl) (by kernel_rfl) (by kernel_rfl) (by kernel_rfl) rfl (by kernel_rfl) rfl rfl rfl rfl rfl (At.ext (hE.trans hS84.ext) ha90) 4 rfl rfl rfl rfl ?_
                      refine DM.run (fuel := 0) ttok hsk122 [24, 25, 26, 27, 28] 536870911 (by kernel_rfl) (by kernel_rfl) rfl ?_
                      refine DM.weak [(0, .pointer (some p0_)), (8, .slice A27 t21.length k28), (14, .int .i64 s66), (15, .pointer (some p88)), (185, .bool (x147 != (w64 (2 - (x86.Words.length : Int)))))] ⟨rfl, rfl, rfl, rfl, rfl, trivial⟩ ?_
                      refine DM.done hsk122 (by kernel_rfl) ?_
                      exact ⟨(x147 != (w64 (2 - (x86.Words.length : Int)))), [(0, .pointer (some p0_)), (8, .slice A27 t21.length k28), (14, .int .i64 s66), (15, .pointer (some p88)), (185, .bool (x147 != (w64 (2 - (x86.Words.length : Int)))))], ⟨rfl, rfl, rfl, rfl, rfl, trivial⟩, hb81, ((Ext.draw _).trans hR129.ext), hS130, rfl⟩
                    · skip
                      rw [if_neg hg146] at hb81
                      refine DM.know 172 rfl (congrArg Value.bool (Bool.eq_false_iff.2 hg146)) ?_
                      refine DM.run (fuel := 0) ttok hsk122 [16, 17, 18, 19, 20, 21, 22, 23, 24, 25, 26, 27, 28] 536870911 (by kernel_rfl) (by kernel_rfl) rfl ?_
                      refine DM.weak [(0, .pointer (some p0_)), (8, .slice A27 t21.length k28), (14, .int .i64 s66), (15, .pointer (some p88)), (185, .bool false)] ⟨rfl, rfl, rfl, rfl, rfl, trivial⟩ ?_
                      refine DM.done hsk122 (by kernel_rfl) ?_
                      exact ⟨false, [(0, .pointer (some p0_)), (8, .slice A27 t21.length k28), (14, .int .i64 s66), (15, .pointer (some p88)), (185, .bool false)], ⟨rfl, rfl, rfl, rfl, rfl, trivial⟩, hb81, ((Ext.draw _).trans hR129.ext), hS130, rfl⟩
              · skip
                rw [if_neg (not_t hc)] at hb81
                refine WP.exit ?_
                cases hb81
                exact ⟨_, [(0, .pointer (some p0_))], ⟨rfl, trivial⟩, ho82, hS84, rfl⟩
          · skip
            refine WP.block ?_
            refine WP.weak [(0, .pointer (some p0_)), (2, .slice A2_ x2.length k2_), (7, .int .i64 (x0.Cells.length : Int)), (8, .slice A27 t21.length k28), (12, .int .i64 0)] ⟨rfl, rfl, rfl, rfl, rfl, trivial⟩ ?_
            refine WP.iter (fun (s57 : Int × (List Int)) F w9 => St w w9 [Own ty155 [.slice A45 (r34 ++ x1).length k46] (r34 ++ x1), Own ty103 [.slice A27 t21.length k28] s57.2] ∧ F = [(0, .pointer (some p0_)), (2, .slice A2_ x2.length k2_), (7, .int .i64 (x0.Cells.length : Int)), (8, .slice A27 t21.length k28), (12, .int .i64 s57.1)]) _ hl62 ⟨hS55, rfl⟩ ?_
            rintro s57 F w157 _ o155 ⟨hS156, rfl⟩ hb153 ho154
            unfold m_spec_l21With_b3 at hb153
            refine WP.seq ?_
            refine WP.seq ?_
            refine WP.region ?_
            refine RW.run ttok 4 rfl ?_
            refine RW.nil ?_
            refine WP.cond (decide (s57.1 < (x2.length : Int))) rfl (fun hc => ?_) (fun hc => ?_)
            · skip
              rw [if_pos hc] at hb153
              refine WP.skip ?_
              refine WP.seq ?_
              refine WP.block ?_
              refine WP.seq ?_
              refine WP.region ?_
              refine RW.run ttok 2 rfl ?_
              obtain ⟨x158, hx159, hb153⟩ := bind_some hb153
              refine RW.idx ttok (hE.trans hS156.ext) rfl rfl rfl rfl rfl rfl (by decide) rfl rfl h2_ (idx_some hx159).1 (idx_some hx159).2 rfl rfl (fun p160 es161 ha162 hr163 => ?_)
              have e164 := ty139_open hr163; subst e164
              refine RW.loadN ttok rfl rfl rfl rfl rfl (At.ext (hE.trans hS156.ext) ha162) rfl rfl rfl ?_
              refine RW.new ttok hS156 rfl rfl rfl rfl (fun g165 w166 e167 hS168 => ?_)
              have hS169 := hS168.bring 0 rfl
              refine RW.store ttok (A := []) hS169 rfl rfl rfl rfl rfl 0 rfl rfl rfl rfl rfl (fun w170 hS171 => ?_)
              refine RW.nil ?_
              refine WP.seq ?_
              refine WP.seq ?_
              refine WP.cut (fun (t172 : Bool) F w9 => m_spec_l21With_j8 fuel s57 x158 t172 = some o155 ∧ Ext w170 w9 ∧ St w w9 [Box g165 [.int .i64 x158.A, .int .i64 x158.B] 139, Own ty155 [.slice A45 (r34 ++ x1).length k46] (r34 ++ x1), Own ty103 [.slice A27 t21.length k28] s57.2] ∧ F = [(0, .pointer (some p0_)), (2, .slice A2_ x2.length k2_), (7, .int .i64 (x0.Cells.length : Int)), (8, .slice A27 t21.length k28), (12, .int .i64 s57.1), (13, .pointer (some ⟨g165, 0, none⟩)), (127, .bool t172)]) ?_ ?_
              · skip
                rintro t172 F w175 ⟨hb153, hE173, hS174, rfl⟩
                unfold m_spec_l21With_j8 at hb153
                refine WP.cond t172 rfl (fun hc => ?_) (fun hc => ?_)
                · skip
                  rw [if_pos hc] at hb153
                  refine WP.seq ?_
                  refine WP.region ?_
                  refine RW.run ttok 1 rfl ?_
                  refine RW.nil ?_
                  refine WP.ret ?_
                  cases hb153
                  cases ho154
                  have hm : some _ = some _ := hm
                  cases hm
                  exact ⟨_, .cons (.tmp rfl) .nil, rfl, (hS174.taken 0)⟩
                · skip
                  rw [if_neg (not_t hc)] at hb153
                  refine WP.skip ?_
                  refine WP.seq ?_
                  refine WP.region ?_
                  refine RW.run ttok 2 rfl ?_
                  refine RW.load1 ttok rfl rfl rfl rfl rfl ((hS174.bring 0 rfl).box) 0 rfl rfl rfl rfl ?_
                  obtain ⟨x177, hx178, hb153⟩ := bind_some hb153
                  refine RW.idx ttok (Ext.refl _) rfl rfl rfl rfl rfl rfl (by decide) rfl rfl ((hS174.bring 2 rfl).own) (idx_some hx178).1 (idx_some hx178).2 rfl rfl (fun p179 es180 ha181 hr182 => ?_)
                  cases hr182
                  refine RW.load1 ttok rfl rfl rfl rfl rfl ha181 0 rfl rfl rfl rfl ?_
                  refine RW.run ttok 1 rfl ?_
                  have hS183 := hS174.bring 2 rfl
                  by_cases hk184 : decide (0 ≤ x158.A ∧ x158.A.toNat < s57.2.length) = true
                  case neg => rw [if_neg hk184] at hb153; cases hb153
                  rw [if_pos hk184] at hb153
                  have hb185 := of_decide_eq_true hk184
                  refine RW.idxOwnN ttok hS183 rfl rfl rfl rfl rfl rfl rfl rfl hb185.1 hb185.2 rfl rfl (fun q186 hq187 => ?_)
                  have hS188 := hS183.flat (T := tInt) (cs := [.int .i64 (w64 (x177 + 1))]) (x := (w64 (x177 + 1))) ⟨rfl, rfl⟩
                  have hS189 := hS188.bring 1 rfl
                  refine RW.storeElN ttok hS189 rfl rfl rfl rfl rfl rfl hb185.2 hq187 rfl rfl (fun w190 hS191 => ?_)
                  refine RW.nil ?_
                  refine WP.region ?_
                  refine RW.run ttok 2 rfl ?_
                  refine RW.load1 ttok rfl rfl rfl rfl rfl ((hS191.bring 1 rfl).box) 1 rfl rfl rfl rfl ?_
                  obtain ⟨x192, hx193, hb153⟩ := bind_some hb153
                  refine RW.idx ttok (Ext.refl _) rfl rfl rfl rfl rfl rfl (by decide) rfl rfl ((hS191.bring 0 rfl).own) (idx_some hx193).1 (idx_some hx193).2 rfl rfl (fun p194 es195 ha196 hr197 => ?_)
                  cases hr197
                  refine RW.load1 ttok rfl rfl rfl rfl rfl ha196 0 rfl rfl rfl rfl ?_
                  refine RW.run ttok 1 rfl ?_
                  have hS198 := hS191.bring 0 rfl
                  by_cases hk199 : decide (0 ≤ x158.B ∧ x158.B.toNat < (s57.2.set x158.A.toNat (w64 (x177 + 1))).length) = true
                  case neg => rw [if_neg hk199] at hb153; cases hb153
                  rw [if_pos hk199] at hb153
                  have hb200 := of_decide_eq_true hk199
                  refine RW.idxOwnN ttok hS198 rfl rfl rfl rfl rfl rfl rfl rfl hb200.1 hb200.2 rfl rfl (fun q201 hq202 => ?_)
                  have hS203 := hS198.flat (T := tInt) (cs := [.int .i64 (w64 (x192 + 1))]) (x := (w64 (x192 + 1))) ⟨rfl, rfl⟩
                  have hS204 := hS203.bring 1 rfl
                  refine RW.storeElN ttok hS204 rfl rfl rfl rfl rfl rfl hb200.2 hq202 rfl rfl (fun w205 hS206 => ?_)
                  refine RW.nil ?_
                  refine WP.region ?_
                  refine RW.run ttok 3 rfl ?_
                  refine RW.nil ?_
                  cases hb153
                  exact ⟨_, [(0, .pointer (some p0_)), (2, .slice A2_ x2.length k2_), (7, .int .i64 (x0.Cells.length : Int)), (8, .slice A27 t21.length k28), (12, .int .i64 (w64 (s57.1 + 1)))], ⟨rfl, rfl, rfl, rfl, rfl, trivial⟩, rfl, (((hS206.bring 0 rfl).bring 2 rfl).taken 2), rfl⟩
              · skip
                refine WP.drawnM 0 mixed 37 (by kernel_rfl) (by kernel_rfl) [([], 137438953471), ([0], 137438953470), ([], 137438953471), ([2], 137438953467), ([1, 3], 137438953461), ([4], 137438953455), ([5, 4], 137438953439), ([6], 137438953407), ([7, 6], 137438953279), ([6], 137438953407), ([9, 6], 137438952895), ([10, 6], 137438952383), ([8, 11, 6, 6], 137438951103), ([12, 6], 137438949311), ([6, 13], 137438945215), ([14, 12], 137438937087), ([15], 137438920703), ([16, 15], 137438855167), ([17, 15], 137438789631), ([18, 15], 137438658559), ([15], 137438920703), ([20, 15], 137437872127), ([19, 21, 15], 137436299263), ([22, 15, 15], 137434726399), ([23, 15], 137430532095), ([15, 24], 137422143487), ([25, 23], 137405399039), ([26], 137371844607), ([27, 26], 137237626879), ([28, 26], 137103409151), ([29, 26], 136834973695), ([26], 137371844607), ([31, 26], 135224360959), ([30, 32, 26], 132003135487), ([33, 26, 26], 128781910015), ([34, 26], 120191975423), ([26, 35], 103012106239)] (by kernel_rfl) hS171.ext (fun hsk207 => ?_)
                have hS208 := hS171.step (Ext.draw _)
                refine DM.run (fuel := 34) ttok hsk207 [0, 2, 3] 13 (by kernel_rfl) (by kernel_rfl) rfl ?_
                refine DM.weak [(0, .pointer (some p0_)), (2, .slice A2_ x2.length k2_), (7, .int .i64 (x0.Cells.length : Int)), (8, .slice A27 t21.length k28), (12, .int .i64 s57.1), (13, .pointer (some ⟨g165, 0, none⟩)), (91, .pointer (some ⟨g165, 1, none⟩)), (94, .int .i64 (w64 ((x0.Cells.length : Int) - 1)))] ⟨rfl, rfl, rfl, rfl, rfl, rfl, rfl, rfl, trivial⟩ ?_
                refine DM.load1 ttok hsk207 1 15 (by kernel_rfl) (by kernel_rfl) (by kernel_rfl) (by kernel_rfl) rfl (by kernel_rfl) rfl rfl rfl rfl rfl ((hS171.bring 0 rfl).box) 1 rfl rfl rfl rfl ?_
                obtain ⟨r209, hx210, hb153⟩ := bind_some hb153
                refine DM.one hsk207 4 (by kernel_rfl) (LM.call hsk207 31 (by kernel_rfl) (by kernel_rfl) rfl rfl rfl rfl enters102 (spec_l00In_ok (hE.trans hS208.ext)  hx210) (fun v211 w212 hR213 => ?_))
                obtain ⟨rfl, hR214⟩ := hR213
                refine ⟨hR214.ext, ?_⟩
                have hS215 := hS208.join hR214
                refine DM.run (fuel := 30) ttok hsk207 [5, 6] 127 (by kernel_rfl) (by kernel_rfl) rfl ?_
                by_cases hg216 : (!r209) = true
                · skip
                  rw [if_pos hg216] at hb153
                  refine DM.know 97 rfl (congrArg Value.bool hg216) ?_
                  refine DM.run (fuel := 0) ttok hsk207 [7, 8, 9, 10, 11, 12, 13, 14, 15, 16, 17, 18, 19, 20, 21, 22, 23, 24, 25, 26, 27, 28, 29, 30, 31, 32, 33, 34, 35, 36] 137438953471 (by kernel_rfl) (by kernel_rfl) rfl ?_
                  refine DM.weak [(0, .pointer (some p0_)), (2, .slice A2_ x2.length k2_), (7, .int .i64 (x0.Cells.length : Int)), (8, .slice A27 t21.length k28), (12, .int .i64 s57.1), (13, .pointer (some ⟨g165, 0, none⟩)), (127, .bool true)] ⟨rfl, rfl, rfl, rfl, rfl, rfl, rfl, trivial⟩ ?_
                  refine DM.done hsk207 (by kernel_rfl) ?_
                  exact ⟨true, [(0, .pointer (some p0_)), (2, .slice A2_ x2.length k2_), (7, .int .i64 (x0.Cells.length : Int)), (8, .slice A27 t21.length k28), (12, .int .i64 s57.1), (13, .pointer (some ⟨g165, 0, none⟩)), (127, .bool true)], ⟨rfl, rfl, rfl, rfl, rfl, rfl, rfl, trivial⟩, hb153, ((Ext.draw _).trans hR214.ext), hS215, rfl⟩
                · skip
                  rw [if_neg hg216] at hb153
                  refine DM.know 97 rfl (congrArg Value.bool (Bool.eq_false_iff.2 hg216)) ?_
                  refine DM.run (fuel := 28) ttok hsk207 [7, 9] 767 (by kernel_rfl) (by kernel_rfl) rfl ?_
                  refine DM.load1 ttok hsk207 8 1023 (by kernel_rfl) (by kernel_rfl) (by kernel_rfl) (by kernel_rfl) rfl (by kernel_rfl) rfl rfl rfl rfl rfl ((hS171.bring 0 rfl).box) 0 rfl rfl rfl rfl ?_
                  refine DM.load1 ttok hsk207 10 2047 (by kernel_rfl) (by kernel_rfl) (by kernel_rfl) (by kernel_rfl) rfl (by kernel_rfl) rfl rfl rfl rfl rfl ((hS171.bring 0 rfl).box) 1 rfl rfl rfl rfl ?_
                  refine DM.run (fuel := 25) ttok hsk207 [11] 4095 (by kernel_rfl) (by kernel_rfl) rfl ?_
                  refine DM.weak [(0, .pointer (some p0_)), (2, .slice A2_ x2.length k2_), (7, .int .i64 (x0.Cells.length : Int)), (8, .slice A27 t21.length k28), (12, .int .i64 s57.1), (13, .pointer (some ⟨g165, 0, none⟩)), (97, .bool false), (99, .int .i64 x158.A), (102, .int .i64 (w64 (x158.B - 1)))] ⟨rfl, rfl, rfl, rfl, rfl, rfl, rfl, rfl, rfl, trivial⟩ ?_
                  obtain ⟨r217, hx218, hb153⟩ := bind_some hb153
                  refine DM.one hsk207 12 (by kernel_rfl) (LM.call hsk207 8191 (by kernel_rfl) (by kernel_rfl) rfl rfl rfl rfl enters102 (spec_l00In_ok (hE.trans hS215.ext)  hx218) (fun v219 w220 hR221 => ?_))
                  obtain ⟨rfl, hR222⟩ := hR221
                  refine ⟨hR222.ext, ?_⟩
                  have hS223 := hS215.join hR222
                  refine DM.run (fuel := 21) ttok hsk207 [13, 14, 15] 65535 (by kernel_rfl) (by kernel_rfl) rfl ?_
                  refine DM.weak [(0, .pointer (some p0_)), (2, .slice A2_ x2.length k2_), (7, .int .i64 (x0.Cells.length : Int)), (8, .slice A27 t21.length k28), (12, .int .i64 s57.1), (13, .pointer (some ⟨g165, 0, none⟩)), (106, .bool (!r217))] ⟨rfl, rfl, rfl, rfl, rfl, rfl, rfl, trivial⟩ ?_
                  by_cases hg224 : (!r217) = true
                  · skip
                    rw [if_pos hg224] at hb153
                    refine DM.know 106 rfl (congrArg Value.bool hg224) ?_
                    refine DM.run (fuel := 0) ttok hsk207 [16, 17, 18, 19, 20, 21, 22, 23, 24, 25, 26, 27, 28, 29, 30, 31, 32, 33, 34, 35, 36] 137438953471 (by kernel_rfl) (by kernel_rfl) rfl ?_
                    refine DM.weak [(0, .pointer (some p0_)), (2, .slice A2_ x2.length k2_), (7, .int .i64 (x0.Cells.length : Int)), (8, .slice A27 t21.length k28), (12, .int .i64 s57.1), (13, .pointer (some ⟨g165, 0, none⟩)), (127, .bool true)] ⟨rfl, rfl, rfl, rfl, rfl, rfl, rfl, trivial⟩ ?_
                    refine DM.done hsk207 (by kernel_rfl) ?_
                    exact ⟨true, [(0, .pointer (some p0_)), (2, .slice A2_ x2.length k2_), (7, .int .i64 (x0.Cells.length : Int)), (8, .slice A27 t21.length k28), (12, .int .i64 s57.1), (13, .pointer (some ⟨g165, 0, none⟩)), (127, .bool true)], ⟨rfl, rfl, rfl, rfl, rfl, rfl, rfl, trivial⟩, hb153, (((Ext.draw _).trans hR214.ext).trans hR222.ext), hS223, rfl⟩
                  · skip
                    rw [if_neg hg224] at hb153
                    refine DM.know 106 rfl (congrArg Value.bool (Bool.eq_false_iff.2 hg224)) ?_
                    refine DM.run (fuel := 17) ttok hsk207 [16, 17, 18, 20] 1572863 (by kernel_rfl) (by kernel_rfl) rfl ?_
                    refine DM.load1 ttok hsk207 19 2097151 (by kernel_rfl) (by kernel_rfl) (by kernel_rfl) (by kernel_rfl) rfl (by kernel_rfl) rfl rfl rfl rfl rfl (At.ext (hE.trans hS171.ext) g0_) 0 rfl rfl rfl rfl ?_
                    refine DM.load1 ttok hsk207 21 4194303 (by kernel_rfl) (by kernel_rfl) (by kernel_rfl) (by kernel_rfl) rfl (by kernel_rfl) rfl rfl rfl rfl rfl ((hS171.bring 0 rfl).box) 0 rfl rfl rfl rfl ?_
                    obtain ⟨x225, hx226, hb153⟩ := bind_some hb153
                    refine DM.idx ttok (hE.trans hS171.ext) hsk207 22 8388607 (by kernel_rfl) (by kernel_rfl) (by kernel_rfl) (by kernel_rfl) rfl (by kernel_rfl) rfl rfl rfl rfl rfl rfl (by decide) rfl rfl h3 (idx_some hx226).1 (idx_some hx226).2 rfl rfl (fun p227 es228 ha229 hr230 => ?_)
                    obtain ⟨A231, k232, A234, k235, e237, h233, h236⟩ := ty157_open hr230; subst e237
                    obtain ⟨r238, hx239, hb153⟩ := bind_some hb153
                    refine DM.one hsk207 23 (by kernel_rfl) (LM.call hsk207 16777215 (by kernel_rfl) (by kernel_rfl) rfl rfl rfl rfl enters233 (spec_l21IsAgent_ok (hE.trans hS223.ext) hr230 ha229 hx239) (fun v240 w241 hR242 => ?_))
                    obtain ⟨rfl, hR243⟩ := hR242
                    refine ⟨hR243.ext, ?_⟩
                    have hS244 := hS223.join hR243
                    refine DM.run (fuel := 10) ttok hsk207 [24, 25, 26] 134217727 (by kernel_rfl) (by kernel_rfl) rfl ?_
                    refine DM.weak [(0, .pointer (some p0_)), (2, .slice A2_ x2.length k2_), (7, .int .i64 (x0.Cells.length : Int)), (8, .slice A27 t21.length k28), (12, .int .i64 s57.1), (13, .pointer (some ⟨g165, 0, none⟩)), (117, .bool (!r238))] ⟨rfl, rfl, rfl, rfl, rfl, rfl, rfl, trivial⟩ ?_
                    by_cases hg245 : (!r238) = true
                    · skip
                      rw [if_pos hg245] at hb153
                      refine DM.know 117 rfl (congrArg Value.bool hg245) ?_
                      refine DM.run (fuel := 0) ttok hsk207 [27, 28, 29, 30, 31, 32, 33, 34, 35, 36] 137438953471 (by kernel_rfl) (by kernel_rfl) rfl ?_
                      refine DM.weak [(0, .pointer (some p0_)), (2, .slice A2_ x2.length k2_), (7, .int .i64 (x0.Cells.length : Int)), (8, .slice A27 t21.length k28), (12, .int .i64 s57.1), (13, .pointer (some ⟨g165, 0, none⟩)), (127, .bool true)] ⟨rfl, rfl, rfl, rfl, rfl, rfl, rfl, trivial⟩ ?_
                      refine DM.done hsk207 (by kernel_rfl) ?_
                      exact ⟨true, [(0, .pointer (some p0_)), (2, .slice A2_ x2.length k2_), (7, .int .i64 (x0.Cells.length : Int)), (8, .slice A27 t21.length k28), (12, .int .i64 s57.1), (13, .pointer (some ⟨g165, 0, none⟩)), (127, .bool true)], ⟨rfl, rfl, rfl, rfl, rfl, rfl, rfl, trivial⟩, hb153, ((((Ext.draw _).trans hR214.ext).trans hR222.ext).trans hR243.ext), hS244, rfl⟩
                    · skip
                      rw [if_neg hg245] at hb153
                      refine DM.know 117 rfl (congrArg Value.bool (Bool.eq_false_iff.2 hg245)) ?_
                      refine DM.run (fuel := 6) ttok hsk207 [27, 28, 29, 31] 3221225471 (by kernel_rfl) (by kernel_rfl) rfl ?_
                      refine DM.load1 ttok hsk207 30 4294967295 (by kernel_rfl) (by kernel_rfl) (by kernel_rfl) (by kernel_rfl) rfl (by kernel_rfl) rfl rfl rfl rfl rfl (At.ext (hE.trans hS171.ext) g0_) 0 rfl rfl rfl rfl ?_
                      refine DM.load1 ttok hsk207 32 8589934591 (by kernel_rfl) (by kernel_rfl) (by kernel_rfl) (by kernel_rfl) rfl (by kernel_rfl) rfl rfl rfl rfl rfl ((hS171.bring 0 rfl).box) 1 rfl rfl rfl rfl ?_
                      obtain ⟨x246, hx247, hb153⟩ := bind_some hb153
                      refine DM.idx ttok (hE.trans hS171.ext) hsk207 33 17179869183 (by kernel_rfl) (by kernel_rfl) (by kernel_rfl) (by kernel_rfl) rfl (by kernel_rfl) rfl rfl rfl rfl rfl rfl (by decide) rfl rfl h3 (idx_some hx247).1 (idx_some hx247).2 rfl rfl (fun p248 es249 ha250 hr251 => ?_)
                      obtain ⟨A252, k253, A255, k256, e258, h254, h257⟩ := ty157_open hr251; subst e258
                      obtain ⟨r259, hx260, hb153⟩ := bind_some hb153
                      refine DM.one hsk207 34 (by kernel_rfl) (LM.call hsk207 34359738367 (by kernel_rfl) (by kernel_rfl) rfl rfl rfl rfl enters233 (spec_l21IsAgent_ok (hE.trans hS244.ext) hr251 ha250 hx260) (fun v261 w262 hR263 => ?_))
                      obtain ⟨rfl, hR264⟩ := hR263
                      refine ⟨hR264.ext, ?_⟩
                      have hS265 := hS244.join hR264
                      refine DM.run (fuel := 0) ttok hsk207 [35, 36] 137438953471 (by kernel_rfl) (by kernel_rfl) rfl ?_
                      refine DM.weak [(0, .pointer (some p0_)), (2, .slice A2_ x2.length k2_), (7, .int .i64 (x0.Cells.length : Int)), (8, .slice A27 t21.length k28), (12, .int .i64 s57.1), (13, .pointer (some ⟨g165, 0, none⟩)), (127, .bool (!r259))] ⟨rfl, rfl, rfl, rfl, rfl, rfl, rfl, trivial⟩ ?_
                      refine DM.done hsk207 (by kernel_rfl) ?_
                      exact ⟨!r259, [(0, .pointer (some p0_)), (2, .slice A2_ x2.length k2_), (7, .int .i64 (x0.Cells.length : Int)), (8, .slice A27 t21.length k28), (12, .int .i64 s57.1), (13, .pointer (some ⟨g165, 0, none⟩)), (127, .bool (!r259))], ⟨rfl, rfl, rfl, rfl, rfl, rfl, rfl, trivial⟩, hb153, (((((Ext.draw _).trans hR214.ext).trans hR222.ext).trans hR243.ext).trans hR264.ext), hS265, rfl⟩
            · skip
              rw [if_neg (not_t hc)] at hb153
              refine WP.exit ?_
              cases hb153
              exact ⟨_, [(0, .pointer (some p0_)), (8, .slice A27 t21.length k28)], ⟨rfl, rfl, trivial⟩, ho154, hS156, rfl⟩
        · skip
          refine WP.block ?_
          refine WP.weak [(0, .pointer (some p0_)), (2, .slice A2_ x2.length k2_), (7, .int .i64 (x0.Cells.length : Int)), (8, .slice A27 t21.length k28), (10, .slice A45 (r34 ++ x1).length k46), (11, .int .i64 0)] ⟨rfl, rfl, rfl, rfl, rfl, rfl, trivial⟩ ?_
          refine WP.iter (fun (s49 : Int × (List Int)) F w9 => St w w9 [Own ty155 [.slice A45 (r34 ++ x1).length k46] (r34 ++ x1), Own ty103 [.slice A27 t21.length k28] s49.2] ∧ F = [(0, .pointer (some p0_)), (2, .slice A2_ x2.length k2_), (7, .int .i64 (x0.Cells.length : Int)), (8, .slice A27 t21.length k28), (10, .slice A45 (r34 ++ x1).length k46), (11, .int .i64 s49.1)]) _ hl54 ⟨hS48, rfl⟩ ?_
          rintro s49 F w270 _ o268 ⟨hS269, rfl⟩ hb266 ho267
          unfold m_spec_l21With_b2 at hb266
          refine WP.seq ?_
          refine WP.seq ?_
          refine WP.region ?_
          refine RW.run ttok 4 rfl ?_
          refine RW.nil ?_
          refine WP.cond (decide (s49.1 < ((r34 ++ x1).length : Int))) rfl (fun hc => ?_) (fun hc => ?_)
          · skip
            rw [if_pos hc] at hb266
            refine WP.skip ?_
            refine WP.seq ?_
            refine WP.block ?_
            refine WP.seq ?_
            refine WP.seq ?_
            refine WP.region ?_
            refine RW.run ttok 3 rfl ?_
            obtain ⟨x271, hx272, hb266⟩ := bind_some hb266
            refine RW.idx ttok (Ext.refl _) rfl rfl rfl rfl rfl rfl (by decide) rfl rfl ((hS269.bring 0 rfl).own) (idx_some hx272).1 (idx_some hx272).2 rfl rfl (fun p273 es274 ha275 hr276 => ?_)
            have e277 := ty77_open hr276; subst e277
            refine RW.loadN ttok rfl rfl rfl rfl rfl ha275 rfl rfl rfl ?_
            obtain ⟨r278, hx279, hb266⟩ := bind_some hb266
            refine RW.call rfl rfl rfl enters232 (spec_l21Word_ok (hE.trans hS269.ext) h0_ g0_ (ty77_shut x271) hx279) (fun v280 w281 hR282 => ?_)
            obtain ⟨rfl, hR283⟩ := hR282
            have hS284 := hS269.join hR283
            refine RW.run ttok 1 rfl ?_
            refine RW.nil ?_
            refine WP.cond (!r278) rfl (fun hc => ?_) (fun hc => ?_)
            · skip
              rw [if_pos hc] at hb266
              refine WP.seq ?_
              refine WP.region ?_
              refine RW.run ttok 1 rfl ?_
              refine RW.nil ?_
              refine WP.ret ?_
              cases hb266
              cases ho267
              have hm : some _ = some _ := hm
              cases hm
              exact ⟨_, .cons (.tmp rfl) .nil, rfl, (hS284.taken 0)⟩
            · skip
              rw [if_neg (not_t hc)] at hb266
              refine WP.skip ?_
              refine WP.region ?_
              refine RW.run ttok 3 rfl ?_
              obtain ⟨x285, hx286, hb266⟩ := bind_some hb266
              refine RW.idx ttok (Ext.refl _) rfl rfl rfl rfl rfl rfl (by decide) rfl rfl ((hS284.bring 0 rfl).own) (idx_some hx286).1 (idx_some hx286).2 rfl rfl (fun p287 es288 ha289 hr290 => ?_)
              have e291 := ty77_open hr290; subst e291
              refine RW.run ttok 1 rfl ?_
              refine RW.load1 ttok rfl rfl rfl rfl rfl ha289 1 rfl rfl rfl rfl ?_
              obtain ⟨x292, hx293, hb266⟩ := bind_some hb266
              refine RW.idx ttok (Ext.refl _) rfl rfl rfl rfl rfl rfl (by decide) rfl rfl ((hS284.bring 1 rfl).own) (idx_some hx293).1 (idx_some hx293).2 rfl rfl (fun p294 es295 ha296 hr297 => ?_)
              cases hr297
              refine RW.load1 ttok rfl rfl rfl rfl rfl ha296 0 rfl rfl rfl rfl ?_
              refine RW.run ttok 1 rfl ?_
              have hS298 := hS284.bring 1 rfl
              by_cases hk299 : decide (0 ≤ x285.At ∧ x285.At.toNat < s49.2.length) = true
              case neg => rw [if_neg hk299] at hb266; cases hb266
              rw [if_pos hk299] at hb266
              have hb300 := of_decide_eq_true hk299
              refine RW.idxOwnN ttok hS298 rfl rfl rfl rfl rfl rfl rfl rfl hb300.1 hb300.2 rfl rfl (fun q301 hq302 => ?_)
              have hS303 := hS298.flat (T := tInt) (cs := [.int .i64 (w64 (x292 + 1))]) (x := (w64 (x292 + 1))) ⟨rfl, rfl⟩
              have hS304 := hS303.bring 1 rfl
              refine RW.storeElN ttok hS304 rfl rfl rfl rfl rfl rfl hb300.2 hq302 rfl rfl (fun w305 hS306 => ?_)
              refine RW.nil ?_
              refine WP.region ?_
              refine RW.run ttok 3 rfl ?_
              refine RW.nil ?_
              cases hb266
              exact ⟨_, [(0, .pointer (some p0_)), (2, .slice A2_ x2.length k2_), (7, .int .i64 (x0.Cells.length : Int)), (8, .slice A27 t21.length k28), (10, .slice A45 (r34 ++ x1).length k46), (11, .int .i64 (w64 (s49.1 + 1)))], ⟨rfl, rfl, rfl, rfl, rfl, rfl, trivial⟩, rfl, ((hS306.bring 0 rfl).bring 1 rfl), rfl⟩
          · skip
            rw [if_neg (not_t hc)] at hb266
            refine WP.exit ?_
            cases hb266
            exact ⟨_, [(0, .pointer (some p0_)), (2, .slice A2_ x2.length k2_), (7, .int .i64 (x0.Cells.length : Int)), (8, .slice A27 t21.length k28)], ⟨rfl, rfl, rfl, rfl, trivial⟩, ho267, hS269, rfl⟩
      · skip
        refine WP.block ?_
        refine WP.weak [(0, .pointer (some p0_)), (1, .slice A1_ x1.length k1_), (2, .slice A2_ x2.length k2_), (7, .int .i64 (x0.Cells.length : Int)), (8, .slice A15 ([] : (List Int)).length k16), (9, .int .i64 0)] ⟨rfl, rfl, rfl, rfl, rfl, rfl, trivial⟩ ?_
        refine WP.iter (fun (s20 : Int × (List Int)) F w9 => ∃ A25 k26, St w w9 [Own ty103 [.slice A25 s20.2.length k26] s20.2] ∧ F = [(0, .pointer (some p0_)), (1, .slice A1_ x1.length k1_), (2, .slice A2_ x2.length k2_), (7, .int .i64 (x0.Cells.length : Int)), (8, .slice A25 s20.2.length k26), (9, .int .i64 s20.1)]) _ hl31 ⟨A15, k16, hS19, rfl⟩ ?_
        rintro s20 F w311 _ o309 ⟨A25, k26, hS310, rfl⟩ hb307 ho308
        unfold m_spec_l21With_b1 at hb307
        refine WP.seq ?_
        refine WP.seq ?_
        refine WP.region ?_
        refine RW.run ttok 4 rfl ?_
        refine RW.load1 ttok rfl rfl rfl rfl rfl (At.ext (hE.trans hS310.ext) g0_) 0 rfl rfl rfl rfl ?_
        refine RW.run ttok 2 rfl ?_
        refine RW.nil ?_
        refine WP.cond (decide (s20.1 < (x0.Cells.length : Int))) rfl (fun hc => ?_) (fun hc => ?_)
        · skip
          rw [if_pos hc] at hb307
          refine WP.skip ?_
          refine WP.seq ?_
          refine WP.block ?_
          refine WP.seq ?_
          refine WP.seq ?_
          refine WP.region ?_
          refine RW.run ttok 3 rfl ?_
          refine RW.load1 ttok rfl rfl rfl rfl rfl (At.ext (hE.trans hS310.ext) g0_) 0 rfl rfl rfl rfl ?_
          refine RW.run ttok 1 rfl ?_
          obtain ⟨x312, hx313, hb307⟩ := bind_some hb307
          refine RW.idx ttok (hE.trans hS310.ext) rfl rfl rfl rfl rfl rfl (by decide) rfl rfl h3 (idx_some hx313).1 (idx_some hx313).2 rfl rfl (fun p314 es315 ha316 hr317 => ?_)
          obtain ⟨A318, k319, A321, k322, e324, h320, h323⟩ := ty157_open hr317; subst e324
          refine RW.run ttok 1 rfl ?_
          obtain ⟨r325, hx326, hb307⟩ := bind_some hb307
          refine RW.call rfl rfl rfl enters230 (spec_l21Cell_ok (hE.trans hS310.ext) hr317 ha316 hx326) (fun v327 w328 hR329 => ?_)
          obtain ⟨rfl, hR330⟩ := hR329
          have hS331 := hS310.join hR330
          refine RW.run ttok 1 rfl ?_
          refine RW.nil ?_
          refine WP.cond (!r325) rfl (fun hc => ?_) (fun hc => ?_)
          · skip
            rw [if_pos hc] at hb307
            refine WP.seq ?_
            refine WP.region ?_
            refine RW.run ttok 1 rfl ?_
            refine RW.nil ?_
            refine WP.ret ?_
            cases hb307
            cases ho308
            have hm : some _ = some _ := hm
            cases hm
            exact ⟨_, .cons (.tmp rfl) .nil, rfl, (hS331.taken 0)⟩
          · skip
            rw [if_neg (not_t hc)] at hb307
            refine WP.skip ?_
            refine WP.region ?_
            refine RW.run ttok 1 rfl ?_
            refine RW.newSlice (U := tInt) (els := [.int .i64 0]) (ys := [0]) ttok (hS331.flatEls (U := tInt) (els := [.int .i64 0]) (ys := [0]) ⟨[.int .i64 0], _, [], [], rfl, rfl, ⟨rfl, rfl⟩, ⟨rfl, rfl⟩⟩) rfl rfl rfl rfl rfl rfl rfl rfl rfl rfl rfl rfl (fun A332 k333 w334 e335 hS336 => ?_)
            have hS337 := hS336.bring 1 rfl
            by_cases hk338 : decide ((s20.2.length : Int) + (([0] : (List Int)).length : Int) ≤ 4294967296) = true
            case neg => rw [if_neg hk338] at hb307; cases hb307
            rw [if_pos hk338] at hb307
            refine RW.appendRo ttok Flat.int hS337 rfl rfl rfl rfl rfl rfl (by decide) rfl rfl ((hS337.bring 1 rfl).own) (of_decide_eq_true hk338) (by decide) rfl rfl (fun A339 k340 w341 hS342 => ?_)
            refine RW.run ttok 1 rfl ?_
            refine RW.nil ?_
            refine WP.region ?_
            refine RW.run ttok 3 rfl ?_
            refine RW.nil ?_
            cases hb307
            exact ⟨_, [(0, .pointer (some p0_)), (1, .slice A1_ x1.length k1_), (2, .slice A2_ x2.length k2_), (7, .int .i64 (x0.Cells.length : Int)), (8, .slice A339 (s20.2 ++ ([0] : (List Int))).length k340), (9, .int .i64 (w64 (s20.1 + 1)))], ⟨rfl, rfl, rfl, rfl, rfl, rfl, trivial⟩, rfl, A339, k340, (hS342.taken 1), rfl⟩
        · skip
          rw [if_neg (not_t hc)] at hb307
          refine WP.exit ?_
          cases hb307
          exact ⟨_, [(0, .pointer (some p0_)), (1, .slice A1_ x1.length k1_), (2, .slice A2_ x2.length k2_), (7, .int .i64 (x0.Cells.length : Int)), (8, .slice A25 s20.2.length k26)], ⟨rfl, rfl, rfl, rfl, rfl, trivial⟩, A25, k26, ho308, hS310, rfl⟩
  · skip
    refine WP.region ?_
    refine RW.run ttok 1 rfl ?_
    obtain ⟨r343, hx344, hm⟩ := bind_some hm
    refine RW.call rfl rfl rfl enters102 (spec_l00In_ok (hE.trans hS.ext)  hx344) (fun v345 w346 hR347 => ?_)
    obtain ⟨rfl, hR348⟩ := hR347
    have hS349 := hS.join hR348
    refine RW.run ttok 2 rfl ?_
    by_cases hg350 : (!r343) = true
    · skip
      rw [if_pos hg350] at hm
      refine RW.know 26 rfl (congrArg Value.bool hg350) ?_
      refine RW.run ttok 5 rfl ?_
      refine RW.nil ?_
      exact ⟨true, [(0, .pointer (some p0_)), (1, .slice A1_ x1.length k1_), (2, .slice A2_ x2.length k2_), (7, .int .i64 (x0.Cells.length : Int)), (31, .bool true)], ⟨rfl, rfl, rfl, rfl, rfl, trivial⟩, hm, hR348.ext, hS349, rfl⟩
    · skip
      rw [if_neg hg350] at hm
      refine RW.know 26 rfl (congrArg Value.bool (Bool.eq_false_iff.2 hg350)) ?_
      refine RW.run ttok 5 rfl ?_
      refine RW.nil ?_
      exact ⟨decide ((x2.length : Int) > (x0.Cells.length : Int)), [(0, .pointer (some p0_)), (1, .slice A1_ x1.length k1_), (2, .slice A2_ x2.length k2_), (7, .int .i64 (x0.Cells.length : Int)), (31, .bool (decide ((x2.length : Int) > (x0.Cells.length : Int))))], ⟨rfl, rfl, rfl, rfl, rfl, trivial⟩, hm, hR348.ext, hS349, rfl⟩

theorem enters91 : Enters Try.prog 91 := ⟨_, _, Try.func91, rfl, by kernel_rfl⟩
def m_spec_l21Ok (fuel : Nat) (x0 : D.Memory) : Option (Bool) := ((m_spec_l21With fuel x0 ([] : (List D.Word)) x0.Redexes).bind fun r10 => some r10)

set_option maxRecDepth 100000 in
theorem spec_l21Ok_ok {W w : World} (hE : Ext W w) {p0_ : Addr} {c0_ : List Value} {x0 : D.Memory} (h0_ : ty80.ro W c0_ x0) (g0_ : At W p0_ c0_) {fuel : Nat} {r : Bool} (hm : m_spec_l21Ok fuel x0 = some r) :
    Calls Try.prog 91 ⟨[.pointer (some p0_)]⟩ w (Ret fun v w8 => v = .bool r ∧ St w w8 []) := by
  obtain ⟨A1, k2, A4, k5, e7, h3, h6⟩ := ty80_open h0_; subst e7
  refine Calls.into Try.func91 rfl 9 rfl rfl _ rfl ?_
  unfold m_spec_l21Ok at hm
  have hS := St.start w
  refine WP.seq ?_
  refine WP.region ?_
  refine RW.run ttok 1 rfl ?_
  refine RW.nil ?_
  refine WP.seq ?_
  refine WP.region ?_
  refine RW.run ttok 4 rfl ?_
  refine RW.load1 ttok rfl rfl rfl rfl rfl (At.ext (hE.trans hS.ext) g0_) 4 rfl rfl rfl rfl ?_
  obtain ⟨r10, hx11, hm⟩ := bind_some hm
  refine RW.call rfl rfl rfl enters152 (spec_l21With_ok (hE.trans hS.ext) h0_ g0_ (show ty155.ro _ [.slice none ([] : (List D.Word)).length 0] [] from slNil ty77 77 _) h6 hx11) (fun v12 w13 hR14 => ?_)
  obtain ⟨rfl, hR15⟩ := hR14
  have hS16 := hS.join hR15
  refine RW.run ttok 1 rfl ?_
  refine RW.nil ?_
  refine WP.ret ?_
  cases hm
  exact ⟨_, .cons (.tmp rfl) .nil, rfl, hS16⟩

theorem enters258 : Enters Try.prog 258 := ⟨_, _, Try.func258, rfl, by kernel_rfl⟩
def m_slices_IndexFunc_impl_Cell_impl_Cell_j1 (fuel : Nat) (t2 : Unit) : Option Int := some (-1)
def m_slices_IndexFunc_impl_Cell_impl_Cell_b1 (fuel : Nat) (x0 : (List D.Cell)) (x1 : D.Cell → Option Bool) (s1 : Int) : Option (Rd (Int) (Unit) (Int)) := (if (decide (s1 < (x0.length : Int))) = true then ((idx x0 s1).bind fun x19 => ((x1 x19).bind fun r32 => (if r32 = true then some (.ret s1) else some (.next (w64 (s1 + 1)))))) else some (.brk ()))
def m_slices_IndexFunc_impl_Cell_impl_Cell (fuel : Nat) (x0 : (List D.Cell)) (x1 : D.Cell → Option Bool) : Option (Int) := ((iter (m_slices_IndexFunc_impl_Cell_impl_Cell_b1 fuel x0 x1) fuel 0).bind fun o => aft o (m_slices_IndexFunc_impl_Cell_impl_Cell_j1 fuel))

set_option maxRecDepth 100000 in
theorem slices_IndexFunc_impl_Cell_impl_Cell_ok {W w : World} (hE : Ext W w) {A0_ : Option Addr} {k0_ : Nat} {x0 : (List D.Cell)} {f1_ : Nat} {u1_ : List Value} {x1 : D.Cell → Option Bool} (h0_ : ty76.ro W [.slice A0_ x0.length k0_] x0) (h1_ : Enters Try.prog f1_ ∧ ∀ {w9 : World}, Ext W w9 → ∀ {cz0 : List Value} {z0 : D.Cell} {y9 : Bool}, ty157.ro w9 cz0 z0 → x1 z0 = some y9 → Calls Try.prog f1_ ⟨[.agg ⟨cz0⟩] ++ u1_⟩ w9 (Ret fun v w8 => v = .bool y9 ∧ St w9 w8 [])) {fuel : Nat} {r : Int} (hm : m_slices_IndexFunc_impl_Cell_impl_Cell fuel x0 x1 = some r) :
    Calls Try.prog 258 ⟨[.slice A0_ x0.length k0_, .func (.func f1_) #[] ⟨u1_⟩]⟩ w (Ret fun v w8 => v = .int .i64 r ∧ St w w8 []) := by
  refine Calls.into Try.func258 rfl 19 rfl rfl _ rfl ?_
  unfold m_slices_IndexFunc_impl_Cell_impl_Cell at hm
  have hS := St.start w
  refine WP.seq ?_
  refine WP.region ?_
  refine RW.run ttok 1 rfl ?_
  refine RW.nil ?_
  refine WP.seq ?_
  refine WP.seq ?_
  refine WP.region ?_
  refine RW.run ttok 3 rfl ?_
  refine RW.nil ?_
  obtain ⟨o10, hl11, hm⟩ := bind_some hm
  refine WP.cut (fun (t2 : Unit) F w9 => o10 = .inl t2 ∧ Ext w w9 ∧ St w w9 [] ∧ F = []) ?_ ?_
  · skip
    rintro t2 F w7 ⟨ho13, hE6, hS12, rfl⟩
    subst ho13
    rw [aft_inl] at hm
    unfold m_slices_IndexFunc_impl_Cell_impl_Cell_j1 at hm
    refine WP.seq ?_
    refine WP.region ?_
    refine RW.run ttok 1 rfl ?_
    refine RW.nil ?_
    refine WP.ret ?_
    cases hm
    exact ⟨_, .cons (.tmp rfl) .nil, rfl, hS12⟩
  · skip
    refine WP.block ?_
    refine WP.weak [(0, .slice A0_ x0.length k0_), (1, .func (.func f1_) #[] ⟨u1_⟩), (7, .int .i64 (x0.length : Int)), (8, .int .i64 0)] ⟨rfl, rfl, rfl, rfl, trivial⟩ ?_
    refine WP.iter (fun (s1 : Int) F w9 => Ext w w9 ∧ St w w9 [] ∧ F = [(0, .slice A0_ x0.length k0_), (1, .func (.func f1_) #[] ⟨u1_⟩), (7, .int .i64 (x0.length : Int)), (8, .int .i64 s1)]) _ hl11 ⟨(Ext.refl _), hS, rfl⟩ ?_
    rintro s1 F w18 _ o16 ⟨hE5, hS17, rfl⟩ hb14 ho15
    unfold m_slices_IndexFunc_impl_Cell_impl_Cell_b1 at hb14
    refine WP.seq ?_
    refine WP.region ?_
    refine RW.run ttok 1 rfl ?_
    refine RW.nil ?_
    refine WP.seq ?_
    refine WP.cond (decide (s1 < (x0.length : Int))) rfl (fun hc => ?_) (fun hc => ?_)
    · skip
      rw [if_pos hc] at hb14
      refine WP.skip ?_
      refine WP.seq ?_
      refine WP.block ?_
      refine WP.seq ?_
      refine WP.region ?_
      refine RW.run ttok 2 rfl ?_
      refine RW.nil ?_
      refine WP.seq ?_
      refine WP.region ?_
      refine RW.run ttok 3 rfl ?_
      obtain ⟨x19, hx20, hb14⟩ := bind_some hb14
      refine RW.idx ttok (hE.trans hS17.ext) rfl rfl rfl rfl rfl rfl (by decide) rfl rfl h0_ (idx_some hx20).1 (idx_some hx20).2 rfl rfl (fun p21 es22 ha23 hr24 => ?_)
      obtain ⟨A25, k26, A28, k29, e31, h27, h30⟩ := ty157_open hr24; subst e31
      refine RW.loadN ttok rfl rfl rfl rfl rfl (At.ext (hE.trans hS17.ext) ha23) rfl rfl rfl ?_
      obtain ⟨r32, hx33, hb14⟩ := bind_some hb14
      refine RW.call rfl rfl rfl h1_.1 (h1_.2 (hE.trans hS17.ext) (ty157.ext (hE.trans hS17.ext) hr24) hx33) (fun v34 w35 hR36 => ?_)
      obtain ⟨rfl, hR37⟩ := hR36
      have hS38 := hS17.join hR37
      refine RW.nil ?_
      refine WP.cond r32 rfl (fun hc => ?_) (fun hc => ?_)
      · skip
        rw [if_pos hc] at hb14
        refine WP.seq ?_
        refine WP.region ?_
        refine RW.run ttok 2 rfl ?_
        refine RW.nil ?_
        refine WP.ret ?_
        cases hb14
        cases ho15
        have hm : some _ = some _ := hm
        cases hm
        exact ⟨_, .cons (.tmp rfl) .nil, rfl, hS38⟩
      · skip
        rw [if_neg (not_t hc)] at hb14
        refine WP.skip ?_
        refine WP.region ?_
        refine RW.run ttok 2 rfl ?_
        refine RW.nil ?_
        cases hb14
        exact ⟨_, [(0, .slice A0_ x0.length k0_), (1, .func (.func f1_) #[] ⟨u1_⟩), (7, .int .i64 (x0.length : Int)), (8, .int .i64 (w64 (s1 + 1)))], ⟨rfl, rfl, rfl, rfl, trivial⟩, rfl, (hE5.trans hR37.ext), hS38, rfl⟩
    · skip
      rw [if_neg (not_t hc)] at hb14
      refine WP.exit ?_
      cases hb14
      exact ⟨_, [], trivial, ho15, hE5, hS17, rfl⟩

theorem enters215 : Enters Try.prog 215 := ⟨_, _, Try.func215, rfl, by kernel_rfl⟩
def m_slices_ContainsFunc_impl_Cell_impl_Cell (fuel : Nat) (x0 : (List D.Cell)) (x1 : D.Cell → Option Bool) : Option (Bool) := ((m_slices_IndexFunc_impl_Cell_impl_Cell fuel x0 x1).bind fun r1 => some (decide (r1 ≥ 0)))

set_option maxRecDepth 100000 in
theorem slices_ContainsFunc_impl_Cell_impl_Cell_ok {W w : World} (hE : Ext W w) {A0_ : Option Addr} {k0_ : Nat} {x0 : (List D.Cell)} {f1_ : Nat} {u1_ : List Value} {x1 : D.Cell → Option Bool} (h0_ : ty76.ro W [.slice A0_ x0.length k0_] x0) (h1_ : Enters Try.prog f1_ ∧ ∀ {w9 : World}, Ext W w9 → ∀ {cz0 : List Value} {z0 : D.Cell} {y9 : Bool}, ty157.ro w9 cz0 z0 → x1 z0 = some y9 → Calls Try.prog f1_ ⟨[.agg ⟨cz0⟩] ++ u1_⟩ w9 (Ret fun v w8 => v = .bool y9 ∧ St w9 w8 [])) {fuel : Nat} {r : Bool} (hm : m_slices_ContainsFunc_impl_Cell_impl_Cell fuel x0 x1 = some r) :
    Calls Try.prog 215 ⟨[.slice A0_ x0.length k0_, .func (.func f1_) #[] ⟨u1_⟩]⟩ w (Ret fun v w8 => v = .bool r ∧ St w w8 []) := by
  refine Calls.into Try.func215 rfl 9 rfl rfl _ rfl ?_
  unfold m_slices_ContainsFunc_impl_Cell_impl_Cell at hm
  have hS := St.start w
  refine WP.seq ?_
  refine WP.region ?_
  refine RW.run ttok 1 rfl ?_
  refine RW.nil ?_
  refine WP.seq ?_
  refine WP.region ?_
  refine RW.run ttok 2 rfl ?_
  obtain ⟨r1, hx2, hm⟩ := bind_some hm
  refine RW.call rfl rfl rfl enters258 (slices_IndexFunc_impl_Cell_impl_Cell_ok (hE.trans hS.ext) h0_ h1_ hx2) (fun v3 w4 hR5 => ?_)
  obtain ⟨rfl, hR6⟩ := hR5
  have hS7 := hS.join hR6
  refine RW.run ttok 2 rfl ?_
  refine RW.nil ?_
  refine WP.ret ?_
  cases hm
  exact ⟨_, .cons (.tmp rfl) .nil, rfl, hS7⟩

theorem enters95 : Enters Try.prog 95 := ⟨_, _, Try.func95, rfl, by kernel_rfl⟩
def m_impl_Cell_isAgentCell (fuel : Nat) (x0 : D.Cell) : Option (Bool) := (if (decide (x0.Kind ≥ 2)) = true then some (decide (x0.Kind ≤ 12)) else some false)

set_option maxRecDepth 100000 in
theorem impl_Cell_isAgentCell_ok {W w : World} (hE : Ext W w) {c0_ : List Value} {x0 : D.Cell} (h0_ : ty157.ro W c0_ x0) {fuel : Nat} {r : Bool} (hm : m_impl_Cell_isAgentCell fuel x0 = some r) :
    Calls Try.prog 95 ⟨[.agg ⟨c0_⟩]⟩ w (Ret fun v w8 => v = .bool r ∧ St w w8 []) := by
  obtain ⟨A1, k2, A4, k5, e7, h3, h6⟩ := ty157_open h0_; subst e7
  refine Calls.into Try.func95 rfl 11 rfl rfl _ rfl ?_
  unfold m_impl_Cell_isAgentCell at hm
  have hS := St.start w
  refine WP.seq ?_
  refine WP.region ?_
  refine RW.new ttok hS rfl rfl rfl rfl (fun g10 w11 e12 hS13 => ?_)
  refine RW.run ttok 1 rfl ?_
  refine RW.nil ?_
  refine WP.seq ?_
  refine WP.region ?_
  refine RW.run ttok 1 rfl ?_
  refine RW.load1 ttok rfl rfl rfl rfl rfl ((hS13.bring 0 rfl).box) 0 rfl rfl rfl rfl ?_
  refine RW.run ttok 2 rfl ?_
  by_cases hg14 : (decide (x0.Kind ≥ 2)) = true
  · skip
    rw [if_pos hg14] at hm
    refine RW.know 6 rfl (congrArg Value.bool hg14) ?_
    refine RW.run ttok 1 rfl ?_
    refine RW.load1 ttok rfl rfl rfl rfl rfl ((hS13.bring 0 rfl).box) 0 rfl rfl rfl rfl ?_
    refine RW.run ttok 3 rfl ?_
    refine RW.nil ?_
    refine WP.ret ?_
    cases hm
    exact ⟨_, .cons (.tmp rfl) .nil, rfl, (hS13.taken 0)⟩
  · skip
    rw [if_neg hg14] at hm
    refine RW.know 6 rfl (congrArg Value.bool (Bool.eq_false_iff.2 hg14)) ?_
    refine RW.run ttok 5 rfl ?_
    refine RW.nil ?_
    refine WP.ret ?_
    cases hm
    exact ⟨_, .cons (.tmp rfl) .nil, rfl, (hS13.taken 0)⟩

theorem enters96 : Enters Try.prog 96 := ⟨_, _, Try.func96, rfl, by kernel_rfl⟩
def m_impl_Cell_isVariable (fuel : Nat) (x0 : D.Cell) : Option (Bool) := some (x0.Kind == 13)

set_option maxRecDepth 100000 in
theorem impl_Cell_isVariable_ok {W w : World} (hE : Ext W w) {c0_ : List Value} {x0 : D.Cell} (h0_ : ty157.ro W c0_ x0) {fuel : Nat} {r : Bool} (hm : m_impl_Cell_isVariable fuel x0 = some r) :
    Calls Try.prog 96 ⟨[.agg ⟨c0_⟩]⟩ w (Ret fun v w8 => v = .bool r ∧ St w w8 []) := by
  obtain ⟨A1, k2, A4, k5, e7, h3, h6⟩ := ty157_open h0_; subst e7
  refine Calls.into Try.func96 rfl 6 rfl rfl _ rfl ?_
  unfold m_impl_Cell_isVariable at hm
  have hS := St.start w
  refine WP.seq ?_
  refine WP.region ?_
  refine RW.new ttok hS rfl rfl rfl rfl (fun g10 w11 e12 hS13 => ?_)
  refine RW.run ttok 1 rfl ?_
  refine RW.nil ?_
  refine WP.seq ?_
  refine WP.region ?_
  refine RW.run ttok 1 rfl ?_
  refine RW.load1 ttok rfl rfl rfl rfl rfl ((hS13.bring 0 rfl).box) 0 rfl rfl rfl rfl ?_
  refine RW.run ttok 2 rfl ?_
  refine RW.nil ?_
  refine WP.ret ?_
  cases hm
  exact ⟨_, .cons (.tmp rfl) .nil, rfl, (hS13.taken 0)⟩

theorem enters259 : Enters Try.prog 259 := ⟨_, _, Try.func259, rfl, by kernel_rfl⟩
def m_impl_Cell_isFree (fuel : Nat) (x0 : D.Cell) : Option (Bool) := some (x0.Kind == 0)

set_option maxRecDepth 100000 in
theorem impl_Cell_isFree_ok {W w : World} (hE : Ext W w) {c0_ : List Value} {x0 : D.Cell} (h0_ : ty157.ro W c0_ x0) {fuel : Nat} {r : Bool} (hm : m_impl_Cell_isFree fuel x0 = some r) :
    Calls Try.prog 259 ⟨[.agg ⟨c0_⟩]⟩ w (Ret fun v w8 => v = .bool r ∧ St w w8 []) := by
  obtain ⟨A1, k2, A4, k5, e7, h3, h6⟩ := ty157_open h0_; subst e7
  refine Calls.into Try.func259 rfl 6 rfl rfl _ rfl ?_
  unfold m_impl_Cell_isFree at hm
  have hS := St.start w
  refine WP.seq ?_
  refine WP.region ?_
  refine RW.new ttok hS rfl rfl rfl rfl (fun g10 w11 e12 hS13 => ?_)
  refine RW.run ttok 1 rfl ?_
  refine RW.nil ?_
  refine WP.seq ?_
  refine WP.region ?_
  refine RW.run ttok 1 rfl ?_
  refine RW.load1 ttok rfl rfl rfl rfl rfl ((hS13.bring 0 rfl).box) 0 rfl rfl rfl rfl ?_
  refine RW.run ttok 2 rfl ?_
  refine RW.nil ?_
  refine WP.ret ?_
  cases hm
  exact ⟨_, .cons (.tmp rfl) .nil, rfl, (hS13.taken 0)⟩

theorem enters217 : Enters Try.prog 217 := ⟨_, _, Try.func217, rfl, by kernel_rfl⟩
def m_impl_validCell (fuel : Nat) (x0 : D.Cell) : Option (Bool) := ((m_impl_Cell_isAgentCell fuel x0).bind fun r14 => (if r14 = true then (if decide (0 ≤ (w64 ((x0.Words.length : Int) + 1)) ∧ (w64 ((x0.Words.length : Int) + 1)) ≤ 4294967296) = true then ((m_impl_wellFormed fuel (⟨x0.Kind, x0.Level, x0.Value, x0.Data, (List.replicate (w64 ((x0.Words.length : Int) + 1)).toNat (⟨(0 : Int), (0 : Int)⟩ : D.Port))⟩ : D.Agent)).bind fun r30 => some r30) else none) else ((m_impl_Cell_isVariable fuel x0).bind fun r37 => (if r37 = true then (if (x0.Level == 0) = true then (if (x0.Value == 0) = true then (if ((x0.Data.length : Int) == 0) = true then some (decide ((x0.Words.length : Int) ≤ 1)) else some false) else some false) else some false) else ((m_impl_Cell_isFree fuel x0).bind fun r47 => (if r47 = true then (if (x0.Level == 0) = true then (if ((x0.Data.length : Int) == 0) = true then some ((x0.Words.length : Int) == 0) else some false) else some false) else some false))))))

set_option maxRecDepth 100000 in
theorem impl_validCell_ok {W w : World} (hE : Ext W w) {c0_ : List Value} {x0 : D.Cell} (h0_ : ty157.ro W c0_ x0) {fuel : Nat} {r : Bool} (hm : m_impl_validCell fuel x0 = some r) :
    Calls Try.prog 217 ⟨[.agg ⟨c0_⟩]⟩ w (Ret fun v w8 => v = .bool r ∧ St w w8 []) := by
  obtain ⟨A1, k2, A4, k5, e7, h3, h6⟩ := ty157_open h0_; subst e7
  refine Calls.into Try.func217 rfl 63 rfl rfl _ rfl ?_
  unfold m_impl_validCell at hm
  have hS := St.start w
  refine WP.seq ?_
  refine WP.region ?_
  refine RW.new ttok hS rfl rfl rfl rfl (fun g10 w11 e12 hS13 => ?_)
  refine RW.run ttok 1 rfl ?_
  refine RW.nil ?_
  refine WP.seq ?_
  refine WP.block ?_
  refine WP.seq ?_
  refine WP.region ?_
  refine RW.loadN ttok rfl rfl rfl rfl rfl ((hS13.bring 0 rfl).box) rfl rfl rfl ?_
  obtain ⟨r14, hx15, hm⟩ := bind_some hm
  refine RW.call rfl rfl rfl enters95 (impl_Cell_isAgentCell_ok (hE.trans hS13.ext) h0_ hx15) (fun v16 w17 hR18 => ?_)
  obtain ⟨rfl, hR19⟩ := hR18
  have hS20 := hS13.join hR19
  refine RW.run ttok 1 rfl ?_
  refine RW.nil ?_
  refine WP.cond r14 rfl (fun hc => ?_) (fun hc => ?_)
  · skip
    rw [if_pos hc] at hm
    refine WP.seq ?_
    refine WP.drawnM 0 mixed 16 (by kernel_rfl) (by kernel_rfl) [([], 65535), ([0], 65534), ([], 65535), ([2], 65531), ([], 65535), ([4], 65519), ([], 65535), ([6], 65471), ([], 65535), ([8], 65279), ([9], 65023), ([10], 64511), ([11, 11], 63487), ([1, 3, 5, 7, 12], 61269), ([13], 57343), ([14, 14, 0, 1, 2, 3, 4, 5, 6, 7, 8, 9, 10, 11, 12, 13, 14], 49151)] (by kernel_rfl) hS20.ext (fun hsk21 => ?_)
    have hS22 := hS20.step (Ext.draw _)
    refine DM.run (fuel := 11) ttok hsk21 [0, 2, 4, 6, 8] 341 (by kernel_rfl) (by kernel_rfl) rfl ?_
    refine DM.load1 ttok hsk21 1 343 (by kernel_rfl) (by kernel_rfl) (by kernel_rfl) (by kernel_rfl) rfl (by kernel_rfl) rfl rfl rfl rfl rfl ((hS20.bring 0 rfl).box) 0 rfl rfl rfl rfl ?_
    refine DM.load1 ttok hsk21 3 351 (by kernel_rfl) (by kernel_rfl) (by kernel_rfl) (by kernel_rfl) rfl (by kernel_rfl) rfl rfl rfl rfl rfl ((hS20.bring 0 rfl).box) 1 rfl rfl rfl rfl ?_
    refine DM.load1 ttok hsk21 5 383 (by kernel_rfl) (by kernel_rfl) (by kernel_rfl) (by kernel_rfl) rfl (by kernel_rfl) rfl rfl rfl rfl rfl ((hS20.bring 0 rfl).box) 2 rfl rfl rfl rfl ?_
    refine DM.load1 ttok hsk21 7 511 (by kernel_rfl) (by kernel_rfl) (by kernel_rfl) (by kernel_rfl) rfl (by kernel_rfl) rfl rfl rfl rfl rfl ((hS20.bring 0 rfl).box) 3 rfl rfl rfl rfl ?_
    refine DM.load1 ttok hsk21 9 1023 (by kernel_rfl) (by kernel_rfl) (by kernel_rfl) (by kernel_rfl) rfl (by kernel_rfl) rfl rfl rfl rfl rfl ((hS20.bring 0 rfl).box) 4 rfl rfl rfl rfl ?_
    refine DM.run (fuel := 4) ttok hsk21 [10, 11] 4095 (by kernel_rfl) (by kernel_rfl) rfl ?_
    refine DM.weak [(2, .bool false), (7, .int .i64 x0.Kind), (9, .int .i64 x0.Level), (11, .int .i64 x0.Value), (13, .slice A1 x0.Data.length k2), (17, .int .i64 (w64 ((x0.Words.length : Int) + 1)))] ⟨rfl, rfl, rfl, rfl, rfl, rfl, trivial⟩ ?_
    by_cases hk23 : decide (0 ≤ (w64 ((x0.Words.length : Int) + 1)) ∧ (w64 ((x0.Words.length : Int) + 1)) ≤ 4294967296) = true
    case neg => rw [if_neg hk23] at hm; cases hm
    rw [if_pos hk23] at hm
    have hz29 := of_decide_eq_true hk23
    refine DM.one hsk21 12 (by kernel_rfl) (LM.make (U := ty38) ttok (⟨(0 : Int), (0 : Int)⟩ : D.Port) hS22 hsk21 8191 (by kernel_rfl) (by kernel_rfl) rfl rfl rfl rfl rfl rfl rfl rfl rfl hz29.1 (by have := hz29.2; show _ * (16 : Int) ≤ _; omega) (by have := hz29.2; simp only [maxLen]; omega) (fun _ => (ty38_ownI (c := (⟨(0 : Int), (0 : Int)⟩ : D.Port)) rfl)) rfl rfl (fun A24 k25 w26 e27 hS28 => ?_))
    refine DM.quietP hsk21 13 16383 (by kernel_rfl) (by kernel_rfl) rfl (by kernel_rfl) rfl (fun _ => Quiet.build ttok rfl rfl rfl rfl rfl) rfl rfl ?_
    obtain ⟨r30, hx31, hm⟩ := bind_some hm
    refine DM.one hsk21 14 (by kernel_rfl) (LM.call hsk21 32767 (by kernel_rfl) (by kernel_rfl) rfl rfl rfl rfl enters125 (impl_wellFormed_ok (Ext.refl _) (ty112_shut (⟨x0.Kind, x0.Level, x0.Value, x0.Data, (List.replicate (w64 ((x0.Words.length : Int) + 1)).toNat (⟨(0 : Int), (0 : Int)⟩ : D.Port))⟩ : D.Agent) (ty103.ext (hE.trans hS28.ext) h3) ((hS28.bring 0 rfl).own)) hx31) (fun v32 w33 hR34 => ?_))
    obtain ⟨rfl, hR35⟩ := hR34
    refine ⟨hR35.ext, ?_⟩
    have hS36 := hS28.join hR35
    refine DM.run (fuel := 0) ttok hsk21 [15] 65535 (by kernel_rfl) (by kernel_rfl) rfl ?_
    refine DM.weak [(2, .bool r30)] ⟨rfl, trivial⟩ ?_
    refine DM.done hsk21 (by kernel_rfl) ?_
    refine WP.ret ?_
    cases hm
    exact ⟨_, .cons (.tmp rfl) .nil, rfl, (hS36.taken 0)⟩
  · skip
    rw [if_neg (not_t hc)] at hm
    refine WP.seq ?_
    refine WP.region ?_
    refine RW.loadN ttok rfl rfl rfl rfl rfl ((hS20.bring 0 rfl).box) rfl rfl rfl ?_
    obtain ⟨r37, hx38, hm⟩ := bind_some hm
    refine RW.call rfl rfl rfl enters96 (impl_Cell_isVariable_ok (hE.trans hS20.ext) h0_ hx38) (fun v39 w40 hR41 => ?_)
    obtain ⟨rfl, hR42⟩ := hR41
    have hS43 := hS20.join hR42
    refine RW.run ttok 1 rfl ?_
    refine RW.nil ?_
    refine WP.cond r37 rfl (fun hc => ?_) (fun hc => ?_)
    · skip
      rw [if_pos hc] at hm
      refine WP.seq ?_
      refine WP.region ?_
      refine RW.run ttok 1 rfl ?_
      refine RW.load1 ttok rfl rfl rfl rfl rfl ((hS43.bring 0 rfl).box) 1 rfl rfl rfl rfl ?_
      refine RW.run ttok 2 rfl ?_
      by_cases hg44 : (x0.Level == 0) = true
      · skip
        rw [if_pos hg44] at hm
        refine RW.know 27 rfl (congrArg Value.bool hg44) ?_
        refine RW.run ttok 1 rfl ?_
        refine RW.load1 ttok rfl rfl rfl rfl rfl ((hS43.bring 0 rfl).box) 2 rfl rfl rfl rfl ?_
        refine RW.run ttok 3 rfl ?_
        by_cases hg45 : (x0.Value == 0) = true
        · skip
          rw [if_pos hg45] at hm
          refine RW.know 32 rfl (congrArg Value.bool hg45) ?_
          refine RW.run ttok 1 rfl ?_
          refine RW.load1 ttok rfl rfl rfl rfl rfl ((hS43.bring 0 rfl).box) 3 rfl rfl rfl rfl ?_
          refine RW.run ttok 4 rfl ?_
          by_cases hg46 : ((x0.Data.length : Int) == 0) = true
          · skip
            rw [if_pos hg46] at hm
            refine RW.know 38 rfl (congrArg Value.bool hg46) ?_
            refine RW.run ttok 1 rfl ?_
            refine RW.load1 ttok rfl rfl rfl rfl rfl ((hS43.bring 0 rfl).box) 4 rfl rfl rfl rfl ?_
            refine RW.run ttok 4 rfl ?_
            refine RW.nil ?_
            refine WP.ret ?_
            cases hm
            exact ⟨_, .cons (.tmp rfl) .nil, rfl, (hS43.taken 0)⟩
          · skip
            rw [if_neg hg46] at hm
            refine RW.know 38 rfl (congrArg Value.bool (Bool.eq_false_iff.2 hg46)) ?_
            refine RW.run ttok 6 rfl ?_
            refine RW.nil ?_
            refine WP.ret ?_
            cases hm
            exact ⟨_, .cons (.tmp rfl) .nil, rfl, (hS43.taken 0)⟩
        · skip
          rw [if_neg hg45] at hm
          refine RW.know 32 rfl (congrArg Value.bool (Bool.eq_false_iff.2 hg45)) ?_
          refine RW.run ttok 12 rfl ?_
          refine RW.nil ?_
          refine WP.ret ?_
          cases hm
          exact ⟨_, .cons (.tmp rfl) .nil, rfl, (hS43.taken 0)⟩
      · skip
        rw [if_neg hg44] at hm
        refine RW.know 27 rfl (congrArg Value.bool (Bool.eq_false_iff.2 hg44)) ?_
        refine RW.run ttok 17 rfl ?_
        refine RW.nil ?_
        refine WP.ret ?_
        cases hm
        exact ⟨_, .cons (.tmp rfl) .nil, rfl, (hS43.taken 0)⟩
    · skip
      rw [if_neg (not_t hc)] at hm
      refine WP.skip ?_
      refine WP.seq ?_
      refine WP.region ?_
      refine RW.loadN ttok rfl rfl rfl rfl rfl ((hS43.bring 0 rfl).box) rfl rfl rfl ?_
      obtain ⟨r47, hx48, hm⟩ := bind_some hm
      refine RW.call rfl rfl rfl enters259 (impl_Cell_isFree_ok (hE.trans hS43.ext) h0_ hx48) (fun v49 w50 hR51 => ?_)
      obtain ⟨rfl, hR52⟩ := hR51
      have hS53 := hS43.join hR52
      refine RW.run ttok 1 rfl ?_
      by_cases hg54 : r47 = true
      · skip
        rw [if_pos hg54] at hm
        refine RW.know 46 rfl (congrArg Value.bool hg54) ?_
        refine RW.run ttok 1 rfl ?_
        refine RW.load1 ttok rfl rfl rfl rfl rfl ((hS53.bring 0 rfl).box) 1 rfl rfl rfl rfl ?_
        refine RW.run ttok 3 rfl ?_
        by_cases hg55 : (x0.Level == 0) = true
        · skip
          rw [if_pos hg55] at hm
          refine RW.know 51 rfl (congrArg Value.bool hg55) ?_
          refine RW.run ttok 1 rfl ?_
          refine RW.load1 ttok rfl rfl rfl rfl rfl ((hS53.bring 0 rfl).box) 3 rfl rfl rfl rfl ?_
          refine RW.run ttok 4 rfl ?_
          by_cases hg56 : ((x0.Data.length : Int) == 0) = true
          · skip
            rw [if_pos hg56] at hm
            refine RW.know 57 rfl (congrArg Value.bool hg56) ?_
            refine RW.run ttok 1 rfl ?_
            refine RW.load1 ttok rfl rfl rfl rfl rfl ((hS53.bring 0 rfl).box) 4 rfl rfl rfl rfl ?_
            refine RW.run ttok 4 rfl ?_
            refine RW.nil ?_
            refine WP.ret ?_
            cases hm
            exact ⟨_, .cons (.tmp rfl) .nil, rfl, (hS53.taken 0)⟩
          · skip
            rw [if_neg hg56] at hm
            refine RW.know 57 rfl (congrArg Value.bool (Bool.eq_false_iff.2 hg56)) ?_
            refine RW.run ttok 6 rfl ?_
            refine RW.nil ?_
            refine WP.ret ?_
            cases hm
            exact ⟨_, .cons (.tmp rfl) .nil, rfl, (hS53.taken 0)⟩
        · skip
          rw [if_neg hg55] at hm
          refine RW.know 51 rfl (congrArg Value.bool (Bool.eq_false_iff.2 hg55)) ?_
          refine RW.run ttok 12 rfl ?_
          refine RW.nil ?_
          refine WP.ret ?_
          cases hm
          exact ⟨_, .cons (.tmp rfl) .nil, rfl, (hS53.taken 0)⟩
      · skip
        rw [if_neg hg54] at hm
        refine RW.know 46 rfl (congrArg Value.bool (Bool.eq_false_iff.2 hg54)) ?_
        refine RW.run ttok 17 rfl ?_
        refine RW.nil ?_
        refine WP.ret ?_
        cases hm
        exact ⟨_, .cons (.tmp rfl) .nil, rfl, (hS53.taken 0)⟩

theorem enters216 : Enters Try.prog 216 := ⟨_, _, Try.func216, rfl, by kernel_rfl⟩
def m_impl_Memory_validWith_c1 (fuel : Nat) (x0 : D.Cell) : Option (Bool) := ((m_impl_validCell fuel x0).bind fun r14 => some (!r14))

set_option maxRecDepth 100000 in
theorem impl_Memory_validWith_c1_ok {W w : World} (hE : Ext W w) {c0_ : List Value} {x0 : D.Cell} (h0_ : ty157.ro W c0_ x0) {fuel : Nat} {r : Bool} (hm : m_impl_Memory_validWith_c1 fuel x0 = some r) :
    Calls Try.prog 216 ⟨[.agg ⟨c0_⟩]⟩ w (Ret fun v w8 => v = .bool r ∧ St w w8 []) := by
  obtain ⟨A1, k2, A4, k5, e7, h3, h6⟩ := ty157_open h0_; subst e7
  refine Calls.into Try.func216 rfl 6 rfl rfl _ rfl ?_
  unfold m_impl_Memory_validWith_c1 at hm
  have hS := St.start w
  refine WP.seq ?_
  refine WP.region ?_
  refine RW.new ttok hS rfl rfl rfl rfl (fun g10 w11 e12 hS13 => ?_)
  refine RW.run ttok 1 rfl ?_
  refine RW.nil ?_
  refine WP.seq ?_
  refine WP.region ?_
  refine RW.loadN ttok rfl rfl rfl rfl rfl ((hS13.bring 0 rfl).box) rfl rfl rfl ?_
  obtain ⟨r14, hx15, hm⟩ := bind_some hm
  refine RW.call rfl rfl rfl enters217 (impl_validCell_ok (hE.trans hS13.ext) h0_ hx15) (fun v16 w17 hR18 => ?_)
  obtain ⟨rfl, hR19⟩ := hR18
  have hS20 := hS13.join hR19
  refine RW.run ttok 2 rfl ?_
  refine RW.nil ?_
  refine WP.ret ?_
  cases hm
  exact ⟨_, .cons (.tmp rfl) .nil, rfl, (hS20.taken 0)⟩

theorem enters219 : Enters Try.prog 219 := ⟨_, _, Try.func219, rfl, by kernel_rfl⟩
def m_impl_Memory_words_j1 (fuel : Nat) (t16 : (List D.Word)) : Option (List D.Word) := some t16
def m_impl_Memory_words_b1 (fuel : Nat) (x0 : D.Memory) (s15 : Int × (List D.Word)) : Option (Rd (Int × (List D.Word)) ((List D.Word)) ((List D.Word))) := (if (decide (s15.1 < (x0.Cells.length : Int))) = true then ((idx x0.Cells s15.1).bind fun x34 => (if decide ((s15.2.length : Int) + (x34.Words.length : Int) ≤ 4294967296) = true then some (.next (w64 (s15.1 + 1), (s15.2 ++ x34.Words))) else none)) else some (.brk s15.2))
def m_impl_Memory_words (fuel : Nat) (x0 : D.Memory) : Option ((List D.Word)) := ((iter (m_impl_Memory_words_b1 fuel x0) fuel (0, ([x0.Root] : (List D.Word)))).bind fun o => aft o (m_impl_Memory_words_j1 fuel))

set_option maxRecDepth 100000 in
theorem impl_Memory_words_ok {W w : World} (hE : Ext W w) {p0_ : Addr} {c0_ : List Value} {x0 : D.Memory} (h0_ : ty80.ro W c0_ x0) (g0_ : At W p0_ c0_) {fuel : Nat} {r : (List D.Word)} (hm : m_impl_Memory_words fuel x0 = some r) :
    Calls Try.prog 219 ⟨[.pointer (some p0_)]⟩ w (Ret fun v w8 => ∃ A0 k0, v = .slice A0 r.length k0 ∧ St w w8 [Own ty155 [.slice A0 r.length k0] r]) := by
  obtain ⟨A1, k2, A4, k5, e7, h3, h6⟩ := ty80_open h0_; subst e7
  refine Calls.into Try.func219 rfl 26 rfl rfl _ rfl ?_
  unfold m_impl_Memory_words at hm
  have hS := St.start w
  refine WP.seq ?_
  refine WP.region ?_
  refine RW.run ttok 1 rfl ?_
  refine RW.nil ?_
  refine WP.seq ?_
  refine WP.region ?_
  refine RW.run ttok 3 rfl ?_
  refine RW.loadN ttok rfl rfl rfl rfl rfl (At.sub (At.ext (hE.trans hS.ext) g0_) 2 2) rfl rfl rfl ?_
  refine RW.newSlice (U := ty77) (els := [.int .i64 x0.Root.Tag, .int .i64 x0.Root.At]) (ys := [x0.Root]) ttok (hS.flatEls (U := ty77) (els := [.int .i64 x0.Root.Tag, .int .i64 x0.Root.At]) (ys := [x0.Root]) ⟨[.int .i64 x0.Root.Tag, .int .i64 x0.Root.At], _, [], [], rfl, rfl, (ty77_ownI (c := x0.Root) rfl), ⟨rfl, rfl⟩⟩) rfl rfl rfl rfl rfl rfl rfl rfl rfl rfl rfl rfl (fun A10 k11 w12 e13 hS14 => ?_)
  refine RW.run ttok 1 rfl ?_
  refine RW.nil ?_
  refine WP.seq ?_
  refine WP.seq ?_
  refine WP.region ?_
  refine RW.run ttok 3 rfl ?_
  refine RW.load1 ttok rfl rfl rfl rfl rfl (At.ext (hE.trans hS14.ext) g0_) 0 rfl rfl rfl rfl ?_
  refine RW.run ttok 2 rfl ?_
  refine RW.nil ?_
  obtain ⟨o25, hl26, hm⟩ := bind_some hm
  refine WP.cut (fun (t16 : (List D.Word)) F w9 => ∃ A22 k23, o25 = .inl t16 ∧ St w w9 [Own ty155 [.slice A22 t16.length k23] t16] ∧ F = [(3, .slice A22 t16.length k23)]) ?_ ?_
  · skip
    rintro t16 F w24 ⟨A22, k23, ho28, hS27, rfl⟩
    subst ho28
    rw [aft_inl] at hm
    unfold m_impl_Memory_words_j1 at hm
    refine WP.seq ?_
    refine WP.region ?_
    refine RW.run ttok 2 rfl ?_
    refine RW.nil ?_
    refine WP.ret ?_
    cases hm
    exact ⟨_, .cons (.tmp rfl) .nil, A22, k23, rfl, hS27⟩
  · skip
    refine WP.block ?_
    refine WP.weak [(3, .slice A10 ([x0.Root] : (List D.Word)).length k11), (14, .slice A1 x0.Cells.length k2), (15, .int .i64 (x0.Cells.length : Int)), (16, .int .i64 0)] ⟨rfl, rfl, rfl, rfl, trivial⟩ ?_
    refine WP.iter (fun (s15 : Int × (List D.Word)) F w9 => ∃ A20 k21, St w w9 [Own ty155 [.slice A20 s15.2.length k21] s15.2] ∧ F = [(3, .slice A20 s15.2.length k21), (14, .slice A1 x0.Cells.length k2), (15, .int .i64 (x0.Cells.length : Int)), (16, .int .i64 s15.1)]) _ hl26 ⟨A10, k11, hS14, rfl⟩ ?_
    rintro s15 F w33 _ o31 ⟨A20, k21, hS32, rfl⟩ hb29 ho30
    unfold m_impl_Memory_words_b1 at hb29
    refine WP.seq ?_
    refine WP.region ?_
    refine RW.run ttok 1 rfl ?_
    refine RW.nil ?_
    refine WP.seq ?_
    refine WP.cond (decide (s15.1 < (x0.Cells.length : Int))) rfl (fun hc => ?_) (fun hc => ?_)
    · skip
      rw [if_pos hc] at hb29
      refine WP.skip ?_
      refine WP.seq ?_
      refine WP.block ?_
      refine WP.seq ?_
      refine WP.region ?_
      obtain ⟨x34, hx35, hb29⟩ := bind_some hb29
      refine RW.idx ttok (hE.trans hS32.ext) rfl rfl rfl rfl rfl rfl (by decide) rfl rfl h3 (idx_some hx35).1 (idx_some hx35).2 rfl rfl (fun p36 es37 ha38 hr39 => ?_)
      obtain ⟨A40, k41, A43, k44, e46, h42, h45⟩ := ty157_open hr39; subst e46
      refine RW.loadN ttok rfl rfl rfl rfl rfl (At.ext (hE.trans hS32.ext) ha38) rfl rfl rfl ?_
      refine RW.new ttok hS32 rfl rfl rfl rfl (fun g47 w48 e49 hS50 => ?_)
      have hS51 := hS50.bring 0 rfl
      refine RW.store ttok (A := []) hS51 rfl rfl rfl rfl rfl 0 rfl rfl rfl rfl rfl (fun w52 hS53 => ?_)
      refine RW.nil ?_
      refine WP.region ?_
      refine RW.run ttok 2 rfl ?_
      refine RW.load1 ttok rfl rfl rfl rfl rfl ((hS53.bring 0 rfl).box) 4 rfl rfl rfl rfl ?_
      have hS54 := hS53.bring 1 rfl
      by_cases hk55 : decide ((s15.2.length : Int) + (x34.Words.length : Int) ≤ 4294967296) = true
      case neg => rw [if_neg hk55] at hb29; cases hb29
      rw [if_pos hk55] at hb29
      refine RW.appendRo ttok (Flat.map (Flat.pair Flat.int (Flat.pair Flat.int Flat.unit))) hS54 rfl rfl rfl rfl rfl rfl (by decide) rfl rfl (ty155.ext (hE.trans hS54.ext) h45) (of_decide_eq_true hk55) (by decide) rfl rfl (fun A56 k57 w58 hS59 => ?_)
      refine RW.run ttok 1 rfl ?_
      refine RW.nil ?_
      refine WP.region ?_
      refine RW.run ttok 2 rfl ?_
      refine RW.nil ?_
      cases hb29
      exact ⟨_, [(3, .slice A56 (s15.2 ++ x34.Words).length k57), (14, .slice A1 x0.Cells.length k2), (15, .int .i64 (x0.Cells.length : Int)), (16, .int .i64 (w64 (s15.1 + 1)))], ⟨rfl, rfl, rfl, rfl, trivial⟩, rfl, A56, k57, (hS59.taken 1), rfl⟩
    · skip
      rw [if_neg (not_t hc)] at hb29
      refine WP.exit ?_
      cases hb29
      exact ⟨_, [(3, .slice A20 s15.2.length k21)], ⟨rfl, trivial⟩, A20, k21, ho30, hS32, rfl⟩

theorem enters260 : Enters Try.prog 260 := ⟨_, _, Try.func260, rfl, by kernel_rfl⟩
def m_slices_IndexFunc_impl_Word_impl_Word_j1 (fuel : Nat) (t2 : Unit) : Option Int := some (-1)
def m_slices_IndexFunc_impl_Word_impl_Word_b1 (fuel : Nat) (x0 : (List D.Word)) (x1 : D.Word → Option Bool) (s1 : Int) : Option (Rd (Int) (Unit) (Int)) := (if (decide (s1 < (x0.length : Int))) = true then ((idx x0 s1).bind fun x19 => ((x1 x19).bind fun r26 => (if r26 = true then some (.ret s1) else some (.next (w64 (s1 + 1)))))) else some (.brk ()))
def m_slices_IndexFunc_impl_Word_impl_Word (fuel : Nat) (x0 : (List D.Word)) (x1 : D.Word → Option Bool) : Option (Int) := ((iter (m_slices_IndexFunc_impl_Word_impl_Word_b1 fuel x0 x1) fuel 0).bind fun o => aft o (m_slices_IndexFunc_impl_Word_impl_Word_j1 fuel))

set_option maxRecDepth 100000 in
theorem slices_IndexFunc_impl_Word_impl_Word_ok {W w : World} (hE : Ext W w) {A0_ : Option Addr} {k0_ : Nat} {x0 : (List D.Word)} {f1_ : Nat} {u1_ : List Value} {x1 : D.Word → Option Bool} (h0_ : ty155.ro W [.slice A0_ x0.length k0_] x0) (h1_ : Enters Try.prog f1_ ∧ ∀ {w9 : World}, Ext W w9 → ∀ {cz0 : List Value} {z0 : D.Word} {y9 : Bool}, ty77.ro w9 cz0 z0 → x1 z0 = some y9 → Calls Try.prog f1_ ⟨[.agg ⟨cz0⟩] ++ u1_⟩ w9 (Ret fun v w8 => v = .bool y9 ∧ St w9 w8 [])) {fuel : Nat} {r : Int} (hm : m_slices_IndexFunc_impl_Word_impl_Word fuel x0 x1 = some r) :
    Calls Try.prog 260 ⟨[.slice A0_ x0.length k0_, .func (.func f1_) #[] ⟨u1_⟩]⟩ w (Ret fun v w8 => v = .int .i64 r ∧ St w w8 []) := by
  refine Calls.into Try.func260 rfl 19 rfl rfl _ rfl ?_
  unfold m_slices_IndexFunc_impl_Word_impl_Word at hm
  have hS := St.start w
  refine WP.seq ?_
  refine WP.region ?_
  refine RW.run ttok 1 rfl ?_
  refine RW.nil ?_
  refine WP.seq ?_
  refine WP.seq ?_
  refine WP.region ?_
  refine RW.run ttok 3 rfl ?_
  refine RW.nil ?_
  obtain ⟨o10, hl11, hm⟩ := bind_some hm
  refine WP.cut (fun (t2 : Unit) F w9 => o10 = .inl t2 ∧ Ext w w9 ∧ St w w9 [] ∧ F = []) ?_ ?_
  · skip
    rintro t2 F w7 ⟨ho13, hE6, hS12, rfl⟩
    subst ho13
    rw [aft_inl] at hm
    unfold m_slices_IndexFunc_impl_Word_impl_Word_j1 at hm
    refine WP.seq ?_
    refine WP.region ?_
    refine RW.run ttok 1 rfl ?_
    refine RW.nil ?_
    refine WP.ret ?_
    cases hm
    exact ⟨_, .cons (.tmp rfl) .nil, rfl, hS12⟩
  · skip
    refine WP.block ?_
    refine WP.weak [(0, .slice A0_ x0.length k0_), (1, .func (.func f1_) #[] ⟨u1_⟩), (7, .int .i64 (x0.length : Int)), (8, .int .i64 0)] ⟨rfl, rfl, rfl, rfl, trivial⟩ ?_
    refine WP.iter (fun (s1 : Int) F w9 => Ext w w9 ∧ St w w9 [] ∧ F = [(0, .slice A0_ x0.length k0_), (1, .func (.func f1_) #[] ⟨u1_⟩), (7, .int .i64 (x0.length : Int)), (8, .int .i64 s1)]) _ hl11 ⟨(Ext.refl _), hS, rfl⟩ ?_
    rintro s1 F w18 _ o16 ⟨hE5, hS17, rfl⟩ hb14 ho15
    unfold m_slices_IndexFunc_impl_Word_impl_Word_b1 at hb14
    refine WP.seq ?_
    refine WP.region ?_
    refine RW.run ttok 1 rfl ?_
    refine RW.nil ?_
    refine WP.seq ?_
    refine WP.cond (decide (s1 < (x0.length : Int))) rfl (fun hc => ?_) (fun hc => ?_)
    · skip
      rw [if_pos hc] at hb14
      refine WP.skip ?_
      refine WP.seq ?_
      refine WP.block ?_
      refine WP.seq ?_
      refine WP.region ?_
      refine RW.run ttok 2 rfl ?_
      refine RW.nil ?_
      refine WP.seq ?_
      refine WP.region ?_
      refine RW.run ttok 3 rfl ?_
      obtain ⟨x19, hx20, hb14⟩ := bind_some hb14
      refine RW.idx ttok (hE.trans hS17.ext) rfl rfl rfl rfl rfl rfl (by decide) rfl rfl h0_ (idx_some hx20).1 (idx_some hx20).2 rfl rfl (fun p21 es22 ha23 hr24 => ?_)
      have e25 := ty77_open hr24; subst e25
      refine RW.loadN ttok rfl rfl rfl rfl rfl (At.ext (hE.trans hS17.ext) ha23) rfl rfl rfl ?_
      obtain ⟨r26, hx27, hb14⟩ := bind_some hb14
      refine RW.call rfl rfl rfl h1_.1 (h1_.2 (hE.trans hS17.ext) (ty77.ext (hE.trans hS17.ext) hr24) hx27) (fun v28 w29 hR30 => ?_)
      obtain ⟨rfl, hR31⟩ := hR30
      have hS32 := hS17.join hR31
      refine RW.nil ?_
      refine WP.cond r26 rfl (fun hc => ?_) (fun hc => ?_)
      · skip
        rw [if_pos hc] at hb14
        refine WP.seq ?_
        refine WP.region ?_
        refine RW.run ttok 2 rfl ?_
        refine RW.nil ?_
        refine WP.ret ?_
        cases hb14
        cases ho15
        have hm : some _ = some _ := hm
        cases hm
        exact ⟨_, .cons (.tmp rfl) .nil, rfl, hS32⟩
      · skip
        rw [if_neg (not_t hc)] at hb14
        refine WP.skip ?_
        refine WP.region ?_
        refine RW.run ttok 2 rfl ?_
        refine RW.nil ?_
        cases hb14
        exact ⟨_, [(0, .slice A0_ x0.length k0_), (1, .func (.func f1_) #[] ⟨u1_⟩), (7, .int .i64 (x0.length : Int)), (8, .int .i64 (w64 (s1 + 1)))], ⟨rfl, rfl, rfl, rfl, trivial⟩, rfl, (hE5.trans hR31.ext), hS32, rfl⟩
    · skip
      rw [if_neg (not_t hc)] at hb14
      refine WP.exit ?_
      cases hb14
      exact ⟨_, [], trivial, ho15, hE5, hS17, rfl⟩

theorem enters218 : Enters Try.prog 218 := ⟨_, _, Try.func218, rfl, by kernel_rfl⟩
def m_slices_ContainsFunc_impl_Word_impl_Word (fuel : Nat) (x0 : (List D.Word)) (x1 : D.Word → Option Bool) : Option (Bool) := ((m_slices_IndexFunc_impl_Word_impl_Word fuel x0 x1).bind fun r1 => some (decide (r1 ≥ 0)))

set_option maxRecDepth 100000 in
theorem slices_ContainsFunc_impl_Word_impl_Word_ok {W w : World} (hE : Ext W w) {A0_ : Option Addr} {k0_ : Nat} {x0 : (List D.Word)} {f1_ : Nat} {u1_ : List Value} {x1 : D.Word → Option Bool} (h0_ : ty155.ro W [.slice A0_ x0.length k0_] x0) (h1_ : Enters Try.prog f1_ ∧ ∀ {w9 : World}, Ext W w9 → ∀ {cz0 : List Value} {z0 : D.Word} {y9 : Bool}, ty77.ro w9 cz0 z0 → x1 z0 = some y9 → Calls Try.prog f1_ ⟨[.agg ⟨cz0⟩] ++ u1_⟩ w9 (Ret fun v w8 => v = .bool y9 ∧ St w9 w8 [])) {fuel : Nat} {r : Bool} (hm : m_slices_ContainsFunc_impl_Word_impl_Word fuel x0 x1 = some r) :
    Calls Try.prog 218 ⟨[.slice A0_ x0.length k0_, .func (.func f1_) #[] ⟨u1_⟩]⟩ w (Ret fun v w8 => v = .bool r ∧ St w w8 []) := by
  refine Calls.into Try.func218 rfl 9 rfl rfl _ rfl ?_
  unfold m_slices_ContainsFunc_impl_Word_impl_Word at hm
  have hS := St.start w
  refine WP.seq ?_
  refine WP.region ?_
  refine RW.run ttok 1 rfl ?_
  refine RW.nil ?_
  refine WP.seq ?_
  refine WP.region ?_
  refine RW.run ttok 2 rfl ?_
  obtain ⟨r1, hx2, hm⟩ := bind_some hm
  refine RW.call rfl rfl rfl enters260 (slices_IndexFunc_impl_Word_impl_Word_ok (hE.trans hS.ext) h0_ h1_ hx2) (fun v3 w4 hR5 => ?_)
  obtain ⟨rfl, hR6⟩ := hR5
  have hS7 := hS.join hR6
  refine RW.run ttok 2 rfl ?_
  refine RW.nil ?_
  refine WP.ret ?_
  cases hm
  exact ⟨_, .cons (.tmp rfl) .nil, rfl, hS7⟩

theorem enters261 : Enters Try.prog 261 := ⟨_, _, Try.func261, rfl, by kernel_rfl⟩
def m_impl_Memory_hasCell (fuel : Nat) (x0 : D.Memory) (x1 : Int) : Option (Bool) := (if (decide (x1 ≥ 0)) = true then some (decide (x1 < (x0.Cells.length : Int))) else some false)

set_option maxRecDepth 100000 in
theorem impl_Memory_hasCell_ok {W w : World} (hE : Ext W w) {p0_ : Addr} {c0_ : List Value} {x0 : D.Memory} {x1 : Int} (h0_ : ty80.ro W c0_ x0) (g0_ : At W p0_ c0_) {fuel : Nat} {r : Bool} (hm : m_impl_Memory_hasCell fuel x0 x1 = some r) :
    Calls Try.prog 261 ⟨[.pointer (some p0_), .int .i64 x1]⟩ w (Ret fun v w8 => v = .bool r ∧ St w w8 []) := by
  obtain ⟨A1, k2, A4, k5, e7, h3, h6⟩ := ty80_open h0_; subst e7
  refine Calls.into Try.func261 rfl 16 rfl rfl _ rfl ?_
  unfold m_impl_Memory_hasCell at hm
  have hS := St.start w
  refine WP.seq ?_
  refine WP.region ?_
  refine RW.run ttok 1 rfl ?_
  refine RW.nil ?_
  refine WP.seq ?_
  refine WP.region ?_
  refine RW.run ttok 3 rfl ?_
  by_cases hg10 : (decide (x1 ≥ 0)) = true
  · skip
    rw [if_pos hg10] at hm
    refine RW.know 7 rfl (congrArg Value.bool hg10) ?_
    refine RW.run ttok 4 rfl ?_
    refine RW.load1 ttok rfl rfl rfl rfl rfl (At.ext (hE.trans hS.ext) g0_) 0 rfl rfl rfl rfl ?_
    refine RW.run ttok 4 rfl ?_
    refine RW.nil ?_
    refine WP.ret ?_
    cases hm
    exact ⟨_, .cons (.tmp rfl) .nil, rfl, hS⟩
  · skip
    rw [if_neg hg10] at hm
    refine RW.know 7 rfl (congrArg Value.bool (Bool.eq_false_iff.2 hg10)) ?_
    refine RW.run ttok 9 rfl ?_
    refine RW.nil ?_
    refine WP.ret ?_
    cases hm
    exact ⟨_, .cons (.tmp rfl) .nil, rfl, hS⟩

theorem enters221 : Enters Try.prog 221 := ⟨_, _, Try.func221, rfl, by kernel_rfl⟩
def m_impl_Memory_validWord (fuel : Nat) (x0 : D.Memory) (x1 : D.Word) : Option (Bool) := ((m_impl_Memory_hasCell fuel x0 x1.At).bind fun r15 => (if (!r15) = true then some false else ((idx x0.Cells x1.At).bind fun x24 => (if (x1.Tag == 1) = true then ((m_impl_Cell_isAgentCell fuel x24).bind fun r45 => (if r45 = true then some true else (if (x1.Tag == 2) = true then ((m_impl_Cell_isVariable fuel x24).bind fun r54 => some r54) else some false))) else (if (x1.Tag == 2) = true then ((m_impl_Cell_isVariable fuel x24).bind fun r62 => some r62) else some false)))))

set_option maxRecDepth 100000 in
theorem impl_Memory_validWord_ok {W w : World} (hE : Ext W w) {p0_ : Addr} {c0_ : List Value} {x0 : D.Memory} {c1_ : List Value} {x1 : D.Word} (h0_ : ty80.ro W c0_ x0) (g0_ : At W p0_ c0_) (h1_ : ty77.ro W c1_ x1) {fuel : Nat} {r : Bool} (hm : m_impl_Memory_validWord fuel x0 x1 = some r) :
    Calls Try.prog 221 ⟨[.pointer (some p0_), .agg ⟨c1_⟩]⟩ w (Ret fun v w8 => v = .bool r ∧ St w w8 []) := by
  obtain ⟨A1, k2, A4, k5, e7, h3, h6⟩ := ty80_open h0_; subst e7
  have e10 := ty77_open h1_; subst e10
  refine Calls.into Try.func221 rfl 35 rfl rfl _ rfl ?_
  unfold m_impl_Memory_validWord at hm
  have hS := St.start w
  refine WP.seq ?_
  refine WP.region ?_
  refine RW.new ttok hS rfl rfl rfl rfl (fun g11 w12 e13 hS14 => ?_)
  refine RW.run ttok 1 rfl ?_
  refine RW.nil ?_
  refine WP.seq ?_
  refine WP.seq ?_
  refine WP.region ?_
  refine RW.run ttok 2 rfl ?_
  refine RW.load1 ttok rfl rfl rfl rfl rfl ((hS14.bring 0 rfl).box) 1 rfl rfl rfl rfl ?_
  obtain ⟨r15, hx16, hm⟩ := bind_some hm
  refine RW.call rfl rfl rfl enters261 (impl_Memory_hasCell_ok (hE.trans hS14.ext) h0_ g0_ hx16) (fun v17 w18 hR19 => ?_)
  obtain ⟨rfl, hR20⟩ := hR19
  have hS21 := hS14.join hR20
  refine RW.run ttok 1 rfl ?_
  refine RW.nil ?_
  refine WP.cond (!r15) rfl (fun hc => ?_) (fun hc => ?_)
  · skip
    rw [if_pos hc] at hm
    refine WP.seq ?_
    refine WP.region ?_
    refine RW.run ttok 1 rfl ?_
    refine RW.nil ?_
    refine WP.ret ?_
    cases hm
    exact ⟨_, .cons (.tmp rfl) .nil, rfl, (hS21.taken 0)⟩
  · skip
    rw [if_neg (not_t hc)] at hm
    refine WP.skip ?_
    refine WP.seq ?_
    refine WP.drawnM 512 mixed 10 (by kernel_rfl) (by kernel_rfl) [([], 1023), ([0], 1022), ([1], 1021), ([2], 1019), ([], 1023), ([4], 1007), ([3, 5], 983), ([6], 959), ([], 1023), ([8, 7, 0, 1, 2, 3, 4, 5, 6, 7, 8], 639)] (by kernel_rfl) hS21.ext (fun hsk22 => ?_)
    have hS23 := hS21.step (Ext.draw _)
    refine DM.run (fuel := 6) ttok hsk22 [0, 1, 2, 4] 23 (by kernel_rfl) (by kernel_rfl) rfl ?_
    refine DM.weak [(3, .pointer (some ⟨g11, 0, none⟩)), (13, .pointer (some p0_)), (15, .pointer (some ⟨g11, 1, none⟩))] ⟨rfl, rfl, rfl, trivial⟩ ?_
    refine DM.load1 ttok hsk22 3 31 (by kernel_rfl) (by kernel_rfl) (by kernel_rfl) (by kernel_rfl) rfl (by kernel_rfl) rfl rfl rfl rfl rfl (At.ext (hE.trans hS21.ext) g0_) 0 rfl rfl rfl rfl ?_
    refine DM.load1 ttok hsk22 5 63 (by kernel_rfl) (by kernel_rfl) (by kernel_rfl) (by kernel_rfl) rfl (by kernel_rfl) rfl rfl rfl rfl rfl ((hS21.bring 0 rfl).box) 1 rfl rfl rfl rfl ?_
    obtain ⟨x24, hx25, hm⟩ := bind_some hm
    refine DM.idx ttok (hE.trans hS21.ext) hsk22 6 127 (by kernel_rfl) (by kernel_rfl) (by kernel_rfl) (by kernel_rfl) rfl (by kernel_rfl) rfl rfl rfl rfl rfl rfl (by decide) rfl rfl h3 (idx_some hx25).1 (idx_some hx25).2 rfl rfl (fun p26 es27 ha28 hr29 => ?_)
    obtain ⟨A30, k31, A33, k34, e36, h32, h35⟩ := ty157_open hr29; subst e36
    refine DM.loadN ttok hsk22 7 255 (by kernel_rfl) (by kernel_rfl) (by kernel_rfl) (by kernel_rfl) rfl (by kernel_rfl) rfl rfl rfl rfl rfl (At.ext (hE.trans hS21.ext) ha28) rfl rfl rfl ?_
    refine DM.one hsk22 8 (by kernel_rfl) (LM.new ttok hsk22 hS23 511 (by kernel_rfl) (by kernel_rfl) rfl rfl rfl rfl rfl (fun g37 w38 e39 hS40 => ?_))
    have hS41 := hS40.bring 0 rfl
    refine DM.one hsk22 9 (by kernel_rfl) (LM.store ttok (A := []) hS41 hsk22 1023 (by kernel_rfl) (by kernel_rfl) rfl rfl rfl rfl rfl rfl 0 rfl rfl rfl rfl rfl (fun w42 hS43 => ?_))
    refine DM.done hsk22 (by kernel_rfl) ?_
    refine WP.seq ?_
    refine WP.region ?_
    refine RW.run ttok 1 rfl ?_
    refine RW.load1 ttok rfl rfl rfl rfl rfl ((hS43.bring 1 rfl).box) 0 rfl rfl rfl rfl ?_
    refine RW.run ttok 2 rfl ?_
    by_cases hg44 : (x1.Tag == 1) = true
    · skip
      rw [if_pos hg44] at hm
      refine RW.know 22 rfl (congrArg Value.bool hg44) ?_
      refine RW.loadN ttok rfl rfl rfl rfl rfl ((hS43.bring 0 rfl).box) rfl rfl rfl ?_
      obtain ⟨r45, hx46, hm⟩ := bind_some hm
      refine RW.call rfl rfl rfl enters95 (impl_Cell_isAgentCell_ok (hE.trans hS43.ext) (ty157_shut x24 h32 h35) hx46) (fun v47 w48 hR49 => ?_)
      obtain ⟨rfl, hR50⟩ := hR49
      have hS51 := hS43.join hR50
      refine RW.run ttok 2 rfl ?_
      by_cases hg52 : r45 = true
      · skip
        rw [if_pos hg52] at hm
        refine RW.know 26 rfl (congrArg Value.bool hg52) ?_
        refine RW.run ttok 9 rfl ?_
        refine RW.nil ?_
        refine WP.ret ?_
        cases hm
        exact ⟨_, .cons (.tmp rfl) .nil, rfl, (hS51.taken 0)⟩
      · skip
        rw [if_neg hg52] at hm
        refine RW.know 26 rfl (congrArg Value.bool (Bool.eq_false_iff.2 hg52)) ?_
        refine RW.run ttok 1 rfl ?_
        refine RW.load1 ttok rfl rfl rfl rfl rfl ((hS51.bring 1 rfl).box) 0 rfl rfl rfl rfl ?_
        refine RW.run ttok 2 rfl ?_
        by_cases hg53 : (x1.Tag == 2) = true
        · skip
          rw [if_pos hg53] at hm
          refine RW.know 30 rfl (congrArg Value.bool hg53) ?_
          refine RW.loadN ttok rfl rfl rfl rfl rfl ((hS51.bring 0 rfl).box) rfl rfl rfl ?_
          obtain ⟨r54, hx55, hm⟩ := bind_some hm
          refine RW.call rfl rfl rfl enters96 (impl_Cell_isVariable_ok (hE.trans hS51.ext) (ty157_shut x24 h32 h35) hx55) (fun v56 w57 hR58 => ?_)
          obtain ⟨rfl, hR59⟩ := hR58
          have hS60 := hS51.join hR59
          refine RW.run ttok 3 rfl ?_
          refine RW.nil ?_
          refine WP.ret ?_
          cases hm
          exact ⟨_, .cons (.tmp rfl) .nil, rfl, (hS60.taken 0)⟩
        · skip
          rw [if_neg hg53] at hm
          refine RW.know 30 rfl (congrArg Value.bool (Bool.eq_false_iff.2 hg53)) ?_
          refine RW.run ttok 5 rfl ?_
          refine RW.nil ?_
          refine WP.ret ?_
          cases hm
          exact ⟨_, .cons (.tmp rfl) .nil, rfl, (hS51.taken 0)⟩
    · skip
      rw [if_neg hg44] at hm
      refine RW.know 22 rfl (congrArg Value.bool (Bool.eq_false_iff.2 hg44)) ?_
      refine RW.run ttok 5 rfl ?_
      refine RW.load1 ttok rfl rfl rfl rfl rfl ((hS43.bring 1 rfl).box) 0 rfl rfl rfl rfl ?_
      refine RW.run ttok 2 rfl ?_
      by_cases hg61 : (x1.Tag == 2) = true
      · skip
        rw [if_pos hg61] at hm
        refine RW.know 30 rfl (congrArg Value.bool hg61) ?_
        refine RW.loadN ttok rfl rfl rfl rfl rfl ((hS43.bring 0 rfl).box) rfl rfl rfl ?_
        obtain ⟨r62, hx63, hm⟩ := bind_some hm
        refine RW.call rfl rfl rfl enters96 (impl_Cell_isVariable_ok (hE.trans hS43.ext) (ty157_shut x24 h32 h35) hx63) (fun v65 w66 hR67 => ?_)
        obtain ⟨rfl, hR68⟩ := hR67
        have hS69 := hS43.join hR68
        refine RW.run ttok 3 rfl ?_
        refine RW.nil ?_
        refine WP.ret ?_
        cases hm
        exact ⟨_, .cons (.tmp rfl) .nil, rfl, (hS69.taken 0)⟩
      · skip
        rw [if_neg hg61] at hm
        refine RW.know 30 rfl (congrArg Value.bool (Bool.eq_false_iff.2 hg61)) ?_
        refine RW.run ttok 5 rfl ?_
        refine RW.nil ?_
        refine WP.ret ?_
        cases hm
        exact ⟨_, .cons (.tmp rfl) .nil, rfl, (hS43.taken 0)⟩

theorem enters220 : Enters Try.prog 220 := ⟨_, _, Try.func220, rfl, by kernel_rfl⟩
def m_impl_Memory_validWith_c2 (fuel : Nat) (x0 : D.Word) (x1 : D.Memory) : Option (Bool) := ((m_impl_Memory_validWord fuel x1 x0).bind fun r15 => some (!r15))

set_option maxRecDepth 100000 in
theorem impl_Memory_validWith_c2_ok {W w : World} (hE : Ext W w) {c0_ : List Value} {x0 : D.Word} {o1_ p1_ : Addr} {c1_ : List Value} {x1 : D.Memory} (h0_ : ty77.ro W c0_ x0) (f1_ : At W o1_ [.pointer (some p1_)]) (h1_ : ty80.ro W c1_ x1) (g1_ : At W p1_ c1_) {fuel : Nat} {r : Bool} (hm : m_impl_Memory_validWith_c2 fuel x0 x1 = some r) :
    Calls Try.prog 220 ⟨[.agg ⟨c0_⟩, .pointer (some o1_)]⟩ w (Ret fun v w8 => v = .bool r ∧ St w w8 []) := by
  have e1 := ty77_open h0_; subst e1
  obtain ⟨A2, k3, A5, k6, e10, h4, h7⟩ := ty80_open h1_; subst e10
  refine Calls.into Try.func220 rfl 8 rfl rfl _ rfl ?_
  unfold m_impl_Memory_validWith_c2 at hm
  have hS := St.start w
  refine WP.seq ?_
  refine WP.region ?_
  refine RW.new ttok hS rfl rfl rfl rfl (fun g11 w12 e13 hS14 => ?_)
  refine RW.run ttok 1 rfl ?_
  refine RW.nil ?_
  refine WP.seq ?_
  refine WP.region ?_
  refine RW.load1 ttok rfl rfl rfl rfl rfl (At.ext (hE.trans hS14.ext) f1_) 0 rfl rfl rfl rfl ?_
  refine RW.loadN ttok rfl rfl rfl rfl rfl ((hS14.bring 0 rfl).box) rfl rfl rfl ?_
  obtain ⟨r15, hx16, hm⟩ := bind_some hm
  refine RW.call rfl rfl rfl enters221 (impl_Memory_validWord_ok (hE.trans hS14.ext) h1_ g1_ h0_ hx16) (fun v17 w18 hR19 => ?_)
  obtain ⟨rfl, hR20⟩ := hR19
  have hS21 := hS14.join hR20
  refine RW.run ttok 2 rfl ?_
  refine RW.nil ?_
  refine WP.ret ?_
  cases hm
  exact ⟨_, .cons (.tmp rfl) .nil, rfl, (hS21.taken 0)⟩

theorem enters262 : Enters Try.prog 262 := ⟨_, _, Try.func262, rfl, by kernel_rfl⟩
def m_slices_IndexFunc_impl_Pair_impl_Pair_j1 (fuel : Nat) (t2 : Unit) : Option Int := some (-1)
def m_slices_IndexFunc_impl_Pair_impl_Pair_b1 (fuel : Nat) (x0 : (List D.Pair)) (x1 : D.Pair → Option Bool) (s1 : Int) : Option (Rd (Int) (Unit) (Int)) := (if (decide (s1 < (x0.length : Int))) = true then ((idx x0 s1).bind fun x19 => ((x1 x19).bind fun r26 => (if r26 = true then some (.ret s1) else some (.next (w64 (s1 + 1)))))) else some (.brk ()))
def m_slices_IndexFunc_impl_Pair_impl_Pair (fuel : Nat) (x0 : (List D.Pair)) (x1 : D.Pair → Option Bool) : Option (Int) := ((iter (m_slices_IndexFunc_impl_Pair_impl_Pair_b1 fuel x0 x1) fuel 0).bind fun o => aft o (m_slices_IndexFunc_impl_Pair_impl_Pair_j1 fuel))

set_option maxRecDepth 100000 in
theorem slices_IndexFunc_impl_Pair_impl_Pair_ok {W w : World} (hE : Ext W w) {A0_ : Option Addr} {k0_ : Nat} {x0 : (List D.Pair)} {f1_ : Nat} {u1_ : List Value} {x1 : D.Pair → Option Bool} (h0_ : ty78.ro W [.slice A0_ x0.length k0_] x0) (h1_ : Enters Try.prog f1_ ∧ ∀ {w9 : World}, Ext W w9 → ∀ {cz0 : List Value} {z0 : D.Pair} {y9 : Bool}, ty139.ro w9 cz0 z0 → x1 z0 = some y9 → Calls Try.prog f1_ ⟨[.agg ⟨cz0⟩] ++ u1_⟩ w9 (Ret fun v w8 => v = .bool y9 ∧ St w9 w8 [])) {fuel : Nat} {r : Int} (hm : m_slices_IndexFunc_impl_Pair_impl_Pair fuel x0 x1 = some r) :
    Calls Try.prog 262 ⟨[.slice A0_ x0.length k0_, .func (.func f1_) #[] ⟨u1_⟩]⟩ w (Ret fun v w8 => v = .int .i64 r ∧ St w w8 []) := by
  refine Calls.into Try.func262 rfl 19 rfl rfl _ rfl ?_
  unfold m_slices_IndexFunc_impl_Pair_impl_Pair at hm
  have hS := St.start w
  refine WP.seq ?_
  refine WP.region ?_
  refine RW.run ttok 1 rfl ?_
  refine RW.nil ?_
  refine WP.seq ?_
  refine WP.seq ?_
  refine WP.region ?_
  refine RW.run ttok 3 rfl ?_
  refine RW.nil ?_
  obtain ⟨o10, hl11, hm⟩ := bind_some hm
  refine WP.cut (fun (t2 : Unit) F w9 => o10 = .inl t2 ∧ Ext w w9 ∧ St w w9 [] ∧ F = []) ?_ ?_
  · skip
    rintro t2 F w7 ⟨ho13, hE6, hS12, rfl⟩
    subst ho13
    rw [aft_inl] at hm
    unfold m_slices_IndexFunc_impl_Pair_impl_Pair_j1 at hm
    refine WP.seq ?_
    refine WP.region ?_
    refine RW.run ttok 1 rfl ?_
    refine RW.nil ?_
    refine WP.ret ?_
    cases hm
    exact ⟨_, .cons (.tmp rfl) .nil, rfl, hS12⟩
  · skip
    refine WP.block ?_
    refine WP.weak [(0, .slice A0_ x0.length k0_), (1, .func (.func f1_) #[] ⟨u1_⟩), (7, .int .i64 (x0.length : Int)), (8, .int .i64 0)] ⟨rfl, rfl, rfl, rfl, trivial⟩ ?_
    refine WP.iter (fun (s1 : Int) F w9 => Ext w w9 ∧ St w w9 [] ∧ F = [(0, .slice A0_ x0.length k0_), (1, .func (.func f1_) #[] ⟨u1_⟩), (7, .int .i64 (x0.length : Int)), (8, .int .i64 s1)]) _ hl11 ⟨(Ext.refl _), hS, rfl⟩ ?_
    rintro s1 F w18 _ o16 ⟨hE5, hS17, rfl⟩ hb14 ho15
    unfold m_slices_IndexFunc_impl_Pair_impl_Pair_b1 at hb14
    refine WP.seq ?_
    refine WP.region ?_
    refine RW.run ttok 1 rfl ?_
    refine RW.nil ?_
    refine WP.seq ?_
    refine WP.cond (decide (s1 < (x0.length : Int))) rfl (fun hc => ?_) (fun hc => ?_)
    · skip
      rw [if_pos hc] at hb14
      refine WP.skip ?_
      refine WP.seq ?_
      refine WP.block ?_
      refine WP.seq ?_
      refine WP.region ?_
      refine RW.run ttok 2 rfl ?_
      refine RW.nil ?_
      refine WP.seq ?_
      refine WP.region ?_
      refine RW.run ttok 3 rfl ?_
      obtain ⟨x19, hx20, hb14⟩ := bind_some hb14
      refine RW.idx ttok (hE.trans hS17.ext) rfl rfl rfl rfl rfl rfl (by decide) rfl rfl h0_ (idx_some hx20).1 (idx_some hx20).2 rfl rfl (fun p21 es22 ha23 hr24 => ?_)
      have e25 := ty139_open hr24; subst e25
      refine RW.loadN ttok rfl rfl rfl rfl rfl (At.ext (hE.trans hS17.ext) ha23) rfl rfl rfl ?_
      obtain ⟨r26, hx27, hb14⟩ := bind_some hb14
      refine RW.call rfl rfl rfl h1_.1 (h1_.2 (hE.trans hS17.ext) (ty139.ext (hE.trans hS17.ext) hr24) hx27) (fun v28 w29 hR30 => ?_)
      obtain ⟨rfl, hR31⟩ := hR30
      have hS32 := hS17.join hR31
      refine RW.nil ?_
      refine WP.cond r26 rfl (fun hc => ?_) (fun hc => ?_)
      · skip
        rw [if_pos hc] at hb14
        refine WP.seq ?_
        refine WP.region ?_
        refine RW.run ttok 2 rfl ?_
        refine RW.nil ?_
        refine WP.ret ?_
        cases hb14
        cases ho15
        have hm : some _ = some _ := hm
        cases hm
        exact ⟨_, .cons (.tmp rfl) .nil, rfl, hS32⟩
      · skip
        rw [if_neg (not_t hc)] at hb14
        refine WP.skip ?_
        refine WP.region ?_
        refine RW.run ttok 2 rfl ?_
        refine RW.nil ?_
        cases hb14
        exact ⟨_, [(0, .slice A0_ x0.length k0_), (1, .func (.func f1_) #[] ⟨u1_⟩), (7, .int .i64 (x0.length : Int)), (8, .int .i64 (w64 (s1 + 1)))], ⟨rfl, rfl, rfl, rfl, trivial⟩, rfl, (hE5.trans hR31.ext), hS32, rfl⟩
    · skip
      rw [if_neg (not_t hc)] at hb14
      refine WP.exit ?_
      cases hb14
      exact ⟨_, [], trivial, ho15, hE5, hS17, rfl⟩

theorem enters222 : Enters Try.prog 222 := ⟨_, _, Try.func222, rfl, by kernel_rfl⟩
def m_slices_ContainsFunc_impl_Pair_impl_Pair (fuel : Nat) (x0 : (List D.Pair)) (x1 : D.Pair → Option Bool) : Option (Bool) := ((m_slices_IndexFunc_impl_Pair_impl_Pair fuel x0 x1).bind fun r1 => some (decide (r1 ≥ 0)))

set_option maxRecDepth 100000 in
theorem slices_ContainsFunc_impl_Pair_impl_Pair_ok {W w : World} (hE : Ext W w) {A0_ : Option Addr} {k0_ : Nat} {x0 : (List D.Pair)} {f1_ : Nat} {u1_ : List Value} {x1 : D.Pair → Option Bool} (h0_ : ty78.ro W [.slice A0_ x0.length k0_] x0) (h1_ : Enters Try.prog f1_ ∧ ∀ {w9 : World}, Ext W w9 → ∀ {cz0 : List Value} {z0 : D.Pair} {y9 : Bool}, ty139.ro w9 cz0 z0 → x1 z0 = some y9 → Calls Try.prog f1_ ⟨[.agg ⟨cz0⟩] ++ u1_⟩ w9 (Ret fun v w8 => v = .bool y9 ∧ St w9 w8 [])) {fuel : Nat} {r : Bool} (hm : m_slices_ContainsFunc_impl_Pair_impl_Pair fuel x0 x1 = some r) :
    Calls Try.prog 222 ⟨[.slice A0_ x0.length k0_, .func (.func f1_) #[] ⟨u1_⟩]⟩ w (Ret fun v w8 => v = .bool r ∧ St w w8 []) := by
  refine Calls.into Try.func222 rfl 9 rfl rfl _ rfl ?_
  unfold m_slices_ContainsFunc_impl_Pair_impl_Pair at hm
  have hS := St.start w
  refine WP.seq ?_
  refine WP.region ?_
  refine RW.run ttok 1 rfl ?_
  refine RW.nil ?_
  refine WP.seq ?_
  refine WP.region ?_
  refine RW.run ttok 2 rfl ?_
  obtain ⟨r1, hx2, hm⟩ := bind_some hm
  refine RW.call rfl rfl rfl enters262 (slices_IndexFunc_impl_Pair_impl_Pair_ok (hE.trans hS.ext) h0_ h1_ hx2) (fun v3 w4 hR5 => ?_)
  obtain ⟨rfl, hR6⟩ := hR5
  have hS7 := hS.join hR6
  refine RW.run ttok 2 rfl ?_
  refine RW.nil ?_
  refine WP.ret ?_
  cases hm
  exact ⟨_, .cons (.tmp rfl) .nil, rfl, hS7⟩

theorem enters224 : Enters Try.prog 224 := ⟨_, _, Try.func224, rfl, by kernel_rfl⟩
def m_impl_Memory_validRedex (fuel : Nat) (x0 : D.Memory) (x1 : D.Pair) : Option (Bool) := (if (decide (x1.A < x1.B)) = true then ((m_impl_Memory_hasCell fuel x0 x1.A).bind fun r18 => (if r18 = true then ((m_impl_Memory_hasCell fuel x0 x1.B).bind fun r26 => (if r26 = true then ((idx x0.Cells x1.A).bind fun x34 => ((m_impl_Cell_isAgentCell fuel x34).bind fun r47 => (if r47 = true then ((idx x0.Cells x1.B).bind fun x55 => ((m_impl_Cell_isAgentCell fuel x55).bind fun r69 => some r69)) else some false))) else some false)) else some false)) else some false)

set_option maxRecDepth 100000 in
theorem impl_Memory_validRedex_ok {W w : World} (hE : Ext W w) {p0_ : Addr} {c0_ : List Value} {x0 : D.Memory} {c1_ : List Value} {x1 : D.Pair} (h0_ : ty80.ro W c0_ x0) (g0_ : At W p0_ c0_) (h1_ : ty139.ro W c1_ x1) {fuel : Nat} {r : Bool} (hm : m_impl_Memory_validRedex fuel x0 x1 = some r) :
    Calls Try.prog 224 ⟨[.pointer (some p0_), .agg ⟨c1_⟩]⟩ w (Ret fun v w8 => v = .bool r ∧ St w w8 []) := by
  obtain ⟨A1, k2, A4, k5, e7, h3, h6⟩ := ty80_open h0_; subst e7
  have e10 := ty139_open h1_; subst e10
  refine Calls.into Try.func224 rfl 44 rfl rfl _ rfl ?_
  unfold m_impl_Memory_validRedex at hm
  have hS := St.start w
  refine WP.seq ?_
  refine WP.region ?_
  refine RW.new ttok hS rfl rfl rfl rfl (fun g11 w12 e13 hS14 => ?_)
  refine RW.run ttok 1 rfl ?_
  refine RW.nil ?_
  refine WP.seq ?_
  refine WP.drawnM 0 mixed 40 (by kernel_rfl) (by kernel_rfl) [([], 1099511627775), ([0], 1099511627774), ([], 1099511627775), ([2], 1099511627771), ([1, 3], 1099511627765), ([4], 1099511627759), ([5], 1099511627743), ([5], 1099511627743), ([7, 5], 1099511627615), ([6, 8, 5, 5], 1099511627423), ([5, 9], 1099511627231), ([10, 9], 1099511626751), ([11], 1099511625727), ([11], 1099511625727), ([13, 11], 1099511617535), ([12, 14, 11, 11], 1099511605247), ([11, 15], 1099511592959), ([16, 15], 1099511562239), ([17], 1099511496703), ([18, 17], 1099511234559), ([19, 17], 1099510972415), ([20, 17], 1099510448127), ([17], 1099511496703), ([22, 17], 1099507302399), ([21, 23, 17], 1099501010943), ([24, 17], 1099494719487), ([25, 17, 17], 1099477942271), ([17, 26], 1099444387839), ([27, 26], 1099377410047), ([28], 1099243192319), ([29, 28], 1098706321407), ([30, 28], 1098169450495), ([31, 28], 1097095708671), ([28], 1099243192319), ([33, 28], 1090653257727), ([32, 34, 28], 1077768355839), ([35, 28], 1064883453951), ([36, 28, 28], 1030523715583), ([28, 37], 961804238847), ([38, 37, 0, 1, 2, 3, 4, 5, 6, 7, 8, 9, 10, 11, 12, 13, 14, 15, 16, 17, 18, 19, 20, 21, 22, 23, 24, 25, 26, 27, 28, 29, 30, 31, 32, 33, 34, 35, 36, 37, 38], 824633720831)] (by kernel_rfl) hS14.ext (fun hsk15 => ?_)
  have hS16 := hS14.step (Ext.draw _)
  refine DM.run (fuel := 38) ttok hsk15 [0, 2] 5 (by kernel_rfl) (by kernel_rfl) rfl ?_
  refine DM.load1 ttok hsk15 1 7 (by kernel_rfl) (by kernel_rfl) (by kernel_rfl) (by kernel_rfl) rfl (by kernel_rfl) rfl rfl rfl rfl rfl ((hS14.bring 0 rfl).box) 0 rfl rfl rfl rfl ?_
  refine DM.load1 ttok hsk15 3 15 (by kernel_rfl) (by kernel_rfl) (by kernel_rfl) (by kernel_rfl) rfl (by kernel_rfl) rfl rfl rfl rfl rfl ((hS14.bring 0 rfl).box) 1 rfl rfl rfl rfl ?_
  refine DM.run (fuel := 34) ttok hsk15 [4, 5] 63 (by kernel_rfl) (by kernel_rfl) rfl ?_
  refine DM.weak [(0, .pointer (some p0_)), (3, .pointer (some ⟨g11, 0, none⟩)), (4, .bool false), (10, .bool (decide (x1.A < x1.B)))] ⟨rfl, rfl, rfl, rfl, trivial⟩ ?_
  by_cases hg17 : (decide (x1.A < x1.B)) = true
  · skip
    rw [if_pos hg17] at hm
    refine DM.know 10 rfl (congrArg Value.bool hg17) ?_
    refine DM.run (fuel := 32) ttok hsk15 [6, 7] 255 (by kernel_rfl) (by kernel_rfl) rfl ?_
    refine DM.load1 ttok hsk15 8 511 (by kernel_rfl) (by kernel_rfl) (by kernel_rfl) (by kernel_rfl) rfl (by kernel_rfl) rfl rfl rfl rfl rfl ((hS14.bring 0 rfl).box) 0 rfl rfl rfl rfl ?_
    obtain ⟨r18, hx19, hm⟩ := bind_some hm
    refine DM.one hsk15 9 (by kernel_rfl) (LM.call hsk15 1023 (by kernel_rfl) (by kernel_rfl) rfl rfl rfl rfl enters261 (impl_Memory_hasCell_ok (hE.trans hS16.ext) h0_ g0_ hx19) (fun v20 w21 hR22 => ?_))
    obtain ⟨rfl, hR23⟩ := hR22
    refine ⟨hR23.ext, ?_⟩
    have hS24 := hS16.join hR23
    refine DM.run (fuel := 28) ttok hsk15 [10, 11] 4095 (by kernel_rfl) (by kernel_rfl) rfl ?_
    refine DM.weak [(0, .pointer (some p0_)), (3, .pointer (some ⟨g11, 0, none⟩)), (4, .bool false), (16, .bool r18)] ⟨rfl, rfl, rfl, rfl, trivial⟩ ?_
    by_cases hg25 : r18 = true
    · skip
      rw [if_pos hg25] at hm
      refine DM.know 16 rfl (congrArg Value.bool hg25) ?_
      refine DM.run (fuel := 26) ttok hsk15 [12, 13] 16383 (by kernel_rfl) (by kernel_rfl) rfl ?_
      refine DM.load1 ttok hsk15 14 32767 (by kernel_rfl) (by kernel_rfl) (by kernel_rfl) (by kernel_rfl) rfl (by kernel_rfl) rfl rfl rfl rfl rfl ((hS14.bring 0 rfl).box) 1 rfl rfl rfl rfl ?_
      obtain ⟨r26, hx27, hm⟩ := bind_some hm
      refine DM.one hsk15 15 (by kernel_rfl) (LM.call hsk15 65535 (by kernel_rfl) (by kernel_rfl) rfl rfl rfl rfl enters261 (impl_Memory_hasCell_ok (hE.trans hS24.ext) h0_ g0_ hx27) (fun v28 w29 hR30 => ?_))
      obtain ⟨rfl, hR31⟩ := hR30
      refine ⟨hR31.ext, ?_⟩
      have hS32 := hS24.join hR31
      refine DM.run (fuel := 22) ttok hsk15 [16, 17] 262143 (by kernel_rfl) (by kernel_rfl) rfl ?_
      refine DM.weak [(0, .pointer (some p0_)), (3, .pointer (some ⟨g11, 0, none⟩)), (4, .bool false), (22, .bool r26)] ⟨rfl, rfl, rfl, rfl, trivial⟩ ?_
      by_cases hg33 : r26 = true
      · skip
        rw [if_pos hg33] at hm
        refine DM.know 22 rfl (congrArg Value.bool hg33) ?_
        refine DM.run (fuel := 18) ttok hsk15 [18, 19, 20, 22] 6291455 (by kernel_rfl) (by kernel_rfl) rfl ?_
        refine DM.load1 ttok hsk15 21 8388607 (by kernel_rfl) (by kernel_rfl) (by kernel_rfl) (by kernel_rfl) rfl (by kernel_rfl) rfl rfl rfl rfl rfl (At.ext (hE.trans hS14.ext) g0_) 0 rfl rfl rfl rfl ?_
        refine DM.load1 ttok hsk15 23 16777215 (by kernel_rfl) (by kernel_rfl) (by kernel_rfl) (by kernel_rfl) rfl (by kernel_rfl) rfl rfl rfl rfl rfl ((hS14.bring 0 rfl).box) 0 rfl rfl rfl rfl ?_
        obtain ⟨x34, hx35, hm⟩ := bind_some hm
        refine DM.idx ttok (hE.trans hS14.ext) hsk15 24 33554431 (by kernel_rfl) (by kernel_rfl) (by kernel_rfl) (by kernel_rfl) rfl (by kernel_rfl) rfl rfl rfl rfl rfl rfl (by decide) rfl rfl h3 (idx_some hx35).1 (idx_some hx35).2 rfl rfl (fun p36 es37 ha38 hr39 => ?_)
        obtain ⟨A40, k41, A43, k44, e46, h42, h45⟩ := ty157_open hr39; subst e46
        refine DM.loadN ttok hsk15 25 67108863 (by kernel_rfl) (by kernel_rfl) (by kernel_rfl) (by kernel_rfl) rfl (by kernel_rfl) rfl rfl rfl rfl rfl (At.ext (hE.trans hS14.ext) ha38) rfl rfl rfl ?_
        obtain ⟨r47, hx48, hm⟩ := bind_some hm
        refine DM.one hsk15 26 (by kernel_rfl) (LM.call hsk15 134217727 (by kernel_rfl) (by kernel_rfl) rfl rfl rfl rfl enters95 (impl_Cell_isAgentCell_ok (hE.trans hS32.ext) hr39 hx48) (fun v49 w50 hR51 => ?_))
        obtain ⟨rfl, hR52⟩ := hR51
        refine ⟨hR52.ext, ?_⟩
        have hS53 := hS32.join hR52
        refine DM.run (fuel := 11) ttok hsk15 [27, 28] 536870911 (by kernel_rfl) (by kernel_rfl) rfl ?_
        refine DM.weak [(0, .pointer (some p0_)), (3, .pointer (some ⟨g11, 0, none⟩)), (4, .bool false), (33, .bool r47)] ⟨rfl, rfl, rfl, rfl, trivial⟩ ?_
        by_cases hg54 : r47 = true
        · skip
          rw [if_pos hg54] at hm
          refine DM.know 33 rfl (congrArg Value.bool hg54) ?_
          refine DM.run (fuel := 7) ttok hsk15 [29, 30, 31, 33] 12884901887 (by kernel_rfl) (by kernel_rfl) rfl ?_
          refine DM.load1 ttok hsk15 32 17179869183 (by kernel_rfl) (by kernel_rfl) (by kernel_rfl) (by kernel_rfl) rfl (by kernel_rfl) rfl rfl rfl rfl rfl (At.ext (hE.trans hS14.ext) g0_) 0 rfl rfl rfl rfl ?_
          refine DM.load1 ttok hsk15 34 34359738367 (by kernel_rfl) (by kernel_rfl) (by kernel_rfl) (by kernel_rfl) rfl (by kernel_rfl) rfl rfl rfl rfl rfl ((hS14.bring 0 rfl).box) 1 rfl rfl rfl rfl ?_
          obtain ⟨x55, hx56, hm⟩ := bind_some hm
          refine DM.idx ttok (hE.trans hS14.ext) hsk15 35 68719476735 (by kernel_rfl) (by kernel_rfl) (by kernel_rfl) (by kernel_rfl) rfl (by kernel_rfl) rfl rfl rfl rfl rfl rfl (by decide) rfl rfl h3 (idx_some hx56).1 (idx_some hx56).2 rfl rfl (fun p57 es58 ha59 hr60 => ?_)
          obtain ⟨A61, k62, A65, k66, e68, h63, h67⟩ := ty157_open hr60; subst e68
          refine DM.loadN ttok hsk15 36 137438953471 (by kernel_rfl) (by kernel_rfl) (by kernel_rfl) (by kernel_rfl) rfl (by kernel_rfl) rfl rfl rfl rfl rfl (At.ext (hE.trans hS14.ext) ha59) rfl rfl rfl ?_
          obtain ⟨r69, hx70, hm⟩ := bind_some hm
          refine DM.one hsk15 37 (by kernel_rfl) (LM.call hsk15 274877906943 (by kernel_rfl) (by kernel_rfl) rfl rfl rfl rfl enters95 (impl_Cell_isAgentCell_ok (hE.trans hS53.ext) hr60 hx70) (fun v71 w72 hR73 => ?_))
          obtain ⟨rfl, hR74⟩ := hR73
          refine ⟨hR74.ext, ?_⟩
          have hS75 := hS53.join hR74
          refine DM.run (fuel := 0) ttok hsk15 [38, 39] 1099511627775 (by kernel_rfl) (by kernel_rfl) rfl ?_
          refine DM.weak [(4, .bool r69)] ⟨rfl, trivial⟩ ?_
          refine DM.done hsk15 (by kernel_rfl) ?_
          refine WP.ret ?_
          cases hm
          exact ⟨_, .cons (.tmp rfl) .nil, rfl, (hS75.taken 0)⟩
        · skip
          rw [if_neg hg54] at hm
          refine DM.know 33 rfl (congrArg Value.bool (Bool.eq_false_iff.2 hg54)) ?_
          refine DM.run (fuel := 0) ttok hsk15 [29, 30, 31, 32, 33, 34, 35, 36, 37, 38, 39] 1099511627775 (by kernel_rfl) (by kernel_rfl) rfl ?_
          refine DM.weak [(4, .bool false)] ⟨rfl, trivial⟩ ?_
          refine DM.done hsk15 (by kernel_rfl) ?_
          refine WP.ret ?_
          cases hm
          exact ⟨_, .cons (.tmp rfl) .nil, rfl, (hS53.taken 0)⟩
      · skip
        rw [if_neg hg33] at hm
        refine DM.know 22 rfl (congrArg Value.bool (Bool.eq_false_iff.2 hg33)) ?_
        refine DM.run (fuel := 0) ttok hsk15 [18, 19, 20, 21, 22, 23, 24, 25, 26, 27, 28, 29, 30, 31, 32, 33, 34, 35, 36, 37, 38, 39] 1099511627775 (by kernel_rfl) (by kernel_rfl) rfl ?_
        refine DM.weak [(4, .bool false)] ⟨rfl, trivial⟩ ?_
        refine DM.done hsk15 (by kernel_rfl) ?_
        refine WP.ret ?_
        cases hm
        exact ⟨_, .cons (.tmp rfl) .nil, rfl, (hS32.taken 0)⟩
    · skip
      rw [if_neg hg25] at hm
      refine DM.know 16 rfl (congrArg Value.bool (Bool.eq_false_iff.2 hg25)) ?_
      refine DM.run (fuel := 0) ttok hsk15 [12, 13, 14, 15, 16, 17, 18, 19, 20, 21, 22, 23, 24, 25, 26, 27, 28, 29, 30, 31, 32, 33, 34, 35, 36, 37, 38, 39] 1099511627775 (by kernel_rfl) (by kernel_rfl) rfl ?_
      refine DM.weak [(4, .bool false)] ⟨rfl, trivial⟩ ?_
      refine DM.done hsk15 (by kernel_rfl) ?_
      refine WP.ret ?_
      cases hm
      exact ⟨_, .cons (.tmp rfl) .nil, rfl, (hS24.taken 0)⟩
  · skip
    rw [if_neg hg17] at hm
    refine DM.know 10 rfl (congrArg Value.bool (Bool.eq_false_iff.2 hg17)) ?_
    refine DM.run (fuel := 0) ttok hsk15 [6, 7, 8, 9, 10, 11, 12, 13, 14, 15, 16, 17, 18, 19, 20, 21, 22, 23, 24, 25, 26, 27, 28, 29, 30, 31, 32, 33, 34, 35, 36, 37, 38, 39] 1099511627775 (by kernel_rfl) (by kernel_rfl) rfl ?_
    refine DM.weak [(4, .bool false)] ⟨rfl, trivial⟩ ?_
    refine DM.done hsk15 (by kernel_rfl) ?_
    refine WP.ret ?_
    cases hm
    exact ⟨_, .cons (.tmp rfl) .nil, rfl, (hS16.taken 0)⟩

theorem enters223 : Enters Try.prog 223 := ⟨_, _, Try.func223, rfl, by kernel_rfl⟩
def m_impl_Memory_validWith_c3 (fuel : Nat) (x0 : D.Pair) (x1 : D.Memory) : Option (Bool) := ((m_impl_Memory_validRedex fuel x1 x0).bind fun r15 => some (!r15))

set_option maxRecDepth 100000 in
theorem impl_Memory_validWith_c3_ok {W w : World} (hE : Ext W w) {c0_ : List Value} {x0 : D.Pair} {o1_ p1_ : Addr} {c1_ : List Value} {x1 : D.Memory} (h0_ : ty139.ro W c0_ x0) (f1_ : At W o1_ [.pointer (some p1_)]) (h1_ : ty80.ro W c1_ x1) (g1_ : At W p1_ c1_) {fuel : Nat} {r : Bool} (hm : m_impl_Memory_validWith_c3 fuel x0 x1 = some r) :
    Calls Try.prog 223 ⟨[.agg ⟨c0_⟩, .pointer (some o1_)]⟩ w (Ret fun v w8 => v = .bool r ∧ St w w8 []) := by
  have e1 := ty139_open h0_; subst e1
  obtain ⟨A2, k3, A5, k6, e10, h4, h7⟩ := ty80_open h1_; subst e10
  refine Calls.into Try.func223 rfl 8 rfl rfl _ rfl ?_
  unfold m_impl_Memory_validWith_c3 at hm
  have hS := St.start w
  refine WP.seq ?_
  refine WP.region ?_
  refine RW.new ttok hS rfl rfl rfl rfl (fun g11 w12 e13 hS14 => ?_)
  refine RW.run ttok 1 rfl ?_
  refine RW.nil ?_
  refine WP.seq ?_
  refine WP.region ?_
  refine RW.load1 ttok rfl rfl rfl rfl rfl (At.ext (hE.trans hS14.ext) f1_) 0 rfl rfl rfl rfl ?_
  refine RW.loadN ttok rfl rfl rfl rfl rfl ((hS14.bring 0 rfl).box) rfl rfl rfl ?_
  obtain ⟨r15, hx16, hm⟩ := bind_some hm
  refine RW.call rfl rfl rfl enters224 (impl_Memory_validRedex_ok (hE.trans hS14.ext) h1_ g1_ h0_ hx16) (fun v17 w18 hR19 => ?_)
  obtain ⟨rfl, hR20⟩ := hR19
  have hS21 := hS14.join hR20
  refine RW.run ttok 2 rfl ?_
  refine RW.nil ?_
  refine WP.ret ?_
  cases hm
  exact ⟨_, .cons (.tmp rfl) .nil, rfl, (hS21.taken 0)⟩

theorem enters225 : Enters Try.prog 225 := ⟨_, _, Try.func225, rfl, by kernel_rfl⟩
def m_impl_Memory_occurrencesOk_j3 (fuel : Nat) (t49 : Unit) : Option Bool := some true
def m_impl_Memory_occurrencesOk_j4 (fuel : Nat) (t41 : (List Int)) (s48 : Int) (t89 : Int) : Option (Rd (Int) (Unit) (Bool)) := ((idx t41 s48).bind fun x94 => (if (x94 != t89) = true then some (.ret false) else some (.next (w64 (s48 + 1)))))
def m_impl_Memory_occurrencesOk_j6 (fuel : Nat) (t41 : (List Int)) (s48 : Int) (t105 : Int) : Option (Rd (Int) (Unit) (Bool)) := m_impl_Memory_occurrencesOk_j4 fuel t41 s48 t105
def m_impl_Memory_occurrencesOk_j5 (fuel : Nat) (t41 : (List Int)) (s48 : Int) (t100 : Bool) : Option (Rd (Int) (Unit) (Bool)) := (if t100 = true then m_impl_Memory_occurrencesOk_j6 fuel t41 s48 2 else m_impl_Memory_occurrencesOk_j6 fuel t41 s48 1)
def m_impl_Memory_occurrencesOk_b3 (fuel : Nat) (x0 : D.Memory) (t41 : (List Int)) (s48 : Int) : Option (Rd (Int) (Unit) (Bool)) := (if (decide (s48 < (x0.Cells.length : Int))) = true then ((idx x0.Cells s48).bind fun x61 => ((m_impl_Cell_isFree fuel x61).bind fun r82 => (if r82 = true then m_impl_Memory_occurrencesOk_j4 fuel t41 s48 0 else ((m_impl_Cell_isVariable fuel x61).bind fun r110 => (if r110 = true then m_impl_Memory_occurrencesOk_j5 fuel t41 s48 ((x61.Words.length : Int) == 0) else m_impl_Memory_occurrencesOk_j5 fuel t41 s48 false))))) else some (.brk ()))
def m_impl_Memory_occurrencesOk_j2 (fuel : Nat) (x0 : D.Memory) (t41 : (List Int)) : Option Bool := ((iter (m_impl_Memory_occurrencesOk_b3 fuel x0 t41) fuel 0).bind fun o => aft o (m_impl_Memory_occurrencesOk_j3 fuel))
def m_impl_Memory_occurrencesOk_b2 (fuel : Nat) (x0 : D.Memory) (s40 : Int × (List Int)) : Option (Rd (Int × (List Int)) ((List Int)) (Bool)) := (if (decide (s40.1 < (x0.Redexes.length : Int))) = true then ((idx x0.Redexes s40.1).bind fun x123 => ((idx s40.2 x123.A).bind fun x137 => (if decide (0 ≤ x123.A ∧ x123.A.toNat < s40.2.length) = true then ((idx (s40.2.set x123.A.toNat (w64 (x137 + 1))) x123.B).bind fun x152 => (if decide (0 ≤ x123.B ∧ x123.B.toNat < (s40.2.set x123.A.toNat (w64 (x137 + 1))).length) = true then some (.next (w64 (s40.1 + 1), ((s40.2.set x123.A.toNat (w64 (x137 + 1))).set x123.B.toNat (w64 (x152 + 1))))) else none)) else none))) else some (.brk s40.2))
def m_impl_Memory_occurrencesOk_j1 (fuel : Nat) (x0 : D.Memory) (t33 : (List Int)) : Option Bool := ((iter (m_impl_Memory_occurrencesOk_b2 fuel x0) fuel (0, t33)).bind fun o => aft o (m_impl_Memory_occurrencesOk_j2 fuel x0))
def m_impl_Memory_occurrencesOk_b1 (fuel : Nat) (x1 : (List D.Word)) (r17 : (List D.Word)) (s32 : Int × (List Int)) : Option (Rd (Int × (List Int)) ((List Int)) (Bool)) := (if (decide (s32.1 < ((r17 ++ x1).length : Int))) = true then ((idx (r17 ++ x1) s32.1).bind fun x172 => ((idx s32.2 x172.At).bind fun x186 => (if decide (0 ≤ x172.At ∧ x172.At.toNat < s32.2.length) = true then some (.next (w64 (s32.1 + 1), (s32.2.set x172.At.toNat (w64 (x186 + 1))))) else none))) else some (.brk s32.2))
def m_impl_Memory_occurrencesOk (fuel : Nat) (x0 : D.Memory) (x1 : (List D.Word)) : Option (Bool) := (if decide (0 ≤ (x0.Cells.length : Int) ∧ (x0.Cells.length : Int) ≤ 4294967296) = true then ((m_impl_Memory_words fuel x0).bind fun r17 => (if decide ((r17.length : Int) + (x1.length : Int) ≤ 4294967296) = true then ((iter (m_impl_Memory_occurrencesOk_b1 fuel x1 r17) fuel (0, (List.replicate (x0.Cells.length : Int).toNat (0 : Int)))).bind fun o => aft o (m_impl_Memory_occurrencesOk_j1 fuel x0)) else none)) else none)

set_option maxRecDepth 100000 in
theorem impl_Memory_occurrencesOk_ok {W w : World} (hE : Ext W w) {p0_ : Addr} {c0_ : List Value} {x0 : D.Memory} {A1_ : Option Addr} {k1_ : Nat} {x1 : (List D.Word)} (h0_ : ty80.ro W c0_ x0) (g0_ : At W p0_ c0_) (h1_ : ty155.ro W [.slice A1_ x1.length k1_] x1) {fuel : Nat} {r : Bool} (hm : m_impl_Memory_occurrencesOk fuel x0 x1 = some r) :
    Calls Try.prog 225 ⟨[.pointer (some p0_), .slice A1_ x1.length k1_]⟩ w (Ret fun v w8 => v = .bool r ∧ St w w8 []) := by
  obtain ⟨A1, k2, A4, k5, e7, h3, h6⟩ := ty80_open h0_; subst e7
  refine Calls.into Try.func225 rfl 89 rfl rfl _ rfl ?_
  unfold m_impl_Memory_occurrencesOk at hm
  have hS := St.start w
  refine WP.seq ?_
  refine WP.region ?_
  refine RW.run ttok 1 rfl ?_
  refine RW.nil ?_
  refine WP.seq ?_
  refine WP.region ?_
  refine RW.run ttok 3 rfl ?_
  refine RW.load1 ttok rfl rfl rfl rfl rfl (At.ext (hE.trans hS.ext) g0_) 0 rfl rfl rfl rfl ?_
  refine RW.run ttok 1 rfl ?_
  by_cases hk10 : decide (0 ≤ (x0.Cells.length : Int) ∧ (x0.Cells.length : Int) ≤ 4294967296) = true
  case neg => rw [if_neg hk10] at hm; cases hm
  rw [if_pos hk10] at hm
  have hz16 := of_decide_eq_true hk10
  refine RW.make (U := tInt) ttok (0 : Int) hS rfl rfl rfl rfl rfl rfl rfl rfl hz16.1 (by have := hz16.2; show _ * (8 : Int) ≤ _; omega) (by have := hz16.2; simp only [maxLen]; omega) (fun _ => ⟨rfl, rfl⟩) rfl rfl (fun A11 k12 w13 e14 hS15 => ?_)
  refine RW.run ttok 1 rfl ?_
  refine RW.nil ?_
  refine WP.seq ?_
  refine WP.seq ?_
  refine WP.region ?_
  refine RW.run ttok 1 rfl ?_
  obtain ⟨r17, hx18, hm⟩ := bind_some hm
  refine RW.call rfl rfl rfl enters219 (impl_Memory_words_ok (hE.trans hS15.ext) h0_ g0_ hx18) (fun v19 w20 hR21 => ?_)
  obtain ⟨A22, k23, rfl, hR24⟩ := hR21
  have hS25 := hS15.join hR24
  refine RW.run ttok 1 rfl ?_
  have hS26 := hS25.bring 0 rfl
  by_cases hk27 : decide ((r17.length : Int) + (x1.length : Int) ≤ 4294967296) = true
  case neg => rw [if_neg hk27] at hm; cases hm
  rw [if_pos hk27] at hm
  refine RW.appendRo ttok (Flat.map (Flat.pair Flat.int (Flat.pair Flat.int Flat.unit))) hS26 rfl rfl rfl rfl rfl rfl (by decide) rfl rfl (ty155.ext (hE.trans hS26.ext) h1_) (of_decide_eq_true hk27) (by decide) rfl rfl (fun A28 k29 w30 hS31 => ?_)
  refine RW.run ttok 2 rfl ?_
  refine RW.nil ?_
  obtain ⟨o36, hl37, hm⟩ := bind_some hm
  refine WP.cut (fun (t33 : (List Int)) F w9 => o36 = .inl t33 ∧ St w w9 [Own ty155 [.slice A28 (r17 ++ x1).length k29] (r17 ++ x1), Own ty326 [.slice A11 (List.replicate (x0.Cells.length : Int).toNat (0 : Int)).length k12] t33] ∧ F = [(0, .pointer (some p0_)), (5, .slice A11 (List.replicate (x0.Cells.length : Int).toNat (0 : Int)).length k12)]) ?_ ?_
  · skip
    rintro t33 F w35 ⟨ho39, hS38, rfl⟩
    subst ho39
    rw [aft_inl] at hm
    unfold m_impl_Memory_occurrencesOk_j1 at hm
    refine WP.seq ?_
    refine WP.seq ?_
    refine WP.region ?_
    refine RW.run ttok 3 rfl ?_
    refine RW.load1 ttok rfl rfl rfl rfl rfl (At.ext (hE.trans hS38.ext) g0_) 4 rfl rfl rfl rfl ?_
    refine RW.run ttok 2 rfl ?_
    refine RW.nil ?_
    obtain ⟨o44, hl45, hm⟩ := bind_some hm
    refine WP.cut (fun (t41 : (List Int)) F w9 => o44 = .inl t41 ∧ St w w9 [Own ty155 [.slice A28 (r17 ++ x1).length k29] (r17 ++ x1), Own ty326 [.slice A11 (List.replicate (x0.Cells.length : Int).toNat (0 : Int)).length k12] t41] ∧ F = [(0, .pointer (some p0_)), (5, .slice A11 (List.replicate (x0.Cells.length : Int).toNat (0 : Int)).length k12)]) ?_ ?_
    · skip
      rintro t41 F w43 ⟨ho47, hS46, rfl⟩
      subst ho47
      rw [aft_inl] at hm
      unfold m_impl_Memory_occurrencesOk_j2 at hm
      refine WP.seq ?_
      refine WP.seq ?_
      refine WP.region ?_
      refine RW.run ttok 3 rfl ?_
      refine RW.load1 ttok rfl rfl rfl rfl rfl (At.ext (hE.trans hS46.ext) g0_) 0 rfl rfl rfl rfl ?_
      refine RW.run ttok 2 rfl ?_
      refine RW.nil ?_
      obtain ⟨o52, hl53, hm⟩ := bind_some hm
      refine WP.cut (fun (t49 : Unit) F w9 => o52 = .inl t49 ∧ St w w9 [Own ty155 [.slice A28 (r17 ++ x1).length k29] (r17 ++ x1), Own ty326 [.slice A11 (List.replicate (x0.Cells.length : Int).toNat (0 : Int)).length k12] t41] ∧ F = []) ?_ ?_
      · skip
        rintro t49 F w51 ⟨ho55, hS54, rfl⟩
        subst ho55
        rw [aft_inl] at hm
        unfold m_impl_Memory_occurrencesOk_j3 at hm
        refine WP.seq ?_
        refine WP.region ?_
        refine RW.run ttok 1 rfl ?_
        refine RW.nil ?_
        refine WP.ret ?_
        cases hm
        exact ⟨_, .cons (.tmp rfl) .nil, rfl, (hS54.taken 0)⟩
      · skip
        refine WP.block ?_
        refine WP.weak [(5, .slice A11 (List.replicate (x0.Cells.length : Int).toNat (0 : Int)).length k12), (63, .slice A1 x0.Cells.length k2), (64, .int .i64 (x0.Cells.length : Int)), (65, .int .i64 0)] ⟨rfl, rfl, rfl, rfl, trivial⟩ ?_
        refine WP.iter (fun (s48 : Int) F w9 => St w w9 [Own ty155 [.slice A28 (r17 ++ x1).length k29] (r17 ++ x1), Own ty326 [.slice A11 (List.replicate (x0.Cells.length : Int).toNat (0 : Int)).length k12] t41] ∧ F = [(5, .slice A11 (List.replicate (x0.Cells.length : Int).toNat (0 : Int)).length k12), (63, .slice A1 x0.Cells.length k2), (64, .int .i64 (x0.Cells.length : Int)), (65, .int .i64 s48)]) _ hl53 ⟨hS46, rfl⟩ ?_
        rintro s48 F w60 _ o58 ⟨hS59, rfl⟩ hb56 ho57
        unfold m_impl_Memory_occurrencesOk_b3 at hb56
        refine WP.seq ?_
        refine WP.region ?_
        refine RW.run ttok 1 rfl ?_
        refine RW.nil ?_
        refine WP.seq ?_
        refine WP.cond (decide (s48 < (x0.Cells.length : Int))) rfl (fun hc => ?_) (fun hc => ?_)
        · skip
          rw [if_pos hc] at hb56
          refine WP.skip ?_
          refine WP.seq ?_
          refine WP.block ?_
          refine WP.seq ?_
          refine WP.region ?_
          refine RW.run ttok 1 rfl ?_
          obtain ⟨x61, hx62, hb56⟩ := bind_some hb56
          refine RW.idx ttok (hE.trans hS59.ext) rfl rfl rfl rfl rfl rfl (by decide) rfl rfl h3 (idx_some hx62).1 (idx_some hx62).2 rfl rfl (fun p63 es65 ha66 hr67 => ?_)
          obtain ⟨A68, k69, A71, k72, e74, h70, h73⟩ := ty157_open hr67; subst e74
          refine RW.loadN ttok rfl rfl rfl rfl rfl (At.ext (hE.trans hS59.ext) ha66) rfl rfl rfl ?_
          refine RW.new ttok hS59 rfl rfl rfl rfl (fun g75 w76 e77 hS78 => ?_)
          refine RW.run ttok 1 rfl ?_
          have hS79 := hS78.bring 0 rfl
          refine RW.store ttok (A := []) hS79 rfl rfl rfl rfl rfl 0 rfl rfl rfl rfl rfl (fun w80 hS81 => ?_)
          refine RW.nil ?_
          refine WP.seq ?_
          refine WP.region ?_
          refine RW.run ttok 1 rfl ?_
          refine RW.nil ?_
          refine WP.seq ?_
          refine WP.block ?_
          refine WP.seq ?_
          refine WP.region ?_
          refine RW.loadN ttok rfl rfl rfl rfl rfl ((hS81.bring 0 rfl).box) rfl rfl rfl ?_
          obtain ⟨r82, hx83, hb56⟩ := bind_some hb56
          refine RW.call rfl rfl rfl enters259 (impl_Cell_isFree_ok (hE.trans hS81.ext) (ty157_shut x61 h70 h73) hx83) (fun v84 w85 hR86 => ?_)
          obtain ⟨rfl, hR87⟩ := hR86
          have hS88 := hS81.join hR87
          refine RW.run ttok 1 rfl ?_
          refine RW.nil ?_
          refine WP.cut (fun (t89 : Int) F w9 => m_impl_Memory_occurrencesOk_j4 fuel t41 s48 t89 = some o58 ∧ Ext w85 w9 ∧ St w w9 [Box g75 [.int .i64 x61.Kind, .int .i64 x61.Level, .int .i64 x61.Value, .slice A68 x61.Data.length k69, .slice A71 x61.Words.length k72] 157, Own ty155 [.slice A28 (r17 ++ x1).length k29] (r17 ++ x1), Own ty326 [.slice A11 (List.replicate (x0.Cells.length : Int).toNat (0 : Int)).length k12] t41] ∧ F = [(5, .slice A11 (List.replicate (x0.Cells.length : Int).toNat (0 : Int)).length k12), (10, .int .i64 s48), (12, .int .i64 t89), (63, .slice A1 x0.Cells.length k2), (64, .int .i64 (x0.Cells.length : Int)), (65, .int .i64 s48)]) ?_ ?_
          · skip
            rintro t89 F w92 ⟨hb56, hE90, hS91, rfl⟩
            unfold m_impl_Memory_occurrencesOk_j4 at hb56
            refine WP.seq ?_
            refine WP.region ?_
            refine RW.run ttok 2 rfl ?_
            obtain ⟨x94, hx95, hb56⟩ := bind_some hb56
            refine RW.idx ttok (Ext.refl _) rfl rfl rfl rfl rfl rfl (by decide) rfl rfl ((hS91.bring 2 rfl).own) (idx_some hx95).1 (idx_some hx95).2 rfl rfl (fun p96 es97 ha98 hr99 => ?_)
            cases hr99
            refine RW.load1 ttok rfl rfl rfl rfl rfl ha98 0 rfl rfl rfl rfl ?_
            refine RW.run ttok 2 rfl ?_
            refine RW.nil ?_
            refine WP.cond (x94 != t89) rfl (fun hc => ?_) (fun hc => ?_)
            · skip
              rw [if_pos hc] at hb56
              refine WP.seq ?_
              refine WP.region ?_
              refine RW.run ttok 1 rfl ?_
              refine RW.nil ?_
              refine WP.ret ?_
              cases hb56
              cases ho57
              have hm : some _ = some _ := hm
              cases hm
              exact ⟨_, .cons (.tmp rfl) .nil, rfl, (hS91.taken 0)⟩
            · skip
              rw [if_neg (not_t hc)] at hb56
              refine WP.skip ?_
              refine WP.region ?_
              refine RW.run ttok 2 rfl ?_
              refine RW.nil ?_
              cases hb56
              exact ⟨_, [(5, .slice A11 (List.replicate (x0.Cells.length : Int).toNat (0 : Int)).length k12), (63, .slice A1 x0.Cells.length k2), (64, .int .i64 (x0.Cells.length : Int)), (65, .int .i64 (w64 (s48 + 1)))], ⟨rfl, rfl, rfl, rfl, trivial⟩, rfl, (hS91.bring 0 rfl).drop, rfl⟩
          · skip
            refine WP.cond r82 rfl (fun hc => ?_) (fun hc => ?_)
            · skip
              rw [if_pos hc] at hb56
              refine WP.region ?_
              refine RW.run ttok 1 rfl ?_
              refine RW.nil ?_
              exact ⟨0, [(5, .slice A11 (List.replicate (x0.Cells.length : Int).toNat (0 : Int)).length k12), (10, .int .i64 s48), (12, .int .i64 0), (63, .slice A1 x0.Cells.length k2), (64, .int .i64 (x0.Cells.length : Int)), (65, .int .i64 s48)], ⟨rfl, rfl, rfl, rfl, rfl, rfl, trivial⟩, hb56, (Ext.refl _), hS88, rfl⟩
            · skip
              rw [if_neg (not_t hc)] at hb56
              refine WP.seq ?_
              refine WP.cut (fun (t100 : Bool) F w9 => m_impl_Memory_occurrencesOk_j5 fuel t41 s48 t100 = some o58 ∧ Ext w85 w9 ∧ St w w9 [Box g75 [.int .i64 x61.Kind, .int .i64 x61.Level, .int .i64 x61.Value, .slice A68 x61.Data.length k69, .slice A71 x61.Words.length k72] 157, Own ty155 [.slice A28 (r17 ++ x1).length k29] (r17 ++ x1), Own ty326 [.slice A11 (List.replicate (x0.Cells.length : Int).toNat (0 : Int)).length k12] t41] ∧ F = [(5, .slice A11 (List.replicate (x0.Cells.length : Int).toNat (0 : Int)).length k12), (10, .int .i64 s48), (12, .int .i64 1), (63, .slice A1 x0.Cells.length k2), (64, .int .i64 (x0.Cells.length : Int)), (65, .int .i64 s48), (73, .bool t100)]) ?_ ?_
              · skip
                rintro t100 F w103 ⟨hb56, hE101, hS102, rfl⟩
                unfold m_impl_Memory_occurrencesOk_j5 at hb56
                refine WP.cut (fun (t105 : Int) F w9 => m_impl_Memory_occurrencesOk_j6 fuel t41 s48 t105 = some o58 ∧ Ext w103 w9 ∧ St w w9 [Box g75 [.int .i64 x61.Kind, .int .i64 x61.Level, .int .i64 x61.Value, .slice A68 x61.Data.length k69, .slice A71 x61.Words.length k72] 157, Own ty155 [.slice A28 (r17 ++ x1).length k29] (r17 ++ x1), Own ty326 [.slice A11 (List.replicate (x0.Cells.length : Int).toNat (0 : Int)).length k12] t41] ∧ F = [(5, .slice A11 (List.replicate (x0.Cells.length : Int).toNat (0 : Int)).length k12), (10, .int .i64 s48), (12, .int .i64 t105), (63, .slice A1 x0.Cells.length k2), (64, .int .i64 (x0.Cells.length : Int)), (65, .int .i64 s48)]) ?_ ?_
                · skip
                  rintro t105 F w108 ⟨hb56, hE106, hS107, rfl⟩
                  unfold m_impl_Memory_occurrencesOk_j6 at hb56
                  exact ⟨t105, [(5, .slice A11 (List.replicate (x0.Cells.length : Int).toNat (0 : Int)).length k12), (10, .int .i64 s48), (12, .int .i64 t105), (63, .slice A1 x0.Cells.length k2), (64, .int .i64 (x0.Cells.length : Int)), (65, .int .i64 s48)], ⟨rfl, rfl, rfl, rfl, rfl, rfl, trivial⟩, hb56, (hE101.trans hE106), hS107, rfl⟩
                · skip
                  refine WP.cond t100 rfl (fun hc => ?_) (fun hc => ?_)
                  · skip
                    rw [if_pos hc] at hb56
                    refine WP.region ?_
                    refine RW.run ttok 1 rfl ?_
                    refine RW.nil ?_
                    exact ⟨2, [(5, .slice A11 (List.replicate (x0.Cells.length : Int).toNat (0 : Int)).length k12), (10, .int .i64 s48), (12, .int .i64 2), (63, .slice A1 x0.Cells.length k2), (64, .int .i64 (x0.Cells.length : Int)), (65, .int .i64 s48)], ⟨rfl, rfl, rfl, rfl, rfl, rfl, trivial⟩, hb56, (Ext.refl _), hS102, rfl⟩
                  · skip
                    rw [if_neg (not_t hc)] at hb56
                    refine WP.skip ?_
                    exact ⟨1, [(5, .slice A11 (List.replicate (x0.Cells.length : Int).toNat (0 : Int)).length k12), (10, .int .i64 s48), (12, .int .i64 1), (63, .slice A1 x0.Cells.length k2), (64, .int .i64 (x0.Cells.length : Int)), (65, .int .i64 s48)], ⟨rfl, rfl, rfl, rfl, rfl, rfl, trivial⟩, hb56, (Ext.refl _), hS102, rfl⟩
              · skip
                refine WP.region ?_
                refine RW.loadN ttok rfl rfl rfl rfl rfl ((hS88.bring 0 rfl).box) rfl rfl rfl ?_
                obtain ⟨r110, hx111, hb56⟩ := bind_some hb56
                refine RW.call rfl rfl rfl enters96 (impl_Cell_isVariable_ok (hE.trans hS88.ext) (ty157_shut x61 h70 h73) hx111) (fun v112 w113 hR114 => ?_)
                obtain ⟨rfl, hR115⟩ := hR114
                have hS116 := hS88.join hR115
                refine RW.run ttok 1 rfl ?_
                by_cases hg117 : r110 = true
                · skip
                  rw [if_pos hg117] at hb56
                  refine RW.know 76 rfl (congrArg Value.bool hg117) ?_
                  refine RW.run ttok 1 rfl ?_
                  refine RW.load1 ttok rfl rfl rfl rfl rfl ((hS116.bring 0 rfl).box) 4 rfl rfl rfl rfl ?_
                  refine RW.run ttok 4 rfl ?_
                  refine RW.nil ?_
                  exact ⟨((x61.Words.length : Int) == 0), [(5, .slice A11 (List.replicate (x0.Cells.length : Int).toNat (0 : Int)).length k12), (10, .int .i64 s48), (12, .int .i64 1), (63, .slice A1 x0.Cells.length k2), (64, .int .i64 (x0.Cells.length : Int)), (65, .int .i64 s48), (73, .bool ((x61.Words.length : Int) == 0))], ⟨rfl, rfl, rfl, rfl, rfl, rfl, rfl, trivial⟩, hb56, hR115.ext, hS116, rfl⟩
                · skip
                  rw [if_neg hg117] at hb56
                  refine RW.know 76 rfl (congrArg Value.bool (Bool.eq_false_iff.2 hg117)) ?_
                  refine RW.run ttok 6 rfl ?_
                  refine RW.nil ?_
                  exact ⟨false, [(5, .slice A11 (List.replicate (x0.Cells.length : Int).toNat (0 : Int)).length k12), (10, .int .i64 s48), (12, .int .i64 1), (63, .slice A1 x0.Cells.length k2), (64, .int .i64 (x0.Cells.length : Int)), (65, .int .i64 s48), (73, .bool false)], ⟨rfl, rfl, rfl, rfl, rfl, rfl, rfl, trivial⟩, hb56, hR115.ext, hS116, rfl⟩
        · skip
          rw [if_neg (not_t hc)] at hb56
          refine WP.exit ?_
          cases hb56
          exact ⟨_, [], trivial, ho57, hS59, rfl⟩
    · skip
      refine WP.block ?_
      refine WP.weak [(0, .pointer (some p0_)), (5, .slice A11 (List.replicate (x0.Cells.length : Int).toNat (0 : Int)).length k12), (39, .slice A4 x0.Redexes.length k5), (40, .int .i64 (x0.Redexes.length : Int)), (41, .int .i64 0)] ⟨rfl, rfl, rfl, rfl, rfl, trivial⟩ ?_
      refine WP.iter (fun (s40 : Int × (List Int)) F w9 => St w w9 [Own ty155 [.slice A28 (r17 ++ x1).length k29] (r17 ++ x1), Own ty326 [.slice A11 (List.replicate (x0.Cells.length : Int).toNat (0 : Int)).length k12] s40.2] ∧ F = [(0, .pointer (some p0_)), (5, .slice A11 (List.replicate (x0.Cells.length : Int).toNat (0 : Int)).length k12), (39, .slice A4 x0.Redexes.length k5), (40, .int .i64 (x0.Redexes.length : Int)), (41, .int .i64 s40.1)]) _ hl45 ⟨hS38, rfl⟩ ?_
      rintro s40 F w122 _ o120 ⟨hS121, rfl⟩ hb118 ho119
      unfold m_impl_Memory_occurrencesOk_b2 at hb118
      refine WP.seq ?_
      refine WP.region ?_
      refine RW.run ttok 1 rfl ?_
      refine RW.nil ?_
      refine WP.seq ?_
      refine WP.cond (decide (s40.1 < (x0.Redexes.length : Int))) rfl (fun hc => ?_) (fun hc => ?_)
      · skip
        rw [if_pos hc] at hb118
        refine WP.skip ?_
        refine WP.seq ?_
        refine WP.block ?_
        refine WP.seq ?_
        refine WP.region ?_
        obtain ⟨x123, hx124, hb118⟩ := bind_some hb118
        refine RW.idx ttok (hE.trans hS121.ext) rfl rfl rfl rfl rfl rfl (by decide) rfl rfl h6 (idx_some hx124).1 (idx_some hx124).2 rfl rfl (fun p125 es126 ha127 hr128 => ?_)
        have e129 := ty139_open hr128; subst e129
        refine RW.loadN ttok rfl rfl rfl rfl rfl (At.ext (hE.trans hS121.ext) ha127) rfl rfl rfl ?_
        refine RW.new ttok hS121 rfl rfl rfl rfl (fun g130 w131 e132 hS133 => ?_)
        have hS134 := hS133.bring 0 rfl
        refine RW.store ttok (A := []) hS134 rfl rfl rfl rfl rfl 0 rfl rfl rfl rfl rfl (fun w135 hS136 => ?_)
        refine RW.nil ?_
        refine WP.seq ?_
        refine WP.region ?_
        refine RW.run ttok 2 rfl ?_
        refine RW.load1 ttok rfl rfl rfl rfl rfl ((hS136.bring 0 rfl).box) 0 rfl rfl rfl rfl ?_
        obtain ⟨x137, hx138, hb118⟩ := bind_some hb118
        refine RW.idx ttok (Ext.refl _) rfl rfl rfl rfl rfl rfl (by decide) rfl rfl ((hS136.bring 2 rfl).own) (idx_some hx138).1 (idx_some hx138).2 rfl rfl (fun p139 es140 ha141 hr142 => ?_)
        cases hr142
        refine RW.load1 ttok rfl rfl rfl rfl rfl ha141 0 rfl rfl rfl rfl ?_
        refine RW.run ttok 1 rfl ?_
        have hS143 := hS136.bring 2 rfl
        by_cases hk144 : decide (0 ≤ x123.A ∧ x123.A.toNat < s40.2.length) = true
        case neg => rw [if_neg hk144] at hb118; cases hb118
        rw [if_pos hk144] at hb118
        have hb145 := of_decide_eq_true hk144
        refine RW.idxOwnN ttok hS143 rfl rfl rfl rfl rfl rfl rfl rfl hb145.1 hb145.2 rfl rfl (fun q146 hq147 => ?_)
        have hS148 := hS143.flat (T := tInt) (cs := [.int .i64 (w64 (x137 + 1))]) (x := (w64 (x137 + 1))) ⟨rfl, rfl⟩
        have hS149 := hS148.bring 1 rfl
        refine RW.storeElN ttok hS149 rfl rfl rfl rfl rfl rfl hb145.2 hq147 rfl rfl (fun w150 hS151 => ?_)
        refine RW.nil ?_
        refine WP.region ?_
        refine RW.run ttok 2 rfl ?_
        refine RW.load1 ttok rfl rfl rfl rfl rfl ((hS151.bring 1 rfl).box) 1 rfl rfl rfl rfl ?_
        obtain ⟨x152, hx153, hb118⟩ := bind_some hb118
        refine RW.idx ttok (Ext.refl _) rfl rfl rfl rfl rfl rfl (by decide) rfl rfl ((hS151.bring 0 rfl).own) (idx_some hx153).1 (idx_some hx153).2 rfl rfl (fun p154 es155 ha156 hr157 => ?_)
        cases hr157
        refine RW.load1 ttok rfl rfl rfl rfl rfl ha156 0 rfl rfl rfl rfl ?_
        refine RW.run ttok 1 rfl ?_
        have hS158 := hS151.bring 0 rfl
        by_cases hk159 : decide (0 ≤ x123.B ∧ x123.B.toNat < (s40.2.set x123.A.toNat (w64 (x137 + 1))).length) = true
        case neg => rw [if_neg hk159] at hb118; cases hb118
        rw [if_pos hk159] at hb118
        have hb160 := of_decide_eq_true hk159
        refine RW.idxOwnN ttok hS158 rfl rfl rfl rfl rfl rfl rfl rfl hb160.1 hb160.2 rfl rfl (fun q161 hq162 => ?_)
        have hS163 := hS158.flat (T := tInt) (cs := [.int .i64 (w64 (x152 + 1))]) (x := (w64 (x152 + 1))) ⟨rfl, rfl⟩
        have hS164 := hS163.bring 1 rfl
        refine RW.storeElN ttok hS164 rfl rfl rfl rfl rfl rfl hb160.2 hq162 rfl rfl (fun w165 hS166 => ?_)
        refine RW.nil ?_
        refine WP.region ?_
        refine RW.run ttok 2 rfl ?_
        refine RW.nil ?_
        cases hb118
        exact ⟨_, [(0, .pointer (some p0_)), (5, .slice A11 (List.replicate (x0.Cells.length : Int).toNat (0 : Int)).length k12), (39, .slice A4 x0.Redexes.length k5), (40, .int .i64 (x0.Redexes.length : Int)), (41, .int .i64 (w64 (s40.1 + 1)))], ⟨rfl, rfl, rfl, rfl, rfl, trivial⟩, rfl, (((hS166.bring 0 rfl).bring 2 rfl).taken 2), rfl⟩
      · skip
        rw [if_neg (not_t hc)] at hb118
        refine WP.exit ?_
        cases hb118
        exact ⟨_, [(0, .pointer (some p0_)), (5, .slice A11 (List.replicate (x0.Cells.length : Int).toNat (0 : Int)).length k12)], ⟨rfl, rfl, trivial⟩, ho119, hS121, rfl⟩
  · skip
    refine WP.block ?_
    refine WP.weak [(0, .pointer (some p0_)), (5, .slice A11 (List.replicate (x0.Cells.length : Int).toNat (0 : Int)).length k12), (22, .slice A28 (r17 ++ x1).length k29), (23, .int .i64 ((r17 ++ x1).length : Int)), (24, .int .i64 0)] ⟨rfl, rfl, rfl, rfl, rfl, trivial⟩ ?_
    refine WP.iter (fun (s32 : Int × (List Int)) F w9 => St w w9 [Own ty155 [.slice A28 (r17 ++ x1).length k29] (r17 ++ x1), Own ty326 [.slice A11 (List.replicate (x0.Cells.length : Int).toNat (0 : Int)).length k12] s32.2] ∧ F = [(0, .pointer (some p0_)), (5, .slice A11 (List.replicate (x0.Cells.length : Int).toNat (0 : Int)).length k12), (22, .slice A28 (r17 ++ x1).length k29), (23, .int .i64 ((r17 ++ x1).length : Int)), (24, .int .i64 s32.1)]) _ hl37 ⟨hS31, rfl⟩ ?_
    rintro s32 F w171 _ o169 ⟨hS170, rfl⟩ hb167 ho168
    unfold m_impl_Memory_occurrencesOk_b1 at hb167
    refine WP.seq ?_
    refine WP.region ?_
    refine RW.run ttok 1 rfl ?_
    refine RW.nil ?_
    refine WP.seq ?_
    refine WP.cond (decide (s32.1 < ((r17 ++ x1).length : Int))) rfl (fun hc => ?_) (fun hc => ?_)
    · skip
      rw [if_pos hc] at hb167
      refine WP.skip ?_
      refine WP.seq ?_
      refine WP.block ?_
      refine WP.seq ?_
      refine WP.region ?_
      obtain ⟨x172, hx173, hb167⟩ := bind_some hb167
      refine RW.idx ttok (Ext.refl _) rfl rfl rfl rfl rfl rfl (by decide) rfl rfl ((hS170.bring 0 rfl).own) (idx_some hx173).1 (idx_some hx173).2 rfl rfl (fun p174 es175 ha176 hr177 => ?_)
      have e178 := ty77_open hr177; subst e178
      refine RW.loadN ttok rfl rfl rfl rfl rfl ha176 rfl rfl rfl ?_
      refine RW.new ttok hS170 rfl rfl rfl rfl (fun g179 w180 e181 hS182 => ?_)
      have hS183 := hS182.bring 0 rfl
      refine RW.store ttok (A := []) hS183 rfl rfl rfl rfl rfl 0 rfl rfl rfl rfl rfl (fun w184 hS185 => ?_)
      refine RW.nil ?_
      refine WP.region ?_
      refine RW.run ttok 2 rfl ?_
      refine RW.load1 ttok rfl rfl rfl rfl rfl ((hS185.bring 0 rfl).box) 1 rfl rfl rfl rfl ?_
      obtain ⟨x186, hx187, hb167⟩ := bind_some hb167
      refine RW.idx ttok (Ext.refl _) rfl rfl rfl rfl rfl rfl (by decide) rfl rfl ((hS185.bring 2 rfl).own) (idx_some hx187).1 (idx_some hx187).2 rfl rfl (fun p188 es189 ha190 hr191 => ?_)
      cases hr191
      refine RW.load1 ttok rfl rfl rfl rfl rfl ha190 0 rfl rfl rfl rfl ?_
      refine RW.run ttok 1 rfl ?_
      have hS192 := hS185.bring 2 rfl
      by_cases hk193 : decide (0 ≤ x172.At ∧ x172.At.toNat < s32.2.length) = true
      case neg => rw [if_neg hk193] at hb167; cases hb167
      rw [if_pos hk193] at hb167
      have hb194 := of_decide_eq_true hk193
      refine RW.idxOwnN ttok hS192 rfl rfl rfl rfl rfl rfl rfl rfl hb194.1 hb194.2 rfl rfl (fun q195 hq196 => ?_)
      have hS197 := hS192.flat (T := tInt) (cs := [.int .i64 (w64 (x186 + 1))]) (x := (w64 (x186 + 1))) ⟨rfl, rfl⟩
      have hS198 := hS197.bring 1 rfl
      refine RW.storeElN ttok hS198 rfl rfl rfl rfl rfl rfl hb194.2 hq196 rfl rfl (fun w199 hS200 => ?_)
      refine RW.nil ?_
      refine WP.region ?_
      refine RW.run ttok 2 rfl ?_
      refine RW.nil ?_
      cases hb167
      exact ⟨_, [(0, .pointer (some p0_)), (5, .slice A11 (List.replicate (x0.Cells.length : Int).toNat (0 : Int)).length k12), (22, .slice A28 (r17 ++ x1).length k29), (23, .int .i64 ((r17 ++ x1).length : Int)), (24, .int .i64 (w64 (s32.1 + 1)))], ⟨rfl, rfl, rfl, rfl, rfl, trivial⟩, rfl, (((hS200.bring 0 rfl).bring 2 rfl).taken 2), rfl⟩
    · skip
      rw [if_neg (not_t hc)] at hb167
      refine WP.exit ?_
      cases hb167
      exact ⟨_, [(0, .pointer (some p0_)), (5, .slice A11 (List.replicate (x0.Cells.length : Int).toNat (0 : Int)).length k12)], ⟨rfl, rfl, trivial⟩, ho168, hS170, rfl⟩

theorem enters115 : Enters Try.prog 115 := ⟨_, _, Try.func115, rfl, by kernel_rfl⟩
def m_impl_truth (fuel : Nat) (x0 : Bool) : Option (Int) := (if x0 = true then some 1 else some 0)

set_option maxRecDepth 100000 in
theorem impl_truth_ok {W w : World} (hE : Ext W w) {x0 : Bool}  {fuel : Nat} {r : Int} (hm : m_impl_truth fuel x0 = some r) :
    Calls Try.prog 115 ⟨[.bool x0]⟩ w (Ret fun v w8 => v = .int .i64 r ∧ St w w8 []) := by
  refine Calls.into Try.func115 rfl 4 rfl rfl _ rfl ?_
  unfold m_impl_truth at hm
  have hS := St.start w
  refine WP.seq ?_
  refine WP.region ?_
  refine RW.run ttok 1 rfl ?_
  refine RW.nil ?_
  refine WP.seq ?_
  refine WP.seq ?_
  refine WP.region ?_
  refine RW.run ttok 1 rfl ?_
  refine RW.nil ?_
  refine WP.cond x0 rfl (fun hc => ?_) (fun hc => ?_)
  · skip
    rw [if_pos hc] at hm
    refine WP.seq ?_
    refine WP.region ?_
    refine RW.run ttok 1 rfl ?_
    refine RW.nil ?_
    refine WP.ret ?_
    cases hm
    exact ⟨_, .cons (.tmp rfl) .nil, rfl, hS⟩
  · skip
    rw [if_neg (not_t hc)] at hm
    refine WP.skip ?_
    refine WP.seq ?_
    refine WP.region ?_
    refine RW.run ttok 1 rfl ?_
    refine RW.nil ?_
    refine WP.ret ?_
    cases hm
    exact ⟨_, .cons (.tmp rfl) .nil, rfl, hS⟩

theorem enters226 : Enters Try.prog 226 := ⟨_, _, Try.func226, rfl, by kernel_rfl⟩
def m_impl_Memory_freeOk_j2 (fuel : Nat) (t19 : Int) : Option Bool := some (t19 == (-1))
def m_impl_Memory_freeOk_j3 (fuel : Nat) (x0 : D.Memory) (s18 : Int × Int) (t34 : Bool) : Option (Rd (Int × Int) (Int) (Bool)) := (if t34 = true then some (.ret false) else ((idx x0.Cells s18.1).bind fun x39 => some (.next (x39.Value, w64 (s18.2 + 1)))))
def m_impl_Memory_freeOk_b2 (fuel : Nat) (x0 : D.Memory) (t11 : Int) (s18 : Int × Int) : Option (Rd (Int × Int) (Int) (Bool)) := (if (decide (s18.2 < t11)) = true then ((m_impl_Memory_hasCell fuel x0 s18.1).bind fun r52 => (if (!r52) = true then m_impl_Memory_freeOk_j3 fuel x0 s18 true else ((idx x0.Cells s18.1).bind fun x60 => ((m_impl_Cell_isFree fuel x60).bind fun r74 => m_impl_Memory_freeOk_j3 fuel x0 s18 (!r74))))) else some (.brk s18.1))
def m_impl_Memory_freeOk_j1 (fuel : Nat) (x0 : D.Memory) (t11 : Int) : Option Bool := ((iter (m_impl_Memory_freeOk_b2 fuel x0 t11) fuel (x0.Free, 0)).bind fun o => aft o (m_impl_Memory_freeOk_j2 fuel))
def m_impl_Memory_freeOk_b1 (fuel : Nat) (x0 : D.Memory) (s10 : Int × Int) : Option (Rd (Int × Int) (Int) (Bool)) := (if (decide (s10.2 < (x0.Cells.length : Int))) = true then ((idx x0.Cells s10.2).bind fun x86 => ((m_impl_Cell_isFree fuel x86).bind fun r106 => ((m_impl_truth fuel r106).bind fun r113 => some (.next (w64 (s10.1 + r113), w64 (s10.2 + 1)))))) else some (.brk s10.1))
def m_impl_Memory_freeOk (fuel : Nat) (x0 : D.Memory) : Option (Bool) := ((iter (m_impl_Memory_freeOk_b1 fuel x0) fuel (0, 0)).bind fun o => aft o (m_impl_Memory_freeOk_j1 fuel x0))

set_option maxRecDepth 100000 in
theorem impl_Memory_freeOk_ok {W w : World} (hE : Ext W w) {p0_ : Addr} {c0_ : List Value} {x0 : D.Memory} (h0_ : ty80.ro W c0_ x0) (g0_ : At W p0_ c0_) {fuel : Nat} {r : Bool} (hm : m_impl_Memory_freeOk fuel x0 = some r) :
    Calls Try.prog 226 ⟨[.pointer (some p0_)]⟩ w (Ret fun v w8 => v = .bool r ∧ St w w8 []) := by
  obtain ⟨A1, k2, A4, k5, e7, h3, h6⟩ := ty80_open h0_; subst e7
  refine Calls.into Try.func226 rfl 55 rfl rfl _ rfl ?_
  unfold m_impl_Memory_freeOk at hm
  have hS := St.start w
  refine WP.seq ?_
  refine WP.region ?_
  refine RW.run ttok 1 rfl ?_
  refine RW.nil ?_
  refine WP.seq ?_
  refine WP.region ?_
  refine RW.run ttok 1 rfl ?_
  refine RW.nil ?_
  refine WP.seq ?_
  refine WP.seq ?_
  refine WP.region ?_
  refine RW.run ttok 3 rfl ?_
  refine RW.load1 ttok rfl rfl rfl rfl rfl (At.ext (hE.trans hS.ext) g0_) 0 rfl rfl rfl rfl ?_
  refine RW.run ttok 2 rfl ?_
  refine RW.nil ?_
  obtain ⟨o14, hl15, hm⟩ := bind_some hm
  refine WP.cut (fun (t11 : Int) F w9 => o14 = .inl t11 ∧ St w w9 [] ∧ F = [(0, .pointer (some p0_)), (3, .int .i64 t11)]) ?_ ?_
  · skip
    rintro t11 F w13 ⟨ho17, hS16, rfl⟩
    subst ho17
    rw [aft_inl] at hm
    unfold m_impl_Memory_freeOk_j1 at hm
    refine WP.seq ?_
    refine WP.region ?_
    refine RW.run ttok 3 rfl ?_
    refine RW.load1 ttok rfl rfl rfl rfl rfl (At.ext (hE.trans hS16.ext) g0_) 1 rfl rfl rfl rfl ?_
    refine RW.run ttok 1 rfl ?_
    refine RW.nil ?_
    refine WP.seq ?_
    refine WP.seq ?_
    refine WP.region ?_
    refine RW.run ttok 2 rfl ?_
    refine RW.nil ?_
    obtain ⟨o25, hl26, hm⟩ := bind_some hm
    refine WP.cut (fun (t19 : Int) F w9 => o25 = .inl t19 ∧ Ext w13 w9 ∧ St w w9 [] ∧ F = [(6, .int .i64 t19)]) ?_ ?_
    · skip
      rintro t19 F w24 ⟨ho28, hE23, hS27, rfl⟩
      subst ho28
      rw [aft_inl] at hm
      unfold m_impl_Memory_freeOk_j2 at hm
      refine WP.seq ?_
      refine WP.region ?_
      refine RW.run ttok 3 rfl ?_
      refine RW.nil ?_
      refine WP.ret ?_
      cases hm
      exact ⟨_, .cons (.tmp rfl) .nil, rfl, hS27⟩
    · skip
      refine WP.block ?_
      refine WP.weak [(0, .pointer (some p0_)), (6, .int .i64 x0.Free), (26, .int .i64 t11), (27, .int .i64 0)] ⟨rfl, rfl, rfl, rfl, trivial⟩ ?_
      refine WP.iter (fun (s18 : Int × Int) F w9 => Ext w13 w9 ∧ St w w9 [] ∧ F = [(0, .pointer (some p0_)), (6, .int .i64 s18.1), (26, .int .i64 t11), (27, .int .i64 s18.2)]) _ hl26 ⟨(Ext.refl _), hS16, rfl⟩ ?_
      rintro s18 F w33 _ o31 ⟨hE22, hS32, rfl⟩ hb29 ho30
      unfold m_impl_Memory_freeOk_b2 at hb29
      refine WP.seq ?_
      refine WP.region ?_
      refine RW.run ttok 1 rfl ?_
      refine RW.nil ?_
      refine WP.seq ?_
      refine WP.cond (decide (s18.2 < t11)) rfl (fun hc => ?_) (fun hc => ?_)
      · skip
        rw [if_pos hc] at hb29
        refine WP.skip ?_
        refine WP.seq ?_
        refine WP.block ?_
        refine WP.seq ?_
        refine WP.seq ?_
        refine WP.cut (fun (t34 : Bool) F w9 => m_impl_Memory_freeOk_j3 fuel x0 s18 t34 = some o31 ∧ Ext w33 w9 ∧ St w w9 [] ∧ F = [(0, .pointer (some p0_)), (6, .int .i64 s18.1), (26, .int .i64 t11), (27, .int .i64 s18.2), (43, .bool t34)]) ?_ ?_
        · skip
          rintro t34 F w37 ⟨hb29, hE35, hS36, rfl⟩
          unfold m_impl_Memory_freeOk_j3 at hb29
          refine WP.cond t34 rfl (fun hc => ?_) (fun hc => ?_)
          · skip
            rw [if_pos hc] at hb29
            refine WP.seq ?_
            refine WP.region ?_
            refine RW.run ttok 1 rfl ?_
            refine RW.nil ?_
            refine WP.ret ?_
            cases hb29
            cases ho30
            have hm : some _ = some _ := hm
            cases hm
            exact ⟨_, .cons (.tmp rfl) .nil, rfl, hS36⟩
          · skip
            rw [if_neg (not_t hc)] at hb29
            refine WP.skip ?_
            refine WP.region ?_
            refine RW.run ttok 3 rfl ?_
            refine RW.load1 ttok rfl rfl rfl rfl rfl (At.ext (hE.trans hS36.ext) g0_) 0 rfl rfl rfl rfl ?_
            refine RW.run ttok 1 rfl ?_
            obtain ⟨x39, hx40, hb29⟩ := bind_some hb29
            refine RW.idx ttok (hE.trans hS36.ext) rfl rfl rfl rfl rfl rfl (by decide) rfl rfl h3 (idx_some hx40).1 (idx_some hx40).2 rfl rfl (fun p41 es42 ha43 hr44 => ?_)
            obtain ⟨A45, k46, A48, k49, e51, h47, h50⟩ := ty157_open hr44; subst e51
            refine RW.run ttok 1 rfl ?_
            refine RW.load1 ttok rfl rfl rfl rfl rfl (At.ext (hE.trans hS36.ext) ha43) 2 rfl rfl rfl rfl ?_
            refine RW.run ttok 1 rfl ?_
            refine RW.nil ?_
            refine WP.region ?_
            refine RW.run ttok 2 rfl ?_
            refine RW.nil ?_
            cases hb29
            exact ⟨_, [(0, .pointer (some p0_)), (6, .int .i64 x39.Value), (26, .int .i64 t11), (27, .int .i64 (w64 (s18.2 + 1)))], ⟨rfl, rfl, rfl, rfl, trivial⟩, rfl, (hE22.trans hE35), hS36, rfl⟩
        · skip
          refine WP.region ?_
          refine RW.run ttok 2 rfl ?_
          obtain ⟨r52, hx53, hb29⟩ := bind_some hb29
          refine RW.call rfl rfl rfl enters261 (impl_Memory_hasCell_ok (hE.trans hS32.ext) h0_ g0_ hx53) (fun v54 w55 hR56 => ?_)
          obtain ⟨rfl, hR57⟩ := hR56
          have hS58 := hS32.join hR57
          refine RW.run ttok 2 rfl ?_
          by_cases hg59 : (!r52) = true
          · skip
            rw [if_pos hg59] at hb29
            refine RW.know 33 rfl (congrArg Value.bool hg59) ?_
            refine RW.run ttok 10 rfl ?_
            refine RW.nil ?_
            exact ⟨true, [(0, .pointer (some p0_)), (6, .int .i64 s18.1), (26, .int .i64 t11), (27, .int .i64 s18.2), (43, .bool true)], ⟨rfl, rfl, rfl, rfl, rfl, trivial⟩, hb29, hR57.ext, hS58, rfl⟩
          · skip
            rw [if_neg hg59] at hb29
            refine RW.know 33 rfl (congrArg Value.bool (Bool.eq_false_iff.2 hg59)) ?_
            refine RW.run ttok 3 rfl ?_
            refine RW.load1 ttok rfl rfl rfl rfl rfl (At.ext (hE.trans hS58.ext) g0_) 0 rfl rfl rfl rfl ?_
            refine RW.run ttok 1 rfl ?_
            obtain ⟨x60, hx61, hb29⟩ := bind_some hb29
            refine RW.idx ttok (hE.trans hS58.ext) rfl rfl rfl rfl rfl rfl (by decide) rfl rfl h3 (idx_some hx61).1 (idx_some hx61).2 rfl rfl (fun p62 es63 ha65 hr66 => ?_)
            obtain ⟨A67, k68, A70, k71, e73, h69, h72⟩ := ty157_open hr66; subst e73
            refine RW.loadN ttok rfl rfl rfl rfl rfl (At.ext (hE.trans hS58.ext) ha65) rfl rfl rfl ?_
            obtain ⟨r74, hx75, hb29⟩ := bind_some hb29
            refine RW.call rfl rfl rfl enters259 (impl_Cell_isFree_ok (hE.trans hS58.ext) hr66 hx75) (fun v76 w77 hR78 => ?_)
            obtain ⟨rfl, hR79⟩ := hR78
            have hS80 := hS58.join hR79
            refine RW.run ttok 2 rfl ?_
            refine RW.nil ?_
            exact ⟨!r74, [(0, .pointer (some p0_)), (6, .int .i64 s18.1), (26, .int .i64 t11), (27, .int .i64 s18.2), (43, .bool (!r74))], ⟨rfl, rfl, rfl, rfl, rfl, trivial⟩, hb29, (hR57.ext.trans hR79.ext), hS80, rfl⟩
      · skip
        rw [if_neg (not_t hc)] at hb29
        refine WP.exit ?_
        cases hb29
        exact ⟨_, [(6, .int .i64 s18.1)], ⟨rfl, trivial⟩, ho30, hE22, hS32, rfl⟩
  · skip
    refine WP.block ?_
    refine WP.weak [(0, .pointer (some p0_)), (3, .int .i64 0), (10, .slice A1 x0.Cells.length k2), (11, .int .i64 (x0.Cells.length : Int)), (12, .int .i64 0)] ⟨rfl, rfl, rfl, rfl, rfl, trivial⟩ ?_
    refine WP.iter (fun (s10 : Int × Int) F w9 => St w w9 [] ∧ F = [(0, .pointer (some p0_)), (3, .int .i64 s10.1), (10, .slice A1 x0.Cells.length k2), (11, .int .i64 (x0.Cells.length : Int)), (12, .int .i64 s10.2)]) _ hl15 ⟨hS, rfl⟩ ?_
    rintro s10 F w85 _ o83 ⟨hS84, rfl⟩ hb81 ho82
    unfold m_impl_Memory_freeOk_b1 at hb81
    refine WP.seq ?_
    refine WP.region ?_
    refine RW.run ttok 1 rfl ?_
    refine RW.nil ?_
    refine WP.seq ?_
    refine WP.cond (decide (s10.2 < (x0.Cells.length : Int))) rfl (fun hc => ?_) (fun hc => ?_)
    · skip
      rw [if_pos hc] at hb81
      refine WP.skip ?_
      refine WP.seq ?_
      refine WP.block ?_
      refine WP.seq ?_
      refine WP.region ?_
      obtain ⟨x86, hx87, hb81⟩ := bind_some hb81
      refine RW.idx ttok (hE.trans hS84.ext) rfl rfl rfl rfl rfl rfl (by decide) rfl rfl h3 (idx_some hx87).1 (idx_some hx87).2 rfl rfl (fun p88 es89 ha90 hr91 => ?_)
      obtain ⟨A92, k93, A95, k96, e98, h94, h97⟩ := ty157_open hr91; subst e98
      refine RW.loadN ttok rfl rfl rfl rfl rfl (At.ext (hE.trans hS84.ext) ha90) rfl rfl rfl ?_
      refine RW.new ttok hS84 rfl rfl rfl rfl (fun g99 w100 e101 hS102 => ?_)
      have hS103 := hS102.bring 0 rfl
      refine RW.store ttok (A := []) hS103 rfl rfl rfl rfl rfl 0 rfl rfl rfl rfl rfl (fun w104 hS105 => ?_)
      refine RW.nil ?_
      refine WP.region ?_
      refine RW.run ttok 1 rfl ?_
      refine RW.loadN ttok rfl rfl rfl rfl rfl ((hS105.bring 0 rfl).box) rfl rfl rfl ?_
      obtain ⟨r106, hx107, hb81⟩ := bind_some hb81
      refine RW.call rfl rfl rfl enters259 (impl_Cell_isFree_ok (hE.trans hS105.ext) (ty157_shut x86 h94 h97) hx107) (fun v108 w109 hR110 => ?_)
      obtain ⟨rfl, hR111⟩ := hR110
      have hS112 := hS105.join hR111
      obtain ⟨r113, hx114, hb81⟩ := bind_some hb81
      refine RW.call rfl rfl rfl enters115 (impl_truth_ok (hE.trans hS112.ext)  hx114) (fun v115 w116 hR117 => ?_)
      obtain ⟨rfl, hR118⟩ := hR117
      have hS119 := hS112.join hR118
      refine RW.run ttok 2 rfl ?_
      refine RW.nil ?_
      refine WP.region ?_
      refine RW.run ttok 2 rfl ?_
      refine RW.nil ?_
      cases hb81
      exact ⟨_, [(0, .pointer (some p0_)), (3, .int .i64 (w64 (s10.1 + r113))), (10, .slice A1 x0.Cells.length k2), (11, .int .i64 (x0.Cells.length : Int)), (12, .int .i64 (w64 (s10.2 + 1)))], ⟨rfl, rfl, rfl, rfl, rfl, trivial⟩, rfl, (hS119.taken 0), rfl⟩
    · skip
      rw [if_neg (not_t hc)] at hb81
      refine WP.exit ?_
      cases hb81
      exact ⟨_, [(0, .pointer (some p0_)), (3, .int .i64 s10.1)], ⟨rfl, rfl, trivial⟩, ho82, hS84, rfl⟩

end Go.E
