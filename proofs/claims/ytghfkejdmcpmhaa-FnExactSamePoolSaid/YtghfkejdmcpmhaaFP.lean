/- Models of functions and proofs that the code runs as they say (written by program). Conditions: the model gives a value. -/
import Derived.Test.YtghfkejdmcpmhaaIter
namespace Go.E
open Go.RowKit Go.Proofs
set_option linter.unusedVariables false
set_option linter.unusedSimpArgs false

theorem enters83 : Enters Try.prog 83 := ⟨_, _, Try.func83, rfl, by kernel_rfl⟩
def m_laws_szInt64S (fuel : Nat) (x0 : (List Int)) (x1 : Int) : Option (Int) := (if (decide ((w64 (x1 - (x0.length : Int))) < 0)) = true then some (-1) else some (w64 (x1 - (x0.length : Int))))

set_option maxRecDepth 100000 in
theorem laws_szInt64S_ok {w : World} {A0_ : Option Addr} {k0_ : Nat} {x0 : (List Int)} {x1 : Int} (h0_ : ty72.ro w [.slice A0_ x0.length k0_] x0) {fuel : Nat} {r : Int} (hm : m_laws_szInt64S fuel x0 x1 = some r) :
    Calls Try.prog 83 ⟨[.slice A0_ x0.length k0_, .int .i64 x1]⟩ w (Ret fun v w8 => v = .int .i64 r ∧ St w w8 []) := by
  refine Calls.into Try.func83 rfl 12 rfl rfl _ rfl ?_
  unfold m_laws_szInt64S at hm
  have hS := St.start w
  refine WP.seq ?_
  refine WP.region ?_
  refine RW.run ttok 1 rfl ?_
  refine RW.nil ?_
  refine WP.seq ?_
  refine WP.region ?_
  refine RW.run ttok 5 rfl ?_
  refine RW.nil ?_
  refine WP.seq ?_
  refine WP.seq ?_
  refine WP.region ?_
  refine RW.run ttok 2 rfl ?_
  refine RW.nil ?_
  refine WP.cond (decide ((w64 (x1 - (x0.length : Int))) < 0)) rfl (fun hc => ?_) (fun hc => ?_)
  · skip
    rw [if_pos hc] at hm
    refine WP.seq ?_
    refine WP.region ?_
    refine RW.run ttok 1 rfl ?_
    refine RW.nil ?_
    refine WP.ret ?_
    cases hm
    exact ⟨_, .cons (.tmp rfl) .nil, rfl, (hS.taken 0)⟩
  · skip
    rw [if_neg (not_t hc)] at hm
    refine WP.skip ?_
    refine WP.seq ?_
    refine WP.region ?_
    refine RW.run ttok 2 rfl ?_
    refine RW.nil ?_
    refine WP.ret ?_
    cases hm
    exact ⟨_, .cons (.tmp rfl) .nil, rfl, (hS.taken 0)⟩

theorem enters185 : Enters Try.prog 185 := ⟨_, _, Try.func185, rfl, by kernel_rfl⟩
def m_laws_szWordS (fuel : Nat) (x0 : (List D.Word)) (x1 : Int) : Option (Int) := (if (decide ((w64 (x1 - (x0.length : Int))) < 0)) = true then some (-1) else some (w64 (x1 - (x0.length : Int))))

set_option maxRecDepth 100000 in
theorem laws_szWordS_ok {w : World} {A0_ : Option Addr} {k0_ : Nat} {x0 : (List D.Word)} {x1 : Int} (h0_ : ty262.ro w [.slice A0_ x0.length k0_] x0) {fuel : Nat} {r : Int} (hm : m_laws_szWordS fuel x0 x1 = some r) :
    Calls Try.prog 185 ⟨[.slice A0_ x0.length k0_, .int .i64 x1]⟩ w (Ret fun v w8 => v = .int .i64 r ∧ St w w8 []) := by
  refine Calls.into Try.func185 rfl 12 rfl rfl _ rfl ?_
  unfold m_laws_szWordS at hm
  have hS := St.start w
  refine WP.seq ?_
  refine WP.region ?_
  refine RW.run ttok 1 rfl ?_
  refine RW.nil ?_
  refine WP.seq ?_
  refine WP.region ?_
  refine RW.run ttok 5 rfl ?_
  refine RW.nil ?_
  refine WP.seq ?_
  refine WP.seq ?_
  refine WP.region ?_
  refine RW.run ttok 2 rfl ?_
  refine RW.nil ?_
  refine WP.cond (decide ((w64 (x1 - (x0.length : Int))) < 0)) rfl (fun hc => ?_) (fun hc => ?_)
  · skip
    rw [if_pos hc] at hm
    refine WP.seq ?_
    refine WP.region ?_
    refine RW.run ttok 1 rfl ?_
    refine RW.nil ?_
    refine WP.ret ?_
    cases hm
    exact ⟨_, .cons (.tmp rfl) .nil, rfl, (hS.taken 0)⟩
  · skip
    rw [if_neg (not_t hc)] at hm
    refine WP.skip ?_
    refine WP.seq ?_
    refine WP.region ?_
    refine RW.run ttok 2 rfl ?_
    refine RW.nil ?_
    refine WP.ret ?_
    cases hm
    exact ⟨_, .cons (.tmp rfl) .nil, rfl, (hS.taken 0)⟩

theorem enters171 : Enters Try.prog 171 := ⟨_, _, Try.func171, rfl, by kernel_rfl⟩
def m_laws_szCell (fuel : Nat) (x0 : D.Cell) (x1 : Int) : Option (Int) := ((m_laws_szInt64S fuel x0.Data x1).bind fun r12 => (if (decide (r12 < 0)) = true then some (-1) else ((m_laws_szWordS fuel x0.Words r12).bind fun r19 => (if (decide (r19 < 0)) = true then some (-1) else some r19))))

set_option maxRecDepth 100000 in
theorem laws_szCell_ok {w : World} {c0_ : List Value} {x0 : D.Cell} {x1 : Int} (h0_ : ty264.ro w c0_ x0) {fuel : Nat} {r : Int} (hm : m_laws_szCell fuel x0 x1 = some r) :
    Calls Try.prog 171 ⟨[.agg ⟨c0_⟩, .int .i64 x1]⟩ w (Ret fun v w8 => v = .int .i64 r ∧ St w w8 []) := by
  obtain ⟨A1, k2, A4, k5, e7, h3, h6⟩ := ty264_open h0_; subst e7
  refine Calls.into Try.func171 rfl 18 rfl rfl _ rfl ?_
  unfold m_laws_szCell at hm
  have hS := St.start w
  refine WP.seq ?_
  refine WP.region ?_
  refine RW.new ttok hS rfl rfl rfl rfl (fun g8 w9 e10 hS11 => ?_)
  refine RW.run ttok 1 rfl ?_
  refine RW.nil ?_
  refine WP.seq ?_
  refine WP.region ?_
  refine RW.run ttok 1 rfl ?_
  refine RW.load1 ttok rfl rfl rfl rfl rfl ((hS11.bring 0 rfl).box) 3 rfl rfl rfl rfl ?_
  refine RW.run ttok 1 rfl ?_
  obtain ⟨r12, hx13, hm⟩ := bind_some hm
  refine RW.call rfl rfl rfl enters83 (laws_szInt64S_ok (ty72.ext hS11.ext h3) hx13) (fun v14 w15 hR16 => ?_)
  obtain ⟨rfl, hR17⟩ := hR16
  have hS18 := hS11.join hR17
  refine RW.run ttok 1 rfl ?_
  refine RW.nil ?_
  refine WP.seq ?_
  refine WP.seq ?_
  refine WP.region ?_
  refine RW.run ttok 2 rfl ?_
  refine RW.nil ?_
  refine WP.cond (decide (r12 < 0)) rfl (fun hc => ?_) (fun hc => ?_)
  · skip
    rw [if_pos hc] at hm
    refine WP.seq ?_
    refine WP.region ?_
    refine RW.run ttok 1 rfl ?_
    refine RW.nil ?_
    refine WP.ret ?_
    cases hm
    exact ⟨_, .cons (.tmp rfl) .nil, rfl, (hS18.taken 0)⟩
  · skip
    rw [if_neg (not_t hc)] at hm
    refine WP.skip ?_
    refine WP.seq ?_
    refine WP.region ?_
    refine RW.run ttok 1 rfl ?_
    refine RW.load1 ttok rfl rfl rfl rfl rfl ((hS18.bring 0 rfl).box) 4 rfl rfl rfl rfl ?_
    refine RW.run ttok 1 rfl ?_
    obtain ⟨r19, hx20, hm⟩ := bind_some hm
    refine RW.call rfl rfl rfl enters185 (laws_szWordS_ok (ty262.ext hS18.ext h6) hx20) (fun v21 w22 hR23 => ?_)
    obtain ⟨rfl, hR24⟩ := hR23
    have hS25 := hS18.join hR24
    refine RW.run ttok 1 rfl ?_
    refine RW.nil ?_
    refine WP.seq ?_
    refine WP.seq ?_
    refine WP.region ?_
    refine RW.run ttok 2 rfl ?_
    refine RW.nil ?_
    refine WP.cond (decide (r19 < 0)) rfl (fun hc => ?_) (fun hc => ?_)
    · skip
      rw [if_pos hc] at hm
      refine WP.seq ?_
      refine WP.region ?_
      refine RW.run ttok 1 rfl ?_
      refine RW.nil ?_
      refine WP.ret ?_
      cases hm
      exact ⟨_, .cons (.tmp rfl) .nil, rfl, (hS25.taken 0)⟩
    · skip
      rw [if_neg (not_t hc)] at hm
      refine WP.skip ?_
      refine WP.seq ?_
      refine WP.region ?_
      refine RW.run ttok 2 rfl ?_
      refine RW.nil ?_
      refine WP.ret ?_
      cases hm
      exact ⟨_, .cons (.tmp rfl) .nil, rfl, (hS25.taken 0)⟩

theorem enters133 : Enters Try.prog 133 := ⟨_, _, Try.func133, rfl, by kernel_rfl⟩
def m_laws_szCellS_j1 (fuel : Nat) (t2 : Int) : Option Int := some t2
def m_laws_szCellS_b1 (fuel : Nat) (x0 : (List D.Cell)) (s1 : Int × Int) : Option (Rd (Int × Int) (Int) (Int)) := (if (decide (s1.2 < (x0.length : Int))) = true then ((idx x0 s1.2).bind fun x17 => ((m_laws_szCell fuel x17 s1.1).bind fun r30 => (if (decide (r30 < 0)) = true then some (.ret (-1)) else some (.next (r30, w64 (s1.2 + 1)))))) else some (.brk s1.1))
def m_laws_szCellS (fuel : Nat) (x0 : (List D.Cell)) (x1 : Int) : Option (Int) := (if (decide ((w64 (x1 - (x0.length : Int))) < 0)) = true then some (-1) else ((iter (m_laws_szCellS_b1 fuel x0) fuel (w64 (x1 - (x0.length : Int)), 0)).bind fun o => aft o (m_laws_szCellS_j1 fuel)))

set_option maxRecDepth 100000 in
theorem laws_szCellS_ok {w : World} {A0_ : Option Addr} {k0_ : Nat} {x0 : (List D.Cell)} {x1 : Int} (h0_ : ty49.ro w [.slice A0_ x0.length k0_] x0) {fuel : Nat} {r : Int} (hm : m_laws_szCellS fuel x0 x1 = some r) :
    Calls Try.prog 133 ⟨[.slice A0_ x0.length k0_, .int .i64 x1]⟩ w (Ret fun v w8 => v = .int .i64 r ∧ St w w8 []) := by
  refine Calls.into Try.func133 rfl 27 rfl rfl _ rfl ?_
  unfold m_laws_szCellS at hm
  have hS := St.start w
  refine WP.seq ?_
  refine WP.region ?_
  refine RW.run ttok 1 rfl ?_
  refine RW.nil ?_
  refine WP.seq ?_
  refine WP.region ?_
  refine RW.run ttok 5 rfl ?_
  refine RW.nil ?_
  refine WP.seq ?_
  refine WP.seq ?_
  refine WP.region ?_
  refine RW.run ttok 2 rfl ?_
  refine RW.nil ?_
  refine WP.cond (decide ((w64 (x1 - (x0.length : Int))) < 0)) rfl (fun hc => ?_) (fun hc => ?_)
  · skip
    rw [if_pos hc] at hm
    refine WP.seq ?_
    refine WP.region ?_
    refine RW.run ttok 1 rfl ?_
    refine RW.nil ?_
    refine WP.ret ?_
    cases hm
    exact ⟨_, .cons (.tmp rfl) .nil, rfl, (hS.taken 0)⟩
  · skip
    rw [if_neg (not_t hc)] at hm
    refine WP.skip ?_
    refine WP.seq ?_
    refine WP.seq ?_
    refine WP.region ?_
    refine RW.run ttok 1 rfl ?_
    refine RW.nil ?_
    obtain ⟨o8, hl9, hm⟩ := bind_some hm
    refine WP.cut (fun (t2 : Int) F w9 => o8 = .inl t2 ∧ Ext w w9 ∧ St w w9 [] ∧ F = [(1, .int .i64 t2)]) ?_ ?_
    · skip
      rintro t2 F w7 ⟨ho11, hE6, hS10, rfl⟩
      subst ho11
      rw [aft_inl] at hm
      unfold m_laws_szCellS_j1 at hm
      refine WP.seq ?_
      refine WP.region ?_
      refine RW.run ttok 2 rfl ?_
      refine RW.nil ?_
      refine WP.ret ?_
      cases hm
      exact ⟨_, .cons (.tmp rfl) .nil, rfl, (hS10.taken 0)⟩
    · skip
      refine WP.block ?_
      refine WP.weak [(0, .slice A0_ x0.length k0_), (1, .int .i64 (w64 (x1 - (x0.length : Int)))), (5, .int .i64 0)] ⟨rfl, rfl, rfl, trivial⟩ ?_
      refine WP.iter (fun (s1 : Int × Int) F w9 => Ext w w9 ∧ St w w9 [] ∧ F = [(0, .slice A0_ x0.length k0_), (1, .int .i64 s1.1), (5, .int .i64 s1.2)]) _ hl9 ⟨(Ext.refl _), (hS.taken 0), rfl⟩ ?_
      rintro s1 F w16 _ o14 ⟨hE5, hS15, rfl⟩ hb12 ho13
      unfold m_laws_szCellS_b1 at hb12
      refine WP.seq ?_
      refine WP.seq ?_
      refine WP.region ?_
      refine RW.run ttok 4 rfl ?_
      refine RW.nil ?_
      refine WP.cond (decide (s1.2 < (x0.length : Int))) rfl (fun hc => ?_) (fun hc => ?_)
      · skip
        rw [if_pos hc] at hb12
        refine WP.skip ?_
        refine WP.seq ?_
        refine WP.block ?_
        refine WP.seq ?_
        refine WP.region ?_
        refine RW.run ttok 2 rfl ?_
        obtain ⟨x17, hx18, hb12⟩ := bind_some hb12
        refine RW.idx ttok hS15.ext rfl rfl rfl rfl rfl rfl (by decide) rfl rfl h0_ (idx_some hx18).1 (idx_some hx18).2 rfl rfl (fun p19 es20 ha21 hr22 => ?_)
        obtain ⟨A23, k24, A26, k27, e29, h25, h28⟩ := ty264_open hr22; subst e29
        refine RW.loadN ttok rfl rfl rfl rfl rfl (At.ext hS15.ext ha21) rfl rfl rfl ?_
        refine RW.run ttok 1 rfl ?_
        obtain ⟨r30, hx31, hb12⟩ := bind_some hb12
        refine RW.call rfl rfl rfl enters171 (laws_szCell_ok (ty264.ext hS15.ext hr22) hx31) (fun v32 w33 hR34 => ?_)
        obtain ⟨rfl, hR35⟩ := hR34
        have hS36 := hS15.join hR35
        refine RW.run ttok 1 rfl ?_
        refine RW.nil ?_
        refine WP.seq ?_
        refine WP.region ?_
        refine RW.run ttok 2 rfl ?_
        refine RW.nil ?_
        refine WP.cond (decide (r30 < 0)) rfl (fun hc => ?_) (fun hc => ?_)
        · skip
          rw [if_pos hc] at hb12
          refine WP.seq ?_
          refine WP.region ?_
          refine RW.run ttok 1 rfl ?_
          refine RW.nil ?_
          refine WP.ret ?_
          cases hb12
          cases ho13
          have hm : some _ = some _ := hm
          cases hm
          exact ⟨_, .cons (.tmp rfl) .nil, rfl, (hS36.taken 0)⟩
        · skip
          rw [if_neg (not_t hc)] at hb12
          refine WP.skip ?_
          refine WP.region ?_
          refine RW.run ttok 3 rfl ?_
          refine RW.nil ?_
          cases hb12
          exact ⟨_, [(0, .slice A0_ x0.length k0_), (1, .int .i64 r30), (5, .int .i64 (w64 (s1.2 + 1)))], ⟨rfl, rfl, rfl, trivial⟩, rfl, (hE5.trans hR35.ext), (hS36.taken 0), rfl⟩
      · skip
        rw [if_neg (not_t hc)] at hb12
        refine WP.exit ?_
        cases hb12
        exact ⟨_, [(1, .int .i64 s1.1)], ⟨rfl, trivial⟩, ho13, hE5, (hS15.taken 0), rfl⟩

theorem enters134 : Enters Try.prog 134 := ⟨_, _, Try.func134, rfl, by kernel_rfl⟩
def m_laws_szPairS (fuel : Nat) (x0 : (List D.Pair)) (x1 : Int) : Option (Int) := (if (decide ((w64 (x1 - (x0.length : Int))) < 0)) = true then some (-1) else some (w64 (x1 - (x0.length : Int))))

set_option maxRecDepth 100000 in
theorem laws_szPairS_ok {w : World} {A0_ : Option Addr} {k0_ : Nat} {x0 : (List D.Pair)} {x1 : Int} (h0_ : ty52.ro w [.slice A0_ x0.length k0_] x0) {fuel : Nat} {r : Int} (hm : m_laws_szPairS fuel x0 x1 = some r) :
    Calls Try.prog 134 ⟨[.slice A0_ x0.length k0_, .int .i64 x1]⟩ w (Ret fun v w8 => v = .int .i64 r ∧ St w w8 []) := by
  refine Calls.into Try.func134 rfl 12 rfl rfl _ rfl ?_
  unfold m_laws_szPairS at hm
  have hS := St.start w
  refine WP.seq ?_
  refine WP.region ?_
  refine RW.run ttok 1 rfl ?_
  refine RW.nil ?_
  refine WP.seq ?_
  refine WP.region ?_
  refine RW.run ttok 5 rfl ?_
  refine RW.nil ?_
  refine WP.seq ?_
  refine WP.seq ?_
  refine WP.region ?_
  refine RW.run ttok 2 rfl ?_
  refine RW.nil ?_
  refine WP.cond (decide ((w64 (x1 - (x0.length : Int))) < 0)) rfl (fun hc => ?_) (fun hc => ?_)
  · skip
    rw [if_pos hc] at hm
    refine WP.seq ?_
    refine WP.region ?_
    refine RW.run ttok 1 rfl ?_
    refine RW.nil ?_
    refine WP.ret ?_
    cases hm
    exact ⟨_, .cons (.tmp rfl) .nil, rfl, (hS.taken 0)⟩
  · skip
    rw [if_neg (not_t hc)] at hm
    refine WP.skip ?_
    refine WP.seq ?_
    refine WP.region ?_
    refine RW.run ttok 2 rfl ?_
    refine RW.nil ?_
    refine WP.ret ?_
    cases hm
    exact ⟨_, .cons (.tmp rfl) .nil, rfl, (hS.taken 0)⟩

theorem enters68 : Enters Try.prog 68 := ⟨_, _, Try.func68, rfl, by kernel_rfl⟩
def m_laws_szMemory (fuel : Nat) (x0 : D.Memory) (x1 : Int) : Option (Int) := ((m_laws_szCellS fuel x0.Cells x1).bind fun r12 => (if (decide (r12 < 0)) = true then some (-1) else ((m_laws_szPairS fuel x0.Redexes r12).bind fun r19 => (if (decide (r19 < 0)) = true then some (-1) else some r19))))

set_option maxRecDepth 100000 in
theorem laws_szMemory_ok {w : World} {c0_ : List Value} {x0 : D.Memory} {x1 : Int} (h0_ : ty54.ro w c0_ x0) {fuel : Nat} {r : Int} (hm : m_laws_szMemory fuel x0 x1 = some r) :
    Calls Try.prog 68 ⟨[.agg ⟨c0_⟩, .int .i64 x1]⟩ w (Ret fun v w8 => v = .int .i64 r ∧ St w w8 []) := by
  obtain ⟨A1, k2, A4, k5, e7, h3, h6⟩ := ty54_open h0_; subst e7
  refine Calls.into Try.func68 rfl 18 rfl rfl _ rfl ?_
  unfold m_laws_szMemory at hm
  have hS := St.start w
  refine WP.seq ?_
  refine WP.region ?_
  refine RW.new ttok hS rfl rfl rfl rfl (fun g8 w9 e10 hS11 => ?_)
  refine RW.run ttok 1 rfl ?_
  refine RW.nil ?_
  refine WP.seq ?_
  refine WP.region ?_
  refine RW.run ttok 1 rfl ?_
  refine RW.load1 ttok rfl rfl rfl rfl rfl ((hS11.bring 0 rfl).box) 0 rfl rfl rfl rfl ?_
  refine RW.run ttok 1 rfl ?_
  obtain ⟨r12, hx13, hm⟩ := bind_some hm
  refine RW.call rfl rfl rfl enters133 (laws_szCellS_ok (ty49.ext hS11.ext h3) hx13) (fun v14 w15 hR16 => ?_)
  obtain ⟨rfl, hR17⟩ := hR16
  have hS18 := hS11.join hR17
  refine RW.run ttok 1 rfl ?_
  refine RW.nil ?_
  refine WP.seq ?_
  refine WP.seq ?_
  refine WP.region ?_
  refine RW.run ttok 2 rfl ?_
  refine RW.nil ?_
  refine WP.cond (decide (r12 < 0)) rfl (fun hc => ?_) (fun hc => ?_)
  · skip
    rw [if_pos hc] at hm
    refine WP.seq ?_
    refine WP.region ?_
    refine RW.run ttok 1 rfl ?_
    refine RW.nil ?_
    refine WP.ret ?_
    cases hm
    exact ⟨_, .cons (.tmp rfl) .nil, rfl, (hS18.taken 0)⟩
  · skip
    rw [if_neg (not_t hc)] at hm
    refine WP.skip ?_
    refine WP.seq ?_
    refine WP.region ?_
    refine RW.run ttok 1 rfl ?_
    refine RW.load1 ttok rfl rfl rfl rfl rfl ((hS18.bring 0 rfl).box) 4 rfl rfl rfl rfl ?_
    refine RW.run ttok 1 rfl ?_
    obtain ⟨r19, hx20, hm⟩ := bind_some hm
    refine RW.call rfl rfl rfl enters134 (laws_szPairS_ok (ty52.ext hS18.ext h6) hx20) (fun v21 w22 hR23 => ?_)
    obtain ⟨rfl, hR24⟩ := hR23
    have hS25 := hS18.join hR24
    refine RW.run ttok 1 rfl ?_
    refine RW.nil ?_
    refine WP.seq ?_
    refine WP.seq ?_
    refine WP.region ?_
    refine RW.run ttok 2 rfl ?_
    refine RW.nil ?_
    refine WP.cond (decide (r19 < 0)) rfl (fun hc => ?_) (fun hc => ?_)
    · skip
      rw [if_pos hc] at hm
      refine WP.seq ?_
      refine WP.region ?_
      refine RW.run ttok 1 rfl ?_
      refine RW.nil ?_
      refine WP.ret ?_
      cases hm
      exact ⟨_, .cons (.tmp rfl) .nil, rfl, (hS25.taken 0)⟩
    · skip
      rw [if_neg (not_t hc)] at hm
      refine WP.skip ?_
      refine WP.seq ?_
      refine WP.region ?_
      refine RW.run ttok 2 rfl ?_
      refine RW.nil ?_
      refine WP.ret ?_
      cases hm
      exact ⟨_, .cons (.tmp rfl) .nil, rfl, (hS25.taken 0)⟩

theorem enters172 : Enters Try.prog 172 := ⟨_, _, Try.func172, rfl, by kernel_rfl⟩
def m_laws_szLinkS (fuel : Nat) (x0 : (List D.Link)) (x1 : Int) : Option (Int) := (if (decide ((w64 (x1 - (x0.length : Int))) < 0)) = true then some (-1) else some (w64 (x1 - (x0.length : Int))))

set_option maxRecDepth 100000 in
theorem laws_szLinkS_ok {w : World} {A0_ : Option Addr} {k0_ : Nat} {x0 : (List D.Link)} {x1 : Int} (h0_ : ty218.ro w [.slice A0_ x0.length k0_] x0) {fuel : Nat} {r : Int} (hm : m_laws_szLinkS fuel x0 x1 = some r) :
    Calls Try.prog 172 ⟨[.slice A0_ x0.length k0_, .int .i64 x1]⟩ w (Ret fun v w8 => v = .int .i64 r ∧ St w w8 []) := by
  refine Calls.into Try.func172 rfl 12 rfl rfl _ rfl ?_
  unfold m_laws_szLinkS at hm
  have hS := St.start w
  refine WP.seq ?_
  refine WP.region ?_
  refine RW.run ttok 1 rfl ?_
  refine RW.nil ?_
  refine WP.seq ?_
  refine WP.region ?_
  refine RW.run ttok 5 rfl ?_
  refine RW.nil ?_
  refine WP.seq ?_
  refine WP.seq ?_
  refine WP.region ?_
  refine RW.run ttok 2 rfl ?_
  refine RW.nil ?_
  refine WP.cond (decide ((w64 (x1 - (x0.length : Int))) < 0)) rfl (fun hc => ?_) (fun hc => ?_)
  · skip
    rw [if_pos hc] at hm
    refine WP.seq ?_
    refine WP.region ?_
    refine RW.run ttok 1 rfl ?_
    refine RW.nil ?_
    refine WP.ret ?_
    cases hm
    exact ⟨_, .cons (.tmp rfl) .nil, rfl, (hS.taken 0)⟩
  · skip
    rw [if_neg (not_t hc)] at hm
    refine WP.skip ?_
    refine WP.seq ?_
    refine WP.region ?_
    refine RW.run ttok 2 rfl ?_
    refine RW.nil ?_
    refine WP.ret ?_
    cases hm
    exact ⟨_, .cons (.tmp rfl) .nil, rfl, (hS.taken 0)⟩

theorem enters135 : Enters Try.prog 135 := ⟨_, _, Try.func135, rfl, by kernel_rfl⟩
def m_laws_szWorker (fuel : Nat) (x0 : D.Worker) (x1 : Int) : Option (Int) := ((m_laws_szPairS fuel x0.Redexes x1).bind fun r15 => (if (decide (r15 < 0)) = true then some (-1) else ((m_laws_szLinkS fuel x0.Links r15).bind fun r22 => (if (decide (r22 < 0)) = true then some (-1) else ((m_laws_szInt64S fuel x0.Counts r22).bind fun r29 => (if (decide (r29 < 0)) = true then some (-1) else some r29))))))

set_option maxRecDepth 100000 in
theorem laws_szWorker_ok {w : World} {c0_ : List Value} {x0 : D.Worker} {x1 : Int} (h0_ : ty220.ro w c0_ x0) {fuel : Nat} {r : Int} (hm : m_laws_szWorker fuel x0 x1 = some r) :
    Calls Try.prog 135 ⟨[.agg ⟨c0_⟩, .int .i64 x1]⟩ w (Ret fun v w8 => v = .int .i64 r ∧ St w w8 []) := by
  obtain ⟨A1, k2, A4, k5, A7, k8, e10, h3, h6, h9⟩ := ty220_open h0_; subst e10
  refine Calls.into Try.func135 rfl 24 rfl rfl _ rfl ?_
  unfold m_laws_szWorker at hm
  have hS := St.start w
  refine WP.seq ?_
  refine WP.region ?_
  refine RW.new ttok hS rfl rfl rfl rfl (fun g11 w12 e13 hS14 => ?_)
  refine RW.run ttok 1 rfl ?_
  refine RW.nil ?_
  refine WP.seq ?_
  refine WP.region ?_
  refine RW.run ttok 1 rfl ?_
  refine RW.load1 ttok rfl rfl rfl rfl rfl ((hS14.bring 0 rfl).box) 2 rfl rfl rfl rfl ?_
  refine RW.run ttok 1 rfl ?_
  obtain ⟨r15, hx16, hm⟩ := bind_some hm
  refine RW.call rfl rfl rfl enters134 (laws_szPairS_ok (ty52.ext hS14.ext h3) hx16) (fun v17 w18 hR19 => ?_)
  obtain ⟨rfl, hR20⟩ := hR19
  have hS21 := hS14.join hR20
  refine RW.run ttok 1 rfl ?_
  refine RW.nil ?_
  refine WP.seq ?_
  refine WP.seq ?_
  refine WP.region ?_
  refine RW.run ttok 2 rfl ?_
  refine RW.nil ?_
  refine WP.cond (decide (r15 < 0)) rfl (fun hc => ?_) (fun hc => ?_)
  · skip
    rw [if_pos hc] at hm
    refine WP.seq ?_
    refine WP.region ?_
    refine RW.run ttok 1 rfl ?_
    refine RW.nil ?_
    refine WP.ret ?_
    cases hm
    exact ⟨_, .cons (.tmp rfl) .nil, rfl, (hS21.taken 0)⟩
  · skip
    rw [if_neg (not_t hc)] at hm
    refine WP.skip ?_
    refine WP.seq ?_
    refine WP.region ?_
    refine RW.run ttok 1 rfl ?_
    refine RW.load1 ttok rfl rfl rfl rfl rfl ((hS21.bring 0 rfl).box) 3 rfl rfl rfl rfl ?_
    refine RW.run ttok 1 rfl ?_
    obtain ⟨r22, hx23, hm⟩ := bind_some hm
    refine RW.call rfl rfl rfl enters172 (laws_szLinkS_ok (ty218.ext hS21.ext h6) hx23) (fun v24 w25 hR26 => ?_)
    obtain ⟨rfl, hR27⟩ := hR26
    have hS28 := hS21.join hR27
    refine RW.run ttok 1 rfl ?_
    refine RW.nil ?_
    refine WP.seq ?_
    refine WP.seq ?_
    refine WP.region ?_
    refine RW.run ttok 2 rfl ?_
    refine RW.nil ?_
    refine WP.cond (decide (r22 < 0)) rfl (fun hc => ?_) (fun hc => ?_)
    · skip
      rw [if_pos hc] at hm
      refine WP.seq ?_
      refine WP.region ?_
      refine RW.run ttok 1 rfl ?_
      refine RW.nil ?_
      refine WP.ret ?_
      cases hm
      exact ⟨_, .cons (.tmp rfl) .nil, rfl, (hS28.taken 0)⟩
    · skip
      rw [if_neg (not_t hc)] at hm
      refine WP.skip ?_
      refine WP.seq ?_
      refine WP.region ?_
      refine RW.run ttok 1 rfl ?_
      refine RW.load1 ttok rfl rfl rfl rfl rfl ((hS28.bring 0 rfl).box) 4 rfl rfl rfl rfl ?_
      refine RW.run ttok 1 rfl ?_
      obtain ⟨r29, hx30, hm⟩ := bind_some hm
      refine RW.call rfl rfl rfl enters83 (laws_szInt64S_ok (ty72.ext hS28.ext h9) hx30) (fun v31 w32 hR33 => ?_)
      obtain ⟨rfl, hR34⟩ := hR33
      have hS35 := hS28.join hR34
      refine RW.run ttok 1 rfl ?_
      refine RW.nil ?_
      refine WP.seq ?_
      refine WP.seq ?_
      refine WP.region ?_
      refine RW.run ttok 2 rfl ?_
      refine RW.nil ?_
      refine WP.cond (decide (r29 < 0)) rfl (fun hc => ?_) (fun hc => ?_)
      · skip
        rw [if_pos hc] at hm
        refine WP.seq ?_
        refine WP.region ?_
        refine RW.run ttok 1 rfl ?_
        refine RW.nil ?_
        refine WP.ret ?_
        cases hm
        exact ⟨_, .cons (.tmp rfl) .nil, rfl, (hS35.taken 0)⟩
      · skip
        rw [if_neg (not_t hc)] at hm
        refine WP.skip ?_
        refine WP.seq ?_
        refine WP.region ?_
        refine RW.run ttok 2 rfl ?_
        refine RW.nil ?_
        refine WP.ret ?_
        cases hm
        exact ⟨_, .cons (.tmp rfl) .nil, rfl, (hS35.taken 0)⟩

theorem enters69 : Enters Try.prog 69 := ⟨_, _, Try.func69, rfl, by kernel_rfl⟩
def m_laws_szWorkerS_j1 (fuel : Nat) (t2 : Int) : Option Int := some t2
def m_laws_szWorkerS_b1 (fuel : Nat) (x0 : (List D.Worker)) (s1 : Int × Int) : Option (Rd (Int × Int) (Int) (Int)) := (if (decide (s1.2 < (x0.length : Int))) = true then ((idx x0 s1.2).bind fun x17 => ((m_laws_szWorker fuel x17 s1.1).bind fun r33 => (if (decide (r33 < 0)) = true then some (.ret (-1)) else some (.next (r33, w64 (s1.2 + 1)))))) else some (.brk s1.1))
def m_laws_szWorkerS (fuel : Nat) (x0 : (List D.Worker)) (x1 : Int) : Option (Int) := (if (decide ((w64 (x1 - (x0.length : Int))) < 0)) = true then some (-1) else ((iter (m_laws_szWorkerS_b1 fuel x0) fuel (w64 (x1 - (x0.length : Int)), 0)).bind fun o => aft o (m_laws_szWorkerS_j1 fuel)))

set_option maxRecDepth 100000 in
theorem laws_szWorkerS_ok {w : World} {A0_ : Option Addr} {k0_ : Nat} {x0 : (List D.Worker)} {x1 : Int} (h0_ : ty55.ro w [.slice A0_ x0.length k0_] x0) {fuel : Nat} {r : Int} (hm : m_laws_szWorkerS fuel x0 x1 = some r) :
    Calls Try.prog 69 ⟨[.slice A0_ x0.length k0_, .int .i64 x1]⟩ w (Ret fun v w8 => v = .int .i64 r ∧ St w w8 []) := by
  refine Calls.into Try.func69 rfl 27 rfl rfl _ rfl ?_
  unfold m_laws_szWorkerS at hm
  have hS := St.start w
  refine WP.seq ?_
  refine WP.region ?_
  refine RW.run ttok 1 rfl ?_
  refine RW.nil ?_
  refine WP.seq ?_
  refine WP.region ?_
  refine RW.run ttok 5 rfl ?_
  refine RW.nil ?_
  refine WP.seq ?_
  refine WP.seq ?_
  refine WP.region ?_
  refine RW.run ttok 2 rfl ?_
  refine RW.nil ?_
  refine WP.cond (decide ((w64 (x1 - (x0.length : Int))) < 0)) rfl (fun hc => ?_) (fun hc => ?_)
  · skip
    rw [if_pos hc] at hm
    refine WP.seq ?_
    refine WP.region ?_
    refine RW.run ttok 1 rfl ?_
    refine RW.nil ?_
    refine WP.ret ?_
    cases hm
    exact ⟨_, .cons (.tmp rfl) .nil, rfl, (hS.taken 0)⟩
  · skip
    rw [if_neg (not_t hc)] at hm
    refine WP.skip ?_
    refine WP.seq ?_
    refine WP.seq ?_
    refine WP.region ?_
    refine RW.run ttok 1 rfl ?_
    refine RW.nil ?_
    obtain ⟨o8, hl9, hm⟩ := bind_some hm
    refine WP.cut (fun (t2 : Int) F w9 => o8 = .inl t2 ∧ Ext w w9 ∧ St w w9 [] ∧ F = [(1, .int .i64 t2)]) ?_ ?_
    · skip
      rintro t2 F w7 ⟨ho11, hE6, hS10, rfl⟩
      subst ho11
      rw [aft_inl] at hm
      unfold m_laws_szWorkerS_j1 at hm
      refine WP.seq ?_
      refine WP.region ?_
      refine RW.run ttok 2 rfl ?_
      refine RW.nil ?_
      refine WP.ret ?_
      cases hm
      exact ⟨_, .cons (.tmp rfl) .nil, rfl, (hS10.taken 0)⟩
    · skip
      refine WP.block ?_
      refine WP.weak [(0, .slice A0_ x0.length k0_), (1, .int .i64 (w64 (x1 - (x0.length : Int)))), (5, .int .i64 0)] ⟨rfl, rfl, rfl, trivial⟩ ?_
      refine WP.iter (fun (s1 : Int × Int) F w9 => Ext w w9 ∧ St w w9 [] ∧ F = [(0, .slice A0_ x0.length k0_), (1, .int .i64 s1.1), (5, .int .i64 s1.2)]) _ hl9 ⟨(Ext.refl _), (hS.taken 0), rfl⟩ ?_
      rintro s1 F w16 _ o14 ⟨hE5, hS15, rfl⟩ hb12 ho13
      unfold m_laws_szWorkerS_b1 at hb12
      refine WP.seq ?_
      refine WP.seq ?_
      refine WP.region ?_
      refine RW.run ttok 4 rfl ?_
      refine RW.nil ?_
      refine WP.cond (decide (s1.2 < (x0.length : Int))) rfl (fun hc => ?_) (fun hc => ?_)
      · skip
        rw [if_pos hc] at hb12
        refine WP.skip ?_
        refine WP.seq ?_
        refine WP.block ?_
        refine WP.seq ?_
        refine WP.region ?_
        refine RW.run ttok 2 rfl ?_
        obtain ⟨x17, hx18, hb12⟩ := bind_some hb12
        refine RW.idx ttok hS15.ext rfl rfl rfl rfl rfl rfl (by decide) rfl rfl h0_ (idx_some hx18).1 (idx_some hx18).2 rfl rfl (fun p19 es20 ha21 hr22 => ?_)
        obtain ⟨A23, k24, A26, k27, A29, k30, e32, h25, h28, h31⟩ := ty220_open hr22; subst e32
        refine RW.loadN ttok rfl rfl rfl rfl rfl (At.ext hS15.ext ha21) rfl rfl rfl ?_
        refine RW.run ttok 1 rfl ?_
        obtain ⟨r33, hx34, hb12⟩ := bind_some hb12
        refine RW.call rfl rfl rfl enters135 (laws_szWorker_ok (ty220.ext hS15.ext hr22) hx34) (fun v35 w36 hR37 => ?_)
        obtain ⟨rfl, hR38⟩ := hR37
        have hS39 := hS15.join hR38
        refine RW.run ttok 1 rfl ?_
        refine RW.nil ?_
        refine WP.seq ?_
        refine WP.region ?_
        refine RW.run ttok 2 rfl ?_
        refine RW.nil ?_
        refine WP.cond (decide (r33 < 0)) rfl (fun hc => ?_) (fun hc => ?_)
        · skip
          rw [if_pos hc] at hb12
          refine WP.seq ?_
          refine WP.region ?_
          refine RW.run ttok 1 rfl ?_
          refine RW.nil ?_
          refine WP.ret ?_
          cases hb12
          cases ho13
          have hm : some _ = some _ := hm
          cases hm
          exact ⟨_, .cons (.tmp rfl) .nil, rfl, (hS39.taken 0)⟩
        · skip
          rw [if_neg (not_t hc)] at hb12
          refine WP.skip ?_
          refine WP.region ?_
          refine RW.run ttok 3 rfl ?_
          refine RW.nil ?_
          cases hb12
          exact ⟨_, [(0, .slice A0_ x0.length k0_), (1, .int .i64 r33), (5, .int .i64 (w64 (s1.2 + 1)))], ⟨rfl, rfl, rfl, trivial⟩, rfl, (hE5.trans hR38.ext), (hS39.taken 0), rfl⟩
      · skip
        rw [if_neg (not_t hc)] at hb12
        refine WP.exit ?_
        cases hb12
        exact ⟨_, [(1, .int .i64 s1.1)], ⟨rfl, trivial⟩, ho13, hE5, (hS15.taken 0), rfl⟩

theorem enters21 : Enters Try.prog 21 := ⟨_, _, Try.func21, rfl, by kernel_rfl⟩
def m_laws_szPool (fuel : Nat) (x0 : D.Pool) (x1 : Int) : Option (Int) := ((m_laws_szMemory fuel x0.Memory x1).bind fun r15 => (if (decide (r15 < 0)) = true then some (-1) else ((m_laws_szWorkerS fuel x0.Workers r15).bind fun r22 => (if (decide (r22 < 0)) = true then some (-1) else some r22))))

set_option maxRecDepth 100000 in
theorem laws_szPool_ok {w : World} {c0_ : List Value} {x0 : D.Pool} {x1 : Int} (h0_ : ty57.ro w c0_ x0) {fuel : Nat} {r : Int} (hm : m_laws_szPool fuel x0 x1 = some r) :
    Calls Try.prog 21 ⟨[.agg ⟨c0_⟩, .int .i64 x1]⟩ w (Ret fun v w8 => v = .int .i64 r ∧ St w w8 []) := by
  obtain ⟨A1, k2, A4, k5, A7, k8, e10, h3, h6, h9⟩ := ty57_open h0_; subst e10
  refine Calls.into Try.func21 rfl 18 rfl rfl _ rfl ?_
  unfold m_laws_szPool at hm
  have hS := St.start w
  refine WP.seq ?_
  refine WP.region ?_
  refine RW.new ttok hS rfl rfl rfl rfl (fun g11 w12 e13 hS14 => ?_)
  refine RW.run ttok 1 rfl ?_
  refine RW.nil ?_
  refine WP.seq ?_
  refine WP.region ?_
  refine RW.run ttok 1 rfl ?_
  refine RW.loadN ttok rfl rfl rfl rfl rfl (At.sub ((hS14.bring 0 rfl).box) 0 5) rfl rfl rfl ?_
  refine RW.run ttok 1 rfl ?_
  obtain ⟨r15, hx16, hm⟩ := bind_some hm
  refine RW.call rfl rfl rfl enters68 (laws_szMemory_ok (ty54_shut x0.Memory (ty49.ext hS14.ext h3) (ty52.ext hS14.ext h6)) hx16) (fun v17 w18 hR19 => ?_)
  obtain ⟨rfl, hR20⟩ := hR19
  have hS21 := hS14.join hR20
  refine RW.run ttok 1 rfl ?_
  refine RW.nil ?_
  refine WP.seq ?_
  refine WP.seq ?_
  refine WP.region ?_
  refine RW.run ttok 2 rfl ?_
  refine RW.nil ?_
  refine WP.cond (decide (r15 < 0)) rfl (fun hc => ?_) (fun hc => ?_)
  · skip
    rw [if_pos hc] at hm
    refine WP.seq ?_
    refine WP.region ?_
    refine RW.run ttok 1 rfl ?_
    refine RW.nil ?_
    refine WP.ret ?_
    cases hm
    exact ⟨_, .cons (.tmp rfl) .nil, rfl, (hS21.taken 0)⟩
  · skip
    rw [if_neg (not_t hc)] at hm
    refine WP.skip ?_
    refine WP.seq ?_
    refine WP.region ?_
    refine RW.run ttok 1 rfl ?_
    refine RW.load1 ttok rfl rfl rfl rfl rfl ((hS21.bring 0 rfl).box) 5 rfl rfl rfl rfl ?_
    refine RW.run ttok 1 rfl ?_
    obtain ⟨r22, hx23, hm⟩ := bind_some hm
    refine RW.call rfl rfl rfl enters69 (laws_szWorkerS_ok (ty55.ext hS21.ext h9) hx23) (fun v24 w25 hR26 => ?_)
    obtain ⟨rfl, hR27⟩ := hR26
    have hS28 := hS21.join hR27
    refine RW.run ttok 1 rfl ?_
    refine RW.nil ?_
    refine WP.seq ?_
    refine WP.seq ?_
    refine WP.region ?_
    refine RW.run ttok 2 rfl ?_
    refine RW.nil ?_
    refine WP.cond (decide (r22 < 0)) rfl (fun hc => ?_) (fun hc => ?_)
    · skip
      rw [if_pos hc] at hm
      refine WP.seq ?_
      refine WP.region ?_
      refine RW.run ttok 1 rfl ?_
      refine RW.nil ?_
      refine WP.ret ?_
      cases hm
      exact ⟨_, .cons (.tmp rfl) .nil, rfl, (hS28.taken 0)⟩
    · skip
      rw [if_neg (not_t hc)] at hm
      refine WP.skip ?_
      refine WP.seq ?_
      refine WP.region ?_
      refine RW.run ttok 2 rfl ?_
      refine RW.nil ?_
      refine WP.ret ?_
      cases hm
      exact ⟨_, .cons (.tmp rfl) .nil, rfl, (hS28.taken 0)⟩

theorem enters89 : Enters Try.prog 89 := ⟨_, _, Try.func89, rfl, by kernel_rfl⟩
def m_laws_toInt64S_j1 (fuel : Nat) (t9 : (List Int)) : Option (List Int) := some t9
def m_laws_toInt64S_b1 (fuel : Nat) (x0 : (List Int)) (s8 : Int × (List Int)) : Option (Rd (Int × (List Int)) ((List Int)) ((List Int))) := (if (decide (s8.1 < (x0.length : Int))) = true then ((idx x0 s8.1).bind fun x27 => (if decide (0 ≤ s8.1 ∧ s8.1.toNat < s8.2.length) = true then some (.next (w64 (s8.1 + 1), (s8.2.set s8.1.toNat x27))) else none)) else some (.brk s8.2))
def m_laws_toInt64S (fuel : Nat) (x0 : (List Int)) : Option ((List Int)) := (if decide (0 ≤ (x0.length : Int) ∧ (x0.length : Int) ≤ 4294967296) = true then ((iter (m_laws_toInt64S_b1 fuel x0) fuel (0, (List.replicate (x0.length : Int).toNat (0 : Int)))).bind fun o => aft o (m_laws_toInt64S_j1 fuel)) else none)

set_option maxRecDepth 100000 in
theorem laws_toInt64S_ok {w : World} {A0_ : Option Addr} {k0_ : Nat} {x0 : (List Int)} (h0_ : ty72.ro w [.slice A0_ x0.length k0_] x0) {fuel : Nat} {r : (List Int)} (hm : m_laws_toInt64S fuel x0 = some r) :
    Calls Try.prog 89 ⟨[.slice A0_ x0.length k0_]⟩ w (Ret fun v w8 => ∃ A0 k0, v = .slice A0 r.length k0 ∧ St w w8 [Own ty72 [.slice A0 r.length k0] r]) := by
  refine Calls.into Try.func89 rfl 22 rfl rfl _ rfl ?_
  unfold m_laws_toInt64S at hm
  have hS := St.start w
  refine WP.seq ?_
  refine WP.region ?_
  refine RW.run ttok 1 rfl ?_
  refine RW.nil ?_
  refine WP.seq ?_
  refine WP.region ?_
  refine RW.run ttok 2 rfl ?_
  by_cases hk1 : decide (0 ≤ (x0.length : Int) ∧ (x0.length : Int) ≤ 4294967296) = true
  case neg => rw [if_neg hk1] at hm; cases hm
  rw [if_pos hk1] at hm
  have hz7 := of_decide_eq_true hk1
  refine RW.make (U := tInt) ttok (0 : Int) hS rfl rfl rfl rfl rfl rfl rfl rfl hz7.1 (by have := hz7.2; show _ * (8 : Int) ≤ _; omega) (by have := hz7.2; simp only [maxLen]; omega) (fun _ => ⟨rfl, rfl⟩) rfl rfl (fun A2 k3 w4 e5 hS6 => ?_)
  refine RW.run ttok 1 rfl ?_
  refine RW.nil ?_
  refine WP.seq ?_
  refine WP.seq ?_
  refine WP.region ?_
  refine RW.run ttok 1 rfl ?_
  refine RW.nil ?_
  obtain ⟨o18, hl19, hm⟩ := bind_some hm
  refine WP.cut (fun (t9 : (List Int)) F w9 => ∃ A15 k16, o18 = .inl t9 ∧ St w w9 [Own ty72 [.slice A15 t9.length k16] t9] ∧ F = [(3, .slice A15 t9.length k16)]) ?_ ?_
  · skip
    rintro t9 F w17 ⟨A15, k16, ho21, hS20, rfl⟩
    subst ho21
    rw [aft_inl] at hm
    unfold m_laws_toInt64S_j1 at hm
    refine WP.seq ?_
    refine WP.region ?_
    refine RW.run ttok 2 rfl ?_
    refine RW.nil ?_
    refine WP.ret ?_
    cases hm
    exact ⟨_, .cons (.tmp rfl) .nil, A15, k16, rfl, ((hS20.bring 0 rfl).taken 1)⟩
  · skip
    refine WP.block ?_
    refine WP.weak [(0, .slice A0_ x0.length k0_), (3, .slice A2 (List.replicate (x0.length : Int).toNat (0 : Int)).length k3), (4, .int .i64 0)] ⟨rfl, rfl, rfl, trivial⟩ ?_
    refine WP.iter (fun (s8 : Int × (List Int)) F w9 => ∃ A13 k14, St w w9 [Own ty72 [.slice A13 s8.2.length k14] s8.2] ∧ F = [(0, .slice A0_ x0.length k0_), (3, .slice A13 s8.2.length k14), (4, .int .i64 s8.1)]) _ hl19 ⟨A2, k3, ((hS6.bring 0 rfl).taken 1), rfl⟩ ?_
    rintro s8 F w26 _ o24 ⟨A13, k14, hS25, rfl⟩ hb22 ho23
    unfold m_laws_toInt64S_b1 at hb22
    refine WP.seq ?_
    refine WP.seq ?_
    refine WP.region ?_
    refine RW.run ttok 4 rfl ?_
    refine RW.nil ?_
    refine WP.cond (decide (s8.1 < (x0.length : Int))) rfl (fun hc => ?_) (fun hc => ?_)
    · skip
      rw [if_pos hc] at hb22
      refine WP.skip ?_
      refine WP.seq ?_
      refine WP.block ?_
      refine WP.region ?_
      refine RW.run ttok 4 rfl ?_
      obtain ⟨x27, hx28, hb22⟩ := bind_some hb22
      refine RW.idx ttok hS25.ext rfl rfl rfl rfl rfl rfl (by decide) rfl rfl h0_ (idx_some hx28).1 (idx_some hx28).2 rfl rfl (fun p29 es30 ha31 hr32 => ?_)
      cases hr32
      refine RW.load1 ttok rfl rfl rfl rfl rfl (At.ext hS25.ext ha31) 0 rfl rfl rfl rfl ?_
      have hS33 := hS25.bring 0 rfl
      by_cases hk34 : decide (0 ≤ s8.1 ∧ s8.1.toNat < s8.2.length) = true
      case neg => rw [if_neg hk34] at hb22; cases hb22
      rw [if_pos hk34] at hb22
      have hb35 := of_decide_eq_true hk34
      refine RW.idxOwn ttok hS33 rfl rfl rfl rfl rfl rfl rfl rfl hb35.1 hb35.2 rfl rfl (fun q36 hq37 => ?_)
      have hS38 := hS33.flat (T := tInt) (cs := [.int .i64 x27]) (x := x27) ⟨rfl, rfl⟩
      have hS39 := hS38.bring 1 rfl
      refine RW.storeEl ttok hS39 rfl rfl rfl rfl rfl rfl hb35.2 hq37 rfl rfl (fun w40 hS41 => ?_)
      refine RW.know (u := .slice A13 (s8.2.set s8.1.toNat x27).length k14) 3 rfl (by simp) ?_
      refine RW.know (u := .slice A13 (s8.2.set s8.1.toNat x27).length k14) 14 rfl (by simp) ?_
      refine RW.nil ?_
      refine WP.region ?_
      refine RW.run ttok 3 rfl ?_
      refine RW.nil ?_
      cases hb22
      exact ⟨_, [(0, .slice A0_ x0.length k0_), (3, .slice A13 (s8.2.set s8.1.toNat x27).length k14), (4, .int .i64 (w64 (s8.1 + 1)))], ⟨rfl, rfl, rfl, trivial⟩, rfl, A13, k14, ((hS41.bring 0 rfl).taken 1), rfl⟩
    · skip
      rw [if_neg (not_t hc)] at hb22
      refine WP.exit ?_
      cases hb22
      exact ⟨_, [(3, .slice A13 s8.2.length k14)], ⟨rfl, trivial⟩, A13, k14, ho23, ((hS25.bring 0 rfl).taken 1), rfl⟩

theorem enters139 : Enters Try.prog 139 := ⟨_, _, Try.func139, rfl, by kernel_rfl⟩
def m_laws_toWord (fuel : Nat) (x0 : D.Word) : Option (D.Word) := some (⟨x0.Tag, x0.At⟩ : D.Word)

set_option maxRecDepth 100000 in
theorem laws_toWord_ok {w : World} {c0_ : List Value} {x0 : D.Word} (h0_ : ty51.ro w c0_ x0) {fuel : Nat} {r : D.Word} (hm : m_laws_toWord fuel x0 = some r) :
    Calls Try.prog 139 ⟨[.agg ⟨c0_⟩]⟩ w (Ret fun v w8 => v = .agg ⟨[.int .i64 r.Tag, .int .i64 r.At]⟩ ∧ St w w8 []) := by
  have e1 := ty51_open h0_; subst e1
  refine Calls.into Try.func139 rfl 11 rfl rfl _ rfl ?_
  unfold m_laws_toWord at hm
  have hS := St.start w
  refine WP.seq ?_
  refine WP.region ?_
  refine RW.new ttok hS rfl rfl rfl rfl (fun g2 w3 e4 hS5 => ?_)
  refine RW.new ttok hS5 rfl rfl rfl rfl (fun g6 w7 e8 hS9 => ?_)
  refine RW.nil ?_
  refine WP.seq ?_
  refine WP.region ?_
  refine RW.new ttok hS9 rfl rfl rfl rfl (fun g10 w11 e12 hS13 => ?_)
  refine RW.nil ?_
  refine WP.seq ?_
  refine WP.region ?_
  refine RW.run ttok 1 rfl ?_
  refine RW.load1 ttok rfl rfl rfl rfl rfl ((hS13.bring 2 rfl).box) 0 rfl rfl rfl rfl ?_
  refine RW.run ttok 1 rfl ?_
  have hS14 := hS13.bring 0 rfl
  refine RW.store ttok (A := []) hS14 rfl rfl rfl rfl rfl 0 rfl rfl rfl rfl rfl (fun w15 hS16 => ?_)
  refine RW.nil ?_
  refine WP.seq ?_
  refine WP.region ?_
  refine RW.run ttok 1 rfl ?_
  refine RW.load1 ttok rfl rfl rfl rfl rfl ((hS16.bring 2 rfl).box) 1 rfl rfl rfl rfl ?_
  refine RW.run ttok 1 rfl ?_
  have hS17 := hS16.bring 0 rfl
  refine RW.store ttok (A := []) hS17 rfl rfl rfl rfl rfl 1 rfl rfl rfl rfl rfl (fun w18 hS19 => ?_)
  refine RW.nil ?_
  refine WP.seq ?_
  refine WP.region ?_
  refine RW.loadN ttok rfl rfl rfl rfl rfl ((hS19.bring 0 rfl).box) rfl rfl rfl ?_
  have hS20 := hS19.bring 1 rfl
  refine RW.store ttok (A := []) hS20 rfl rfl rfl rfl rfl 0 rfl rfl rfl rfl rfl (fun w21 hS22 => ?_)
  refine RW.nil ?_
  refine WP.ret ?_
  cases hm
  exact ⟨_, .cons (ResIs.agg ttok rfl rfl rfl ((hS22.bring 0 rfl).box) rfl) .nil, rfl, (hS22.taken 0)⟩

theorem enters186 : Enters Try.prog 186 := ⟨_, _, Try.func186, rfl, by kernel_rfl⟩
def m_laws_toWordS_j1 (fuel : Nat) (t9 : (List D.Word)) : Option (List D.Word) := some t9
def m_laws_toWordS_b1 (fuel : Nat) (x0 : (List D.Word)) (s8 : Int × (List D.Word)) : Option (Rd (Int × (List D.Word)) ((List D.Word)) ((List D.Word))) := (if (decide (s8.1 < (x0.length : Int))) = true then ((idx x0 s8.1).bind fun x27 => ((m_laws_toWord fuel x27).bind fun r34 => (if decide (0 ≤ s8.1 ∧ s8.1.toNat < s8.2.length) = true then some (.next (w64 (s8.1 + 1), (s8.2.set s8.1.toNat r34))) else none))) else some (.brk s8.2))
def m_laws_toWordS (fuel : Nat) (x0 : (List D.Word)) : Option ((List D.Word)) := (if decide (0 ≤ (x0.length : Int) ∧ (x0.length : Int) ≤ 4294967296) = true then ((iter (m_laws_toWordS_b1 fuel x0) fuel (0, (List.replicate (x0.length : Int).toNat (⟨(0 : Int), (0 : Int)⟩ : D.Word)))).bind fun o => aft o (m_laws_toWordS_j1 fuel)) else none)

set_option maxRecDepth 100000 in
theorem laws_toWordS_ok {w : World} {A0_ : Option Addr} {k0_ : Nat} {x0 : (List D.Word)} (h0_ : ty262.ro w [.slice A0_ x0.length k0_] x0) {fuel : Nat} {r : (List D.Word)} (hm : m_laws_toWordS fuel x0 = some r) :
    Calls Try.prog 186 ⟨[.slice A0_ x0.length k0_]⟩ w (Ret fun v w8 => ∃ A0 k0, v = .slice A0 r.length k0 ∧ St w w8 [Own ty230 [.slice A0 r.length k0] r]) := by
  refine Calls.into Try.func186 rfl 23 rfl rfl _ rfl ?_
  unfold m_laws_toWordS at hm
  have hS := St.start w
  refine WP.seq ?_
  refine WP.region ?_
  refine RW.run ttok 1 rfl ?_
  refine RW.nil ?_
  refine WP.seq ?_
  refine WP.region ?_
  refine RW.run ttok 2 rfl ?_
  by_cases hk1 : decide (0 ≤ (x0.length : Int) ∧ (x0.length : Int) ≤ 4294967296) = true
  case neg => rw [if_neg hk1] at hm; cases hm
  rw [if_pos hk1] at hm
  have hz7 := of_decide_eq_true hk1
  refine RW.make (U := ty61) ttok (⟨(0 : Int), (0 : Int)⟩ : D.Word) hS rfl rfl rfl rfl rfl rfl rfl rfl hz7.1 (by have := hz7.2; show _ * (16 : Int) ≤ _; omega) (by have := hz7.2; simp only [maxLen]; omega) (fun _ => (ty61_ownI (c := (⟨(0 : Int), (0 : Int)⟩ : D.Word)) rfl)) rfl rfl (fun A2 k3 w4 e5 hS6 => ?_)
  refine RW.run ttok 1 rfl ?_
  refine RW.nil ?_
  refine WP.seq ?_
  refine WP.seq ?_
  refine WP.region ?_
  refine RW.run ttok 1 rfl ?_
  refine RW.nil ?_
  obtain ⟨o18, hl19, hm⟩ := bind_some hm
  refine WP.cut (fun (t9 : (List D.Word)) F w9 => ∃ A15 k16, o18 = .inl t9 ∧ St w w9 [Own ty230 [.slice A15 t9.length k16] t9] ∧ F = [(3, .slice A15 t9.length k16)]) ?_ ?_
  · skip
    rintro t9 F w17 ⟨A15, k16, ho21, hS20, rfl⟩
    subst ho21
    rw [aft_inl] at hm
    unfold m_laws_toWordS_j1 at hm
    refine WP.seq ?_
    refine WP.region ?_
    refine RW.run ttok 2 rfl ?_
    refine RW.nil ?_
    refine WP.ret ?_
    cases hm
    exact ⟨_, .cons (.tmp rfl) .nil, A15, k16, rfl, ((hS20.bring 0 rfl).taken 1)⟩
  · skip
    refine WP.block ?_
    refine WP.weak [(0, .slice A0_ x0.length k0_), (3, .slice A2 (List.replicate (x0.length : Int).toNat (⟨(0 : Int), (0 : Int)⟩ : D.Word)).length k3), (4, .int .i64 0)] ⟨rfl, rfl, rfl, trivial⟩ ?_
    refine WP.iter (fun (s8 : Int × (List D.Word)) F w9 => ∃ A13 k14, St w w9 [Own ty230 [.slice A13 s8.2.length k14] s8.2] ∧ F = [(0, .slice A0_ x0.length k0_), (3, .slice A13 s8.2.length k14), (4, .int .i64 s8.1)]) _ hl19 ⟨A2, k3, ((hS6.bring 0 rfl).taken 1), rfl⟩ ?_
    rintro s8 F w26 _ o24 ⟨A13, k14, hS25, rfl⟩ hb22 ho23
    unfold m_laws_toWordS_b1 at hb22
    refine WP.seq ?_
    refine WP.seq ?_
    refine WP.region ?_
    refine RW.run ttok 4 rfl ?_
    refine RW.nil ?_
    refine WP.cond (decide (s8.1 < (x0.length : Int))) rfl (fun hc => ?_) (fun hc => ?_)
    · skip
      rw [if_pos hc] at hb22
      refine WP.skip ?_
      refine WP.seq ?_
      refine WP.block ?_
      refine WP.region ?_
      refine RW.run ttok 4 rfl ?_
      obtain ⟨x27, hx28, hb22⟩ := bind_some hb22
      refine RW.idx ttok hS25.ext rfl rfl rfl rfl rfl rfl (by decide) rfl rfl h0_ (idx_some hx28).1 (idx_some hx28).2 rfl rfl (fun p29 es30 ha31 hr32 => ?_)
      have e33 := ty51_open hr32; subst e33
      refine RW.loadN ttok rfl rfl rfl rfl rfl (At.ext hS25.ext ha31) rfl rfl rfl ?_
      obtain ⟨r34, hx35, hb22⟩ := bind_some hb22
      refine RW.call rfl rfl rfl enters139 (laws_toWord_ok (ty51.ext hS25.ext hr32) hx35) (fun v36 w37 hR38 => ?_)
      obtain ⟨rfl, hR39⟩ := hR38
      have hS40 := hS25.join hR39
      have hS41 := hS40.bring 0 rfl
      by_cases hk42 : decide (0 ≤ s8.1 ∧ s8.1.toNat < s8.2.length) = true
      case neg => rw [if_neg hk42] at hb22; cases hb22
      rw [if_pos hk42] at hb22
      have hb43 := of_decide_eq_true hk42
      refine RW.idxOwn ttok hS41 rfl rfl rfl rfl rfl rfl rfl rfl hb43.1 hb43.2 rfl rfl (fun q44 hq45 => ?_)
      have hS46 := ty61_shutS (c := r34) (B := _) hS41
      have hS47 := hS46.bring 1 rfl
      refine RW.storeEl ttok hS47 rfl rfl rfl rfl rfl rfl hb43.2 hq45 rfl rfl (fun w48 hS49 => ?_)
      refine RW.know (u := .slice A13 (s8.2.set s8.1.toNat r34).length k14) 3 rfl (by simp) ?_
      refine RW.know (u := .slice A13 (s8.2.set s8.1.toNat r34).length k14) 14 rfl (by simp) ?_
      refine RW.nil ?_
      refine WP.region ?_
      refine RW.run ttok 3 rfl ?_
      refine RW.nil ?_
      cases hb22
      exact ⟨_, [(0, .slice A0_ x0.length k0_), (3, .slice A13 (s8.2.set s8.1.toNat r34).length k14), (4, .int .i64 (w64 (s8.1 + 1)))], ⟨rfl, rfl, rfl, trivial⟩, rfl, A13, k14, ((hS49.bring 0 rfl).taken 1), rfl⟩
    · skip
      rw [if_neg (not_t hc)] at hb22
      refine WP.exit ?_
      cases hb22
      exact ⟨_, [(3, .slice A13 s8.2.length k14)], ⟨rfl, trivial⟩, A13, k14, ho23, ((hS25.bring 0 rfl).taken 1), rfl⟩

theorem enters174 : Enters Try.prog 174 := ⟨_, _, Try.func174, rfl, by kernel_rfl⟩
def m_laws_toCell (fuel : Nat) (x0 : D.Cell) : Option (D.Cell) := ((m_laws_toInt64S fuel x0.Data).bind fun r29 => ((m_laws_toWordS fuel x0.Words).bind fun r41 => some (⟨x0.Kind, x0.Level, x0.Value, r29, r41⟩ : D.Cell)))

set_option maxRecDepth 100000 in
theorem laws_toCell_ok {w : World} {c0_ : List Value} {x0 : D.Cell} (h0_ : ty264.ro w c0_ x0) {fuel : Nat} {r : D.Cell} (hm : m_laws_toCell fuel x0 = some r) :
    Calls Try.prog 174 ⟨[.agg ⟨c0_⟩]⟩ w (Ret fun v w8 => ∃ A0 k0 A1 k1, v = .agg ⟨[.int .i64 r.Kind, .int .i64 r.Level, .int .i64 r.Value, .slice A0 r.Data.length k0, .slice A1 r.Words.length k1]⟩ ∧ St w w8 [Own ty72 [.slice A0 r.Data.length k0] r.Data, Own ty230 [.slice A1 r.Words.length k1] r.Words]) := by
  obtain ⟨A1, k2, A4, k5, e7, h3, h6⟩ := ty264_open h0_; subst e7
  refine Calls.into Try.func174 rfl 22 rfl rfl _ rfl ?_
  unfold m_laws_toCell at hm
  have hS := St.start w
  refine WP.seq ?_
  refine WP.region ?_
  refine RW.new ttok hS rfl rfl rfl rfl (fun g8 w9 e10 hS11 => ?_)
  refine RW.new ttok hS11 rfl rfl rfl rfl (fun g12 w13 e14 hS15 => ?_)
  refine RW.nil ?_
  refine WP.seq ?_
  refine WP.region ?_
  refine RW.new ttok hS15 rfl rfl rfl rfl (fun g16 w17 e18 hS19 => ?_)
  refine RW.nil ?_
  refine WP.seq ?_
  refine WP.region ?_
  refine RW.run ttok 1 rfl ?_
  refine RW.load1 ttok rfl rfl rfl rfl rfl ((hS19.bring 2 rfl).box) 0 rfl rfl rfl rfl ?_
  refine RW.run ttok 1 rfl ?_
  have hS20 := hS19.bring 0 rfl
  refine RW.store ttok (A := []) hS20 rfl rfl rfl rfl rfl 0 rfl rfl rfl rfl rfl (fun w21 hS22 => ?_)
  refine RW.nil ?_
  refine WP.seq ?_
  refine WP.region ?_
  refine RW.run ttok 1 rfl ?_
  refine RW.load1 ttok rfl rfl rfl rfl rfl ((hS22.bring 2 rfl).box) 1 rfl rfl rfl rfl ?_
  refine RW.run ttok 1 rfl ?_
  have hS23 := hS22.bring 0 rfl
  refine RW.store ttok (A := []) hS23 rfl rfl rfl rfl rfl 1 rfl rfl rfl rfl rfl (fun w24 hS25 => ?_)
  refine RW.nil ?_
  refine WP.seq ?_
  refine WP.region ?_
  refine RW.run ttok 1 rfl ?_
  refine RW.load1 ttok rfl rfl rfl rfl rfl ((hS25.bring 2 rfl).box) 2 rfl rfl rfl rfl ?_
  refine RW.run ttok 1 rfl ?_
  have hS26 := hS25.bring 0 rfl
  refine RW.store ttok (A := []) hS26 rfl rfl rfl rfl rfl 2 rfl rfl rfl rfl rfl (fun w27 hS28 => ?_)
  refine RW.nil ?_
  refine WP.seq ?_
  refine WP.region ?_
  refine RW.run ttok 1 rfl ?_
  refine RW.load1 ttok rfl rfl rfl rfl rfl ((hS28.bring 2 rfl).box) 3 rfl rfl rfl rfl ?_
  obtain ⟨r29, hx30, hm⟩ := bind_some hm
  refine RW.call rfl rfl rfl enters89 (laws_toInt64S_ok (ty72.ext hS28.ext h3) hx30) (fun v31 w32 hR33 => ?_)
  obtain ⟨A34, k35, rfl, hR36⟩ := hR33
  have hS37 := hS28.join hR36
  refine RW.run ttok 1 rfl ?_
  have hS38 := hS37.bring 1 rfl
  refine RW.store ttok (A := []) hS38 rfl rfl rfl rfl rfl 3 rfl rfl rfl rfl rfl (fun w39 hS40 => ?_)
  refine RW.nil ?_
  refine WP.seq ?_
  refine WP.region ?_
  refine RW.run ttok 1 rfl ?_
  refine RW.load1 ttok rfl rfl rfl rfl rfl ((hS40.bring 3 rfl).box) 4 rfl rfl rfl rfl ?_
  obtain ⟨r41, hx42, hm⟩ := bind_some hm
  refine RW.call rfl rfl rfl enters186 (laws_toWordS_ok (ty262.ext hS40.ext h6) hx42) (fun v43 w44 hR45 => ?_)
  obtain ⟨A46, k47, rfl, hR48⟩ := hR45
  have hS49 := hS40.join hR48
  refine RW.run ttok 1 rfl ?_
  have hS50 := hS49.bring 1 rfl
  refine RW.store ttok (A := []) hS50 rfl rfl rfl rfl rfl 4 rfl rfl rfl rfl rfl (fun w51 hS52 => ?_)
  refine RW.nil ?_
  refine WP.seq ?_
  refine WP.region ?_
  refine RW.loadN ttok rfl rfl rfl rfl rfl ((hS52.bring 0 rfl).box) rfl rfl rfl ?_
  have hS53 := hS52.bring 3 rfl
  refine RW.store ttok (A := []) hS53 rfl rfl rfl rfl rfl 0 rfl rfl rfl rfl rfl (fun w54 hS55 => ?_)
  refine RW.nil ?_
  refine WP.ret ?_
  cases hm
  exact ⟨_, .cons (ResIs.agg ttok rfl rfl rfl ((hS55.bring 0 rfl).box) rfl) .nil, A34, k35, A46, k47, rfl, (((hS55.bring 2 rfl).bring 3 rfl).taken 2)⟩

theorem enters138 : Enters Try.prog 138 := ⟨_, _, Try.func138, rfl, by kernel_rfl⟩
def m_laws_toCellS_j1 (fuel : Nat) (t9 : (List D.Cell)) : Option (List D.Cell) := some t9
def m_laws_toCellS_b1 (fuel : Nat) (x0 : (List D.Cell)) (s8 : Int × (List D.Cell)) : Option (Rd (Int × (List D.Cell)) ((List D.Cell)) ((List D.Cell))) := (if (decide (s8.1 < (x0.length : Int))) = true then ((idx x0 s8.1).bind fun x27 => ((m_laws_toCell fuel x27).bind fun r40 => (if decide (0 ≤ s8.1 ∧ s8.1.toNat < s8.2.length) = true then some (.next (w64 (s8.1 + 1), (s8.2.set s8.1.toNat r40))) else none))) else some (.brk s8.2))
def m_laws_toCellS (fuel : Nat) (x0 : (List D.Cell)) : Option ((List D.Cell)) := (if decide (0 ≤ (x0.length : Int) ∧ (x0.length : Int) ≤ 4294967296) = true then ((iter (m_laws_toCellS_b1 fuel x0) fuel (0, (List.replicate (x0.length : Int).toNat (⟨(0 : Int), (0 : Int), (0 : Int), ([] : (List Int)), ([] : (List D.Word))⟩ : D.Cell)))).bind fun o => aft o (m_laws_toCellS_j1 fuel)) else none)

set_option maxRecDepth 100000 in
theorem laws_toCellS_ok {w : World} {A0_ : Option Addr} {k0_ : Nat} {x0 : (List D.Cell)} (h0_ : ty49.ro w [.slice A0_ x0.length k0_] x0) {fuel : Nat} {r : (List D.Cell)} (hm : m_laws_toCellS fuel x0 = some r) :
    Calls Try.prog 138 ⟨[.slice A0_ x0.length k0_]⟩ w (Ret fun v w8 => ∃ A0 k0, v = .slice A0 r.length k0 ∧ St w w8 [Own ty60 [.slice A0 r.length k0] r]) := by
  refine Calls.into Try.func138 rfl 23 rfl rfl _ rfl ?_
  unfold m_laws_toCellS at hm
  have hS := St.start w
  refine WP.seq ?_
  refine WP.region ?_
  refine RW.run ttok 1 rfl ?_
  refine RW.nil ?_
  refine WP.seq ?_
  refine WP.region ?_
  refine RW.run ttok 2 rfl ?_
  by_cases hk1 : decide (0 ≤ (x0.length : Int) ∧ (x0.length : Int) ≤ 4294967296) = true
  case neg => rw [if_neg hk1] at hm; cases hm
  rw [if_pos hk1] at hm
  have hz7 := of_decide_eq_true hk1
  refine RW.make (U := ty232) ttok (⟨(0 : Int), (0 : Int), (0 : Int), ([] : (List Int)), ([] : (List D.Word))⟩ : D.Cell) hS rfl rfl rfl rfl rfl rfl rfl rfl hz7.1 (by have := hz7.2; show _ * (72 : Int) ≤ _; omega) (by have := hz7.2; simp only [maxLen]; omega) (fun _ => (ty232_ownI (c := (⟨(0 : Int), (0 : Int), (0 : Int), ([] : (List Int)), ([] : (List D.Word))⟩ : D.Cell)) ⟨[], [], rfl, (slNilOwn tInt 2 _), ⟨[], [], rfl, (slNilOwn ty61 61 _), rfl⟩⟩)) rfl rfl (fun A2 k3 w4 e5 hS6 => ?_)
  refine RW.run ttok 1 rfl ?_
  refine RW.nil ?_
  refine WP.seq ?_
  refine WP.seq ?_
  refine WP.region ?_
  refine RW.run ttok 1 rfl ?_
  refine RW.nil ?_
  obtain ⟨o18, hl19, hm⟩ := bind_some hm
  refine WP.cut (fun (t9 : (List D.Cell)) F w9 => ∃ A15 k16, o18 = .inl t9 ∧ St w w9 [Own ty60 [.slice A15 t9.length k16] t9] ∧ F = [(3, .slice A15 t9.length k16)]) ?_ ?_
  · skip
    rintro t9 F w17 ⟨A15, k16, ho21, hS20, rfl⟩
    subst ho21
    rw [aft_inl] at hm
    unfold m_laws_toCellS_j1 at hm
    refine WP.seq ?_
    refine WP.region ?_
    refine RW.run ttok 2 rfl ?_
    refine RW.nil ?_
    refine WP.ret ?_
    cases hm
    exact ⟨_, .cons (.tmp rfl) .nil, A15, k16, rfl, ((hS20.bring 0 rfl).taken 1)⟩
  · skip
    refine WP.block ?_
    refine WP.weak [(0, .slice A0_ x0.length k0_), (3, .slice A2 (List.replicate (x0.length : Int).toNat (⟨(0 : Int), (0 : Int), (0 : Int), ([] : (List Int)), ([] : (List D.Word))⟩ : D.Cell)).length k3), (4, .int .i64 0)] ⟨rfl, rfl, rfl, trivial⟩ ?_
    refine WP.iter (fun (s8 : Int × (List D.Cell)) F w9 => ∃ A13 k14, St w w9 [Own ty60 [.slice A13 s8.2.length k14] s8.2] ∧ F = [(0, .slice A0_ x0.length k0_), (3, .slice A13 s8.2.length k14), (4, .int .i64 s8.1)]) _ hl19 ⟨A2, k3, ((hS6.bring 0 rfl).taken 1), rfl⟩ ?_
    rintro s8 F w26 _ o24 ⟨A13, k14, hS25, rfl⟩ hb22 ho23
    unfold m_laws_toCellS_b1 at hb22
    refine WP.seq ?_
    refine WP.seq ?_
    refine WP.region ?_
    refine RW.run ttok 4 rfl ?_
    refine RW.nil ?_
    refine WP.cond (decide (s8.1 < (x0.length : Int))) rfl (fun hc => ?_) (fun hc => ?_)
    · skip
      rw [if_pos hc] at hb22
      refine WP.skip ?_
      refine WP.seq ?_
      refine WP.block ?_
      refine WP.region ?_
      refine RW.run ttok 4 rfl ?_
      obtain ⟨x27, hx28, hb22⟩ := bind_some hb22
      refine RW.idx ttok hS25.ext rfl rfl rfl rfl rfl rfl (by decide) rfl rfl h0_ (idx_some hx28).1 (idx_some hx28).2 rfl rfl (fun p29 es30 ha31 hr32 => ?_)
      obtain ⟨A33, k34, A36, k37, e39, h35, h38⟩ := ty264_open hr32; subst e39
      refine RW.loadN ttok rfl rfl rfl rfl rfl (At.ext hS25.ext ha31) rfl rfl rfl ?_
      obtain ⟨r40, hx41, hb22⟩ := bind_some hb22
      refine RW.call rfl rfl rfl enters174 (laws_toCell_ok (ty264.ext hS25.ext hr32) hx41) (fun v42 w43 hR44 => ?_)
      obtain ⟨A45, k46, A47, k48, rfl, hR49⟩ := hR44
      have hS50 := hS25.join hR49
      have hS51 := hS50.bring 2 rfl
      by_cases hk52 : decide (0 ≤ s8.1 ∧ s8.1.toNat < s8.2.length) = true
      case neg => rw [if_neg hk52] at hb22; cases hb22
      rw [if_pos hk52] at hb22
      have hb53 := of_decide_eq_true hk52
      refine RW.idxOwn ttok hS51 rfl rfl rfl rfl rfl rfl rfl rfl hb53.1 hb53.2 rfl rfl (fun q54 hq55 => ?_)
      have hS56 := hS51.bring 2 rfl
      have hS57 := hS56.bring 2 rfl
      have hS58 := ty232_shutS (c := r40) (B := _) hS57
      have hS59 := hS58.bring 1 rfl
      refine RW.storeEl ttok hS59 rfl rfl rfl rfl rfl rfl hb53.2 hq55 rfl rfl (fun w60 hS61 => ?_)
      refine RW.know (u := .slice A13 (s8.2.set s8.1.toNat r40).length k14) 3 rfl (by simp) ?_
      refine RW.know (u := .slice A13 (s8.2.set s8.1.toNat r40).length k14) 14 rfl (by simp) ?_
      refine RW.nil ?_
      refine WP.region ?_
      refine RW.run ttok 3 rfl ?_
      refine RW.nil ?_
      cases hb22
      exact ⟨_, [(0, .slice A0_ x0.length k0_), (3, .slice A13 (s8.2.set s8.1.toNat r40).length k14), (4, .int .i64 (w64 (s8.1 + 1)))], ⟨rfl, rfl, rfl, trivial⟩, rfl, A13, k14, ((hS61.bring 0 rfl).taken 1), rfl⟩
    · skip
      rw [if_neg (not_t hc)] at hb22
      refine WP.exit ?_
      cases hb22
      exact ⟨_, [(3, .slice A13 s8.2.length k14)], ⟨rfl, trivial⟩, A13, k14, ho23, ((hS25.bring 0 rfl).taken 1), rfl⟩

theorem enters175 : Enters Try.prog 175 := ⟨_, _, Try.func175, rfl, by kernel_rfl⟩
def m_laws_toPair (fuel : Nat) (x0 : D.Pair) : Option (D.Pair) := some (⟨x0.A, x0.B⟩ : D.Pair)

set_option maxRecDepth 100000 in
theorem laws_toPair_ok {w : World} {c0_ : List Value} {x0 : D.Pair} (h0_ : ty270.ro w c0_ x0) {fuel : Nat} {r : D.Pair} (hm : m_laws_toPair fuel x0 = some r) :
    Calls Try.prog 175 ⟨[.agg ⟨c0_⟩]⟩ w (Ret fun v w8 => v = .agg ⟨[.int .i64 r.A, .int .i64 r.B]⟩ ∧ St w w8 []) := by
  have e1 := ty270_open h0_; subst e1
  refine Calls.into Try.func175 rfl 11 rfl rfl _ rfl ?_
  unfold m_laws_toPair at hm
  have hS := St.start w
  refine WP.seq ?_
  refine WP.region ?_
  refine RW.new ttok hS rfl rfl rfl rfl (fun g2 w3 e4 hS5 => ?_)
  refine RW.new ttok hS5 rfl rfl rfl rfl (fun g6 w7 e8 hS9 => ?_)
  refine RW.nil ?_
  refine WP.seq ?_
  refine WP.region ?_
  refine RW.new ttok hS9 rfl rfl rfl rfl (fun g10 w11 e12 hS13 => ?_)
  refine RW.nil ?_
  refine WP.seq ?_
  refine WP.region ?_
  refine RW.run ttok 1 rfl ?_
  refine RW.load1 ttok rfl rfl rfl rfl rfl ((hS13.bring 2 rfl).box) 0 rfl rfl rfl rfl ?_
  refine RW.run ttok 1 rfl ?_
  have hS14 := hS13.bring 0 rfl
  refine RW.store ttok (A := []) hS14 rfl rfl rfl rfl rfl 0 rfl rfl rfl rfl rfl (fun w15 hS16 => ?_)
  refine RW.nil ?_
  refine WP.seq ?_
  refine WP.region ?_
  refine RW.run ttok 1 rfl ?_
  refine RW.load1 ttok rfl rfl rfl rfl rfl ((hS16.bring 2 rfl).box) 1 rfl rfl rfl rfl ?_
  refine RW.run ttok 1 rfl ?_
  have hS17 := hS16.bring 0 rfl
  refine RW.store ttok (A := []) hS17 rfl rfl rfl rfl rfl 1 rfl rfl rfl rfl rfl (fun w18 hS19 => ?_)
  refine RW.nil ?_
  refine WP.seq ?_
  refine WP.region ?_
  refine RW.loadN ttok rfl rfl rfl rfl rfl ((hS19.bring 0 rfl).box) rfl rfl rfl ?_
  have hS20 := hS19.bring 1 rfl
  refine RW.store ttok (A := []) hS20 rfl rfl rfl rfl rfl 0 rfl rfl rfl rfl rfl (fun w21 hS22 => ?_)
  refine RW.nil ?_
  refine WP.ret ?_
  cases hm
  exact ⟨_, .cons (ResIs.agg ttok rfl rfl rfl ((hS22.bring 0 rfl).box) rfl) .nil, rfl, (hS22.taken 0)⟩

theorem enters140 : Enters Try.prog 140 := ⟨_, _, Try.func140, rfl, by kernel_rfl⟩
def m_laws_toPairS_j1 (fuel : Nat) (t9 : (List D.Pair)) : Option (List D.Pair) := some t9
def m_laws_toPairS_b1 (fuel : Nat) (x0 : (List D.Pair)) (s8 : Int × (List D.Pair)) : Option (Rd (Int × (List D.Pair)) ((List D.Pair)) ((List D.Pair))) := (if (decide (s8.1 < (x0.length : Int))) = true then ((idx x0 s8.1).bind fun x27 => ((m_laws_toPair fuel x27).bind fun r34 => (if decide (0 ≤ s8.1 ∧ s8.1.toNat < s8.2.length) = true then some (.next (w64 (s8.1 + 1), (s8.2.set s8.1.toNat r34))) else none))) else some (.brk s8.2))
def m_laws_toPairS (fuel : Nat) (x0 : (List D.Pair)) : Option ((List D.Pair)) := (if decide (0 ≤ (x0.length : Int) ∧ (x0.length : Int) ≤ 4294967296) = true then ((iter (m_laws_toPairS_b1 fuel x0) fuel (0, (List.replicate (x0.length : Int).toNat (⟨(0 : Int), (0 : Int)⟩ : D.Pair)))).bind fun o => aft o (m_laws_toPairS_j1 fuel)) else none)

set_option maxRecDepth 100000 in
theorem laws_toPairS_ok {w : World} {A0_ : Option Addr} {k0_ : Nat} {x0 : (List D.Pair)} (h0_ : ty52.ro w [.slice A0_ x0.length k0_] x0) {fuel : Nat} {r : (List D.Pair)} (hm : m_laws_toPairS fuel x0 = some r) :
    Calls Try.prog 140 ⟨[.slice A0_ x0.length k0_]⟩ w (Ret fun v w8 => ∃ A0 k0, v = .slice A0 r.length k0 ∧ St w w8 [Own ty62 [.slice A0 r.length k0] r]) := by
  refine Calls.into Try.func140 rfl 23 rfl rfl _ rfl ?_
  unfold m_laws_toPairS at hm
  have hS := St.start w
  refine WP.seq ?_
  refine WP.region ?_
  refine RW.run ttok 1 rfl ?_
  refine RW.nil ?_
  refine WP.seq ?_
  refine WP.region ?_
  refine RW.run ttok 2 rfl ?_
  by_cases hk1 : decide (0 ≤ (x0.length : Int) ∧ (x0.length : Int) ≤ 4294967296) = true
  case neg => rw [if_neg hk1] at hm; cases hm
  rw [if_pos hk1] at hm
  have hz7 := of_decide_eq_true hk1
  refine RW.make (U := ty155) ttok (⟨(0 : Int), (0 : Int)⟩ : D.Pair) hS rfl rfl rfl rfl rfl rfl rfl rfl hz7.1 (by have := hz7.2; show _ * (16 : Int) ≤ _; omega) (by have := hz7.2; simp only [maxLen]; omega) (fun _ => (ty155_ownI (c := (⟨(0 : Int), (0 : Int)⟩ : D.Pair)) rfl)) rfl rfl (fun A2 k3 w4 e5 hS6 => ?_)
  refine RW.run ttok 1 rfl ?_
  refine RW.nil ?_
  refine WP.seq ?_
  refine WP.seq ?_
  refine WP.region ?_
  refine RW.run ttok 1 rfl ?_
  refine RW.nil ?_
  obtain ⟨o18, hl19, hm⟩ := bind_some hm
  refine WP.cut (fun (t9 : (List D.Pair)) F w9 => ∃ A15 k16, o18 = .inl t9 ∧ St w w9 [Own ty62 [.slice A15 t9.length k16] t9] ∧ F = [(3, .slice A15 t9.length k16)]) ?_ ?_
  · skip
    rintro t9 F w17 ⟨A15, k16, ho21, hS20, rfl⟩
    subst ho21
    rw [aft_inl] at hm
    unfold m_laws_toPairS_j1 at hm
    refine WP.seq ?_
    refine WP.region ?_
    refine RW.run ttok 2 rfl ?_
    refine RW.nil ?_
    refine WP.ret ?_
    cases hm
    exact ⟨_, .cons (.tmp rfl) .nil, A15, k16, rfl, ((hS20.bring 0 rfl).taken 1)⟩
  · skip
    refine WP.block ?_
    refine WP.weak [(0, .slice A0_ x0.length k0_), (3, .slice A2 (List.replicate (x0.length : Int).toNat (⟨(0 : Int), (0 : Int)⟩ : D.Pair)).length k3), (4, .int .i64 0)] ⟨rfl, rfl, rfl, trivial⟩ ?_
    refine WP.iter (fun (s8 : Int × (List D.Pair)) F w9 => ∃ A13 k14, St w w9 [Own ty62 [.slice A13 s8.2.length k14] s8.2] ∧ F = [(0, .slice A0_ x0.length k0_), (3, .slice A13 s8.2.length k14), (4, .int .i64 s8.1)]) _ hl19 ⟨A2, k3, ((hS6.bring 0 rfl).taken 1), rfl⟩ ?_
    rintro s8 F w26 _ o24 ⟨A13, k14, hS25, rfl⟩ hb22 ho23
    unfold m_laws_toPairS_b1 at hb22
    refine WP.seq ?_
    refine WP.seq ?_
    refine WP.region ?_
    refine RW.run ttok 4 rfl ?_
    refine RW.nil ?_
    refine WP.cond (decide (s8.1 < (x0.length : Int))) rfl (fun hc => ?_) (fun hc => ?_)
    · skip
      rw [if_pos hc] at hb22
      refine WP.skip ?_
      refine WP.seq ?_
      refine WP.block ?_
      refine WP.region ?_
      refine RW.run ttok 4 rfl ?_
      obtain ⟨x27, hx28, hb22⟩ := bind_some hb22
      refine RW.idx ttok hS25.ext rfl rfl rfl rfl rfl rfl (by decide) rfl rfl h0_ (idx_some hx28).1 (idx_some hx28).2 rfl rfl (fun p29 es30 ha31 hr32 => ?_)
      have e33 := ty270_open hr32; subst e33
      refine RW.loadN ttok rfl rfl rfl rfl rfl (At.ext hS25.ext ha31) rfl rfl rfl ?_
      obtain ⟨r34, hx35, hb22⟩ := bind_some hb22
      refine RW.call rfl rfl rfl enters175 (laws_toPair_ok (ty270.ext hS25.ext hr32) hx35) (fun v36 w37 hR38 => ?_)
      obtain ⟨rfl, hR39⟩ := hR38
      have hS40 := hS25.join hR39
      have hS41 := hS40.bring 0 rfl
      by_cases hk42 : decide (0 ≤ s8.1 ∧ s8.1.toNat < s8.2.length) = true
      case neg => rw [if_neg hk42] at hb22; cases hb22
      rw [if_pos hk42] at hb22
      have hb43 := of_decide_eq_true hk42
      refine RW.idxOwn ttok hS41 rfl rfl rfl rfl rfl rfl rfl rfl hb43.1 hb43.2 rfl rfl (fun q44 hq45 => ?_)
      have hS46 := ty155_shutS (c := r34) (B := _) hS41
      have hS47 := hS46.bring 1 rfl
      refine RW.storeEl ttok hS47 rfl rfl rfl rfl rfl rfl hb43.2 hq45 rfl rfl (fun w48 hS49 => ?_)
      refine RW.know (u := .slice A13 (s8.2.set s8.1.toNat r34).length k14) 3 rfl (by simp) ?_
      refine RW.know (u := .slice A13 (s8.2.set s8.1.toNat r34).length k14) 14 rfl (by simp) ?_
      refine RW.nil ?_
      refine WP.region ?_
      refine RW.run ttok 3 rfl ?_
      refine RW.nil ?_
      cases hb22
      exact ⟨_, [(0, .slice A0_ x0.length k0_), (3, .slice A13 (s8.2.set s8.1.toNat r34).length k14), (4, .int .i64 (w64 (s8.1 + 1)))], ⟨rfl, rfl, rfl, trivial⟩, rfl, A13, k14, ((hS49.bring 0 rfl).taken 1), rfl⟩
    · skip
      rw [if_neg (not_t hc)] at hb22
      refine WP.exit ?_
      cases hb22
      exact ⟨_, [(3, .slice A13 s8.2.length k14)], ⟨rfl, trivial⟩, A13, k14, ho23, ((hS25.bring 0 rfl).taken 1), rfl⟩

theorem enters71 : Enters Try.prog 71 := ⟨_, _, Try.func71, rfl, by kernel_rfl⟩
def m_laws_toMemory (fuel : Nat) (x0 : D.Memory) : Option (D.Memory) := ((m_laws_toCellS fuel x0.Cells).bind fun r20 => ((m_laws_toWord fuel x0.Root).bind fun r35 => ((m_laws_toPairS fuel x0.Redexes).bind fun r45 => some (⟨r20, x0.Free, (⟨r35.Tag, r35.At⟩ : D.Word), r45⟩ : D.Memory))))

set_option maxRecDepth 100000 in
theorem laws_toMemory_ok {w : World} {c0_ : List Value} {x0 : D.Memory} (h0_ : ty54.ro w c0_ x0) {fuel : Nat} {r : D.Memory} (hm : m_laws_toMemory fuel x0 = some r) :
    Calls Try.prog 71 ⟨[.agg ⟨c0_⟩]⟩ w (Ret fun v w8 => ∃ A0 k0 A1 k1, v = .agg ⟨[.slice A0 r.Cells.length k0, .int .i64 r.Free, .int .i64 r.Root.Tag, .int .i64 r.Root.At, .slice A1 r.Redexes.length k1]⟩ ∧ St w w8 [Own ty60 [.slice A0 r.Cells.length k0] r.Cells, Own ty62 [.slice A1 r.Redexes.length k1] r.Redexes]) := by
  obtain ⟨A1, k2, A4, k5, e7, h3, h6⟩ := ty54_open h0_; subst e7
  refine Calls.into Try.func71 rfl 20 rfl rfl _ rfl ?_
  unfold m_laws_toMemory at hm
  have hS := St.start w
  refine WP.seq ?_
  refine WP.region ?_
  refine RW.new ttok hS rfl rfl rfl rfl (fun g8 w9 e10 hS11 => ?_)
  refine RW.new ttok hS11 rfl rfl rfl rfl (fun g12 w13 e14 hS15 => ?_)
  refine RW.nil ?_
  refine WP.seq ?_
  refine WP.region ?_
  refine RW.new ttok hS15 rfl rfl rfl rfl (fun g16 w17 e18 hS19 => ?_)
  refine RW.nil ?_
  refine WP.seq ?_
  refine WP.region ?_
  refine RW.run ttok 1 rfl ?_
  refine RW.load1 ttok rfl rfl rfl rfl rfl ((hS19.bring 2 rfl).box) 0 rfl rfl rfl rfl ?_
  obtain ⟨r20, hx21, hm⟩ := bind_some hm
  refine RW.call rfl rfl rfl enters138 (laws_toCellS_ok (ty49.ext hS19.ext h3) hx21) (fun v22 w23 hR24 => ?_)
  obtain ⟨A25, k26, rfl, hR27⟩ := hR24
  have hS28 := hS19.join hR27
  refine RW.run ttok 1 rfl ?_
  have hS29 := hS28.bring 1 rfl
  refine RW.store ttok (A := []) hS29 rfl rfl rfl rfl rfl 0 rfl rfl rfl rfl rfl (fun w30 hS31 => ?_)
  refine RW.nil ?_
  refine WP.seq ?_
  refine WP.region ?_
  refine RW.run ttok 1 rfl ?_
  refine RW.load1 ttok rfl rfl rfl rfl rfl ((hS31.bring 3 rfl).box) 1 rfl rfl rfl rfl ?_
  refine RW.run ttok 1 rfl ?_
  have hS32 := hS31.bring 0 rfl
  refine RW.store ttok (A := []) hS32 rfl rfl rfl rfl rfl 1 rfl rfl rfl rfl rfl (fun w33 hS34 => ?_)
  refine RW.nil ?_
  refine WP.seq ?_
  refine WP.region ?_
  refine RW.run ttok 1 rfl ?_
  refine RW.loadN ttok rfl rfl rfl rfl rfl (At.sub ((hS34.bring 3 rfl).box) 2 2) rfl rfl rfl ?_
  obtain ⟨r35, hx36, hm⟩ := bind_some hm
  refine RW.call rfl rfl rfl enters139 (laws_toWord_ok (ty51_shut x0.Root) hx36) (fun v37 w38 hR39 => ?_)
  obtain ⟨rfl, hR40⟩ := hR39
  have hS41 := hS34.join hR40
  refine RW.run ttok 1 rfl ?_
  have hS42 := hS41.bring 0 rfl
  refine RW.store ttok (A := []) hS42 rfl rfl rfl rfl rfl 2 rfl rfl rfl rfl rfl (fun w43 hS44 => ?_)
  refine RW.nil ?_
  refine WP.seq ?_
  refine WP.region ?_
  refine RW.run ttok 1 rfl ?_
  refine RW.load1 ttok rfl rfl rfl rfl rfl ((hS44.bring 3 rfl).box) 4 rfl rfl rfl rfl ?_
  obtain ⟨r45, hx46, hm⟩ := bind_some hm
  refine RW.call rfl rfl rfl enters140 (laws_toPairS_ok (ty52.ext hS44.ext h6) hx46) (fun v47 w48 hR49 => ?_)
  obtain ⟨A50, k51, rfl, hR52⟩ := hR49
  have hS53 := hS44.join hR52
  refine RW.run ttok 1 rfl ?_
  have hS54 := hS53.bring 1 rfl
  refine RW.store ttok (A := []) hS54 rfl rfl rfl rfl rfl 4 rfl rfl rfl rfl rfl (fun w55 hS56 => ?_)
  refine RW.nil ?_
  refine WP.seq ?_
  refine WP.region ?_
  refine RW.loadN ttok rfl rfl rfl rfl rfl ((hS56.bring 0 rfl).box) rfl rfl rfl ?_
  have hS57 := hS56.bring 3 rfl
  refine RW.store ttok (A := []) hS57 rfl rfl rfl rfl rfl 0 rfl rfl rfl rfl rfl (fun w58 hS59 => ?_)
  refine RW.nil ?_
  refine WP.ret ?_
  cases hm
  exact ⟨_, .cons (ResIs.agg ttok rfl rfl rfl ((hS59.bring 0 rfl).box) rfl) .nil, A25, k26, A50, k51, rfl, (((hS59.bring 2 rfl).bring 3 rfl).taken 2)⟩

theorem enters187 : Enters Try.prog 187 := ⟨_, _, Try.func187, rfl, by kernel_rfl⟩
def m_laws_toLink (fuel : Nat) (x0 : D.Link) : Option (D.Link) := ((m_laws_toWord fuel x0.A).bind fun r14 => ((m_laws_toWord fuel x0.B).bind fun r24 => some (⟨(⟨r14.Tag, r14.At⟩ : D.Word), (⟨r24.Tag, r24.At⟩ : D.Word)⟩ : D.Link)))

set_option maxRecDepth 100000 in
theorem laws_toLink_ok {w : World} {c0_ : List Value} {x0 : D.Link} (h0_ : ty283.ro w c0_ x0) {fuel : Nat} {r : D.Link} (hm : m_laws_toLink fuel x0 = some r) :
    Calls Try.prog 187 ⟨[.agg ⟨c0_⟩]⟩ w (Ret fun v w8 => v = .agg ⟨[.int .i64 r.A.Tag, .int .i64 r.A.At, .int .i64 r.B.Tag, .int .i64 r.B.At]⟩ ∧ St w w8 []) := by
  have e1 := ty283_open h0_; subst e1
  refine Calls.into Try.func187 rfl 13 rfl rfl _ rfl ?_
  unfold m_laws_toLink at hm
  have hS := St.start w
  refine WP.seq ?_
  refine WP.region ?_
  refine RW.new ttok hS rfl rfl rfl rfl (fun g2 w3 e4 hS5 => ?_)
  refine RW.new ttok hS5 rfl rfl rfl rfl (fun g6 w7 e8 hS9 => ?_)
  refine RW.nil ?_
  refine WP.seq ?_
  refine WP.region ?_
  refine RW.new ttok hS9 rfl rfl rfl rfl (fun g10 w11 e12 hS13 => ?_)
  refine RW.nil ?_
  refine WP.seq ?_
  refine WP.region ?_
  refine RW.run ttok 1 rfl ?_
  refine RW.loadN ttok rfl rfl rfl rfl rfl (At.sub ((hS13.bring 2 rfl).box) 0 2) rfl rfl rfl ?_
  obtain ⟨r14, hx15, hm⟩ := bind_some hm
  refine RW.call rfl rfl rfl enters139 (laws_toWord_ok (ty51_shut x0.A) hx15) (fun v16 w17 hR18 => ?_)
  obtain ⟨rfl, hR19⟩ := hR18
  have hS20 := hS13.join hR19
  refine RW.run ttok 1 rfl ?_
  have hS21 := hS20.bring 0 rfl
  refine RW.store ttok (A := []) hS21 rfl rfl rfl rfl rfl 0 rfl rfl rfl rfl rfl (fun w22 hS23 => ?_)
  refine RW.nil ?_
  refine WP.seq ?_
  refine WP.region ?_
  refine RW.run ttok 1 rfl ?_
  refine RW.loadN ttok rfl rfl rfl rfl rfl (At.sub ((hS23.bring 2 rfl).box) 2 2) rfl rfl rfl ?_
  obtain ⟨r24, hx25, hm⟩ := bind_some hm
  refine RW.call rfl rfl rfl enters139 (laws_toWord_ok (ty51_shut x0.B) hx25) (fun v26 w27 hR28 => ?_)
  obtain ⟨rfl, hR29⟩ := hR28
  have hS30 := hS23.join hR29
  refine RW.run ttok 1 rfl ?_
  have hS31 := hS30.bring 0 rfl
  refine RW.store ttok (A := []) hS31 rfl rfl rfl rfl rfl 2 rfl rfl rfl rfl rfl (fun w32 hS33 => ?_)
  refine RW.nil ?_
  refine WP.seq ?_
  refine WP.region ?_
  refine RW.loadN ttok rfl rfl rfl rfl rfl ((hS33.bring 0 rfl).box) rfl rfl rfl ?_
  have hS34 := hS33.bring 1 rfl
  refine RW.store ttok (A := []) hS34 rfl rfl rfl rfl rfl 0 rfl rfl rfl rfl rfl (fun w35 hS36 => ?_)
  refine RW.nil ?_
  refine WP.ret ?_
  cases hm
  exact ⟨_, .cons (ResIs.agg ttok rfl rfl rfl ((hS36.bring 0 rfl).box) rfl) .nil, rfl, (hS36.taken 0)⟩

theorem enters176 : Enters Try.prog 176 := ⟨_, _, Try.func176, rfl, by kernel_rfl⟩
def m_laws_toLinkS_j1 (fuel : Nat) (t9 : (List D.Link)) : Option (List D.Link) := some t9
def m_laws_toLinkS_b1 (fuel : Nat) (x0 : (List D.Link)) (s8 : Int × (List D.Link)) : Option (Rd (Int × (List D.Link)) ((List D.Link)) ((List D.Link))) := (if (decide (s8.1 < (x0.length : Int))) = true then ((idx x0 s8.1).bind fun x27 => ((m_laws_toLink fuel x27).bind fun r34 => (if decide (0 ≤ s8.1 ∧ s8.1.toNat < s8.2.length) = true then some (.next (w64 (s8.1 + 1), (s8.2.set s8.1.toNat r34))) else none))) else some (.brk s8.2))
def m_laws_toLinkS (fuel : Nat) (x0 : (List D.Link)) : Option ((List D.Link)) := (if decide (0 ≤ (x0.length : Int) ∧ (x0.length : Int) ≤ 4294967296) = true then ((iter (m_laws_toLinkS_b1 fuel x0) fuel (0, (List.replicate (x0.length : Int).toNat (⟨(⟨(0 : Int), (0 : Int)⟩ : D.Word), (⟨(0 : Int), (0 : Int)⟩ : D.Word)⟩ : D.Link)))).bind fun o => aft o (m_laws_toLinkS_j1 fuel)) else none)

set_option maxRecDepth 100000 in
theorem laws_toLinkS_ok {w : World} {A0_ : Option Addr} {k0_ : Nat} {x0 : (List D.Link)} (h0_ : ty218.ro w [.slice A0_ x0.length k0_] x0) {fuel : Nat} {r : (List D.Link)} (hm : m_laws_toLinkS fuel x0 = some r) :
    Calls Try.prog 176 ⟨[.slice A0_ x0.length k0_]⟩ w (Ret fun v w8 => ∃ A0 k0, v = .slice A0 r.length k0 ∧ St w w8 [Own ty150 [.slice A0 r.length k0] r]) := by
  refine Calls.into Try.func176 rfl 23 rfl rfl _ rfl ?_
  unfold m_laws_toLinkS at hm
  have hS := St.start w
  refine WP.seq ?_
  refine WP.region ?_
  refine RW.run ttok 1 rfl ?_
  refine RW.nil ?_
  refine WP.seq ?_
  refine WP.region ?_
  refine RW.run ttok 2 rfl ?_
  by_cases hk1 : decide (0 ≤ (x0.length : Int) ∧ (x0.length : Int) ≤ 4294967296) = true
  case neg => rw [if_neg hk1] at hm; cases hm
  rw [if_pos hk1] at hm
  have hz7 := of_decide_eq_true hk1
  refine RW.make (U := ty158) ttok (⟨(⟨(0 : Int), (0 : Int)⟩ : D.Word), (⟨(0 : Int), (0 : Int)⟩ : D.Word)⟩ : D.Link) hS rfl rfl rfl rfl rfl rfl rfl rfl hz7.1 (by have := hz7.2; show _ * (32 : Int) ≤ _; omega) (by have := hz7.2; simp only [maxLen]; omega) (fun _ => (ty158_ownI (c := (⟨(⟨(0 : Int), (0 : Int)⟩ : D.Word), (⟨(0 : Int), (0 : Int)⟩ : D.Word)⟩ : D.Link)) rfl)) rfl rfl (fun A2 k3 w4 e5 hS6 => ?_)
  refine RW.run ttok 1 rfl ?_
  refine RW.nil ?_
  refine WP.seq ?_
  refine WP.seq ?_
  refine WP.region ?_
  refine RW.run ttok 1 rfl ?_
  refine RW.nil ?_
  obtain ⟨o18, hl19, hm⟩ := bind_some hm
  refine WP.cut (fun (t9 : (List D.Link)) F w9 => ∃ A15 k16, o18 = .inl t9 ∧ St w w9 [Own ty150 [.slice A15 t9.length k16] t9] ∧ F = [(3, .slice A15 t9.length k16)]) ?_ ?_
  · skip
    rintro t9 F w17 ⟨A15, k16, ho21, hS20, rfl⟩
    subst ho21
    rw [aft_inl] at hm
    unfold m_laws_toLinkS_j1 at hm
    refine WP.seq ?_
    refine WP.region ?_
    refine RW.run ttok 2 rfl ?_
    refine RW.nil ?_
    refine WP.ret ?_
    cases hm
    exact ⟨_, .cons (.tmp rfl) .nil, A15, k16, rfl, ((hS20.bring 0 rfl).taken 1)⟩
  · skip
    refine WP.block ?_
    refine WP.weak [(0, .slice A0_ x0.length k0_), (3, .slice A2 (List.replicate (x0.length : Int).toNat (⟨(⟨(0 : Int), (0 : Int)⟩ : D.Word), (⟨(0 : Int), (0 : Int)⟩ : D.Word)⟩ : D.Link)).length k3), (4, .int .i64 0)] ⟨rfl, rfl, rfl, trivial⟩ ?_
    refine WP.iter (fun (s8 : Int × (List D.Link)) F w9 => ∃ A13 k14, St w w9 [Own ty150 [.slice A13 s8.2.length k14] s8.2] ∧ F = [(0, .slice A0_ x0.length k0_), (3, .slice A13 s8.2.length k14), (4, .int .i64 s8.1)]) _ hl19 ⟨A2, k3, ((hS6.bring 0 rfl).taken 1), rfl⟩ ?_
    rintro s8 F w26 _ o24 ⟨A13, k14, hS25, rfl⟩ hb22 ho23
    unfold m_laws_toLinkS_b1 at hb22
    refine WP.seq ?_
    refine WP.seq ?_
    refine WP.region ?_
    refine RW.run ttok 4 rfl ?_
    refine RW.nil ?_
    refine WP.cond (decide (s8.1 < (x0.length : Int))) rfl (fun hc => ?_) (fun hc => ?_)
    · skip
      rw [if_pos hc] at hb22
      refine WP.skip ?_
      refine WP.seq ?_
      refine WP.block ?_
      refine WP.region ?_
      refine RW.run ttok 4 rfl ?_
      obtain ⟨x27, hx28, hb22⟩ := bind_some hb22
      refine RW.idx ttok hS25.ext rfl rfl rfl rfl rfl rfl (by decide) rfl rfl h0_ (idx_some hx28).1 (idx_some hx28).2 rfl rfl (fun p29 es30 ha31 hr32 => ?_)
      have e33 := ty283_open hr32; subst e33
      refine RW.loadN ttok rfl rfl rfl rfl rfl (At.ext hS25.ext ha31) rfl rfl rfl ?_
      obtain ⟨r34, hx35, hb22⟩ := bind_some hb22
      refine RW.call rfl rfl rfl enters187 (laws_toLink_ok (ty283.ext hS25.ext hr32) hx35) (fun v36 w37 hR38 => ?_)
      obtain ⟨rfl, hR39⟩ := hR38
      have hS40 := hS25.join hR39
      have hS41 := hS40.bring 0 rfl
      by_cases hk42 : decide (0 ≤ s8.1 ∧ s8.1.toNat < s8.2.length) = true
      case neg => rw [if_neg hk42] at hb22; cases hb22
      rw [if_pos hk42] at hb22
      have hb43 := of_decide_eq_true hk42
      refine RW.idxOwn ttok hS41 rfl rfl rfl rfl rfl rfl rfl rfl hb43.1 hb43.2 rfl rfl (fun q44 hq45 => ?_)
      have hS46 := ty158_shutS (c := r34) (B := _) hS41
      have hS47 := hS46.bring 1 rfl
      refine RW.storeEl ttok hS47 rfl rfl rfl rfl rfl rfl hb43.2 hq45 rfl rfl (fun w48 hS49 => ?_)
      refine RW.know (u := .slice A13 (s8.2.set s8.1.toNat r34).length k14) 3 rfl (by simp) ?_
      refine RW.know (u := .slice A13 (s8.2.set s8.1.toNat r34).length k14) 14 rfl (by simp) ?_
      refine RW.nil ?_
      refine WP.region ?_
      refine RW.run ttok 3 rfl ?_
      refine RW.nil ?_
      cases hb22
      exact ⟨_, [(0, .slice A0_ x0.length k0_), (3, .slice A13 (s8.2.set s8.1.toNat r34).length k14), (4, .int .i64 (w64 (s8.1 + 1)))], ⟨rfl, rfl, rfl, trivial⟩, rfl, A13, k14, ((hS49.bring 0 rfl).taken 1), rfl⟩
    · skip
      rw [if_neg (not_t hc)] at hb22
      refine WP.exit ?_
      cases hb22
      exact ⟨_, [(3, .slice A13 s8.2.length k14)], ⟨rfl, trivial⟩, A13, k14, ho23, ((hS25.bring 0 rfl).taken 1), rfl⟩

theorem enters141 : Enters Try.prog 141 := ⟨_, _, Try.func141, rfl, by kernel_rfl⟩
def m_laws_toWorker (fuel : Nat) (x0 : D.Worker) : Option (D.Worker) := ((m_laws_toPairS fuel x0.Redexes).bind fun r29 => ((m_laws_toLinkS fuel x0.Links).bind fun r41 => ((m_laws_toInt64S fuel x0.Counts).bind fun r53 => some (⟨x0.Phase, x0.Victim, r29, r41, r53⟩ : D.Worker))))

set_option maxRecDepth 100000 in
theorem laws_toWorker_ok {w : World} {c0_ : List Value} {x0 : D.Worker} (h0_ : ty220.ro w c0_ x0) {fuel : Nat} {r : D.Worker} (hm : m_laws_toWorker fuel x0 = some r) :
    Calls Try.prog 141 ⟨[.agg ⟨c0_⟩]⟩ w (Ret fun v w8 => ∃ A0 k0 A1 k1 A2 k2, v = .agg ⟨[.int .i64 r.Phase, .int .i64 r.Victim, .slice A0 r.Redexes.length k0, .slice A1 r.Links.length k1, .slice A2 r.Counts.length k2]⟩ ∧ St w w8 [Own ty62 [.slice A0 r.Redexes.length k0] r.Redexes, Own ty150 [.slice A1 r.Links.length k1] r.Links, Own ty72 [.slice A2 r.Counts.length k2] r.Counts]) := by
  obtain ⟨A1, k2, A4, k5, A7, k8, e10, h3, h6, h9⟩ := ty220_open h0_; subst e10
  refine Calls.into Try.func141 rfl 23 rfl rfl _ rfl ?_
  unfold m_laws_toWorker at hm
  have hS := St.start w
  refine WP.seq ?_
  refine WP.region ?_
  refine RW.new ttok hS rfl rfl rfl rfl (fun g11 w12 e13 hS14 => ?_)
  refine RW.new ttok hS14 rfl rfl rfl rfl (fun g15 w16 e17 hS18 => ?_)
  refine RW.nil ?_
  refine WP.seq ?_
  refine WP.region ?_
  refine RW.new ttok hS18 rfl rfl rfl rfl (fun g19 w20 e21 hS22 => ?_)
  refine RW.nil ?_
  refine WP.seq ?_
  refine WP.region ?_
  refine RW.run ttok 1 rfl ?_
  refine RW.load1 ttok rfl rfl rfl rfl rfl ((hS22.bring 2 rfl).box) 0 rfl rfl rfl rfl ?_
  refine RW.run ttok 1 rfl ?_
  have hS23 := hS22.bring 0 rfl
  refine RW.store ttok (A := []) hS23 rfl rfl rfl rfl rfl 0 rfl rfl rfl rfl rfl (fun w24 hS25 => ?_)
  refine RW.nil ?_
  refine WP.seq ?_
  refine WP.region ?_
  refine RW.run ttok 1 rfl ?_
  refine RW.load1 ttok rfl rfl rfl rfl rfl ((hS25.bring 2 rfl).box) 1 rfl rfl rfl rfl ?_
  refine RW.run ttok 1 rfl ?_
  have hS26 := hS25.bring 0 rfl
  refine RW.store ttok (A := []) hS26 rfl rfl rfl rfl rfl 1 rfl rfl rfl rfl rfl (fun w27 hS28 => ?_)
  refine RW.nil ?_
  refine WP.seq ?_
  refine WP.region ?_
  refine RW.run ttok 1 rfl ?_
  refine RW.load1 ttok rfl rfl rfl rfl rfl ((hS28.bring 2 rfl).box) 2 rfl rfl rfl rfl ?_
  obtain ⟨r29, hx30, hm⟩ := bind_some hm
  refine RW.call rfl rfl rfl enters140 (laws_toPairS_ok (ty52.ext hS28.ext h3) hx30) (fun v31 w32 hR33 => ?_)
  obtain ⟨A34, k35, rfl, hR36⟩ := hR33
  have hS37 := hS28.join hR36
  refine RW.run ttok 1 rfl ?_
  have hS38 := hS37.bring 1 rfl
  refine RW.store ttok (A := []) hS38 rfl rfl rfl rfl rfl 2 rfl rfl rfl rfl rfl (fun w39 hS40 => ?_)
  refine RW.nil ?_
  refine WP.seq ?_
  refine WP.region ?_
  refine RW.run ttok 1 rfl ?_
  refine RW.load1 ttok rfl rfl rfl rfl rfl ((hS40.bring 3 rfl).box) 3 rfl rfl rfl rfl ?_
  obtain ⟨r41, hx42, hm⟩ := bind_some hm
  refine RW.call rfl rfl rfl enters176 (laws_toLinkS_ok (ty218.ext hS40.ext h6) hx42) (fun v43 w44 hR45 => ?_)
  obtain ⟨A46, k47, rfl, hR48⟩ := hR45
  have hS49 := hS40.join hR48
  refine RW.run ttok 1 rfl ?_
  have hS50 := hS49.bring 1 rfl
  refine RW.store ttok (A := []) hS50 rfl rfl rfl rfl rfl 3 rfl rfl rfl rfl rfl (fun w51 hS52 => ?_)
  refine RW.nil ?_
  refine WP.seq ?_
  refine WP.region ?_
  refine RW.run ttok 1 rfl ?_
  refine RW.load1 ttok rfl rfl rfl rfl rfl ((hS52.bring 4 rfl).box) 4 rfl rfl rfl rfl ?_
  obtain ⟨r53, hx54, hm⟩ := bind_some hm
  refine RW.call rfl rfl rfl enters89 (laws_toInt64S_ok (ty72.ext hS52.ext h9) hx54) (fun v55 w56 hR57 => ?_)
  obtain ⟨A58, k59, rfl, hR60⟩ := hR57
  have hS61 := hS52.join hR60
  refine RW.run ttok 1 rfl ?_
  have hS62 := hS61.bring 1 rfl
  refine RW.store ttok (A := []) hS62 rfl rfl rfl rfl rfl 4 rfl rfl rfl rfl rfl (fun w63 hS64 => ?_)
  refine RW.nil ?_
  refine WP.seq ?_
  refine WP.region ?_
  refine RW.loadN ttok rfl rfl rfl rfl rfl ((hS64.bring 0 rfl).box) rfl rfl rfl ?_
  have hS65 := hS64.bring 4 rfl
  refine RW.store ttok (A := []) hS65 rfl rfl rfl rfl rfl 0 rfl rfl rfl rfl rfl (fun w66 hS67 => ?_)
  refine RW.nil ?_
  refine WP.ret ?_
  cases hm
  exact ⟨_, .cons (ResIs.agg ttok rfl rfl rfl ((hS67.bring 0 rfl).box) rfl) .nil, A34, k35, A46, k47, A58, k59, rfl, ((((hS67.bring 2 rfl).bring 3 rfl).bring 4 rfl).taken 3)⟩

theorem enters72 : Enters Try.prog 72 := ⟨_, _, Try.func72, rfl, by kernel_rfl⟩
def m_laws_toWorkerS_j1 (fuel : Nat) (t9 : (List D.Worker)) : Option (List D.Worker) := some t9
def m_laws_toWorkerS_b1 (fuel : Nat) (x0 : (List D.Worker)) (s8 : Int × (List D.Worker)) : Option (Rd (Int × (List D.Worker)) ((List D.Worker)) ((List D.Worker))) := (if (decide (s8.1 < (x0.length : Int))) = true then ((idx x0 s8.1).bind fun x27 => ((m_laws_toWorker fuel x27).bind fun r43 => (if decide (0 ≤ s8.1 ∧ s8.1.toNat < s8.2.length) = true then some (.next (w64 (s8.1 + 1), (s8.2.set s8.1.toNat r43))) else none))) else some (.brk s8.2))
def m_laws_toWorkerS (fuel : Nat) (x0 : (List D.Worker)) : Option ((List D.Worker)) := (if decide (0 ≤ (x0.length : Int) ∧ (x0.length : Int) ≤ 4294967296) = true then ((iter (m_laws_toWorkerS_b1 fuel x0) fuel (0, (List.replicate (x0.length : Int).toNat (⟨(0 : Int), (0 : Int), ([] : (List D.Pair)), ([] : (List D.Link)), ([] : (List Int))⟩ : D.Worker)))).bind fun o => aft o (m_laws_toWorkerS_j1 fuel)) else none)

set_option maxRecDepth 100000 in
theorem laws_toWorkerS_ok {w : World} {A0_ : Option Addr} {k0_ : Nat} {x0 : (List D.Worker)} (h0_ : ty55.ro w [.slice A0_ x0.length k0_] x0) {fuel : Nat} {r : (List D.Worker)} (hm : m_laws_toWorkerS fuel x0 = some r) :
    Calls Try.prog 72 ⟨[.slice A0_ x0.length k0_]⟩ w (Ret fun v w8 => ∃ A0 k0, v = .slice A0 r.length k0 ∧ St w w8 [Own ty65 [.slice A0 r.length k0] r]) := by
  refine Calls.into Try.func72 rfl 23 rfl rfl _ rfl ?_
  unfold m_laws_toWorkerS at hm
  have hS := St.start w
  refine WP.seq ?_
  refine WP.region ?_
  refine RW.run ttok 1 rfl ?_
  refine RW.nil ?_
  refine WP.seq ?_
  refine WP.region ?_
  refine RW.run ttok 2 rfl ?_
  by_cases hk1 : decide (0 ≤ (x0.length : Int) ∧ (x0.length : Int) ≤ 4294967296) = true
  case neg => rw [if_neg hk1] at hm; cases hm
  rw [if_pos hk1] at hm
  have hz7 := of_decide_eq_true hk1
  refine RW.make (U := ty152) ttok (⟨(0 : Int), (0 : Int), ([] : (List D.Pair)), ([] : (List D.Link)), ([] : (List Int))⟩ : D.Worker) hS rfl rfl rfl rfl rfl rfl rfl rfl hz7.1 (by have := hz7.2; show _ * (88 : Int) ≤ _; omega) (by have := hz7.2; simp only [maxLen]; omega) (fun _ => (ty152_ownI (c := (⟨(0 : Int), (0 : Int), ([] : (List D.Pair)), ([] : (List D.Link)), ([] : (List Int))⟩ : D.Worker)) ⟨[], [], rfl, (slNilOwn ty155 155 _), ⟨[], [], rfl, (slNilOwn ty158 158 _), ⟨[], [], rfl, (slNilOwn tInt 2 _), rfl⟩⟩⟩)) rfl rfl (fun A2 k3 w4 e5 hS6 => ?_)
  refine RW.run ttok 1 rfl ?_
  refine RW.nil ?_
  refine WP.seq ?_
  refine WP.seq ?_
  refine WP.region ?_
  refine RW.run ttok 1 rfl ?_
  refine RW.nil ?_
  obtain ⟨o18, hl19, hm⟩ := bind_some hm
  refine WP.cut (fun (t9 : (List D.Worker)) F w9 => ∃ A15 k16, o18 = .inl t9 ∧ St w w9 [Own ty65 [.slice A15 t9.length k16] t9] ∧ F = [(3, .slice A15 t9.length k16)]) ?_ ?_
  · skip
    rintro t9 F w17 ⟨A15, k16, ho21, hS20, rfl⟩
    subst ho21
    rw [aft_inl] at hm
    unfold m_laws_toWorkerS_j1 at hm
    refine WP.seq ?_
    refine WP.region ?_
    refine RW.run ttok 2 rfl ?_
    refine RW.nil ?_
    refine WP.ret ?_
    cases hm
    exact ⟨_, .cons (.tmp rfl) .nil, A15, k16, rfl, ((hS20.bring 0 rfl).taken 1)⟩
  · skip
    refine WP.block ?_
    refine WP.weak [(0, .slice A0_ x0.length k0_), (3, .slice A2 (List.replicate (x0.length : Int).toNat (⟨(0 : Int), (0 : Int), ([] : (List D.Pair)), ([] : (List D.Link)), ([] : (List Int))⟩ : D.Worker)).length k3), (4, .int .i64 0)] ⟨rfl, rfl, rfl, trivial⟩ ?_
    refine WP.iter (fun (s8 : Int × (List D.Worker)) F w9 => ∃ A13 k14, St w w9 [Own ty65 [.slice A13 s8.2.length k14] s8.2] ∧ F = [(0, .slice A0_ x0.length k0_), (3, .slice A13 s8.2.length k14), (4, .int .i64 s8.1)]) _ hl19 ⟨A2, k3, ((hS6.bring 0 rfl).taken 1), rfl⟩ ?_
    rintro s8 F w26 _ o24 ⟨A13, k14, hS25, rfl⟩ hb22 ho23
    unfold m_laws_toWorkerS_b1 at hb22
    refine WP.seq ?_
    refine WP.seq ?_
    refine WP.region ?_
    refine RW.run ttok 4 rfl ?_
    refine RW.nil ?_
    refine WP.cond (decide (s8.1 < (x0.length : Int))) rfl (fun hc => ?_) (fun hc => ?_)
    · skip
      rw [if_pos hc] at hb22
      refine WP.skip ?_
      refine WP.seq ?_
      refine WP.block ?_
      refine WP.region ?_
      refine RW.run ttok 4 rfl ?_
      obtain ⟨x27, hx28, hb22⟩ := bind_some hb22
      refine RW.idx ttok hS25.ext rfl rfl rfl rfl rfl rfl (by decide) rfl rfl h0_ (idx_some hx28).1 (idx_some hx28).2 rfl rfl (fun p29 es30 ha31 hr32 => ?_)
      obtain ⟨A33, k34, A36, k37, A39, k40, e42, h35, h38, h41⟩ := ty220_open hr32; subst e42
      refine RW.loadN ttok rfl rfl rfl rfl rfl (At.ext hS25.ext ha31) rfl rfl rfl ?_
      obtain ⟨r43, hx44, hb22⟩ := bind_some hb22
      refine RW.call rfl rfl rfl enters141 (laws_toWorker_ok (ty220.ext hS25.ext hr32) hx44) (fun v45 w46 hR47 => ?_)
      obtain ⟨A48, k49, A50, k51, A52, k53, rfl, hR54⟩ := hR47
      have hS55 := hS25.join hR54
      have hS56 := hS55.bring 3 rfl
      by_cases hk57 : decide (0 ≤ s8.1 ∧ s8.1.toNat < s8.2.length) = true
      case neg => rw [if_neg hk57] at hb22; cases hb22
      rw [if_pos hk57] at hb22
      have hb58 := of_decide_eq_true hk57
      refine RW.idxOwn ttok hS56 rfl rfl rfl rfl rfl rfl rfl rfl hb58.1 hb58.2 rfl rfl (fun q59 hq60 => ?_)
      have hS61 := hS56.bring 3 rfl
      have hS62 := hS61.bring 3 rfl
      have hS63 := hS62.bring 3 rfl
      have hS64 := ty152_shutS (c := r43) (B := _) hS63
      have hS65 := hS64.bring 1 rfl
      refine RW.storeEl ttok hS65 rfl rfl rfl rfl rfl rfl hb58.2 hq60 rfl rfl (fun w66 hS67 => ?_)
      refine RW.know (u := .slice A13 (s8.2.set s8.1.toNat r43).length k14) 3 rfl (by simp) ?_
      refine RW.know (u := .slice A13 (s8.2.set s8.1.toNat r43).length k14) 14 rfl (by simp) ?_
      refine RW.nil ?_
      refine WP.region ?_
      refine RW.run ttok 3 rfl ?_
      refine RW.nil ?_
      cases hb22
      exact ⟨_, [(0, .slice A0_ x0.length k0_), (3, .slice A13 (s8.2.set s8.1.toNat r43).length k14), (4, .int .i64 (w64 (s8.1 + 1)))], ⟨rfl, rfl, rfl, trivial⟩, rfl, A13, k14, ((hS67.bring 0 rfl).taken 1), rfl⟩
    · skip
      rw [if_neg (not_t hc)] at hb22
      refine WP.exit ?_
      cases hb22
      exact ⟨_, [(3, .slice A13 s8.2.length k14)], ⟨rfl, trivial⟩, A13, k14, ho23, ((hS25.bring 0 rfl).taken 1), rfl⟩

theorem enters23 : Enters Try.prog 23 := ⟨_, _, Try.func23, rfl, by kernel_rfl⟩
def m_laws_toPool (fuel : Nat) (x0 : D.Pool) : Option (D.Pool) := ((m_laws_toMemory fuel x0.Memory).bind fun r23 => ((m_laws_toWorkerS fuel x0.Workers).bind fun r37 => some (⟨(⟨r23.Cells, r23.Free, (⟨r23.Root.Tag, r23.Root.At⟩ : D.Word), r23.Redexes⟩ : D.Memory), r37, x0.Active⟩ : D.Pool)))

set_option maxRecDepth 100000 in
theorem laws_toPool_ok {w : World} {c0_ : List Value} {x0 : D.Pool} (h0_ : ty57.ro w c0_ x0) {fuel : Nat} {r : D.Pool} (hm : m_laws_toPool fuel x0 = some r) :
    Calls Try.prog 23 ⟨[.agg ⟨c0_⟩]⟩ w (Ret fun v w8 => ∃ A0 k0 A1 k1 A2 k2, v = .agg ⟨[.slice A0 r.Memory.Cells.length k0, .int .i64 r.Memory.Free, .int .i64 r.Memory.Root.Tag, .int .i64 r.Memory.Root.At, .slice A1 r.Memory.Redexes.length k1, .slice A2 r.Workers.length k2, .int .i64 r.Active]⟩ ∧ St w w8 [Own ty60 [.slice A0 r.Memory.Cells.length k0] r.Memory.Cells, Own ty62 [.slice A1 r.Memory.Redexes.length k1] r.Memory.Redexes, Own ty65 [.slice A2 r.Workers.length k2] r.Workers]) := by
  obtain ⟨A1, k2, A4, k5, A7, k8, e10, h3, h6, h9⟩ := ty57_open h0_; subst e10
  refine Calls.into Try.func23 rfl 16 rfl rfl _ rfl ?_
  unfold m_laws_toPool at hm
  have hS := St.start w
  refine WP.seq ?_
  refine WP.region ?_
  refine RW.new ttok hS rfl rfl rfl rfl (fun g11 w12 e13 hS14 => ?_)
  refine RW.new ttok hS14 rfl rfl rfl rfl (fun g15 w16 e17 hS18 => ?_)
  refine RW.nil ?_
  refine WP.seq ?_
  refine WP.region ?_
  refine RW.new ttok hS18 rfl rfl rfl rfl (fun g19 w20 e21 hS22 => ?_)
  refine RW.nil ?_
  refine WP.seq ?_
  refine WP.region ?_
  refine RW.run ttok 1 rfl ?_
  refine RW.loadN ttok rfl rfl rfl rfl rfl (At.sub ((hS22.bring 2 rfl).box) 0 5) rfl rfl rfl ?_
  obtain ⟨r23, hx24, hm⟩ := bind_some hm
  refine RW.call rfl rfl rfl enters71 (laws_toMemory_ok (ty54_shut x0.Memory (ty49.ext hS22.ext h3) (ty52.ext hS22.ext h6)) hx24) (fun v25 w26 hR27 => ?_)
  obtain ⟨A28, k29, A30, k31, rfl, hR32⟩ := hR27
  have hS33 := hS22.join hR32
  refine RW.run ttok 1 rfl ?_
  have hS34 := hS33.bring 2 rfl
  refine RW.store ttok (A := []) hS34 rfl rfl rfl rfl rfl 0 rfl rfl rfl rfl rfl (fun w35 hS36 => ?_)
  refine RW.nil ?_
  refine WP.seq ?_
  refine WP.region ?_
  refine RW.run ttok 1 rfl ?_
  refine RW.load1 ttok rfl rfl rfl rfl rfl ((hS36.bring 4 rfl).box) 5 rfl rfl rfl rfl ?_
  obtain ⟨r37, hx38, hm⟩ := bind_some hm
  refine RW.call rfl rfl rfl enters72 (laws_toWorkerS_ok (ty55.ext hS36.ext h9) hx38) (fun v39 w40 hR41 => ?_)
  obtain ⟨A42, k43, rfl, hR44⟩ := hR41
  have hS45 := hS36.join hR44
  refine RW.run ttok 1 rfl ?_
  have hS46 := hS45.bring 1 rfl
  refine RW.store ttok (A := []) hS46 rfl rfl rfl rfl rfl 5 rfl rfl rfl rfl rfl (fun w47 hS48 => ?_)
  refine RW.nil ?_
  refine WP.seq ?_
  refine WP.region ?_
  refine RW.run ttok 1 rfl ?_
  refine RW.load1 ttok rfl rfl rfl rfl rfl ((hS48.bring 5 rfl).box) 6 rfl rfl rfl rfl ?_
  refine RW.run ttok 1 rfl ?_
  have hS49 := hS48.bring 0 rfl
  refine RW.store ttok (A := []) hS49 rfl rfl rfl rfl rfl 6 rfl rfl rfl rfl rfl (fun w50 hS51 => ?_)
  refine RW.nil ?_
  refine WP.seq ?_
  refine WP.region ?_
  refine RW.loadN ttok rfl rfl rfl rfl rfl ((hS51.bring 0 rfl).box) rfl rfl rfl ?_
  have hS52 := hS51.bring 4 rfl
  refine RW.store ttok (A := []) hS52 rfl rfl rfl rfl rfl 0 rfl rfl rfl rfl rfl (fun w53 hS54 => ?_)
  refine RW.nil ?_
  refine WP.ret ?_
  cases hm
  exact ⟨_, .cons (ResIs.agg ttok rfl rfl rfl ((hS54.bring 0 rfl).box) rfl) .nil, A28, k29, A30, k31, A42, k43, rfl, ((((hS54.bring 2 rfl).bring 4 rfl).bring 4 rfl).taken 3)⟩

theorem enters86 : Enters Try.prog 86 := ⟨_, _, Try.func86, rfl, by kernel_rfl⟩
def m_spec_l00Same_j1 (fuel : Nat) (t2 : Unit) : Option Bool := some true
def m_spec_l00Same_b1 (fuel : Nat) (x0 : (List Int)) (x1 : (List Int)) (s1 : Int) : Option (Rd (Int) (Unit) (Bool)) := (if (decide (s1 < (x0.length : Int))) = true then ((idx x0 s1).bind fun x19 => ((idx x1 s1).bind fun x25 => (if (x19 != x25) = true then some (.ret false) else some (.next (w64 (s1 + 1)))))) else some (.brk ()))
def m_spec_l00Same (fuel : Nat) (x0 : (List Int)) (x1 : (List Int)) : Option (Bool) := (if ((x0.length : Int) != (x1.length : Int)) = true then some false else ((iter (m_spec_l00Same_b1 fuel x0 x1) fuel 0).bind fun o => aft o (m_spec_l00Same_j1 fuel)))

set_option maxRecDepth 100000 in
theorem spec_l00Same_ok {w : World} {A0_ : Option Addr} {k0_ : Nat} {x0 : (List Int)} {A1_ : Option Addr} {k1_ : Nat} {x1 : (List Int)} (h0_ : ty72.ro w [.slice A0_ x0.length k0_] x0) (h1_ : ty72.ro w [.slice A1_ x1.length k1_] x1) {fuel : Nat} {r : Bool} (hm : m_spec_l00Same fuel x0 x1 = some r) :
    Calls Try.prog 86 ⟨[.slice A0_ x0.length k0_, .slice A1_ x1.length k1_]⟩ w (Ret fun v w8 => v = .bool r ∧ St w w8 []) := by
  refine Calls.into Try.func86 rfl 26 rfl rfl _ rfl ?_
  unfold m_spec_l00Same at hm
  have hS := St.start w
  refine WP.seq ?_
  refine WP.region ?_
  refine RW.run ttok 1 rfl ?_
  refine RW.nil ?_
  refine WP.seq ?_
  refine WP.seq ?_
  refine WP.region ?_
  refine RW.run ttok 5 rfl ?_
  refine RW.nil ?_
  refine WP.cond ((x0.length : Int) != (x1.length : Int)) rfl (fun hc => ?_) (fun hc => ?_)
  · skip
    rw [if_pos hc] at hm
    refine WP.seq ?_
    refine WP.region ?_
    refine RW.run ttok 1 rfl ?_
    refine RW.nil ?_
    refine WP.ret ?_
    cases hm
    exact ⟨_, .cons (.tmp rfl) .nil, rfl, (hS.taken 0)⟩
  · skip
    rw [if_neg (not_t hc)] at hm
    refine WP.skip ?_
    refine WP.seq ?_
    refine WP.seq ?_
    refine WP.region ?_
    refine RW.run ttok 1 rfl ?_
    refine RW.nil ?_
    obtain ⟨o8, hl9, hm⟩ := bind_some hm
    refine WP.cut (fun (t2 : Unit) F w9 => o8 = .inl t2 ∧ Ext w w9 ∧ St w w9 [] ∧ F = []) ?_ ?_
    · skip
      rintro t2 F w7 ⟨ho11, hE6, hS10, rfl⟩
      subst ho11
      rw [aft_inl] at hm
      unfold m_spec_l00Same_j1 at hm
      refine WP.seq ?_
      refine WP.region ?_
      refine RW.run ttok 1 rfl ?_
      refine RW.nil ?_
      refine WP.ret ?_
      cases hm
      exact ⟨_, .cons (.tmp rfl) .nil, rfl, (hS10.taken 0)⟩
    · skip
      refine WP.block ?_
      refine WP.weak [(0, .slice A0_ x0.length k0_), (1, .slice A1_ x1.length k1_), (5, .int .i64 0)] ⟨rfl, rfl, rfl, trivial⟩ ?_
      refine WP.iter (fun (s1 : Int) F w9 => Ext w w9 ∧ St w w9 [] ∧ F = [(0, .slice A0_ x0.length k0_), (1, .slice A1_ x1.length k1_), (5, .int .i64 s1)]) _ hl9 ⟨(Ext.refl _), (hS.taken 0), rfl⟩ ?_
      rintro s1 F w16 _ o14 ⟨hE5, hS15, rfl⟩ hb12 ho13
      unfold m_spec_l00Same_b1 at hb12
      refine WP.seq ?_
      refine WP.seq ?_
      refine WP.region ?_
      refine RW.run ttok 4 rfl ?_
      refine RW.nil ?_
      refine WP.cond (decide (s1 < (x0.length : Int))) rfl (fun hc => ?_) (fun hc => ?_)
      · skip
        rw [if_pos hc] at hb12
        refine WP.skip ?_
        refine WP.seq ?_
        refine WP.block ?_
        refine WP.seq ?_
        refine WP.drawnM 0 mixed 9 (by kernel_rfl) (by kernel_rfl) [([], 511), ([], 511), ([0, 1], 508), ([2], 507), ([], 511), ([], 511), ([4, 5], 463), ([6], 447), ([3, 7], 375)] (by kernel_rfl) (fun hsk17 => ?_)
        have hS18 := hS15.step (Ext.draw _)
        refine DM.run (fuel := 5) ttok hsk17 [0, 1, 4, 5] 51 (by kernel_rfl) (by kernel_rfl) rfl ?_
        obtain ⟨x19, hx20, hb12⟩ := bind_some hb12
        refine DM.idx ttok hS15.ext hsk17 2 55 (by kernel_rfl) (by kernel_rfl) (by kernel_rfl) (by kernel_rfl) rfl (by kernel_rfl) rfl rfl rfl rfl rfl rfl (by decide) rfl rfl h0_ (idx_some hx20).1 (idx_some hx20).2 rfl rfl (fun p21 es22 ha23 hr24 => ?_)
        cases hr24
        refine DM.load1 ttok hsk17 3 63 (by kernel_rfl) (by kernel_rfl) (by kernel_rfl) (by kernel_rfl) rfl (by kernel_rfl) rfl rfl rfl rfl rfl (At.ext hS15.ext ha23) 0 rfl rfl rfl rfl ?_
        obtain ⟨x25, hx26, hb12⟩ := bind_some hb12
        refine DM.idx ttok hS15.ext hsk17 6 127 (by kernel_rfl) (by kernel_rfl) (by kernel_rfl) (by kernel_rfl) rfl (by kernel_rfl) rfl rfl rfl rfl rfl rfl (by decide) rfl rfl h1_ (idx_some hx26).1 (idx_some hx26).2 rfl rfl (fun p27 es28 ha29 hr30 => ?_)
        cases hr30
        refine DM.load1 ttok hsk17 7 255 (by kernel_rfl) (by kernel_rfl) (by kernel_rfl) (by kernel_rfl) rfl (by kernel_rfl) rfl rfl rfl rfl rfl (At.ext hS15.ext ha29) 0 rfl rfl rfl rfl ?_
        refine DM.run (fuel := 0) ttok hsk17 [8] 511 (by kernel_rfl) (by kernel_rfl) rfl ?_
        refine DM.weak [(0, .slice A0_ x0.length k0_), (1, .slice A1_ x1.length k1_), (5, .int .i64 s1), (25, .bool (x19 != x25))] ⟨rfl, rfl, rfl, rfl, trivial⟩ ?_
        refine DM.done hsk17 (by kernel_rfl) ?_
        refine WP.cond (x19 != x25) rfl (fun hc => ?_) (fun hc => ?_)
        · skip
          rw [if_pos hc] at hb12
          refine WP.seq ?_
          refine WP.region ?_
          refine RW.run ttok 1 rfl ?_
          refine RW.nil ?_
          refine WP.ret ?_
          cases hb12
          cases ho13
          have hm : some _ = some _ := hm
          cases hm
          exact ⟨_, .cons (.tmp rfl) .nil, rfl, (hS18.taken 0)⟩
        · skip
          rw [if_neg (not_t hc)] at hb12
          refine WP.skip ?_
          refine WP.region ?_
          refine RW.run ttok 3 rfl ?_
          refine RW.nil ?_
          cases hb12
          exact ⟨_, [(0, .slice A0_ x0.length k0_), (1, .slice A1_ x1.length k1_), (5, .int .i64 (w64 (s1 + 1)))], ⟨rfl, rfl, rfl, trivial⟩, rfl, (hE5.trans (Ext.draw _)), (hS18.taken 0), rfl⟩
      · skip
        rw [if_neg (not_t hc)] at hb12
        refine WP.exit ?_
        cases hb12
        exact ⟨_, [], trivial, ho13, hE5, (hS15.taken 0), rfl⟩

theorem enters173 : Enters Try.prog 173 := ⟨_, _, Try.func173, rfl, by kernel_rfl⟩
def m_spec_l21SameCell_j2 (fuel : Nat) (t21 : Unit) : Option Bool := some true
def m_spec_l21SameCell_b1 (fuel : Nat) (x0 : D.Cell) (x1 : D.Cell) (s20 : Int) : Option (Rd (Int) (Unit) (Bool)) := (if (decide (s20 < (x0.Words.length : Int))) = true then ((idx x0.Words s20).bind fun x38 => ((idx x1.Words s20).bind fun x45 => (if (!(((x38.Tag : Int) == x45.Tag) && (((x38.At : Int) == x45.At) && true))) = true then some (.ret false) else some (.next (w64 (s20 + 1)))))) else some (.brk ()))
def m_spec_l21SameCell_j1 (fuel : Nat) (x0 : D.Cell) (x1 : D.Cell) (t15 : Bool) : Option Bool := (if t15 = true then some false else ((iter (m_spec_l21SameCell_b1 fuel x0 x1) fuel 0).bind fun o => aft o (m_spec_l21SameCell_j2 fuel)))
def m_spec_l21SameCell (fuel : Nat) (x0 : D.Cell) (x1 : D.Cell) : Option (Bool) := (if (x0.Kind != x1.Kind) = true then m_spec_l21SameCell_j1 fuel x0 x1 true else (if (x0.Level != x1.Level) = true then m_spec_l21SameCell_j1 fuel x0 x1 true else (if (x0.Value != x1.Value) = true then m_spec_l21SameCell_j1 fuel x0 x1 true else ((m_spec_l00Same fuel x0.Data x1.Data).bind fun r57 => (if (!r57) = true then m_spec_l21SameCell_j1 fuel x0 x1 true else m_spec_l21SameCell_j1 fuel x0 x1 ((x0.Words.length : Int) != (x1.Words.length : Int)))))))

set_option maxRecDepth 100000 in
theorem spec_l21SameCell_ok {w : World} {p0_ : Addr} {c0_ : List Value} {x0 : D.Cell} {p1_ : Addr} {c1_ : List Value} {x1 : D.Cell} (h0_ : ty232.ro w c0_ x0) (g0_ : At w p0_ c0_) (h1_ : ty232.ro w c1_ x1) (g1_ : At w p1_ c1_) {fuel : Nat} {r : Bool} (hm : m_spec_l21SameCell fuel x0 x1 = some r) :
    Calls Try.prog 173 ⟨[.pointer (some p0_), .pointer (some p1_)]⟩ w (Ret fun v w8 => v = .bool r ∧ St w w8 []) := by
  obtain ⟨A1, k2, A4, k5, e7, h3, h6⟩ := ty232_open h0_; subst e7
  obtain ⟨A8, k9, A11, k12, e14, h10, h13⟩ := ty232_open h1_; subst e14
  refine Calls.into Try.func173 rfl 86 rfl rfl _ rfl ?_
  unfold m_spec_l21SameCell at hm
  have hS := St.start w
  refine WP.seq ?_
  refine WP.region ?_
  refine RW.run ttok 1 rfl ?_
  refine RW.nil ?_
  refine WP.seq ?_
  refine WP.seq ?_
  refine WP.cut (fun (t15 : Bool) F w9 => m_spec_l21SameCell_j1 fuel x0 x1 t15 = some r ∧ Ext w w9 ∧ St w w9 [] ∧ F = [(0, .pointer (some p0_)), (1, .pointer (some p1_)), (61, .bool t15)]) ?_ ?_
  · skip
    rintro t15 F w18 ⟨hm, hE16, hS17, rfl⟩
    unfold m_spec_l21SameCell_j1 at hm
    refine WP.cond t15 rfl (fun hc => ?_) (fun hc => ?_)
    · skip
      rw [if_pos hc] at hm
      refine WP.seq ?_
      refine WP.region ?_
      refine RW.run ttok 1 rfl ?_
      refine RW.nil ?_
      refine WP.ret ?_
      cases hm
      exact ⟨_, .cons (.tmp rfl) .nil, rfl, (hS17.taken 0)⟩
    · skip
      rw [if_neg (not_t hc)] at hm
      refine WP.skip ?_
      refine WP.seq ?_
      refine WP.seq ?_
      refine WP.region ?_
      refine RW.run ttok 1 rfl ?_
      refine RW.nil ?_
      obtain ⟨o27, hl28, hm⟩ := bind_some hm
      refine WP.cut (fun (t21 : Unit) F w9 => o27 = .inl t21 ∧ Ext w18 w9 ∧ St w w9 [] ∧ F = []) ?_ ?_
      · skip
        rintro t21 F w26 ⟨ho30, hE25, hS29, rfl⟩
        subst ho30
        rw [aft_inl] at hm
        unfold m_spec_l21SameCell_j2 at hm
        refine WP.seq ?_
        refine WP.region ?_
        refine RW.run ttok 1 rfl ?_
        refine RW.nil ?_
        refine WP.ret ?_
        cases hm
        exact ⟨_, .cons (.tmp rfl) .nil, rfl, (hS29.taken 0)⟩
      · skip
        refine WP.block ?_
        refine WP.weak [(0, .pointer (some p0_)), (1, .pointer (some p1_)), (5, .int .i64 0)] ⟨rfl, rfl, rfl, trivial⟩ ?_
        refine WP.iter (fun (s20 : Int) F w9 => Ext w18 w9 ∧ St w w9 [] ∧ F = [(0, .pointer (some p0_)), (1, .pointer (some p1_)), (5, .int .i64 s20)]) _ hl28 ⟨(Ext.refl _), (hS17.taken 0), rfl⟩ ?_
        rintro s20 F w35 _ o33 ⟨hE24, hS34, rfl⟩ hb31 ho32
        unfold m_spec_l21SameCell_b1 at hb31
        refine WP.seq ?_
        refine WP.seq ?_
        refine WP.region ?_
        refine RW.run ttok 4 rfl ?_
        refine RW.load1 ttok rfl rfl rfl rfl rfl (At.ext hS34.ext g0_) 4 rfl rfl rfl rfl ?_
        refine RW.run ttok 2 rfl ?_
        refine RW.nil ?_
        refine WP.cond (decide (s20 < (x0.Words.length : Int))) rfl (fun hc => ?_) (fun hc => ?_)
        · skip
          rw [if_pos hc] at hb31
          refine WP.skip ?_
          refine WP.seq ?_
          refine WP.block ?_
          refine WP.seq ?_
          refine WP.drawnM 0 mixed 15 (by kernel_rfl) (by kernel_rfl) [([], 32767), ([0], 32766), ([1], 32765), ([2], 32763), ([], 32767), ([3, 4], 32743), ([5], 32735), ([], 32767), ([7], 32639), ([8], 32511), ([9], 32255), ([], 32767), ([10, 11], 29695), ([12], 28671), ([6, 13], 24511)] (by kernel_rfl) (fun hsk36 => ?_)
          have hS37 := hS34.step (Ext.draw _)
          refine DM.run (fuel := 7) ttok hsk36 [0, 1, 2, 4, 7, 8, 9, 11] 2967 (by kernel_rfl) (by kernel_rfl) rfl ?_
          refine DM.weak [(0, .pointer (some p0_)), (1, .pointer (some p1_)), (5, .int .i64 s20), (73, .pointer (some (p0_.add 4))), (75, .int .i64 s20), (80, .pointer (some (p1_.add 4))), (82, .int .i64 s20)] ⟨rfl, rfl, rfl, rfl, rfl, rfl, rfl, trivial⟩ ?_
          refine DM.load1 ttok hsk36 3 2975 (by kernel_rfl) (by kernel_rfl) (by kernel_rfl) (by kernel_rfl) rfl (by kernel_rfl) rfl rfl rfl rfl rfl (At.ext hS34.ext g0_) 4 rfl rfl rfl rfl ?_
          obtain ⟨x38, hx39, hb31⟩ := bind_some hb31
          refine DM.idx ttok hS34.ext hsk36 5 3007 (by kernel_rfl) (by kernel_rfl) (by kernel_rfl) (by kernel_rfl) rfl (by kernel_rfl) rfl rfl rfl rfl rfl rfl (by decide) rfl rfl h6 (idx_some hx39).1 (idx_some hx39).2 rfl rfl (fun p40 es41 ha42 hr43 => ?_)
          have e44 := ty61_open hr43; subst e44
          refine DM.loadN ttok hsk36 6 3071 (by kernel_rfl) (by kernel_rfl) (by kernel_rfl) (by kernel_rfl) rfl (by kernel_rfl) rfl rfl rfl rfl rfl (At.ext hS34.ext ha42) rfl rfl rfl ?_
          refine DM.load1 ttok hsk36 10 4095 (by kernel_rfl) (by kernel_rfl) (by kernel_rfl) (by kernel_rfl) rfl (by kernel_rfl) rfl rfl rfl rfl rfl (At.ext hS34.ext g1_) 4 rfl rfl rfl rfl ?_
          obtain ⟨x45, hx46, hb31⟩ := bind_some hb31
          refine DM.idx ttok hS34.ext hsk36 12 8191 (by kernel_rfl) (by kernel_rfl) (by kernel_rfl) (by kernel_rfl) rfl (by kernel_rfl) rfl rfl rfl rfl rfl rfl (by decide) rfl rfl h13 (idx_some hx46).1 (idx_some hx46).2 rfl rfl (fun p47 es48 ha49 hr50 => ?_)
          have e51 := ty61_open hr50; subst e51
          refine DM.loadN ttok hsk36 13 16383 (by kernel_rfl) (by kernel_rfl) (by kernel_rfl) (by kernel_rfl) rfl (by kernel_rfl) rfl rfl rfl rfl rfl (At.ext hS34.ext ha49) rfl rfl rfl ?_
          refine DM.run (fuel := 0) ttok hsk36 [14] 32767 (by kernel_rfl) (by kernel_rfl) rfl ?_
          refine DM.weak [(0, .pointer (some p0_)), (1, .pointer (some p1_)), (5, .int .i64 s20), (85, .bool (!(((x38.Tag : Int) == x45.Tag) && (((x38.At : Int) == x45.At) && true))))] ⟨rfl, rfl, rfl, rfl, trivial⟩ ?_
          refine DM.done hsk36 (by kernel_rfl) ?_
          refine WP.cond (!(((x38.Tag : Int) == x45.Tag) && (((x38.At : Int) == x45.At) && true))) rfl (fun hc => ?_) (fun hc => ?_)
          · skip
            rw [if_pos hc] at hb31
            refine WP.seq ?_
            refine WP.region ?_
            refine RW.run ttok 1 rfl ?_
            refine RW.nil ?_
            refine WP.ret ?_
            cases hb31
            cases ho32
            have hm : some _ = some _ := hm
            cases hm
            exact ⟨_, .cons (.tmp rfl) .nil, rfl, (hS37.taken 0)⟩
          · skip
            rw [if_neg (not_t hc)] at hb31
            refine WP.skip ?_
            refine WP.region ?_
            refine RW.run ttok 3 rfl ?_
            refine RW.nil ?_
            cases hb31
            exact ⟨_, [(0, .pointer (some p0_)), (1, .pointer (some p1_)), (5, .int .i64 (w64 (s20 + 1)))], ⟨rfl, rfl, rfl, trivial⟩, rfl, (hE24.trans (Ext.draw _)), (hS37.taken 0), rfl⟩
        · skip
          rw [if_neg (not_t hc)] at hb31
          refine WP.exit ?_
          cases hb31
          exact ⟨_, [], trivial, ho32, hE24, (hS34.taken 0), rfl⟩
  · skip
    refine WP.drawnM 0 mixed 56 (by kernel_rfl) (by kernel_rfl) [([], 72057594037927935), ([0], 72057594037927934), ([1], 72057594037927933), ([2], 72057594037927931), ([], 72057594037927935), ([4], 72057594037927919), ([5], 72057594037927903), ([6], 72057594037927871), ([3, 7], 72057594037927799), ([8], 72057594037927679), ([9], 72057594037927423), ([10, 9], 72057594037926399), ([11, 9], 72057594037925375), ([12, 9], 72057594037923327), ([9], 72057594037927423), ([14, 9], 72057594037911039), ([15, 9], 72057594037894655), ([16, 9], 72057594037861887), ([13, 17, 9], 72057594037788159), ([9, 18], 72057594037665279), ([19, 9], 72057594037403647), ([20], 72057594036879359), ([21, 20], 72057594034782207), ([22, 20], 72057594032685055), ([23, 20], 72057594028490751), ([20], 72057594036879359), ([25, 20], 72057594003324927), ([26, 20], 72057593969770495), ([27, 20], 72057593902661631), ([24, 28, 20], 72057593751666687), ([20, 29], 72057593500008447), ([30, 20], 72057592964186111), ([31], 72057591890444287), ([32, 31], 72057587595476991), ([33, 31], 72057583300509695), ([34, 31], 72057574710575103), ([31], 72057591890444287), ([36, 31], 72057523170967551), ([37, 31], 72057454451490815), ([38, 31], 72057317012537343), ([35, 39, 31, 31], 72057007774892031), ([40, 31], 72056492378816511), ([31, 41], 72055392867188735), ([42, 40], 72053195991416831), ([43], 72048797944905727), ([44, 43], 72031205758861311), ([45, 43], 72013613572816895), ([46, 43], 71978429200728063), ([47, 43], 71908060456550399), ([43], 72048797944905727), ([49, 43], 71485847991484415), ([50, 43], 70922898038063103), ([51, 43], 69796998131220479), ([52, 43], 67545198317535231), ([48, 53, 43], 62760123713454079), ([43, 54], 54034399435423743)] (by kernel_rfl) (fun hsk52 => ?_)
    have hS53 := hS.step (Ext.draw _)
    refine DM.run (fuel := 50) ttok hsk52 [0, 1, 2, 4, 5, 6] 119 (by kernel_rfl) (by kernel_rfl) rfl ?_
    refine DM.load1 ttok hsk52 3 127 (by kernel_rfl) (by kernel_rfl) (by kernel_rfl) (by kernel_rfl) rfl (by kernel_rfl) rfl rfl rfl rfl rfl (At.ext hS.ext g0_) 0 rfl rfl rfl rfl ?_
    refine DM.load1 ttok hsk52 7 255 (by kernel_rfl) (by kernel_rfl) (by kernel_rfl) (by kernel_rfl) rfl (by kernel_rfl) rfl rfl rfl rfl rfl (At.ext hS.ext g1_) 0 rfl rfl rfl rfl ?_
    refine DM.run (fuel := 46) ttok hsk52 [8, 9] 1023 (by kernel_rfl) (by kernel_rfl) rfl ?_
    refine DM.weak [(0, .pointer (some p0_)), (1, .pointer (some p1_)), (15, .bool (x0.Kind != x1.Kind))] ⟨rfl, rfl, rfl, trivial⟩ ?_
    by_cases hg54 : (x0.Kind != x1.Kind) = true
    · skip
      rw [if_pos hg54] at hm
      refine DM.know 15 rfl (congrArg Value.bool hg54) ?_
      refine DM.run (fuel := 0) ttok hsk52 [10, 11, 12, 13, 14, 15, 16, 17, 18, 19, 20, 21, 22, 23, 24, 25, 26, 27, 28, 29, 30, 31, 32, 33, 34, 35, 36, 37, 38, 39, 40, 41, 42, 43, 44, 45, 46, 47, 48, 49, 50, 51, 52, 53, 54, 55] 72057594037927935 (by kernel_rfl) (by kernel_rfl) rfl ?_
      refine DM.weak [(0, .pointer (some p0_)), (1, .pointer (some p1_)), (61, .bool true)] ⟨rfl, rfl, rfl, trivial⟩ ?_
      refine DM.done hsk52 (by kernel_rfl) ?_
      exact ⟨true, [(0, .pointer (some p0_)), (1, .pointer (some p1_)), (61, .bool true)], ⟨rfl, rfl, rfl, trivial⟩, hm, (Ext.draw _), (hS53.taken 0), rfl⟩
    · skip
      rw [if_neg hg54] at hm
      refine DM.know 15 rfl (congrArg Value.bool (Bool.eq_false_iff.2 hg54)) ?_
      refine DM.run (fuel := 40) ttok hsk52 [10, 11, 12, 14, 15, 16] 122879 (by kernel_rfl) (by kernel_rfl) rfl ?_
      refine DM.load1 ttok hsk52 13 131071 (by kernel_rfl) (by kernel_rfl) (by kernel_rfl) (by kernel_rfl) rfl (by kernel_rfl) rfl rfl rfl rfl rfl (At.ext hS.ext g0_) 1 rfl rfl rfl rfl ?_
      refine DM.load1 ttok hsk52 17 262143 (by kernel_rfl) (by kernel_rfl) (by kernel_rfl) (by kernel_rfl) rfl (by kernel_rfl) rfl rfl rfl rfl rfl (At.ext hS.ext g1_) 1 rfl rfl rfl rfl ?_
      refine DM.run (fuel := 35) ttok hsk52 [18, 19, 20] 2097151 (by kernel_rfl) (by kernel_rfl) rfl ?_
      refine DM.weak [(0, .pointer (some p0_)), (1, .pointer (some p1_)), (26, .bool (x0.Level != x1.Level))] ⟨rfl, rfl, rfl, trivial⟩ ?_
      by_cases hg55 : (x0.Level != x1.Level) = true
      · skip
        rw [if_pos hg55] at hm
        refine DM.know 26 rfl (congrArg Value.bool hg55) ?_
        refine DM.run (fuel := 0) ttok hsk52 [21, 22, 23, 24, 25, 26, 27, 28, 29, 30, 31, 32, 33, 34, 35, 36, 37, 38, 39, 40, 41, 42, 43, 44, 45, 46, 47, 48, 49, 50, 51, 52, 53, 54, 55] 72057594037927935 (by kernel_rfl) (by kernel_rfl) rfl ?_
        refine DM.weak [(0, .pointer (some p0_)), (1, .pointer (some p1_)), (61, .bool true)] ⟨rfl, rfl, rfl, trivial⟩ ?_
        refine DM.done hsk52 (by kernel_rfl) ?_
        exact ⟨true, [(0, .pointer (some p0_)), (1, .pointer (some p1_)), (61, .bool true)], ⟨rfl, rfl, rfl, trivial⟩, hm, (Ext.draw _), (hS53.taken 0), rfl⟩
      · skip
        rw [if_neg hg55] at hm
        refine DM.know 26 rfl (congrArg Value.bool (Bool.eq_false_iff.2 hg55)) ?_
        refine DM.run (fuel := 29) ttok hsk52 [21, 22, 23, 25, 26, 27] 251658239 (by kernel_rfl) (by kernel_rfl) rfl ?_
        refine DM.load1 ttok hsk52 24 268435455 (by kernel_rfl) (by kernel_rfl) (by kernel_rfl) (by kernel_rfl) rfl (by kernel_rfl) rfl rfl rfl rfl rfl (At.ext hS.ext g0_) 2 rfl rfl rfl rfl ?_
        refine DM.load1 ttok hsk52 28 536870911 (by kernel_rfl) (by kernel_rfl) (by kernel_rfl) (by kernel_rfl) rfl (by kernel_rfl) rfl rfl rfl rfl rfl (At.ext hS.ext g1_) 2 rfl rfl rfl rfl ?_
        refine DM.run (fuel := 24) ttok hsk52 [29, 30, 31] 4294967295 (by kernel_rfl) (by kernel_rfl) rfl ?_
        refine DM.weak [(0, .pointer (some p0_)), (1, .pointer (some p1_)), (37, .bool (x0.Value != x1.Value))] ⟨rfl, rfl, rfl, trivial⟩ ?_
        by_cases hg56 : (x0.Value != x1.Value) = true
        · skip
          rw [if_pos hg56] at hm
          refine DM.know 37 rfl (congrArg Value.bool hg56) ?_
          refine DM.run (fuel := 0) ttok hsk52 [32, 33, 34, 35, 36, 37, 38, 39, 40, 41, 42, 43, 44, 45, 46, 47, 48, 49, 50, 51, 52, 53, 54, 55] 72057594037927935 (by kernel_rfl) (by kernel_rfl) rfl ?_
          refine DM.weak [(0, .pointer (some p0_)), (1, .pointer (some p1_)), (61, .bool true)] ⟨rfl, rfl, rfl, trivial⟩ ?_
          refine DM.done hsk52 (by kernel_rfl) ?_
          exact ⟨true, [(0, .pointer (some p0_)), (1, .pointer (some p1_)), (61, .bool true)], ⟨rfl, rfl, rfl, trivial⟩, hm, (Ext.draw _), (hS53.taken 0), rfl⟩
        · skip
          rw [if_neg hg56] at hm
          refine DM.know 37 rfl (congrArg Value.bool (Bool.eq_false_iff.2 hg56)) ?_
          refine DM.run (fuel := 18) ttok hsk52 [32, 33, 34, 36, 37, 38] 515396075519 (by kernel_rfl) (by kernel_rfl) rfl ?_
          refine DM.load1 ttok hsk52 35 549755813887 (by kernel_rfl) (by kernel_rfl) (by kernel_rfl) (by kernel_rfl) rfl (by kernel_rfl) rfl rfl rfl rfl rfl (At.ext hS.ext g0_) 3 rfl rfl rfl rfl ?_
          refine DM.load1 ttok hsk52 39 1099511627775 (by kernel_rfl) (by kernel_rfl) (by kernel_rfl) (by kernel_rfl) rfl (by kernel_rfl) rfl rfl rfl rfl rfl (At.ext hS.ext g1_) 3 rfl rfl rfl rfl ?_
          obtain ⟨r57, hx58, hm⟩ := bind_some hm
          refine DM.one hsk52 40 (by kernel_rfl) (LM.call hsk52 2199023255551 (by kernel_rfl) (by kernel_rfl) rfl rfl rfl rfl enters86 (spec_l00Same_ok (ty72.ext hS53.ext h3) (ty72.ext hS53.ext h10) hx58) (fun v59 w60 hR61 => ?_))
          obtain ⟨rfl, hR62⟩ := hR61
          refine ⟨hR62.ext, ?_⟩
          have hS63 := hS53.join hR62
          refine DM.run (fuel := 12) ttok hsk52 [41, 42, 43] 17592186044415 (by kernel_rfl) (by kernel_rfl) rfl ?_
          refine DM.weak [(0, .pointer (some p0_)), (1, .pointer (some p1_)), (49, .bool (!r57))] ⟨rfl, rfl, rfl, trivial⟩ ?_
          by_cases hg64 : (!r57) = true
          · skip
            rw [if_pos hg64] at hm
            refine DM.know 49 rfl (congrArg Value.bool hg64) ?_
            refine DM.run (fuel := 0) ttok hsk52 [44, 45, 46, 47, 48, 49, 50, 51, 52, 53, 54, 55] 72057594037927935 (by kernel_rfl) (by kernel_rfl) rfl ?_
            refine DM.weak [(0, .pointer (some p0_)), (1, .pointer (some p1_)), (61, .bool true)] ⟨rfl, rfl, rfl, trivial⟩ ?_
            refine DM.done hsk52 (by kernel_rfl) ?_
            exact ⟨true, [(0, .pointer (some p0_)), (1, .pointer (some p1_)), (61, .bool true)], ⟨rfl, rfl, rfl, trivial⟩, hm, ((Ext.draw _).trans hR62.ext), (hS63.taken 0), rfl⟩
          · skip
            rw [if_neg hg64] at hm
            refine DM.know 49 rfl (congrArg Value.bool (Bool.eq_false_iff.2 hg64)) ?_
            refine DM.run (fuel := 6) ttok hsk52 [44, 45, 46, 49, 50, 51] 4081387162304511 (by kernel_rfl) (by kernel_rfl) rfl ?_
            refine DM.load1 ttok hsk52 47 4222124650659839 (by kernel_rfl) (by kernel_rfl) (by kernel_rfl) (by kernel_rfl) rfl (by kernel_rfl) rfl rfl rfl rfl rfl (At.ext hS.ext g0_) 4 rfl rfl rfl rfl ?_
            refine DM.run (fuel := 4) ttok hsk52 [48] 4503599627370495 (by kernel_rfl) (by kernel_rfl) rfl ?_
            refine DM.weak [(0, .pointer (some p0_)), (1, .pointer (some p1_)), (49, .bool false), (54, .int .i64 (x0.Words.length : Int)), (57, .pointer (some (p1_.add 4)))] ⟨rfl, rfl, rfl, rfl, rfl, trivial⟩ ?_
            refine DM.load1 ttok hsk52 52 9007199254740991 (by kernel_rfl) (by kernel_rfl) (by kernel_rfl) (by kernel_rfl) rfl (by kernel_rfl) rfl rfl rfl rfl rfl (At.ext hS.ext g1_) 4 rfl rfl rfl rfl ?_
            refine DM.run (fuel := 0) ttok hsk52 [53, 54, 55] 72057594037927935 (by kernel_rfl) (by kernel_rfl) rfl ?_
            refine DM.weak [(0, .pointer (some p0_)), (1, .pointer (some p1_)), (61, .bool ((x0.Words.length : Int) != (x1.Words.length : Int)))] ⟨rfl, rfl, rfl, trivial⟩ ?_
            refine DM.done hsk52 (by kernel_rfl) ?_
            exact ⟨((x0.Words.length : Int) != (x1.Words.length : Int)), [(0, .pointer (some p0_)), (1, .pointer (some p1_)), (61, .bool ((x0.Words.length : Int) != (x1.Words.length : Int)))], ⟨rfl, rfl, rfl, trivial⟩, hm, ((Ext.draw _).trans hR62.ext), (hS63.taken 0), rfl⟩

theorem enters136 : Enters Try.prog 136 := ⟨_, _, Try.func136, rfl, by kernel_rfl⟩
def m_spec_l21Same_j3 (fuel : Nat) (t32 : Unit) : Option Bool := some true
def m_spec_l21Same_b2 (fuel : Nat) (x0 : D.Memory) (x1 : D.Memory) (s31 : Int) : Option (Rd (Int) (Unit) (Bool)) := (if (decide (s31 < (x0.Redexes.length : Int))) = true then ((idx x0.Redexes s31).bind fun x49 => ((idx x1.Redexes s31).bind fun x56 => (if (!(((x49.A : Int) == x56.A) && (((x49.B : Int) == x56.B) && true))) = true then some (.ret false) else some (.next (w64 (s31 + 1)))))) else some (.brk ()))
def m_spec_l21Same_j2 (fuel : Nat) (x0 : D.Memory) (x1 : D.Memory) (t21 : Unit) : Option Bool := ((iter (m_spec_l21Same_b2 fuel x0 x1) fuel 0).bind fun o => aft o (m_spec_l21Same_j3 fuel))
def m_spec_l21Same_b1 (fuel : Nat) (x0 : D.Memory) (x1 : D.Memory) (s20 : Int) : Option (Rd (Int) (Unit) (Bool)) := (if (decide (s20 < (x0.Cells.length : Int))) = true then ((idx x0.Cells s20).bind fun x70 => ((idx x1.Cells s20).bind fun x83 => ((m_spec_l21SameCell fuel x70 x83).bind fun r96 => (if (!r96) = true then some (.ret false) else some (.next (w64 (s20 + 1))))))) else some (.brk ()))
def m_spec_l21Same_j1 (fuel : Nat) (x0 : D.Memory) (x1 : D.Memory) (t15 : Bool) : Option Bool := (if t15 = true then some false else ((iter (m_spec_l21Same_b1 fuel x0 x1) fuel 0).bind fun o => aft o (m_spec_l21Same_j2 fuel x0 x1)))
def m_spec_l21Same (fuel : Nat) (x0 : D.Memory) (x1 : D.Memory) : Option (Bool) := (if ((x0.Cells.length : Int) != (x1.Cells.length : Int)) = true then m_spec_l21Same_j1 fuel x0 x1 true else (if (x0.Free != x1.Free) = true then m_spec_l21Same_j1 fuel x0 x1 true else (if (!(((x0.Root.Tag : Int) == x1.Root.Tag) && (((x0.Root.At : Int) == x1.Root.At) && true))) = true then m_spec_l21Same_j1 fuel x0 x1 true else m_spec_l21Same_j1 fuel x0 x1 ((x0.Redexes.length : Int) != (x1.Redexes.length : Int)))))

set_option maxRecDepth 100000 in
theorem spec_l21Same_ok {w : World} {p0_ : Addr} {c0_ : List Value} {x0 : D.Memory} {p1_ : Addr} {c1_ : List Value} {x1 : D.Memory} (h0_ : ty64.ro w c0_ x0) (g0_ : At w p0_ c0_) (h1_ : ty64.ro w c1_ x1) (g1_ : At w p1_ c1_) {fuel : Nat} {r : Bool} (hm : m_spec_l21Same fuel x0 x1 = some r) :
    Calls Try.prog 136 ⟨[.pointer (some p0_), .pointer (some p1_)]⟩ w (Ret fun v w8 => v = .bool r ∧ St w w8 []) := by
  obtain ⟨A1, k2, A4, k5, e7, h3, h6⟩ := ty64_open h0_; subst e7
  obtain ⟨A8, k9, A11, k12, e14, h10, h13⟩ := ty64_open h1_; subst e14
  refine Calls.into Try.func136 rfl 100 rfl rfl _ rfl ?_
  unfold m_spec_l21Same at hm
  have hS := St.start w
  refine WP.seq ?_
  refine WP.region ?_
  refine RW.run ttok 1 rfl ?_
  refine RW.nil ?_
  refine WP.seq ?_
  refine WP.seq ?_
  refine WP.cut (fun (t15 : Bool) F w9 => m_spec_l21Same_j1 fuel x0 x1 t15 = some r ∧ Ext w w9 ∧ St w w9 [] ∧ F = [(0, .pointer (some p0_)), (1, .pointer (some p1_)), (52, .bool t15)]) ?_ ?_
  · skip
    rintro t15 F w18 ⟨hm, hE16, hS17, rfl⟩
    unfold m_spec_l21Same_j1 at hm
    refine WP.cond t15 rfl (fun hc => ?_) (fun hc => ?_)
    · skip
      rw [if_pos hc] at hm
      refine WP.seq ?_
      refine WP.region ?_
      refine RW.run ttok 1 rfl ?_
      refine RW.nil ?_
      refine WP.ret ?_
      cases hm
      exact ⟨_, .cons (.tmp rfl) .nil, rfl, (hS17.taken 0)⟩
    · skip
      rw [if_neg (not_t hc)] at hm
      refine WP.skip ?_
      refine WP.seq ?_
      refine WP.seq ?_
      refine WP.region ?_
      refine RW.run ttok 1 rfl ?_
      refine RW.nil ?_
      obtain ⟨o27, hl28, hm⟩ := bind_some hm
      refine WP.cut (fun (t21 : Unit) F w9 => o27 = .inl t21 ∧ Ext w18 w9 ∧ St w w9 [] ∧ F = [(0, .pointer (some p0_)), (1, .pointer (some p1_))]) ?_ ?_
      · skip
        rintro t21 F w26 ⟨ho30, hE25, hS29, rfl⟩
        subst ho30
        rw [aft_inl] at hm
        unfold m_spec_l21Same_j2 at hm
        refine WP.seq ?_
        refine WP.seq ?_
        refine WP.region ?_
        refine RW.run ttok 1 rfl ?_
        refine RW.nil ?_
        obtain ⟨o38, hl39, hm⟩ := bind_some hm
        refine WP.cut (fun (t32 : Unit) F w9 => o38 = .inl t32 ∧ Ext w26 w9 ∧ St w w9 [] ∧ F = []) ?_ ?_
        · skip
          rintro t32 F w37 ⟨ho41, hE36, hS40, rfl⟩
          subst ho41
          rw [aft_inl] at hm
          unfold m_spec_l21Same_j3 at hm
          refine WP.seq ?_
          refine WP.region ?_
          refine RW.run ttok 1 rfl ?_
          refine RW.nil ?_
          refine WP.ret ?_
          cases hm
          exact ⟨_, .cons (.tmp rfl) .nil, rfl, (hS40.taken 0)⟩
        · skip
          refine WP.block ?_
          refine WP.weak [(0, .pointer (some p0_)), (1, .pointer (some p1_)), (6, .int .i64 0)] ⟨rfl, rfl, rfl, trivial⟩ ?_
          refine WP.iter (fun (s31 : Int) F w9 => Ext w26 w9 ∧ St w w9 [] ∧ F = [(0, .pointer (some p0_)), (1, .pointer (some p1_)), (6, .int .i64 s31)]) _ hl39 ⟨(Ext.refl _), (hS29.taken 0), rfl⟩ ?_
          rintro s31 F w46 _ o44 ⟨hE35, hS45, rfl⟩ hb42 ho43
          unfold m_spec_l21Same_b2 at hb42
          refine WP.seq ?_
          refine WP.seq ?_
          refine WP.region ?_
          refine RW.run ttok 4 rfl ?_
          refine RW.load1 ttok rfl rfl rfl rfl rfl (At.ext hS45.ext g0_) 4 rfl rfl rfl rfl ?_
          refine RW.run ttok 2 rfl ?_
          refine RW.nil ?_
          refine WP.cond (decide (s31 < (x0.Redexes.length : Int))) rfl (fun hc => ?_) (fun hc => ?_)
          · skip
            rw [if_pos hc] at hb42
            refine WP.skip ?_
            refine WP.seq ?_
            refine WP.block ?_
            refine WP.seq ?_
            refine WP.drawnM 0 mixed 15 (by kernel_rfl) (by kernel_rfl) [([], 32767), ([0], 32766), ([1], 32765), ([2], 32763), ([], 32767), ([3, 4], 32743), ([5], 32735), ([], 32767), ([7], 32639), ([8], 32511), ([9], 32255), ([], 32767), ([10, 11], 29695), ([12], 28671), ([6, 13], 24511)] (by kernel_rfl) (fun hsk47 => ?_)
            have hS48 := hS45.step (Ext.draw _)
            refine DM.run (fuel := 7) ttok hsk47 [0, 1, 2, 4, 7, 8, 9, 11] 2967 (by kernel_rfl) (by kernel_rfl) rfl ?_
            refine DM.weak [(0, .pointer (some p0_)), (1, .pointer (some p1_)), (6, .int .i64 s31), (87, .pointer (some (p0_.add 4))), (89, .int .i64 s31), (94, .pointer (some (p1_.add 4))), (96, .int .i64 s31)] ⟨rfl, rfl, rfl, rfl, rfl, rfl, rfl, trivial⟩ ?_
            refine DM.load1 ttok hsk47 3 2975 (by kernel_rfl) (by kernel_rfl) (by kernel_rfl) (by kernel_rfl) rfl (by kernel_rfl) rfl rfl rfl rfl rfl (At.ext hS45.ext g0_) 4 rfl rfl rfl rfl ?_
            obtain ⟨x49, hx50, hb42⟩ := bind_some hb42
            refine DM.idx ttok hS45.ext hsk47 5 3007 (by kernel_rfl) (by kernel_rfl) (by kernel_rfl) (by kernel_rfl) rfl (by kernel_rfl) rfl rfl rfl rfl rfl rfl (by decide) rfl rfl h6 (idx_some hx50).1 (idx_some hx50).2 rfl rfl (fun p51 es52 ha53 hr54 => ?_)
            have e55 := ty155_open hr54; subst e55
            refine DM.loadN ttok hsk47 6 3071 (by kernel_rfl) (by kernel_rfl) (by kernel_rfl) (by kernel_rfl) rfl (by kernel_rfl) rfl rfl rfl rfl rfl (At.ext hS45.ext ha53) rfl rfl rfl ?_
            refine DM.load1 ttok hsk47 10 4095 (by kernel_rfl) (by kernel_rfl) (by kernel_rfl) (by kernel_rfl) rfl (by kernel_rfl) rfl rfl rfl rfl rfl (At.ext hS45.ext g1_) 4 rfl rfl rfl rfl ?_
            obtain ⟨x56, hx57, hb42⟩ := bind_some hb42
            refine DM.idx ttok hS45.ext hsk47 12 8191 (by kernel_rfl) (by kernel_rfl) (by kernel_rfl) (by kernel_rfl) rfl (by kernel_rfl) rfl rfl rfl rfl rfl rfl (by decide) rfl rfl h13 (idx_some hx57).1 (idx_some hx57).2 rfl rfl (fun p58 es59 ha60 hr61 => ?_)
            have e62 := ty155_open hr61; subst e62
            refine DM.loadN ttok hsk47 13 16383 (by kernel_rfl) (by kernel_rfl) (by kernel_rfl) (by kernel_rfl) rfl (by kernel_rfl) rfl rfl rfl rfl rfl (At.ext hS45.ext ha60) rfl rfl rfl ?_
            refine DM.run (fuel := 0) ttok hsk47 [14] 32767 (by kernel_rfl) (by kernel_rfl) rfl ?_
            refine DM.weak [(0, .pointer (some p0_)), (1, .pointer (some p1_)), (6, .int .i64 s31), (99, .bool (!(((x49.A : Int) == x56.A) && (((x49.B : Int) == x56.B) && true))))] ⟨rfl, rfl, rfl, rfl, trivial⟩ ?_
            refine DM.done hsk47 (by kernel_rfl) ?_
            refine WP.cond (!(((x49.A : Int) == x56.A) && (((x49.B : Int) == x56.B) && true))) rfl (fun hc => ?_) (fun hc => ?_)
            · skip
              rw [if_pos hc] at hb42
              refine WP.seq ?_
              refine WP.region ?_
              refine RW.run ttok 1 rfl ?_
              refine RW.nil ?_
              refine WP.ret ?_
              cases hb42
              cases ho43
              have hm : some _ = some _ := hm
              cases hm
              exact ⟨_, .cons (.tmp rfl) .nil, rfl, (hS48.taken 0)⟩
            · skip
              rw [if_neg (not_t hc)] at hb42
              refine WP.skip ?_
              refine WP.region ?_
              refine RW.run ttok 3 rfl ?_
              refine RW.nil ?_
              cases hb42
              exact ⟨_, [(0, .pointer (some p0_)), (1, .pointer (some p1_)), (6, .int .i64 (w64 (s31 + 1)))], ⟨rfl, rfl, rfl, trivial⟩, rfl, (hE35.trans (Ext.draw _)), (hS48.taken 0), rfl⟩
          · skip
            rw [if_neg (not_t hc)] at hb42
            refine WP.exit ?_
            cases hb42
            exact ⟨_, [], trivial, ho43, hE35, (hS45.taken 0), rfl⟩
      · skip
        refine WP.block ?_
        refine WP.weak [(0, .pointer (some p0_)), (1, .pointer (some p1_)), (5, .int .i64 0)] ⟨rfl, rfl, rfl, trivial⟩ ?_
        refine WP.iter (fun (s20 : Int) F w9 => Ext w18 w9 ∧ St w w9 [] ∧ F = [(0, .pointer (some p0_)), (1, .pointer (some p1_)), (5, .int .i64 s20)]) _ hl28 ⟨(Ext.refl _), (hS17.taken 0), rfl⟩ ?_
        rintro s20 F w67 _ o65 ⟨hE24, hS66, rfl⟩ hb63 ho64
        unfold m_spec_l21Same_b1 at hb63
        refine WP.seq ?_
        refine WP.seq ?_
        refine WP.region ?_
        refine RW.run ttok 4 rfl ?_
        refine RW.load1 ttok rfl rfl rfl rfl rfl (At.ext hS66.ext g0_) 0 rfl rfl rfl rfl ?_
        refine RW.run ttok 2 rfl ?_
        refine RW.nil ?_
        refine WP.cond (decide (s20 < (x0.Cells.length : Int))) rfl (fun hc => ?_) (fun hc => ?_)
        · skip
          rw [if_pos hc] at hb63
          refine WP.skip ?_
          refine WP.seq ?_
          refine WP.block ?_
          refine WP.seq ?_
          refine WP.drawnM 0 mixed 14 (by kernel_rfl) (by kernel_rfl) [([], 16383), ([0], 16382), ([1], 16381), ([2], 16379), ([], 16383), ([3, 4], 16359), ([], 16383), ([6], 16319), ([7], 16255), ([8], 16127), ([], 16383), ([9, 10], 14847), ([5, 11], 14303), ([12], 12287)] (by kernel_rfl) (fun hsk68 => ?_)
          have hS69 := hS66.step (Ext.draw _)
          refine DM.run (fuel := 6) ttok hsk68 [0, 1, 2, 4, 6, 7, 8, 10] 1495 (by kernel_rfl) (by kernel_rfl) rfl ?_
          refine DM.weak [(0, .pointer (some p0_)), (1, .pointer (some p1_)), (5, .int .i64 s20), (64, .pointer (some p0_)), (66, .int .i64 s20), (70, .pointer (some p1_)), (72, .int .i64 s20)] ⟨rfl, rfl, rfl, rfl, rfl, rfl, rfl, trivial⟩ ?_
          refine DM.load1 ttok hsk68 3 1503 (by kernel_rfl) (by kernel_rfl) (by kernel_rfl) (by kernel_rfl) rfl (by kernel_rfl) rfl rfl rfl rfl rfl (At.ext hS66.ext g0_) 0 rfl rfl rfl rfl ?_
          obtain ⟨x70, hx71, hb63⟩ := bind_some hb63
          refine DM.idx ttok hS66.ext hsk68 5 1535 (by kernel_rfl) (by kernel_rfl) (by kernel_rfl) (by kernel_rfl) rfl (by kernel_rfl) rfl rfl rfl rfl rfl rfl (by decide) rfl rfl h3 (idx_some hx71).1 (idx_some hx71).2 rfl rfl (fun p72 es73 ha74 hr75 => ?_)
          obtain ⟨A76, k77, A79, k80, e82, h78, h81⟩ := ty232_open hr75; subst e82
          refine DM.load1 ttok hsk68 9 2047 (by kernel_rfl) (by kernel_rfl) (by kernel_rfl) (by kernel_rfl) rfl (by kernel_rfl) rfl rfl rfl rfl rfl (At.ext hS66.ext g1_) 0 rfl rfl rfl rfl ?_
          obtain ⟨x83, hx84, hb63⟩ := bind_some hb63
          refine DM.idx ttok hS66.ext hsk68 11 4095 (by kernel_rfl) (by kernel_rfl) (by kernel_rfl) (by kernel_rfl) rfl (by kernel_rfl) rfl rfl rfl rfl rfl rfl (by decide) rfl rfl h10 (idx_some hx84).1 (idx_some hx84).2 rfl rfl (fun p85 es86 ha87 hr88 => ?_)
          obtain ⟨A89, k90, A92, k93, e95, h91, h94⟩ := ty232_open hr88; subst e95
          obtain ⟨r96, hx97, hb63⟩ := bind_some hb63
          refine DM.one hsk68 12 (by kernel_rfl) (LM.call hsk68 8191 (by kernel_rfl) (by kernel_rfl) rfl rfl rfl rfl enters173 (spec_l21SameCell_ok (ty232.ext hS69.ext hr75) (At.ext hS69.ext ha74) (ty232.ext hS69.ext hr88) (At.ext hS69.ext ha87) hx97) (fun v98 w99 hR100 => ?_))
          obtain ⟨rfl, hR101⟩ := hR100
          refine ⟨hR101.ext, ?_⟩
          have hS102 := hS69.join hR101
          refine DM.run (fuel := 0) ttok hsk68 [13] 16383 (by kernel_rfl) (by kernel_rfl) rfl ?_
          refine DM.weak [(0, .pointer (some p0_)), (1, .pointer (some p1_)), (5, .int .i64 s20), (75, .bool (!r96))] ⟨rfl, rfl, rfl, rfl, trivial⟩ ?_
          refine DM.done hsk68 (by kernel_rfl) ?_
          refine WP.cond (!r96) rfl (fun hc => ?_) (fun hc => ?_)
          · skip
            rw [if_pos hc] at hb63
            refine WP.seq ?_
            refine WP.region ?_
            refine RW.run ttok 1 rfl ?_
            refine RW.nil ?_
            refine WP.ret ?_
            cases hb63
            cases ho64
            have hm : some _ = some _ := hm
            cases hm
            exact ⟨_, .cons (.tmp rfl) .nil, rfl, (hS102.taken 0)⟩
          · skip
            rw [if_neg (not_t hc)] at hb63
            refine WP.skip ?_
            refine WP.region ?_
            refine RW.run ttok 3 rfl ?_
            refine RW.nil ?_
            cases hb63
            exact ⟨_, [(0, .pointer (some p0_)), (1, .pointer (some p1_)), (5, .int .i64 (w64 (s20 + 1)))], ⟨rfl, rfl, rfl, trivial⟩, rfl, ((hE24.trans (Ext.draw _)).trans hR101.ext), (hS102.taken 0), rfl⟩
        · skip
          rw [if_neg (not_t hc)] at hb63
          refine WP.exit ?_
          cases hb63
          exact ⟨_, [(0, .pointer (some p0_)), (1, .pointer (some p1_))], ⟨rfl, rfl, trivial⟩, ho64, hE24, (hS66.taken 0), rfl⟩
  · skip
    refine WP.drawnM 0 mixed 46 (by kernel_rfl) (by kernel_rfl) [([], 70368744177663), ([0], 70368744177662), ([1], 70368744177661), ([2], 70368744177659), ([3], 70368744177655), ([], 70368744177663), ([5], 70368744177631), ([6], 70368744177599), ([7], 70368744177535), ([8], 70368744177407), ([4, 9], 70368744177135), ([10], 70368744176639), ([11], 70368744175615), ([12, 11], 70368744171519), ([13, 11], 70368744167423), ([14, 11], 70368744159231), ([11], 70368744175615), ([16, 11], 70368744110079), ([17, 11], 70368744044543), ([18, 11], 70368743913471), ([15, 19, 11], 70368743618559), ([11, 20], 70368743127039), ([21, 11], 70368742080511), ([22], 70368739983359), ([23, 22], 70368731594751), ([24, 22], 70368723206143), ([25, 22], 70368706428927), ([22], 70368739983359), ([27, 22], 70368605765631), ([28, 22], 70368471547903), ([29, 22], 70368203112447), ([26, 30, 22], 70367599132671), ([22, 31], 70366592499711), ([32, 22], 70364449210367), ([33], 70360154243071), ([34, 33], 70342974373887), ([35, 33], 70325794504703), ([36, 33], 70291434766335), ([37, 33], 70222715289599), ([33], 70360154243071), ([39, 33], 69810398429183), ([40, 33], 69260642615295), ([41, 33], 68161130987519), ([42, 33], 65962107731967), ([38, 43, 33], 61289183313919), ([33, 44], 52767968198655)] (by kernel_rfl) (fun hsk103 => ?_)
    have hS104 := hS.step (Ext.draw _)
    refine DM.run (fuel := 40) ttok hsk103 [0, 1, 2, 5, 6, 7] 231 (by kernel_rfl) (by kernel_rfl) rfl ?_
    refine DM.load1 ttok hsk103 3 239 (by kernel_rfl) (by kernel_rfl) (by kernel_rfl) (by kernel_rfl) rfl (by kernel_rfl) rfl rfl rfl rfl rfl (At.ext hS.ext g0_) 0 rfl rfl rfl rfl ?_
    refine DM.run (fuel := 38) ttok hsk103 [4] 255 (by kernel_rfl) (by kernel_rfl) rfl ?_
    refine DM.weak [(0, .pointer (some p0_)), (1, .pointer (some p1_)), (11, .int .i64 (x0.Cells.length : Int)), (14, .pointer (some p1_))] ⟨rfl, rfl, rfl, rfl, trivial⟩ ?_
    refine DM.load1 ttok hsk103 8 511 (by kernel_rfl) (by kernel_rfl) (by kernel_rfl) (by kernel_rfl) rfl (by kernel_rfl) rfl rfl rfl rfl rfl (At.ext hS.ext g1_) 0 rfl rfl rfl rfl ?_
    refine DM.run (fuel := 34) ttok hsk103 [9, 10, 11] 4095 (by kernel_rfl) (by kernel_rfl) rfl ?_
    by_cases hg105 : ((x0.Cells.length : Int) != (x1.Cells.length : Int)) = true
    · skip
      rw [if_pos hg105] at hm
      refine DM.know 18 rfl (congrArg Value.bool hg105) ?_
      refine DM.run (fuel := 0) ttok hsk103 [12, 13, 14, 15, 16, 17, 18, 19, 20, 21, 22, 23, 24, 25, 26, 27, 28, 29, 30, 31, 32, 33, 34, 35, 36, 37, 38, 39, 40, 41, 42, 43, 44, 45] 70368744177663 (by kernel_rfl) (by kernel_rfl) rfl ?_
      refine DM.weak [(0, .pointer (some p0_)), (1, .pointer (some p1_)), (52, .bool true)] ⟨rfl, rfl, rfl, trivial⟩ ?_
      refine DM.done hsk103 (by kernel_rfl) ?_
      exact ⟨true, [(0, .pointer (some p0_)), (1, .pointer (some p1_)), (52, .bool true)], ⟨rfl, rfl, rfl, trivial⟩, hm, (Ext.draw _), (hS104.taken 0), rfl⟩
    · skip
      rw [if_neg hg105] at hm
      refine DM.know 18 rfl (congrArg Value.bool (Bool.eq_false_iff.2 hg105)) ?_
      refine DM.run (fuel := 28) ttok hsk103 [12, 13, 14, 16, 17, 18] 491519 (by kernel_rfl) (by kernel_rfl) rfl ?_
      refine DM.weak [(0, .pointer (some p0_)), (1, .pointer (some p1_)), (18, .bool false), (21, .pointer (some (p0_.add 1))), (25, .pointer (some (p1_.add 1)))] ⟨rfl, rfl, rfl, rfl, rfl, trivial⟩ ?_
      refine DM.load1 ttok hsk103 15 524287 (by kernel_rfl) (by kernel_rfl) (by kernel_rfl) (by kernel_rfl) rfl (by kernel_rfl) rfl rfl rfl rfl rfl (At.ext hS.ext g0_) 1 rfl rfl rfl rfl ?_
      refine DM.load1 ttok hsk103 19 1048575 (by kernel_rfl) (by kernel_rfl) (by kernel_rfl) (by kernel_rfl) rfl (by kernel_rfl) rfl rfl rfl rfl rfl (At.ext hS.ext g1_) 1 rfl rfl rfl rfl ?_
      refine DM.run (fuel := 23) ttok hsk103 [20, 21, 22] 8388607 (by kernel_rfl) (by kernel_rfl) rfl ?_
      refine DM.weak [(0, .pointer (some p0_)), (1, .pointer (some p1_)), (29, .bool (x0.Free != x1.Free))] ⟨rfl, rfl, rfl, trivial⟩ ?_
      by_cases hg106 : (x0.Free != x1.Free) = true
      · skip
        rw [if_pos hg106] at hm
        refine DM.know 29 rfl (congrArg Value.bool hg106) ?_
        refine DM.run (fuel := 0) ttok hsk103 [23, 24, 25, 26, 27, 28, 29, 30, 31, 32, 33, 34, 35, 36, 37, 38, 39, 40, 41, 42, 43, 44, 45] 70368744177663 (by kernel_rfl) (by kernel_rfl) rfl ?_
        refine DM.weak [(0, .pointer (some p0_)), (1, .pointer (some p1_)), (52, .bool true)] ⟨rfl, rfl, rfl, trivial⟩ ?_
        refine DM.done hsk103 (by kernel_rfl) ?_
        exact ⟨true, [(0, .pointer (some p0_)), (1, .pointer (some p1_)), (52, .bool true)], ⟨rfl, rfl, rfl, trivial⟩, hm, (Ext.draw _), (hS104.taken 0), rfl⟩
      · skip
        rw [if_neg hg106] at hm
        refine DM.know 29 rfl (congrArg Value.bool (Bool.eq_false_iff.2 hg106)) ?_
        refine DM.run (fuel := 17) ttok hsk103 [23, 24, 25, 27, 28, 29] 1006632959 (by kernel_rfl) (by kernel_rfl) rfl ?_
        refine DM.loadN ttok hsk103 26 1073741823 (by kernel_rfl) (by kernel_rfl) (by kernel_rfl) (by kernel_rfl) rfl (by kernel_rfl) rfl rfl rfl rfl rfl (At.sub (At.ext hS.ext g0_) 2 2) rfl rfl rfl ?_
        refine DM.loadN ttok hsk103 30 2147483647 (by kernel_rfl) (by kernel_rfl) (by kernel_rfl) (by kernel_rfl) rfl (by kernel_rfl) rfl rfl rfl rfl rfl (At.sub (At.ext hS.ext g1_) 2 2) rfl rfl rfl ?_
        refine DM.run (fuel := 12) ttok hsk103 [31, 32, 33] 17179869183 (by kernel_rfl) (by kernel_rfl) rfl ?_
        refine DM.weak [(0, .pointer (some p0_)), (1, .pointer (some p1_)), (40, .bool (!(((x0.Root.Tag : Int) == x1.Root.Tag) && (((x0.Root.At : Int) == x1.Root.At) && true))))] ⟨rfl, rfl, rfl, trivial⟩ ?_
        by_cases hg107 : (!(((x0.Root.Tag : Int) == x1.Root.Tag) && (((x0.Root.At : Int) == x1.Root.At) && true))) = true
        · skip
          rw [if_pos hg107] at hm
          refine DM.know 40 rfl (congrArg Value.bool hg107) ?_
          refine DM.run (fuel := 0) ttok hsk103 [34, 35, 36, 37, 38, 39, 40, 41, 42, 43, 44, 45] 70368744177663 (by kernel_rfl) (by kernel_rfl) rfl ?_
          refine DM.weak [(0, .pointer (some p0_)), (1, .pointer (some p1_)), (52, .bool true)] ⟨rfl, rfl, rfl, trivial⟩ ?_
          refine DM.done hsk103 (by kernel_rfl) ?_
          exact ⟨true, [(0, .pointer (some p0_)), (1, .pointer (some p1_)), (52, .bool true)], ⟨rfl, rfl, rfl, trivial⟩, hm, (Ext.draw _), (hS104.taken 0), rfl⟩
        · skip
          rw [if_neg hg107] at hm
          refine DM.know 40 rfl (congrArg Value.bool (Bool.eq_false_iff.2 hg107)) ?_
          refine DM.run (fuel := 6) ttok hsk103 [34, 35, 36, 39, 40, 41] 3985729650687 (by kernel_rfl) (by kernel_rfl) rfl ?_
          refine DM.load1 ttok hsk103 37 4123168604159 (by kernel_rfl) (by kernel_rfl) (by kernel_rfl) (by kernel_rfl) rfl (by kernel_rfl) rfl rfl rfl rfl rfl (At.ext hS.ext g0_) 4 rfl rfl rfl rfl ?_
          refine DM.run (fuel := 4) ttok hsk103 [38] 4398046511103 (by kernel_rfl) (by kernel_rfl) rfl ?_
          refine DM.weak [(0, .pointer (some p0_)), (1, .pointer (some p1_)), (40, .bool false), (45, .int .i64 (x0.Redexes.length : Int)), (48, .pointer (some (p1_.add 4)))] ⟨rfl, rfl, rfl, rfl, rfl, trivial⟩ ?_
          refine DM.load1 ttok hsk103 42 8796093022207 (by kernel_rfl) (by kernel_rfl) (by kernel_rfl) (by kernel_rfl) rfl (by kernel_rfl) rfl rfl rfl rfl rfl (At.ext hS.ext g1_) 4 rfl rfl rfl rfl ?_
          refine DM.run (fuel := 0) ttok hsk103 [43, 44, 45] 70368744177663 (by kernel_rfl) (by kernel_rfl) rfl ?_
          refine DM.weak [(0, .pointer (some p0_)), (1, .pointer (some p1_)), (52, .bool ((x0.Redexes.length : Int) != (x1.Redexes.length : Int)))] ⟨rfl, rfl, rfl, trivial⟩ ?_
          refine DM.done hsk103 (by kernel_rfl) ?_
          exact ⟨((x0.Redexes.length : Int) != (x1.Redexes.length : Int)), [(0, .pointer (some p0_)), (1, .pointer (some p1_)), (52, .bool ((x0.Redexes.length : Int) != (x1.Redexes.length : Int)))], ⟨rfl, rfl, rfl, trivial⟩, hm, (Ext.draw _), (hS104.taken 0), rfl⟩

theorem enters137 : Enters Try.prog 137 := ⟨_, _, Try.func137, rfl, by kernel_rfl⟩
def m_spec_l24SameWorker_j3 (fuel : Nat) (t38 : Unit) : Option Bool := some true
def m_spec_l24SameWorker_b2 (fuel : Nat) (x0 : D.Worker) (x1 : D.Worker) (s37 : Int) : Option (Rd (Int) (Unit) (Bool)) := (if (decide (s37 < (x0.Links.length : Int))) = true then ((idx x0.Links s37).bind fun x55 => ((idx x1.Links s37).bind fun x62 => (if (!((((x55.A.Tag : Int) == x62.A.Tag) && (((x55.A.At : Int) == x62.A.At) && true)) && ((((x55.B.Tag : Int) == x62.B.Tag) && (((x55.B.At : Int) == x62.B.At) && true)) && true))) = true then some (.ret false) else some (.next (w64 (s37 + 1)))))) else some (.brk ()))
def m_spec_l24SameWorker_j2 (fuel : Nat) (x0 : D.Worker) (x1 : D.Worker) (t27 : Unit) : Option Bool := ((iter (m_spec_l24SameWorker_b2 fuel x0 x1) fuel 0).bind fun o => aft o (m_spec_l24SameWorker_j3 fuel))
def m_spec_l24SameWorker_b1 (fuel : Nat) (x0 : D.Worker) (x1 : D.Worker) (s26 : Int) : Option (Rd (Int) (Unit) (Bool)) := (if (decide (s26 < (x0.Redexes.length : Int))) = true then ((idx x0.Redexes s26).bind fun x76 => ((idx x1.Redexes s26).bind fun x83 => (if (!(((x76.A : Int) == x83.A) && (((x76.B : Int) == x83.B) && true))) = true then some (.ret false) else some (.next (w64 (s26 + 1)))))) else some (.brk ()))
def m_spec_l24SameWorker_j1 (fuel : Nat) (x0 : D.Worker) (x1 : D.Worker) (t21 : Bool) : Option Bool := (if t21 = true then some false else ((iter (m_spec_l24SameWorker_b1 fuel x0 x1) fuel 0).bind fun o => aft o (m_spec_l24SameWorker_j2 fuel x0 x1)))
def m_spec_l24SameWorker (fuel : Nat) (x0 : D.Worker) (x1 : D.Worker) : Option (Bool) := (if (x0.Phase != x1.Phase) = true then m_spec_l24SameWorker_j1 fuel x0 x1 true else (if (x0.Victim != x1.Victim) = true then m_spec_l24SameWorker_j1 fuel x0 x1 true else ((m_spec_l00Same fuel x0.Counts x1.Counts).bind fun r94 => (if (!r94) = true then m_spec_l24SameWorker_j1 fuel x0 x1 true else (if ((x0.Redexes.length : Int) != (x1.Redexes.length : Int)) = true then m_spec_l24SameWorker_j1 fuel x0 x1 true else m_spec_l24SameWorker_j1 fuel x0 x1 ((x0.Links.length : Int) != (x1.Links.length : Int)))))))

set_option maxRecDepth 100000 in
theorem spec_l24SameWorker_ok {w : World} {p0_ : Addr} {c0_ : List Value} {x0 : D.Worker} {p1_ : Addr} {c1_ : List Value} {x1 : D.Worker} (h0_ : ty152.ro w c0_ x0) (g0_ : At w p0_ c0_) (h1_ : ty152.ro w c1_ x1) (g1_ : At w p1_ c1_) {fuel : Nat} {r : Bool} (hm : m_spec_l24SameWorker fuel x0 x1 = some r) :
    Calls Try.prog 137 ⟨[.pointer (some p0_), .pointer (some p1_)]⟩ w (Ret fun v w8 => v = .bool r ∧ St w w8 []) := by
  obtain ⟨A1, k2, A4, k5, A7, k8, e10, h3, h6, h9⟩ := ty152_open h0_; subst e10
  obtain ⟨A11, k12, A14, k15, A17, k18, e20, h13, h16, h19⟩ := ty152_open h1_; subst e20
  refine Calls.into Try.func137 rfl 113 rfl rfl _ rfl ?_
  unfold m_spec_l24SameWorker at hm
  have hS := St.start w
  refine WP.seq ?_
  refine WP.region ?_
  refine RW.run ttok 1 rfl ?_
  refine RW.nil ?_
  refine WP.seq ?_
  refine WP.seq ?_
  refine WP.cut (fun (t21 : Bool) F w9 => m_spec_l24SameWorker_j1 fuel x0 x1 t21 = some r ∧ Ext w w9 ∧ St w w9 [] ∧ F = [(0, .pointer (some p0_)), (1, .pointer (some p1_)), (64, .bool t21)]) ?_ ?_
  · skip
    rintro t21 F w24 ⟨hm, hE22, hS23, rfl⟩
    unfold m_spec_l24SameWorker_j1 at hm
    refine WP.cond t21 rfl (fun hc => ?_) (fun hc => ?_)
    · skip
      rw [if_pos hc] at hm
      refine WP.seq ?_
      refine WP.region ?_
      refine RW.run ttok 1 rfl ?_
      refine RW.nil ?_
      refine WP.ret ?_
      cases hm
      exact ⟨_, .cons (.tmp rfl) .nil, rfl, (hS23.taken 0)⟩
    · skip
      rw [if_neg (not_t hc)] at hm
      refine WP.skip ?_
      refine WP.seq ?_
      refine WP.seq ?_
      refine WP.region ?_
      refine RW.run ttok 1 rfl ?_
      refine RW.nil ?_
      obtain ⟨o33, hl34, hm⟩ := bind_some hm
      refine WP.cut (fun (t27 : Unit) F w9 => o33 = .inl t27 ∧ Ext w24 w9 ∧ St w w9 [] ∧ F = [(0, .pointer (some p0_)), (1, .pointer (some p1_))]) ?_ ?_
      · skip
        rintro t27 F w32 ⟨ho36, hE31, hS35, rfl⟩
        subst ho36
        rw [aft_inl] at hm
        unfold m_spec_l24SameWorker_j2 at hm
        refine WP.seq ?_
        refine WP.seq ?_
        refine WP.region ?_
        refine RW.run ttok 1 rfl ?_
        refine RW.nil ?_
        obtain ⟨o44, hl45, hm⟩ := bind_some hm
        refine WP.cut (fun (t38 : Unit) F w9 => o44 = .inl t38 ∧ Ext w32 w9 ∧ St w w9 [] ∧ F = []) ?_ ?_
        · skip
          rintro t38 F w43 ⟨ho47, hE42, hS46, rfl⟩
          subst ho47
          rw [aft_inl] at hm
          unfold m_spec_l24SameWorker_j3 at hm
          refine WP.seq ?_
          refine WP.region ?_
          refine RW.run ttok 1 rfl ?_
          refine RW.nil ?_
          refine WP.ret ?_
          cases hm
          exact ⟨_, .cons (.tmp rfl) .nil, rfl, (hS46.taken 0)⟩
        · skip
          refine WP.block ?_
          refine WP.weak [(0, .pointer (some p0_)), (1, .pointer (some p1_)), (6, .int .i64 0)] ⟨rfl, rfl, rfl, trivial⟩ ?_
          refine WP.iter (fun (s37 : Int) F w9 => Ext w32 w9 ∧ St w w9 [] ∧ F = [(0, .pointer (some p0_)), (1, .pointer (some p1_)), (6, .int .i64 s37)]) _ hl45 ⟨(Ext.refl _), (hS35.taken 0), rfl⟩ ?_
          rintro s37 F w52 _ o50 ⟨hE41, hS51, rfl⟩ hb48 ho49
          unfold m_spec_l24SameWorker_b2 at hb48
          refine WP.seq ?_
          refine WP.seq ?_
          refine WP.region ?_
          refine RW.run ttok 4 rfl ?_
          refine RW.load1 ttok rfl rfl rfl rfl rfl (At.ext hS51.ext g0_) 3 rfl rfl rfl rfl ?_
          refine RW.run ttok 2 rfl ?_
          refine RW.nil ?_
          refine WP.cond (decide (s37 < (x0.Links.length : Int))) rfl (fun hc => ?_) (fun hc => ?_)
          · skip
            rw [if_pos hc] at hb48
            refine WP.skip ?_
            refine WP.seq ?_
            refine WP.block ?_
            refine WP.seq ?_
            refine WP.drawnM 0 mixed 15 (by kernel_rfl) (by kernel_rfl) [([], 32767), ([0], 32766), ([1], 32765), ([2], 32763), ([], 32767), ([3, 4], 32743), ([5], 32735), ([], 32767), ([7], 32639), ([8], 32511), ([9], 32255), ([], 32767), ([10, 11], 29695), ([12], 28671), ([6, 13], 24511)] (by kernel_rfl) (fun hsk53 => ?_)
            have hS54 := hS51.step (Ext.draw _)
            refine DM.run (fuel := 7) ttok hsk53 [0, 1, 2, 4, 7, 8, 9, 11] 2967 (by kernel_rfl) (by kernel_rfl) rfl ?_
            refine DM.weak [(0, .pointer (some p0_)), (1, .pointer (some p1_)), (6, .int .i64 s37), (100, .pointer (some (p0_.add 3))), (102, .int .i64 s37), (107, .pointer (some (p1_.add 3))), (109, .int .i64 s37)] ⟨rfl, rfl, rfl, rfl, rfl, rfl, rfl, trivial⟩ ?_
            refine DM.load1 ttok hsk53 3 2975 (by kernel_rfl) (by kernel_rfl) (by kernel_rfl) (by kernel_rfl) rfl (by kernel_rfl) rfl rfl rfl rfl rfl (At.ext hS51.ext g0_) 3 rfl rfl rfl rfl ?_
            obtain ⟨x55, hx56, hb48⟩ := bind_some hb48
            refine DM.idx ttok hS51.ext hsk53 5 3007 (by kernel_rfl) (by kernel_rfl) (by kernel_rfl) (by kernel_rfl) rfl (by kernel_rfl) rfl rfl rfl rfl rfl rfl (by decide) rfl rfl h6 (idx_some hx56).1 (idx_some hx56).2 rfl rfl (fun p57 es58 ha59 hr60 => ?_)
            have e61 := ty158_open hr60; subst e61
            refine DM.loadN ttok hsk53 6 3071 (by kernel_rfl) (by kernel_rfl) (by kernel_rfl) (by kernel_rfl) rfl (by kernel_rfl) rfl rfl rfl rfl rfl (At.ext hS51.ext ha59) rfl rfl rfl ?_
            refine DM.load1 ttok hsk53 10 4095 (by kernel_rfl) (by kernel_rfl) (by kernel_rfl) (by kernel_rfl) rfl (by kernel_rfl) rfl rfl rfl rfl rfl (At.ext hS51.ext g1_) 3 rfl rfl rfl rfl ?_
            obtain ⟨x62, hx63, hb48⟩ := bind_some hb48
            refine DM.idx ttok hS51.ext hsk53 12 8191 (by kernel_rfl) (by kernel_rfl) (by kernel_rfl) (by kernel_rfl) rfl (by kernel_rfl) rfl rfl rfl rfl rfl rfl (by decide) rfl rfl h16 (idx_some hx63).1 (idx_some hx63).2 rfl rfl (fun p64 es65 ha66 hr67 => ?_)
            have e68 := ty158_open hr67; subst e68
            refine DM.loadN ttok hsk53 13 16383 (by kernel_rfl) (by kernel_rfl) (by kernel_rfl) (by kernel_rfl) rfl (by kernel_rfl) rfl rfl rfl rfl rfl (At.ext hS51.ext ha66) rfl rfl rfl ?_
            refine DM.run (fuel := 0) ttok hsk53 [14] 32767 (by kernel_rfl) (by kernel_rfl) rfl ?_
            refine DM.weak [(0, .pointer (some p0_)), (1, .pointer (some p1_)), (6, .int .i64 s37), (112, .bool (!((((x55.A.Tag : Int) == x62.A.Tag) && (((x55.A.At : Int) == x62.A.At) && true)) && ((((x55.B.Tag : Int) == x62.B.Tag) && (((x55.B.At : Int) == x62.B.At) && true)) && true))))] ⟨rfl, rfl, rfl, rfl, trivial⟩ ?_
            refine DM.done hsk53 (by kernel_rfl) ?_
            refine WP.cond (!((((x55.A.Tag : Int) == x62.A.Tag) && (((x55.A.At : Int) == x62.A.At) && true)) && ((((x55.B.Tag : Int) == x62.B.Tag) && (((x55.B.At : Int) == x62.B.At) && true)) && true))) rfl (fun hc => ?_) (fun hc => ?_)
            · skip
              rw [if_pos hc] at hb48
              refine WP.seq ?_
              refine WP.region ?_
              refine RW.run ttok 1 rfl ?_
              refine RW.nil ?_
              refine WP.ret ?_
              cases hb48
              cases ho49
              have hm : some _ = some _ := hm
              cases hm
              exact ⟨_, .cons (.tmp rfl) .nil, rfl, (hS54.taken 0)⟩
            · skip
              rw [if_neg (not_t hc)] at hb48
              refine WP.skip ?_
              refine WP.region ?_
              refine RW.run ttok 3 rfl ?_
              refine RW.nil ?_
              cases hb48
              exact ⟨_, [(0, .pointer (some p0_)), (1, .pointer (some p1_)), (6, .int .i64 (w64 (s37 + 1)))], ⟨rfl, rfl, rfl, trivial⟩, rfl, (hE41.trans (Ext.draw _)), (hS54.taken 0), rfl⟩
          · skip
            rw [if_neg (not_t hc)] at hb48
            refine WP.exit ?_
            cases hb48
            exact ⟨_, [], trivial, ho49, hE41, (hS51.taken 0), rfl⟩
      · skip
        refine WP.block ?_
        refine WP.weak [(0, .pointer (some p0_)), (1, .pointer (some p1_)), (5, .int .i64 0)] ⟨rfl, rfl, rfl, trivial⟩ ?_
        refine WP.iter (fun (s26 : Int) F w9 => Ext w24 w9 ∧ St w w9 [] ∧ F = [(0, .pointer (some p0_)), (1, .pointer (some p1_)), (5, .int .i64 s26)]) _ hl34 ⟨(Ext.refl _), (hS23.taken 0), rfl⟩ ?_
        rintro s26 F w73 _ o71 ⟨hE30, hS72, rfl⟩ hb69 ho70
        unfold m_spec_l24SameWorker_b1 at hb69
        refine WP.seq ?_
        refine WP.seq ?_
        refine WP.region ?_
        refine RW.run ttok 4 rfl ?_
        refine RW.load1 ttok rfl rfl rfl rfl rfl (At.ext hS72.ext g0_) 2 rfl rfl rfl rfl ?_
        refine RW.run ttok 2 rfl ?_
        refine RW.nil ?_
        refine WP.cond (decide (s26 < (x0.Redexes.length : Int))) rfl (fun hc => ?_) (fun hc => ?_)
        · skip
          rw [if_pos hc] at hb69
          refine WP.skip ?_
          refine WP.seq ?_
          refine WP.block ?_
          refine WP.seq ?_
          refine WP.drawnM 0 mixed 15 (by kernel_rfl) (by kernel_rfl) [([], 32767), ([0], 32766), ([1], 32765), ([2], 32763), ([], 32767), ([3, 4], 32743), ([5], 32735), ([], 32767), ([7], 32639), ([8], 32511), ([9], 32255), ([], 32767), ([10, 11], 29695), ([12], 28671), ([6, 13], 24511)] (by kernel_rfl) (fun hsk74 => ?_)
          have hS75 := hS72.step (Ext.draw _)
          refine DM.run (fuel := 7) ttok hsk74 [0, 1, 2, 4, 7, 8, 9, 11] 2967 (by kernel_rfl) (by kernel_rfl) rfl ?_
          refine DM.weak [(0, .pointer (some p0_)), (1, .pointer (some p1_)), (5, .int .i64 s26), (76, .pointer (some (p0_.add 2))), (78, .int .i64 s26), (83, .pointer (some (p1_.add 2))), (85, .int .i64 s26)] ⟨rfl, rfl, rfl, rfl, rfl, rfl, rfl, trivial⟩ ?_
          refine DM.load1 ttok hsk74 3 2975 (by kernel_rfl) (by kernel_rfl) (by kernel_rfl) (by kernel_rfl) rfl (by kernel_rfl) rfl rfl rfl rfl rfl (At.ext hS72.ext g0_) 2 rfl rfl rfl rfl ?_
          obtain ⟨x76, hx77, hb69⟩ := bind_some hb69
          refine DM.idx ttok hS72.ext hsk74 5 3007 (by kernel_rfl) (by kernel_rfl) (by kernel_rfl) (by kernel_rfl) rfl (by kernel_rfl) rfl rfl rfl rfl rfl rfl (by decide) rfl rfl h3 (idx_some hx77).1 (idx_some hx77).2 rfl rfl (fun p78 es79 ha80 hr81 => ?_)
          have e82 := ty155_open hr81; subst e82
          refine DM.loadN ttok hsk74 6 3071 (by kernel_rfl) (by kernel_rfl) (by kernel_rfl) (by kernel_rfl) rfl (by kernel_rfl) rfl rfl rfl rfl rfl (At.ext hS72.ext ha80) rfl rfl rfl ?_
          refine DM.load1 ttok hsk74 10 4095 (by kernel_rfl) (by kernel_rfl) (by kernel_rfl) (by kernel_rfl) rfl (by kernel_rfl) rfl rfl rfl rfl rfl (At.ext hS72.ext g1_) 2 rfl rfl rfl rfl ?_
          obtain ⟨x83, hx84, hb69⟩ := bind_some hb69
          refine DM.idx ttok hS72.ext hsk74 12 8191 (by kernel_rfl) (by kernel_rfl) (by kernel_rfl) (by kernel_rfl) rfl (by kernel_rfl) rfl rfl rfl rfl rfl rfl (by decide) rfl rfl h13 (idx_some hx84).1 (idx_some hx84).2 rfl rfl (fun p85 es86 ha87 hr88 => ?_)
          have e89 := ty155_open hr88; subst e89
          refine DM.loadN ttok hsk74 13 16383 (by kernel_rfl) (by kernel_rfl) (by kernel_rfl) (by kernel_rfl) rfl (by kernel_rfl) rfl rfl rfl rfl rfl (At.ext hS72.ext ha87) rfl rfl rfl ?_
          refine DM.run (fuel := 0) ttok hsk74 [14] 32767 (by kernel_rfl) (by kernel_rfl) rfl ?_
          refine DM.weak [(0, .pointer (some p0_)), (1, .pointer (some p1_)), (5, .int .i64 s26), (88, .bool (!(((x76.A : Int) == x83.A) && (((x76.B : Int) == x83.B) && true))))] ⟨rfl, rfl, rfl, rfl, trivial⟩ ?_
          refine DM.done hsk74 (by kernel_rfl) ?_
          refine WP.cond (!(((x76.A : Int) == x83.A) && (((x76.B : Int) == x83.B) && true))) rfl (fun hc => ?_) (fun hc => ?_)
          · skip
            rw [if_pos hc] at hb69
            refine WP.seq ?_
            refine WP.region ?_
            refine RW.run ttok 1 rfl ?_
            refine RW.nil ?_
            refine WP.ret ?_
            cases hb69
            cases ho70
            have hm : some _ = some _ := hm
            cases hm
            exact ⟨_, .cons (.tmp rfl) .nil, rfl, (hS75.taken 0)⟩
          · skip
            rw [if_neg (not_t hc)] at hb69
            refine WP.skip ?_
            refine WP.region ?_
            refine RW.run ttok 3 rfl ?_
            refine RW.nil ?_
            cases hb69
            exact ⟨_, [(0, .pointer (some p0_)), (1, .pointer (some p1_)), (5, .int .i64 (w64 (s26 + 1)))], ⟨rfl, rfl, rfl, trivial⟩, rfl, (hE30.trans (Ext.draw _)), (hS75.taken 0), rfl⟩
        · skip
          rw [if_neg (not_t hc)] at hb69
          refine WP.exit ?_
          cases hb69
          exact ⟨_, [(0, .pointer (some p0_)), (1, .pointer (some p1_))], ⟨rfl, rfl, trivial⟩, ho70, hE30, (hS72.taken 0), rfl⟩
  · skip
    refine WP.drawnM 0 mixed 58 (by kernel_rfl) (by kernel_rfl) [([], 288230376151711743), ([0], 288230376151711742), ([1], 288230376151711741), ([2], 288230376151711739), ([], 288230376151711743), ([4], 288230376151711727), ([5], 288230376151711711), ([6], 288230376151711679), ([3, 7], 288230376151711607), ([8], 288230376151711487), ([9], 288230376151711231), ([10, 9], 288230376151710207), ([11, 9], 288230376151709183), ([12, 9], 288230376151707135), ([9], 288230376151711231), ([14, 9], 288230376151694847), ([15, 9], 288230376151678463), ([16, 9], 288230376151645695), ([13, 17, 9], 288230376151571967), ([9, 18], 288230376151449087), ([19, 9], 288230376151187455), ([20], 288230376150663167), ([21, 20], 288230376148566015), ([22, 20], 288230376146468863), ([23, 20], 288230376142274559), ([20], 288230376150663167), ([25, 20], 288230376117108735), ([26, 20], 288230376083554303), ([27, 20], 288230376016445439), ([24, 28, 20, 20], 288230375865450495), ([29, 20], 288230375613792255), ([20, 30], 288230375076921343), ([31, 29], 288230374004228095), ([32], 288230371856744447), ([33, 32], 288230363266809855), ([34, 32], 288230354676875263), ([35, 32], 288230337497006079), ([36, 32], 288230303137267711), ([32], 288230371856744447), ([38, 32], 288230096978837503), ([39, 32], 288229822100930559), ([40, 32], 288229272345116671), ([41, 32], 288228172833488895), ([37, 42, 32], 288225836371279871), ([32, 43], 288221575763722239), ([44, 32], 288212783965667327), ([45], 288195191779622911), ([46, 45], 288124823035445247), ([47, 45], 288054454291267583), ([48, 45], 287913716802912255), ([49, 45], 287632241826201599), ([45], 288195191779622911), ([51, 45], 285943391965937663), ([52, 45], 283691592152252415), ([53, 45], 279187992524881919), ([54, 45], 270180793270140927), ([50, 55, 45], 251040494853816319), ([45, 56], 216137597741694975)] (by kernel_rfl) (fun hsk90 => ?_)
    have hS91 := hS.step (Ext.draw _)
    refine DM.run (fuel := 52) ttok hsk90 [0, 1, 2, 4, 5, 6] 119 (by kernel_rfl) (by kernel_rfl) rfl ?_
    refine DM.load1 ttok hsk90 3 127 (by kernel_rfl) (by kernel_rfl) (by kernel_rfl) (by kernel_rfl) rfl (by kernel_rfl) rfl rfl rfl rfl rfl (At.ext hS.ext g0_) 0 rfl rfl rfl rfl ?_
    refine DM.load1 ttok hsk90 7 255 (by kernel_rfl) (by kernel_rfl) (by kernel_rfl) (by kernel_rfl) rfl (by kernel_rfl) rfl rfl rfl rfl rfl (At.ext hS.ext g1_) 0 rfl rfl rfl rfl ?_
    refine DM.run (fuel := 48) ttok hsk90 [8, 9] 1023 (by kernel_rfl) (by kernel_rfl) rfl ?_
    refine DM.weak [(0, .pointer (some p0_)), (1, .pointer (some p1_)), (16, .bool (x0.Phase != x1.Phase))] ⟨rfl, rfl, rfl, trivial⟩ ?_
    by_cases hg92 : (x0.Phase != x1.Phase) = true
    · skip
      rw [if_pos hg92] at hm
      refine DM.know 16 rfl (congrArg Value.bool hg92) ?_
      refine DM.run (fuel := 0) ttok hsk90 [10, 11, 12, 13, 14, 15, 16, 17, 18, 19, 20, 21, 22, 23, 24, 25, 26, 27, 28, 29, 30, 31, 32, 33, 34, 35, 36, 37, 38, 39, 40, 41, 42, 43, 44, 45, 46, 47, 48, 49, 50, 51, 52, 53, 54, 55, 56, 57] 288230376151711743 (by kernel_rfl) (by kernel_rfl) rfl ?_
      refine DM.weak [(0, .pointer (some p0_)), (1, .pointer (some p1_)), (64, .bool true)] ⟨rfl, rfl, rfl, trivial⟩ ?_
      refine DM.done hsk90 (by kernel_rfl) ?_
      exact ⟨true, [(0, .pointer (some p0_)), (1, .pointer (some p1_)), (64, .bool true)], ⟨rfl, rfl, rfl, trivial⟩, hm, (Ext.draw _), (hS91.taken 0), rfl⟩
    · skip
      rw [if_neg hg92] at hm
      refine DM.know 16 rfl (congrArg Value.bool (Bool.eq_false_iff.2 hg92)) ?_
      refine DM.run (fuel := 42) ttok hsk90 [10, 11, 12, 14, 15, 16] 122879 (by kernel_rfl) (by kernel_rfl) rfl ?_
      refine DM.load1 ttok hsk90 13 131071 (by kernel_rfl) (by kernel_rfl) (by kernel_rfl) (by kernel_rfl) rfl (by kernel_rfl) rfl rfl rfl rfl rfl (At.ext hS.ext g0_) 1 rfl rfl rfl rfl ?_
      refine DM.load1 ttok hsk90 17 262143 (by kernel_rfl) (by kernel_rfl) (by kernel_rfl) (by kernel_rfl) rfl (by kernel_rfl) rfl rfl rfl rfl rfl (At.ext hS.ext g1_) 1 rfl rfl rfl rfl ?_
      refine DM.run (fuel := 37) ttok hsk90 [18, 19, 20] 2097151 (by kernel_rfl) (by kernel_rfl) rfl ?_
      refine DM.weak [(0, .pointer (some p0_)), (1, .pointer (some p1_)), (27, .bool (x0.Victim != x1.Victim))] ⟨rfl, rfl, rfl, trivial⟩ ?_
      by_cases hg93 : (x0.Victim != x1.Victim) = true
      · skip
        rw [if_pos hg93] at hm
        refine DM.know 27 rfl (congrArg Value.bool hg93) ?_
        refine DM.run (fuel := 0) ttok hsk90 [21, 22, 23, 24, 25, 26, 27, 28, 29, 30, 31, 32, 33, 34, 35, 36, 37, 38, 39, 40, 41, 42, 43, 44, 45, 46, 47, 48, 49, 50, 51, 52, 53, 54, 55, 56, 57] 288230376151711743 (by kernel_rfl) (by kernel_rfl) rfl ?_
        refine DM.weak [(0, .pointer (some p0_)), (1, .pointer (some p1_)), (64, .bool true)] ⟨rfl, rfl, rfl, trivial⟩ ?_
        refine DM.done hsk90 (by kernel_rfl) ?_
        exact ⟨true, [(0, .pointer (some p0_)), (1, .pointer (some p1_)), (64, .bool true)], ⟨rfl, rfl, rfl, trivial⟩, hm, (Ext.draw _), (hS91.taken 0), rfl⟩
      · skip
        rw [if_neg hg93] at hm
        refine DM.know 27 rfl (congrArg Value.bool (Bool.eq_false_iff.2 hg93)) ?_
        refine DM.run (fuel := 31) ttok hsk90 [21, 22, 23, 25, 26, 27] 251658239 (by kernel_rfl) (by kernel_rfl) rfl ?_
        refine DM.load1 ttok hsk90 24 268435455 (by kernel_rfl) (by kernel_rfl) (by kernel_rfl) (by kernel_rfl) rfl (by kernel_rfl) rfl rfl rfl rfl rfl (At.ext hS.ext g0_) 4 rfl rfl rfl rfl ?_
        refine DM.load1 ttok hsk90 28 536870911 (by kernel_rfl) (by kernel_rfl) (by kernel_rfl) (by kernel_rfl) rfl (by kernel_rfl) rfl rfl rfl rfl rfl (At.ext hS.ext g1_) 4 rfl rfl rfl rfl ?_
        obtain ⟨r94, hx95, hm⟩ := bind_some hm
        refine DM.one hsk90 29 (by kernel_rfl) (LM.call hsk90 1073741823 (by kernel_rfl) (by kernel_rfl) rfl rfl rfl rfl enters86 (spec_l00Same_ok (ty72.ext hS91.ext h9) (ty72.ext hS91.ext h19) hx95) (fun v96 w97 hR98 => ?_))
        obtain ⟨rfl, hR99⟩ := hR98
        refine ⟨hR99.ext, ?_⟩
        have hS100 := hS91.join hR99
        refine DM.run (fuel := 25) ttok hsk90 [30, 31, 32] 8589934591 (by kernel_rfl) (by kernel_rfl) rfl ?_
        refine DM.weak [(0, .pointer (some p0_)), (1, .pointer (some p1_)), (39, .bool (!r94))] ⟨rfl, rfl, rfl, trivial⟩ ?_
        by_cases hg101 : (!r94) = true
        · skip
          rw [if_pos hg101] at hm
          refine DM.know 39 rfl (congrArg Value.bool hg101) ?_
          refine DM.run (fuel := 0) ttok hsk90 [33, 34, 35, 36, 37, 38, 39, 40, 41, 42, 43, 44, 45, 46, 47, 48, 49, 50, 51, 52, 53, 54, 55, 56, 57] 288230376151711743 (by kernel_rfl) (by kernel_rfl) rfl ?_
          refine DM.weak [(0, .pointer (some p0_)), (1, .pointer (some p1_)), (64, .bool true)] ⟨rfl, rfl, rfl, trivial⟩ ?_
          refine DM.done hsk90 (by kernel_rfl) ?_
          exact ⟨true, [(0, .pointer (some p0_)), (1, .pointer (some p1_)), (64, .bool true)], ⟨rfl, rfl, rfl, trivial⟩, hm, ((Ext.draw _).trans hR99.ext), (hS100.taken 0), rfl⟩
        · skip
          rw [if_neg hg101] at hm
          refine DM.know 39 rfl (congrArg Value.bool (Bool.eq_false_iff.2 hg101)) ?_
          refine DM.run (fuel := 19) ttok hsk90 [33, 34, 35, 38, 39, 40] 1992864825343 (by kernel_rfl) (by kernel_rfl) rfl ?_
          refine DM.load1 ttok hsk90 36 2061584302079 (by kernel_rfl) (by kernel_rfl) (by kernel_rfl) (by kernel_rfl) rfl (by kernel_rfl) rfl rfl rfl rfl rfl (At.ext hS.ext g0_) 2 rfl rfl rfl rfl ?_
          refine DM.run (fuel := 17) ttok hsk90 [37] 2199023255551 (by kernel_rfl) (by kernel_rfl) rfl ?_
          refine DM.weak [(0, .pointer (some p0_)), (1, .pointer (some p1_)), (39, .bool false), (44, .int .i64 (x0.Redexes.length : Int)), (47, .pointer (some (p1_.add 2)))] ⟨rfl, rfl, rfl, rfl, rfl, trivial⟩ ?_
          refine DM.load1 ttok hsk90 41 4398046511103 (by kernel_rfl) (by kernel_rfl) (by kernel_rfl) (by kernel_rfl) rfl (by kernel_rfl) rfl rfl rfl rfl rfl (At.ext hS.ext g1_) 2 rfl rfl rfl rfl ?_
          refine DM.run (fuel := 12) ttok hsk90 [42, 43, 44, 45] 70368744177663 (by kernel_rfl) (by kernel_rfl) rfl ?_
          refine DM.weak [(0, .pointer (some p0_)), (1, .pointer (some p1_)), (52, .bool ((x0.Redexes.length : Int) != (x1.Redexes.length : Int)))] ⟨rfl, rfl, rfl, trivial⟩ ?_
          by_cases hg102 : ((x0.Redexes.length : Int) != (x1.Redexes.length : Int)) = true
          · skip
            rw [if_pos hg102] at hm
            refine DM.know 52 rfl (congrArg Value.bool hg102) ?_
            refine DM.run (fuel := 0) ttok hsk90 [46, 47, 48, 49, 50, 51, 52, 53, 54, 55, 56, 57] 288230376151711743 (by kernel_rfl) (by kernel_rfl) rfl ?_
            refine DM.weak [(0, .pointer (some p0_)), (1, .pointer (some p1_)), (64, .bool true)] ⟨rfl, rfl, rfl, trivial⟩ ?_
            refine DM.done hsk90 (by kernel_rfl) ?_
            exact ⟨true, [(0, .pointer (some p0_)), (1, .pointer (some p1_)), (64, .bool true)], ⟨rfl, rfl, rfl, trivial⟩, hm, ((Ext.draw _).trans hR99.ext), (hS100.taken 0), rfl⟩
          · skip
            rw [if_neg hg102] at hm
            refine DM.know 52 rfl (congrArg Value.bool (Bool.eq_false_iff.2 hg102)) ?_
            refine DM.run (fuel := 6) ttok hsk90 [46, 47, 48, 51, 52, 53] 16325548649218047 (by kernel_rfl) (by kernel_rfl) rfl ?_
            refine DM.load1 ttok hsk90 49 16888498602639359 (by kernel_rfl) (by kernel_rfl) (by kernel_rfl) (by kernel_rfl) rfl (by kernel_rfl) rfl rfl rfl rfl rfl (At.ext hS.ext g0_) 3 rfl rfl rfl rfl ?_
            refine DM.run (fuel := 4) ttok hsk90 [50] 18014398509481983 (by kernel_rfl) (by kernel_rfl) rfl ?_
            refine DM.weak [(0, .pointer (some p0_)), (1, .pointer (some p1_)), (52, .bool false), (57, .int .i64 (x0.Links.length : Int)), (60, .pointer (some (p1_.add 3)))] ⟨rfl, rfl, rfl, rfl, rfl, trivial⟩ ?_
            refine DM.load1 ttok hsk90 54 36028797018963967 (by kernel_rfl) (by kernel_rfl) (by kernel_rfl) (by kernel_rfl) rfl (by kernel_rfl) rfl rfl rfl rfl rfl (At.ext hS.ext g1_) 3 rfl rfl rfl rfl ?_
            refine DM.run (fuel := 0) ttok hsk90 [55, 56, 57] 288230376151711743 (by kernel_rfl) (by kernel_rfl) rfl ?_
            refine DM.weak [(0, .pointer (some p0_)), (1, .pointer (some p1_)), (64, .bool ((x0.Links.length : Int) != (x1.Links.length : Int)))] ⟨rfl, rfl, rfl, trivial⟩ ?_
            refine DM.done hsk90 (by kernel_rfl) ?_
            exact ⟨((x0.Links.length : Int) != (x1.Links.length : Int)), [(0, .pointer (some p0_)), (1, .pointer (some p1_)), (64, .bool ((x0.Links.length : Int) != (x1.Links.length : Int)))], ⟨rfl, rfl, rfl, trivial⟩, hm, ((Ext.draw _).trans hR99.ext), (hS100.taken 0), rfl⟩

theorem enters70 : Enters Try.prog 70 := ⟨_, _, Try.func70, rfl, by kernel_rfl⟩
def m_spec_l24Same_j2 (fuel : Nat) (t27 : Unit) : Option Bool := some true
def m_spec_l24Same_b1 (fuel : Nat) (x0 : D.Pool) (x1 : D.Pool) (s26 : Int) : Option (Rd (Int) (Unit) (Bool)) := (if (decide (s26 < (x0.Workers.length : Int))) = true then ((idx x0.Workers s26).bind fun x44 => ((idx x1.Workers s26).bind fun x60 => ((m_spec_l24SameWorker fuel x44 x60).bind fun r76 => (if (!r76) = true then some (.ret false) else some (.next (w64 (s26 + 1))))))) else some (.brk ()))
def m_spec_l24Same_j1 (fuel : Nat) (x0 : D.Pool) (x1 : D.Pool) (t21 : Bool) : Option Bool := (if t21 = true then some false else ((iter (m_spec_l24Same_b1 fuel x0 x1) fuel 0).bind fun o => aft o (m_spec_l24Same_j2 fuel)))
def m_spec_l24Same (fuel : Nat) (x0 : D.Pool) (x1 : D.Pool) : Option (Bool) := (if (x0.Active != x1.Active) = true then m_spec_l24Same_j1 fuel x0 x1 true else (if ((x0.Workers.length : Int) != (x1.Workers.length : Int)) = true then m_spec_l24Same_j1 fuel x0 x1 true else ((m_spec_l21Same fuel (⟨x0.Memory.Cells, x0.Memory.Free, (⟨x0.Memory.Root.Tag, x0.Memory.Root.At⟩ : D.Word), x0.Memory.Redexes⟩ : D.Memory) (⟨x1.Memory.Cells, x1.Memory.Free, (⟨x1.Memory.Root.Tag, x1.Memory.Root.At⟩ : D.Word), x1.Memory.Redexes⟩ : D.Memory)).bind fun r87 => m_spec_l24Same_j1 fuel x0 x1 (!r87))))

set_option maxRecDepth 100000 in
theorem spec_l24Same_ok {w : World} {p0_ : Addr} {c0_ : List Value} {x0 : D.Pool} {p1_ : Addr} {c1_ : List Value} {x1 : D.Pool} (h0_ : ty67.ro w c0_ x0) (g0_ : At w p0_ c0_) (h1_ : ty67.ro w c1_ x1) (g1_ : At w p1_ c1_) {fuel : Nat} {r : Bool} (hm : m_spec_l24Same fuel x0 x1 = some r) :
    Calls Try.prog 70 ⟨[.pointer (some p0_), .pointer (some p1_)]⟩ w (Ret fun v w8 => v = .bool r ∧ St w w8 []) := by
  obtain ⟨A1, k2, A4, k5, A7, k8, e10, h3, h6, h9⟩ := ty67_open h0_; subst e10
  obtain ⟨A11, k12, A14, k15, A17, k18, e20, h13, h16, h19⟩ := ty67_open h1_; subst e20
  refine Calls.into Try.func70 rfl 61 rfl rfl _ rfl ?_
  unfold m_spec_l24Same at hm
  have hS := St.start w
  refine WP.seq ?_
  refine WP.region ?_
  refine RW.run ttok 1 rfl ?_
  refine RW.nil ?_
  refine WP.seq ?_
  refine WP.seq ?_
  refine WP.cut (fun (t21 : Bool) F w9 => m_spec_l24Same_j1 fuel x0 x1 t21 = some r ∧ Ext w w9 ∧ St w w9 [] ∧ F = [(0, .pointer (some p0_)), (1, .pointer (some p1_)), (37, .bool t21)]) ?_ ?_
  · skip
    rintro t21 F w24 ⟨hm, hE22, hS23, rfl⟩
    unfold m_spec_l24Same_j1 at hm
    refine WP.cond t21 rfl (fun hc => ?_) (fun hc => ?_)
    · skip
      rw [if_pos hc] at hm
      refine WP.seq ?_
      refine WP.region ?_
      refine RW.run ttok 1 rfl ?_
      refine RW.nil ?_
      refine WP.ret ?_
      cases hm
      exact ⟨_, .cons (.tmp rfl) .nil, rfl, (hS23.taken 0)⟩
    · skip
      rw [if_neg (not_t hc)] at hm
      refine WP.skip ?_
      refine WP.seq ?_
      refine WP.seq ?_
      refine WP.region ?_
      refine RW.run ttok 1 rfl ?_
      refine RW.nil ?_
      obtain ⟨o33, hl34, hm⟩ := bind_some hm
      refine WP.cut (fun (t27 : Unit) F w9 => o33 = .inl t27 ∧ Ext w24 w9 ∧ St w w9 [] ∧ F = []) ?_ ?_
      · skip
        rintro t27 F w32 ⟨ho36, hE31, hS35, rfl⟩
        subst ho36
        rw [aft_inl] at hm
        unfold m_spec_l24Same_j2 at hm
        refine WP.seq ?_
        refine WP.region ?_
        refine RW.run ttok 1 rfl ?_
        refine RW.nil ?_
        refine WP.ret ?_
        cases hm
        exact ⟨_, .cons (.tmp rfl) .nil, rfl, (hS35.taken 0)⟩
      · skip
        refine WP.block ?_
        refine WP.weak [(0, .pointer (some p0_)), (1, .pointer (some p1_)), (5, .int .i64 0)] ⟨rfl, rfl, rfl, trivial⟩ ?_
        refine WP.iter (fun (s26 : Int) F w9 => Ext w24 w9 ∧ St w w9 [] ∧ F = [(0, .pointer (some p0_)), (1, .pointer (some p1_)), (5, .int .i64 s26)]) _ hl34 ⟨(Ext.refl _), (hS23.taken 0), rfl⟩ ?_
        rintro s26 F w41 _ o39 ⟨hE30, hS40, rfl⟩ hb37 ho38
        unfold m_spec_l24Same_b1 at hb37
        refine WP.seq ?_
        refine WP.seq ?_
        refine WP.region ?_
        refine RW.run ttok 4 rfl ?_
        refine RW.load1 ttok rfl rfl rfl rfl rfl (At.ext hS40.ext g0_) 5 rfl rfl rfl rfl ?_
        refine RW.run ttok 2 rfl ?_
        refine RW.nil ?_
        refine WP.cond (decide (s26 < (x0.Workers.length : Int))) rfl (fun hc => ?_) (fun hc => ?_)
        · skip
          rw [if_pos hc] at hb37
          refine WP.skip ?_
          refine WP.seq ?_
          refine WP.block ?_
          refine WP.seq ?_
          refine WP.drawnM 0 mixed 14 (by kernel_rfl) (by kernel_rfl) [([], 16383), ([0], 16382), ([1], 16381), ([2], 16379), ([], 16383), ([3, 4], 16359), ([], 16383), ([6], 16319), ([7], 16255), ([8], 16127), ([], 16383), ([9, 10], 14847), ([5, 11], 14303), ([12], 12287)] (by kernel_rfl) (fun hsk42 => ?_)
          have hS43 := hS40.step (Ext.draw _)
          refine DM.run (fuel := 6) ttok hsk42 [0, 1, 2, 4, 6, 7, 8, 10] 1495 (by kernel_rfl) (by kernel_rfl) rfl ?_
          refine DM.weak [(0, .pointer (some p0_)), (1, .pointer (some p1_)), (5, .int .i64 s26), (49, .pointer (some (p0_.add 5))), (51, .int .i64 s26), (55, .pointer (some (p1_.add 5))), (57, .int .i64 s26)] ⟨rfl, rfl, rfl, rfl, rfl, rfl, rfl, trivial⟩ ?_
          refine DM.load1 ttok hsk42 3 1503 (by kernel_rfl) (by kernel_rfl) (by kernel_rfl) (by kernel_rfl) rfl (by kernel_rfl) rfl rfl rfl rfl rfl (At.ext hS40.ext g0_) 5 rfl rfl rfl rfl ?_
          obtain ⟨x44, hx45, hb37⟩ := bind_some hb37
          refine DM.idx ttok hS40.ext hsk42 5 1535 (by kernel_rfl) (by kernel_rfl) (by kernel_rfl) (by kernel_rfl) rfl (by kernel_rfl) rfl rfl rfl rfl rfl rfl (by decide) rfl rfl h9 (idx_some hx45).1 (idx_some hx45).2 rfl rfl (fun p46 es47 ha48 hr49 => ?_)
          obtain ⟨A50, k51, A53, k54, A56, k57, e59, h52, h55, h58⟩ := ty152_open hr49; subst e59
          refine DM.load1 ttok hsk42 9 2047 (by kernel_rfl) (by kernel_rfl) (by kernel_rfl) (by kernel_rfl) rfl (by kernel_rfl) rfl rfl rfl rfl rfl (At.ext hS40.ext g1_) 5 rfl rfl rfl rfl ?_
          obtain ⟨x60, hx61, hb37⟩ := bind_some hb37
          refine DM.idx ttok hS40.ext hsk42 11 4095 (by kernel_rfl) (by kernel_rfl) (by kernel_rfl) (by kernel_rfl) rfl (by kernel_rfl) rfl rfl rfl rfl rfl rfl (by decide) rfl rfl h19 (idx_some hx61).1 (idx_some hx61).2 rfl rfl (fun p62 es63 ha64 hr65 => ?_)
          obtain ⟨A66, k67, A69, k70, A72, k73, e75, h68, h71, h74⟩ := ty152_open hr65; subst e75
          obtain ⟨r76, hx77, hb37⟩ := bind_some hb37
          refine DM.one hsk42 12 (by kernel_rfl) (LM.call hsk42 8191 (by kernel_rfl) (by kernel_rfl) rfl rfl rfl rfl enters137 (spec_l24SameWorker_ok (ty152.ext hS43.ext hr49) (At.ext hS43.ext ha48) (ty152.ext hS43.ext hr65) (At.ext hS43.ext ha64) hx77) (fun v78 w79 hR80 => ?_))
          obtain ⟨rfl, hR81⟩ := hR80
          refine ⟨hR81.ext, ?_⟩
          have hS82 := hS43.join hR81
          refine DM.run (fuel := 0) ttok hsk42 [13] 16383 (by kernel_rfl) (by kernel_rfl) rfl ?_
          refine DM.weak [(0, .pointer (some p0_)), (1, .pointer (some p1_)), (5, .int .i64 s26), (60, .bool (!r76))] ⟨rfl, rfl, rfl, rfl, trivial⟩ ?_
          refine DM.done hsk42 (by kernel_rfl) ?_
          refine WP.cond (!r76) rfl (fun hc => ?_) (fun hc => ?_)
          · skip
            rw [if_pos hc] at hb37
            refine WP.seq ?_
            refine WP.region ?_
            refine RW.run ttok 1 rfl ?_
            refine RW.nil ?_
            refine WP.ret ?_
            cases hb37
            cases ho38
            have hm : some _ = some _ := hm
            cases hm
            exact ⟨_, .cons (.tmp rfl) .nil, rfl, (hS82.taken 0)⟩
          · skip
            rw [if_neg (not_t hc)] at hb37
            refine WP.skip ?_
            refine WP.region ?_
            refine RW.run ttok 3 rfl ?_
            refine RW.nil ?_
            cases hb37
            exact ⟨_, [(0, .pointer (some p0_)), (1, .pointer (some p1_)), (5, .int .i64 (w64 (s26 + 1)))], ⟨rfl, rfl, rfl, trivial⟩, rfl, ((hE30.trans (Ext.draw _)).trans hR81.ext), (hS82.taken 0), rfl⟩
        · skip
          rw [if_neg (not_t hc)] at hb37
          refine WP.exit ?_
          cases hb37
          exact ⟨_, [], trivial, ho38, hE30, (hS40.taken 0), rfl⟩
  · skip
    refine WP.drawnM 0 mixed 32 (by kernel_rfl) (by kernel_rfl) [([], 4294967295), ([0], 4294967294), ([1], 4294967293), ([2], 4294967291), ([], 4294967295), ([4], 4294967279), ([5], 4294967263), ([6], 4294967231), ([3, 7], 4294967159), ([8], 4294967039), ([9], 4294966783), ([10, 9], 4294965759), ([11, 9], 4294964735), ([12, 9], 4294962687), ([13, 9], 4294958591), ([9], 4294966783), ([15, 9], 4294934015), ([16, 9], 4294901247), ([17, 9], 4294835711), ([18, 9], 4294704639), ([14, 19, 9], 4294426111), ([9, 20], 4293918207), ([21, 9], 4292870143), ([22], 4290772991), ([23, 22], 4282384383), ([24, 22], 4273995775), ([22], 4290772991), ([26, 22], 4223664127), ([27, 22], 4156555263), ([25, 28, 22, 22], 3988783103), ([29, 22], 3753902079), ([22, 30], 3217031167)] (by kernel_rfl) (fun hsk83 => ?_)
    have hS84 := hS.step (Ext.draw _)
    refine DM.run (fuel := 26) ttok hsk83 [0, 1, 2, 4, 5, 6] 119 (by kernel_rfl) (by kernel_rfl) rfl ?_
    refine DM.load1 ttok hsk83 3 127 (by kernel_rfl) (by kernel_rfl) (by kernel_rfl) (by kernel_rfl) rfl (by kernel_rfl) rfl rfl rfl rfl rfl (At.ext hS.ext g0_) 6 rfl rfl rfl rfl ?_
    refine DM.load1 ttok hsk83 7 255 (by kernel_rfl) (by kernel_rfl) (by kernel_rfl) (by kernel_rfl) rfl (by kernel_rfl) rfl rfl rfl rfl rfl (At.ext hS.ext g1_) 6 rfl rfl rfl rfl ?_
    refine DM.run (fuel := 22) ttok hsk83 [8, 9] 1023 (by kernel_rfl) (by kernel_rfl) rfl ?_
    refine DM.weak [(0, .pointer (some p0_)), (1, .pointer (some p1_)), (15, .bool (x0.Active != x1.Active))] ⟨rfl, rfl, rfl, trivial⟩ ?_
    by_cases hg85 : (x0.Active != x1.Active) = true
    · skip
      rw [if_pos hg85] at hm
      refine DM.know 15 rfl (congrArg Value.bool hg85) ?_
      refine DM.run (fuel := 0) ttok hsk83 [10, 11, 12, 13, 14, 15, 16, 17, 18, 19, 20, 21, 22, 23, 24, 25, 26, 27, 28, 29, 30, 31] 4294967295 (by kernel_rfl) (by kernel_rfl) rfl ?_
      refine DM.weak [(0, .pointer (some p0_)), (1, .pointer (some p1_)), (37, .bool true)] ⟨rfl, rfl, rfl, trivial⟩ ?_
      refine DM.done hsk83 (by kernel_rfl) ?_
      exact ⟨true, [(0, .pointer (some p0_)), (1, .pointer (some p1_)), (37, .bool true)], ⟨rfl, rfl, rfl, trivial⟩, hm, (Ext.draw _), (hS84.taken 0), rfl⟩
    · skip
      rw [if_neg hg85] at hm
      refine DM.know 15 rfl (congrArg Value.bool (Bool.eq_false_iff.2 hg85)) ?_
      refine DM.run (fuel := 16) ttok hsk83 [10, 11, 12, 15, 16, 17] 237567 (by kernel_rfl) (by kernel_rfl) rfl ?_
      refine DM.load1 ttok hsk83 13 245759 (by kernel_rfl) (by kernel_rfl) (by kernel_rfl) (by kernel_rfl) rfl (by kernel_rfl) rfl rfl rfl rfl rfl (At.ext hS.ext g0_) 5 rfl rfl rfl rfl ?_
      refine DM.run (fuel := 14) ttok hsk83 [14] 262143 (by kernel_rfl) (by kernel_rfl) rfl ?_
      refine DM.weak [(0, .pointer (some p0_)), (1, .pointer (some p1_)), (15, .bool false), (20, .int .i64 (x0.Workers.length : Int)), (23, .pointer (some (p1_.add 5)))] ⟨rfl, rfl, rfl, rfl, rfl, trivial⟩ ?_
      refine DM.load1 ttok hsk83 18 524287 (by kernel_rfl) (by kernel_rfl) (by kernel_rfl) (by kernel_rfl) rfl (by kernel_rfl) rfl rfl rfl rfl rfl (At.ext hS.ext g1_) 5 rfl rfl rfl rfl ?_
      refine DM.run (fuel := 9) ttok hsk83 [19, 20, 21, 22] 8388607 (by kernel_rfl) (by kernel_rfl) rfl ?_
      refine DM.weak [(0, .pointer (some p0_)), (1, .pointer (some p1_)), (28, .bool ((x0.Workers.length : Int) != (x1.Workers.length : Int)))] ⟨rfl, rfl, rfl, trivial⟩ ?_
      by_cases hg86 : ((x0.Workers.length : Int) != (x1.Workers.length : Int)) = true
      · skip
        rw [if_pos hg86] at hm
        refine DM.know 28 rfl (congrArg Value.bool hg86) ?_
        refine DM.run (fuel := 0) ttok hsk83 [23, 24, 25, 26, 27, 28, 29, 30, 31] 4294967295 (by kernel_rfl) (by kernel_rfl) rfl ?_
        refine DM.weak [(0, .pointer (some p0_)), (1, .pointer (some p1_)), (37, .bool true)] ⟨rfl, rfl, rfl, trivial⟩ ?_
        refine DM.done hsk83 (by kernel_rfl) ?_
        exact ⟨true, [(0, .pointer (some p0_)), (1, .pointer (some p1_)), (37, .bool true)], ⟨rfl, rfl, rfl, trivial⟩, hm, (Ext.draw _), (hS84.taken 0), rfl⟩
      · skip
        rw [if_neg hg86] at hm
        refine DM.know 28 rfl (congrArg Value.bool (Bool.eq_false_iff.2 hg86)) ?_
        refine DM.run (fuel := 3) ttok hsk83 [23, 24, 25, 26, 27, 28] 536870911 (by kernel_rfl) (by kernel_rfl) rfl ?_
        obtain ⟨r87, hx88, hm⟩ := bind_some hm
        refine DM.one hsk83 29 (by kernel_rfl) (LM.call hsk83 1073741823 (by kernel_rfl) (by kernel_rfl) rfl rfl rfl rfl enters136 (spec_l21Same_ok (ty64_shut (⟨x0.Memory.Cells, x0.Memory.Free, (⟨x0.Memory.Root.Tag, x0.Memory.Root.At⟩ : D.Word), x0.Memory.Redexes⟩ : D.Memory) (ty60.ext hS84.ext h3) (ty62.ext hS84.ext h6)) (At.sub (At.ext hS84.ext g0_) 0 5) (ty64_shut (⟨x1.Memory.Cells, x1.Memory.Free, (⟨x1.Memory.Root.Tag, x1.Memory.Root.At⟩ : D.Word), x1.Memory.Redexes⟩ : D.Memory) (ty60.ext hS84.ext h13) (ty62.ext hS84.ext h16)) (At.sub (At.ext hS84.ext g1_) 0 5) hx88) (fun v89 w90 hR91 => ?_))
        obtain ⟨rfl, hR92⟩ := hR91
        refine ⟨hR92.ext, ?_⟩
        have hS93 := hS84.join hR92
        refine DM.run (fuel := 0) ttok hsk83 [30, 31] 4294967295 (by kernel_rfl) (by kernel_rfl) rfl ?_
        refine DM.weak [(0, .pointer (some p0_)), (1, .pointer (some p1_)), (37, .bool (!r87))] ⟨rfl, rfl, rfl, trivial⟩ ?_
        refine DM.done hsk83 (by kernel_rfl) ?_
        exact ⟨!r87, [(0, .pointer (some p0_)), (1, .pointer (some p1_)), (37, .bool (!r87))], ⟨rfl, rfl, rfl, trivial⟩, hm, ((Ext.draw _).trans hR92.ext), (hS93.taken 0), rfl⟩

theorem enters22 : Enters Try.prog 22 := ⟨_, _, Try.func22, rfl, by kernel_rfl⟩
def m_spec_SamePool (fuel : Nat) (x0 : D.Pool) (x1 : D.Pool) : Option (Bool) := ((m_spec_l24Same fuel x0 x1).bind fun r29 => some r29)

set_option maxRecDepth 100000 in
theorem spec_SamePool_ok {w : World} {c0_ : List Value} {x0 : D.Pool} {c1_ : List Value} {x1 : D.Pool} (h0_ : ty67.ro w c0_ x0) (h1_ : ty67.ro w c1_ x1) {fuel : Nat} {r : Bool} (hm : m_spec_SamePool fuel x0 x1 = some r) :
    Calls Try.prog 22 ⟨[.agg ⟨c0_⟩, .agg ⟨c1_⟩]⟩ w (Ret fun v w8 => v = .bool r ∧ St w w8 []) := by
  obtain ⟨A1, k2, A4, k5, A7, k8, e10, h3, h6, h9⟩ := ty67_open h0_; subst e10
  obtain ⟨A11, k12, A14, k15, A17, k18, e20, h13, h16, h19⟩ := ty67_open h1_; subst e20
  refine Calls.into Try.func22 rfl 6 rfl rfl _ rfl ?_
  unfold m_spec_SamePool at hm
  have hS := St.start w
  refine WP.seq ?_
  refine WP.region ?_
  refine RW.new ttok hS rfl rfl rfl rfl (fun g21 w22 e23 hS24 => ?_)
  refine RW.new ttok hS24 rfl rfl rfl rfl (fun g25 w26 e27 hS28 => ?_)
  refine RW.run ttok 1 rfl ?_
  refine RW.nil ?_
  refine WP.seq ?_
  refine WP.region ?_
  obtain ⟨r29, hx30, hm⟩ := bind_some hm
  refine RW.call rfl rfl rfl enters70 (spec_l24Same_ok (ty67.ext hS28.ext h0_) ((hS28.bring 1 rfl).box) (ty67.ext hS28.ext h1_) ((hS28.bring 0 rfl).box) hx30) (fun v31 w32 hR33 => ?_)
  obtain ⟨rfl, hR34⟩ := hR33
  have hS35 := hS28.join hR34
  refine RW.run ttok 1 rfl ?_
  refine RW.nil ?_
  refine WP.ret ?_
  cases hm
  exact ⟨_, .cons (.tmp rfl) .nil, rfl, (hS35.taken 0)⟩

theorem enters76 : Enters Try.prog 76 := ⟨_, _, Try.func76, rfl, by kernel_rfl⟩
def m_slices_Equal_impl_Pair_impl_Pair_j1 (fuel : Nat) (t2 : Unit) : Option Bool := some true
def m_slices_Equal_impl_Pair_impl_Pair_b1 (fuel : Nat) (x0 : (List D.Pair)) (x1 : (List D.Pair)) (s1 : Int) : Option (Rd (Int) (Unit) (Bool)) := (if (decide (s1 < (x0.length : Int))) = true then ((idx x0 s1).bind fun x19 => ((idx x1 s1).bind fun x26 => (if (!(((x19.A : Int) == x26.A) && (((x19.B : Int) == x26.B) && true))) = true then some (.ret false) else some (.next (w64 (s1 + 1)))))) else some (.brk ()))
def m_slices_Equal_impl_Pair_impl_Pair (fuel : Nat) (x0 : (List D.Pair)) (x1 : (List D.Pair)) : Option (Bool) := (if ((x0.length : Int) != (x1.length : Int)) = true then some false else ((iter (m_slices_Equal_impl_Pair_impl_Pair_b1 fuel x0 x1) fuel 0).bind fun o => aft o (m_slices_Equal_impl_Pair_impl_Pair_j1 fuel)))

set_option maxRecDepth 100000 in
theorem slices_Equal_impl_Pair_impl_Pair_ok {w : World} {A0_ : Option Addr} {k0_ : Nat} {x0 : (List D.Pair)} {A1_ : Option Addr} {k1_ : Nat} {x1 : (List D.Pair)} (h0_ : ty62.ro w [.slice A0_ x0.length k0_] x0) (h1_ : ty62.ro w [.slice A1_ x1.length k1_] x1) {fuel : Nat} {r : Bool} (hm : m_slices_Equal_impl_Pair_impl_Pair fuel x0 x1 = some r) :
    Calls Try.prog 76 ⟨[.slice A0_ x0.length k0_, .slice A1_ x1.length k1_]⟩ w (Ret fun v w8 => v = .bool r ∧ St w w8 []) := by
  refine Calls.into Try.func76 rfl 26 rfl rfl _ rfl ?_
  unfold m_slices_Equal_impl_Pair_impl_Pair at hm
  have hS := St.start w
  refine WP.seq ?_
  refine WP.region ?_
  refine RW.run ttok 1 rfl ?_
  refine RW.nil ?_
  refine WP.seq ?_
  refine WP.seq ?_
  refine WP.region ?_
  refine RW.run ttok 5 rfl ?_
  refine RW.nil ?_
  refine WP.cond ((x0.length : Int) != (x1.length : Int)) rfl (fun hc => ?_) (fun hc => ?_)
  · skip
    rw [if_pos hc] at hm
    refine WP.seq ?_
    refine WP.region ?_
    refine RW.run ttok 1 rfl ?_
    refine RW.nil ?_
    refine WP.ret ?_
    cases hm
    exact ⟨_, .cons (.tmp rfl) .nil, rfl, (hS.taken 0)⟩
  · skip
    rw [if_neg (not_t hc)] at hm
    refine WP.skip ?_
    refine WP.seq ?_
    refine WP.seq ?_
    refine WP.region ?_
    refine RW.run ttok 3 rfl ?_
    refine RW.nil ?_
    obtain ⟨o8, hl9, hm⟩ := bind_some hm
    refine WP.cut (fun (t2 : Unit) F w9 => o8 = .inl t2 ∧ Ext w w9 ∧ St w w9 [] ∧ F = []) ?_ ?_
    · skip
      rintro t2 F w7 ⟨ho11, hE6, hS10, rfl⟩
      subst ho11
      rw [aft_inl] at hm
      unfold m_slices_Equal_impl_Pair_impl_Pair_j1 at hm
      refine WP.seq ?_
      refine WP.region ?_
      refine RW.run ttok 1 rfl ?_
      refine RW.nil ?_
      refine WP.ret ?_
      cases hm
      exact ⟨_, .cons (.tmp rfl) .nil, rfl, (hS10.taken 0)⟩
    · skip
      refine WP.block ?_
      refine WP.weak [(0, .slice A0_ x0.length k0_), (1, .slice A1_ x1.length k1_), (12, .int .i64 (x0.length : Int)), (13, .int .i64 0)] ⟨rfl, rfl, rfl, rfl, trivial⟩ ?_
      refine WP.iter (fun (s1 : Int) F w9 => Ext w w9 ∧ St w w9 [] ∧ F = [(0, .slice A0_ x0.length k0_), (1, .slice A1_ x1.length k1_), (12, .int .i64 (x0.length : Int)), (13, .int .i64 s1)]) _ hl9 ⟨(Ext.refl _), (hS.taken 0), rfl⟩ ?_
      rintro s1 F w16 _ o14 ⟨hE5, hS15, rfl⟩ hb12 ho13
      unfold m_slices_Equal_impl_Pair_impl_Pair_b1 at hb12
      refine WP.seq ?_
      refine WP.region ?_
      refine RW.run ttok 1 rfl ?_
      refine RW.nil ?_
      refine WP.seq ?_
      refine WP.cond (decide (s1 < (x0.length : Int))) rfl (fun hc => ?_) (fun hc => ?_)
      · skip
        rw [if_pos hc] at hb12
        refine WP.skip ?_
        refine WP.seq ?_
        refine WP.block ?_
        refine WP.seq ?_
        refine WP.region ?_
        refine RW.run ttok 2 rfl ?_
        refine RW.nil ?_
        refine WP.seq ?_
        refine WP.drawnM 0 mixed 9 (by kernel_rfl) (by kernel_rfl) [([], 511), ([], 511), ([0, 1], 508), ([2], 507), ([], 511), ([], 511), ([4, 5], 463), ([6], 447), ([3, 7], 375)] (by kernel_rfl) (fun hsk17 => ?_)
        have hS18 := hS15.step (Ext.draw _)
        refine DM.run (fuel := 5) ttok hsk17 [0, 1, 4, 5] 51 (by kernel_rfl) (by kernel_rfl) rfl ?_
        obtain ⟨x19, hx20, hb12⟩ := bind_some hb12
        refine DM.idx ttok hS15.ext hsk17 2 55 (by kernel_rfl) (by kernel_rfl) (by kernel_rfl) (by kernel_rfl) rfl (by kernel_rfl) rfl rfl rfl rfl rfl rfl (by decide) rfl rfl h0_ (idx_some hx20).1 (idx_some hx20).2 rfl rfl (fun p21 es22 ha23 hr24 => ?_)
        have e25 := ty155_open hr24; subst e25
        refine DM.loadN ttok hsk17 3 63 (by kernel_rfl) (by kernel_rfl) (by kernel_rfl) (by kernel_rfl) rfl (by kernel_rfl) rfl rfl rfl rfl rfl (At.ext hS15.ext ha23) rfl rfl rfl ?_
        obtain ⟨x26, hx27, hb12⟩ := bind_some hb12
        refine DM.idx ttok hS15.ext hsk17 6 127 (by kernel_rfl) (by kernel_rfl) (by kernel_rfl) (by kernel_rfl) rfl (by kernel_rfl) rfl rfl rfl rfl rfl rfl (by decide) rfl rfl h1_ (idx_some hx27).1 (idx_some hx27).2 rfl rfl (fun p28 es29 ha30 hr31 => ?_)
        have e32 := ty155_open hr31; subst e32
        refine DM.loadN ttok hsk17 7 255 (by kernel_rfl) (by kernel_rfl) (by kernel_rfl) (by kernel_rfl) rfl (by kernel_rfl) rfl rfl rfl rfl rfl (At.ext hS15.ext ha30) rfl rfl rfl ?_
        refine DM.run (fuel := 0) ttok hsk17 [8] 511 (by kernel_rfl) (by kernel_rfl) rfl ?_
        refine DM.weak [(0, .slice A0_ x0.length k0_), (1, .slice A1_ x1.length k1_), (12, .int .i64 (x0.length : Int)), (13, .int .i64 s1), (24, .bool (!(((x19.A : Int) == x26.A) && (((x19.B : Int) == x26.B) && true))))] ⟨rfl, rfl, rfl, rfl, rfl, trivial⟩ ?_
        refine DM.done hsk17 (by kernel_rfl) ?_
        refine WP.cond (!(((x19.A : Int) == x26.A) && (((x19.B : Int) == x26.B) && true))) rfl (fun hc => ?_) (fun hc => ?_)
        · skip
          rw [if_pos hc] at hb12
          refine WP.seq ?_
          refine WP.region ?_
          refine RW.run ttok 1 rfl ?_
          refine RW.nil ?_
          refine WP.ret ?_
          cases hb12
          cases ho13
          have hm : some _ = some _ := hm
          cases hm
          exact ⟨_, .cons (.tmp rfl) .nil, rfl, (hS18.taken 0)⟩
        · skip
          rw [if_neg (not_t hc)] at hb12
          refine WP.skip ?_
          refine WP.region ?_
          refine RW.run ttok 2 rfl ?_
          refine RW.nil ?_
          cases hb12
          exact ⟨_, [(0, .slice A0_ x0.length k0_), (1, .slice A1_ x1.length k1_), (12, .int .i64 (x0.length : Int)), (13, .int .i64 (w64 (s1 + 1)))], ⟨rfl, rfl, rfl, rfl, trivial⟩, rfl, (hE5.trans (Ext.draw _)), (hS18.taken 0), rfl⟩
      · skip
        rw [if_neg (not_t hc)] at hb12
        refine WP.exit ?_
        cases hb12
        exact ⟨_, [], trivial, ho13, hE5, (hS15.taken 0), rfl⟩

theorem enters142 : Enters Try.prog 142 := ⟨_, _, Try.func142, rfl, by kernel_rfl⟩
def m_slices_EqualFunc_impl_Cell_impl_Cell_impl_Cell_impl_Cell_j1 (fuel : Nat) (t2 : Unit) : Option Bool := some true
def m_slices_EqualFunc_impl_Cell_impl_Cell_impl_Cell_impl_Cell_b1 (fuel : Nat) (x0 : (List D.Cell)) (x1 : (List D.Cell)) (x2 : D.Cell → D.Cell → Option Bool) (s1 : Int) : Option (Rd (Int) (Unit) (Bool)) := (if (decide (s1 < (x0.length : Int))) = true then ((idx x0 s1).bind fun x14 => ((idx x1 s1).bind fun x34 => ((x2 x14 x34).bind fun r54 => (if (!r54) = true then some (.ret false) else some (.next (w64 (s1 + 1))))))) else some (.brk ()))
def m_slices_EqualFunc_impl_Cell_impl_Cell_impl_Cell_impl_Cell (fuel : Nat) (x0 : (List D.Cell)) (x1 : (List D.Cell)) (x2 : D.Cell → D.Cell → Option Bool) : Option (Bool) := (if ((x0.length : Int) != (x1.length : Int)) = true then some false else ((iter (m_slices_EqualFunc_impl_Cell_impl_Cell_impl_Cell_impl_Cell_b1 fuel x0 x1 x2) fuel 0).bind fun o => aft o (m_slices_EqualFunc_impl_Cell_impl_Cell_impl_Cell_impl_Cell_j1 fuel)))

set_option maxRecDepth 100000 in
theorem slices_EqualFunc_impl_Cell_impl_Cell_impl_Cell_impl_Cell_ok {w : World} {A0_ : Option Addr} {k0_ : Nat} {x0 : (List D.Cell)} {A1_ : Option Addr} {k1_ : Nat} {x1 : (List D.Cell)} {f2_ : Nat} {u2_ : List Value} {x2 : D.Cell → D.Cell → Option Bool} (h0_ : ty60.ro w [.slice A0_ x0.length k0_] x0) (h1_ : ty60.ro w [.slice A1_ x1.length k1_] x1) (h2_ : Enters Try.prog f2_ ∧ ∀ {w9 : World}, Ext w w9 → ∀ {cz0 : List Value} {z0 : D.Cell} {cz1 : List Value} {z1 : D.Cell} {y9 : Bool}, ty232.ro w9 cz0 z0 → ty232.ro w9 cz1 z1 → x2 z0 z1 = some y9 → Calls Try.prog f2_ ⟨[.agg ⟨cz0⟩, .agg ⟨cz1⟩] ++ u2_⟩ w9 (Ret fun v w8 => v = .bool y9 ∧ St w9 w8 [])) {fuel : Nat} {r : Bool} (hm : m_slices_EqualFunc_impl_Cell_impl_Cell_impl_Cell_impl_Cell fuel x0 x1 x2 = some r) :
    Calls Try.prog 142 ⟨[.slice A0_ x0.length k0_, .slice A1_ x1.length k1_, .func (.func f2_) #[] ⟨u2_⟩]⟩ w (Ret fun v w8 => v = .bool r ∧ St w w8 []) := by
  refine Calls.into Try.func142 rfl 32 rfl rfl _ rfl ?_
  unfold m_slices_EqualFunc_impl_Cell_impl_Cell_impl_Cell_impl_Cell at hm
  have hS := St.start w
  refine WP.seq ?_
  refine WP.region ?_
  refine RW.run ttok 1 rfl ?_
  refine RW.nil ?_
  refine WP.seq ?_
  refine WP.seq ?_
  refine WP.region ?_
  refine RW.run ttok 5 rfl ?_
  refine RW.nil ?_
  refine WP.cond ((x0.length : Int) != (x1.length : Int)) rfl (fun hc => ?_) (fun hc => ?_)
  · skip
    rw [if_pos hc] at hm
    refine WP.seq ?_
    refine WP.region ?_
    refine RW.run ttok 1 rfl ?_
    refine RW.nil ?_
    refine WP.ret ?_
    cases hm
    exact ⟨_, .cons (.tmp rfl) .nil, rfl, (hS.taken 0)⟩
  · skip
    rw [if_neg (not_t hc)] at hm
    refine WP.skip ?_
    refine WP.seq ?_
    refine WP.seq ?_
    refine WP.region ?_
    refine RW.run ttok 3 rfl ?_
    refine RW.nil ?_
    obtain ⟨o5, hl6, hm⟩ := bind_some hm
    refine WP.cut (fun (t2 : Unit) F w9 => o5 = .inl t2 ∧ St w w9 [] ∧ F = []) ?_ ?_
    · skip
      rintro t2 F w4 ⟨ho8, hS7, rfl⟩
      subst ho8
      rw [aft_inl] at hm
      unfold m_slices_EqualFunc_impl_Cell_impl_Cell_impl_Cell_impl_Cell_j1 at hm
      refine WP.seq ?_
      refine WP.region ?_
      refine RW.run ttok 1 rfl ?_
      refine RW.nil ?_
      refine WP.ret ?_
      cases hm
      exact ⟨_, .cons (.tmp rfl) .nil, rfl, (hS7.taken 0)⟩
    · skip
      refine WP.block ?_
      refine WP.weak [(1, .slice A1_ x1.length k1_), (2, .func (.func f2_) #[] ⟨u2_⟩), (15, .slice A0_ x0.length k0_), (16, .int .i64 (x0.length : Int)), (17, .int .i64 0)] ⟨rfl, rfl, rfl, rfl, rfl, trivial⟩ ?_
      refine WP.iter (fun (s1 : Int) F w9 => St w w9 [] ∧ F = [(1, .slice A1_ x1.length k1_), (2, .func (.func f2_) #[] ⟨u2_⟩), (15, .slice A0_ x0.length k0_), (16, .int .i64 (x0.length : Int)), (17, .int .i64 s1)]) _ hl6 ⟨(hS.taken 0), rfl⟩ ?_
      rintro s1 F w13 _ o11 ⟨hS12, rfl⟩ hb9 ho10
      unfold m_slices_EqualFunc_impl_Cell_impl_Cell_impl_Cell_impl_Cell_b1 at hb9
      refine WP.seq ?_
      refine WP.region ?_
      refine RW.run ttok 1 rfl ?_
      refine RW.nil ?_
      refine WP.seq ?_
      refine WP.cond (decide (s1 < (x0.length : Int))) rfl (fun hc => ?_) (fun hc => ?_)
      · skip
        rw [if_pos hc] at hb9
        refine WP.skip ?_
        refine WP.seq ?_
        refine WP.block ?_
        refine WP.seq ?_
        refine WP.region ?_
        refine RW.run ttok 1 rfl ?_
        obtain ⟨x14, hx15, hb9⟩ := bind_some hb9
        refine RW.idx ttok hS12.ext rfl rfl rfl rfl rfl rfl (by decide) rfl rfl h0_ (idx_some hx15).1 (idx_some hx15).2 rfl rfl (fun p16 es17 ha18 hr19 => ?_)
        obtain ⟨A20, k21, A23, k24, e26, h22, h25⟩ := ty232_open hr19; subst e26
        refine RW.loadN ttok rfl rfl rfl rfl rfl (At.ext hS12.ext ha18) rfl rfl rfl ?_
        refine RW.new ttok hS12 rfl rfl rfl rfl (fun g27 w28 e29 hS30 => ?_)
        refine RW.run ttok 1 rfl ?_
        have hS31 := hS30.bring 0 rfl
        refine RW.store ttok (A := []) hS31 rfl rfl rfl rfl rfl 0 rfl rfl rfl rfl rfl (fun w32 hS33 => ?_)
        refine RW.nil ?_
        refine WP.seq ?_
        refine WP.region ?_
        refine RW.run ttok 2 rfl ?_
        obtain ⟨x34, hx35, hb9⟩ := bind_some hb9
        refine RW.idx ttok hS33.ext rfl rfl rfl rfl rfl rfl (by decide) rfl rfl h1_ (idx_some hx35).1 (idx_some hx35).2 rfl rfl (fun p36 es37 ha38 hr39 => ?_)
        obtain ⟨A40, k41, A43, k44, e46, h42, h45⟩ := ty232_open hr39; subst e46
        refine RW.loadN ttok rfl rfl rfl rfl rfl (At.ext hS33.ext ha38) rfl rfl rfl ?_
        refine RW.new ttok hS33 rfl rfl rfl rfl (fun g47 w48 e49 hS50 => ?_)
        have hS51 := hS50.bring 0 rfl
        refine RW.store ttok (A := []) hS51 rfl rfl rfl rfl rfl 0 rfl rfl rfl rfl rfl (fun w52 hS53 => ?_)
        refine RW.nil ?_
        refine WP.seq ?_
        refine WP.region ?_
        refine RW.run ttok 1 rfl ?_
        refine RW.loadN ttok rfl rfl rfl rfl rfl ((hS53.bring 1 rfl).box) rfl rfl rfl ?_
        refine RW.loadN ttok rfl rfl rfl rfl rfl ((hS53.bring 0 rfl).box) rfl rfl rfl ?_
        obtain ⟨r54, hx55, hb9⟩ := bind_some hb9
        refine RW.call rfl rfl rfl h2_.1 (h2_.2 hS53.ext (ty232_shut x14 (ty72.ext hS53.ext h22) (ty230.ext hS53.ext h25)) (ty232_shut x34 (ty72.ext hS53.ext h42) (ty230.ext hS53.ext h45)) hx55) (fun v56 w57 hR58 => ?_)
        obtain ⟨rfl, hR59⟩ := hR58
        have hS60 := hS53.join hR59
        refine RW.run ttok 1 rfl ?_
        refine RW.nil ?_
        refine WP.cond (!r54) rfl (fun hc => ?_) (fun hc => ?_)
        · skip
          rw [if_pos hc] at hb9
          refine WP.seq ?_
          refine WP.region ?_
          refine RW.run ttok 1 rfl ?_
          refine RW.nil ?_
          refine WP.ret ?_
          cases hb9
          cases ho10
          have hm : some _ = some _ := hm
          cases hm
          exact ⟨_, .cons (.tmp rfl) .nil, rfl, (hS60.taken 0)⟩
        · skip
          rw [if_neg (not_t hc)] at hb9
          refine WP.skip ?_
          refine WP.region ?_
          refine RW.run ttok 2 rfl ?_
          refine RW.nil ?_
          cases hb9
          exact ⟨_, [(1, .slice A1_ x1.length k1_), (2, .func (.func f2_) #[] ⟨u2_⟩), (15, .slice A0_ x0.length k0_), (16, .int .i64 (x0.length : Int)), (17, .int .i64 (w64 (s1 + 1)))], ⟨rfl, rfl, rfl, rfl, rfl, trivial⟩, rfl, (hS60.taken 0), rfl⟩
      · skip
        rw [if_neg (not_t hc)] at hb9
        refine WP.exit ?_
        cases hb9
        exact ⟨_, [], trivial, ho10, (hS12.taken 0), rfl⟩

theorem enters78 : Enters Try.prog 78 := ⟨_, _, Try.func78, rfl, by kernel_rfl⟩
def m_slices_Equal_int64_int64_j1 (fuel : Nat) (t2 : Unit) : Option Bool := some true
def m_slices_Equal_int64_int64_b1 (fuel : Nat) (x0 : (List Int)) (x1 : (List Int)) (s1 : Int) : Option (Rd (Int) (Unit) (Bool)) := (if (decide (s1 < (x0.length : Int))) = true then ((idx x0 s1).bind fun x19 => ((idx x1 s1).bind fun x25 => (if (x19 != x25) = true then some (.ret false) else some (.next (w64 (s1 + 1)))))) else some (.brk ()))
def m_slices_Equal_int64_int64 (fuel : Nat) (x0 : (List Int)) (x1 : (List Int)) : Option (Bool) := (if ((x0.length : Int) != (x1.length : Int)) = true then some false else ((iter (m_slices_Equal_int64_int64_b1 fuel x0 x1) fuel 0).bind fun o => aft o (m_slices_Equal_int64_int64_j1 fuel)))

set_option maxRecDepth 100000 in
theorem slices_Equal_int64_int64_ok {w : World} {A0_ : Option Addr} {k0_ : Nat} {x0 : (List Int)} {A1_ : Option Addr} {k1_ : Nat} {x1 : (List Int)} (h0_ : ty72.ro w [.slice A0_ x0.length k0_] x0) (h1_ : ty72.ro w [.slice A1_ x1.length k1_] x1) {fuel : Nat} {r : Bool} (hm : m_slices_Equal_int64_int64 fuel x0 x1 = some r) :
    Calls Try.prog 78 ⟨[.slice A0_ x0.length k0_, .slice A1_ x1.length k1_]⟩ w (Ret fun v w8 => v = .bool r ∧ St w w8 []) := by
  refine Calls.into Try.func78 rfl 26 rfl rfl _ rfl ?_
  unfold m_slices_Equal_int64_int64 at hm
  have hS := St.start w
  refine WP.seq ?_
  refine WP.region ?_
  refine RW.run ttok 1 rfl ?_
  refine RW.nil ?_
  refine WP.seq ?_
  refine WP.seq ?_
  refine WP.region ?_
  refine RW.run ttok 5 rfl ?_
  refine RW.nil ?_
  refine WP.cond ((x0.length : Int) != (x1.length : Int)) rfl (fun hc => ?_) (fun hc => ?_)
  · skip
    rw [if_pos hc] at hm
    refine WP.seq ?_
    refine WP.region ?_
    refine RW.run ttok 1 rfl ?_
    refine RW.nil ?_
    refine WP.ret ?_
    cases hm
    exact ⟨_, .cons (.tmp rfl) .nil, rfl, (hS.taken 0)⟩
  · skip
    rw [if_neg (not_t hc)] at hm
    refine WP.skip ?_
    refine WP.seq ?_
    refine WP.seq ?_
    refine WP.region ?_
    refine RW.run ttok 3 rfl ?_
    refine RW.nil ?_
    obtain ⟨o8, hl9, hm⟩ := bind_some hm
    refine WP.cut (fun (t2 : Unit) F w9 => o8 = .inl t2 ∧ Ext w w9 ∧ St w w9 [] ∧ F = []) ?_ ?_
    · skip
      rintro t2 F w7 ⟨ho11, hE6, hS10, rfl⟩
      subst ho11
      rw [aft_inl] at hm
      unfold m_slices_Equal_int64_int64_j1 at hm
      refine WP.seq ?_
      refine WP.region ?_
      refine RW.run ttok 1 rfl ?_
      refine RW.nil ?_
      refine WP.ret ?_
      cases hm
      exact ⟨_, .cons (.tmp rfl) .nil, rfl, (hS10.taken 0)⟩
    · skip
      refine WP.block ?_
      refine WP.weak [(0, .slice A0_ x0.length k0_), (1, .slice A1_ x1.length k1_), (12, .int .i64 (x0.length : Int)), (13, .int .i64 0)] ⟨rfl, rfl, rfl, rfl, trivial⟩ ?_
      refine WP.iter (fun (s1 : Int) F w9 => Ext w w9 ∧ St w w9 [] ∧ F = [(0, .slice A0_ x0.length k0_), (1, .slice A1_ x1.length k1_), (12, .int .i64 (x0.length : Int)), (13, .int .i64 s1)]) _ hl9 ⟨(Ext.refl _), (hS.taken 0), rfl⟩ ?_
      rintro s1 F w16 _ o14 ⟨hE5, hS15, rfl⟩ hb12 ho13
      unfold m_slices_Equal_int64_int64_b1 at hb12
      refine WP.seq ?_
      refine WP.region ?_
      refine RW.run ttok 1 rfl ?_
      refine RW.nil ?_
      refine WP.seq ?_
      refine WP.cond (decide (s1 < (x0.length : Int))) rfl (fun hc => ?_) (fun hc => ?_)
      · skip
        rw [if_pos hc] at hb12
        refine WP.skip ?_
        refine WP.seq ?_
        refine WP.block ?_
        refine WP.seq ?_
        refine WP.region ?_
        refine RW.run ttok 2 rfl ?_
        refine RW.nil ?_
        refine WP.seq ?_
        refine WP.drawnM 0 mixed 9 (by kernel_rfl) (by kernel_rfl) [([], 511), ([], 511), ([0, 1], 508), ([2], 507), ([], 511), ([], 511), ([4, 5], 463), ([6], 447), ([3, 7], 375)] (by kernel_rfl) (fun hsk17 => ?_)
        have hS18 := hS15.step (Ext.draw _)
        refine DM.run (fuel := 5) ttok hsk17 [0, 1, 4, 5] 51 (by kernel_rfl) (by kernel_rfl) rfl ?_
        obtain ⟨x19, hx20, hb12⟩ := bind_some hb12
        refine DM.idx ttok hS15.ext hsk17 2 55 (by kernel_rfl) (by kernel_rfl) (by kernel_rfl) (by kernel_rfl) rfl (by kernel_rfl) rfl rfl rfl rfl rfl rfl (by decide) rfl rfl h0_ (idx_some hx20).1 (idx_some hx20).2 rfl rfl (fun p21 es22 ha23 hr24 => ?_)
        cases hr24
        refine DM.load1 ttok hsk17 3 63 (by kernel_rfl) (by kernel_rfl) (by kernel_rfl) (by kernel_rfl) rfl (by kernel_rfl) rfl rfl rfl rfl rfl (At.ext hS15.ext ha23) 0 rfl rfl rfl rfl ?_
        obtain ⟨x25, hx26, hb12⟩ := bind_some hb12
        refine DM.idx ttok hS15.ext hsk17 6 127 (by kernel_rfl) (by kernel_rfl) (by kernel_rfl) (by kernel_rfl) rfl (by kernel_rfl) rfl rfl rfl rfl rfl rfl (by decide) rfl rfl h1_ (idx_some hx26).1 (idx_some hx26).2 rfl rfl (fun p27 es28 ha29 hr30 => ?_)
        cases hr30
        refine DM.load1 ttok hsk17 7 255 (by kernel_rfl) (by kernel_rfl) (by kernel_rfl) (by kernel_rfl) rfl (by kernel_rfl) rfl rfl rfl rfl rfl (At.ext hS15.ext ha29) 0 rfl rfl rfl rfl ?_
        refine DM.run (fuel := 0) ttok hsk17 [8] 511 (by kernel_rfl) (by kernel_rfl) rfl ?_
        refine DM.weak [(0, .slice A0_ x0.length k0_), (1, .slice A1_ x1.length k1_), (12, .int .i64 (x0.length : Int)), (13, .int .i64 s1), (24, .bool (x19 != x25))] ⟨rfl, rfl, rfl, rfl, rfl, trivial⟩ ?_
        refine DM.done hsk17 (by kernel_rfl) ?_
        refine WP.cond (x19 != x25) rfl (fun hc => ?_) (fun hc => ?_)
        · skip
          rw [if_pos hc] at hb12
          refine WP.seq ?_
          refine WP.region ?_
          refine RW.run ttok 1 rfl ?_
          refine RW.nil ?_
          refine WP.ret ?_
          cases hb12
          cases ho13
          have hm : some _ = some _ := hm
          cases hm
          exact ⟨_, .cons (.tmp rfl) .nil, rfl, (hS18.taken 0)⟩
        · skip
          rw [if_neg (not_t hc)] at hb12
          refine WP.skip ?_
          refine WP.region ?_
          refine RW.run ttok 2 rfl ?_
          refine RW.nil ?_
          cases hb12
          exact ⟨_, [(0, .slice A0_ x0.length k0_), (1, .slice A1_ x1.length k1_), (12, .int .i64 (x0.length : Int)), (13, .int .i64 (w64 (s1 + 1)))], ⟨rfl, rfl, rfl, rfl, trivial⟩, rfl, (hE5.trans (Ext.draw _)), (hS18.taken 0), rfl⟩
      · skip
        rw [if_neg (not_t hc)] at hb12
        refine WP.exit ?_
        cases hb12
        exact ⟨_, [], trivial, ho13, hE5, (hS15.taken 0), rfl⟩

theorem enters177 : Enters Try.prog 177 := ⟨_, _, Try.func177, rfl, by kernel_rfl⟩
def m_slices_Equal_impl_Word_impl_Word_j1 (fuel : Nat) (t2 : Unit) : Option Bool := some true
def m_slices_Equal_impl_Word_impl_Word_b1 (fuel : Nat) (x0 : (List D.Word)) (x1 : (List D.Word)) (s1 : Int) : Option (Rd (Int) (Unit) (Bool)) := (if (decide (s1 < (x0.length : Int))) = true then ((idx x0 s1).bind fun x19 => ((idx x1 s1).bind fun x26 => (if (!(((x19.Tag : Int) == x26.Tag) && (((x19.At : Int) == x26.At) && true))) = true then some (.ret false) else some (.next (w64 (s1 + 1)))))) else some (.brk ()))
def m_slices_Equal_impl_Word_impl_Word (fuel : Nat) (x0 : (List D.Word)) (x1 : (List D.Word)) : Option (Bool) := (if ((x0.length : Int) != (x1.length : Int)) = true then some false else ((iter (m_slices_Equal_impl_Word_impl_Word_b1 fuel x0 x1) fuel 0).bind fun o => aft o (m_slices_Equal_impl_Word_impl_Word_j1 fuel)))

set_option maxRecDepth 100000 in
theorem slices_Equal_impl_Word_impl_Word_ok {w : World} {A0_ : Option Addr} {k0_ : Nat} {x0 : (List D.Word)} {A1_ : Option Addr} {k1_ : Nat} {x1 : (List D.Word)} (h0_ : ty230.ro w [.slice A0_ x0.length k0_] x0) (h1_ : ty230.ro w [.slice A1_ x1.length k1_] x1) {fuel : Nat} {r : Bool} (hm : m_slices_Equal_impl_Word_impl_Word fuel x0 x1 = some r) :
    Calls Try.prog 177 ⟨[.slice A0_ x0.length k0_, .slice A1_ x1.length k1_]⟩ w (Ret fun v w8 => v = .bool r ∧ St w w8 []) := by
  refine Calls.into Try.func177 rfl 26 rfl rfl _ rfl ?_
  unfold m_slices_Equal_impl_Word_impl_Word at hm
  have hS := St.start w
  refine WP.seq ?_
  refine WP.region ?_
  refine RW.run ttok 1 rfl ?_
  refine RW.nil ?_
  refine WP.seq ?_
  refine WP.seq ?_
  refine WP.region ?_
  refine RW.run ttok 5 rfl ?_
  refine RW.nil ?_
  refine WP.cond ((x0.length : Int) != (x1.length : Int)) rfl (fun hc => ?_) (fun hc => ?_)
  · skip
    rw [if_pos hc] at hm
    refine WP.seq ?_
    refine WP.region ?_
    refine RW.run ttok 1 rfl ?_
    refine RW.nil ?_
    refine WP.ret ?_
    cases hm
    exact ⟨_, .cons (.tmp rfl) .nil, rfl, (hS.taken 0)⟩
  · skip
    rw [if_neg (not_t hc)] at hm
    refine WP.skip ?_
    refine WP.seq ?_
    refine WP.seq ?_
    refine WP.region ?_
    refine RW.run ttok 3 rfl ?_
    refine RW.nil ?_
    obtain ⟨o8, hl9, hm⟩ := bind_some hm
    refine WP.cut (fun (t2 : Unit) F w9 => o8 = .inl t2 ∧ Ext w w9 ∧ St w w9 [] ∧ F = []) ?_ ?_
    · skip
      rintro t2 F w7 ⟨ho11, hE6, hS10, rfl⟩
      subst ho11
      rw [aft_inl] at hm
      unfold m_slices_Equal_impl_Word_impl_Word_j1 at hm
      refine WP.seq ?_
      refine WP.region ?_
      refine RW.run ttok 1 rfl ?_
      refine RW.nil ?_
      refine WP.ret ?_
      cases hm
      exact ⟨_, .cons (.tmp rfl) .nil, rfl, (hS10.taken 0)⟩
    · skip
      refine WP.block ?_
      refine WP.weak [(0, .slice A0_ x0.length k0_), (1, .slice A1_ x1.length k1_), (12, .int .i64 (x0.length : Int)), (13, .int .i64 0)] ⟨rfl, rfl, rfl, rfl, trivial⟩ ?_
      refine WP.iter (fun (s1 : Int) F w9 => Ext w w9 ∧ St w w9 [] ∧ F = [(0, .slice A0_ x0.length k0_), (1, .slice A1_ x1.length k1_), (12, .int .i64 (x0.length : Int)), (13, .int .i64 s1)]) _ hl9 ⟨(Ext.refl _), (hS.taken 0), rfl⟩ ?_
      rintro s1 F w16 _ o14 ⟨hE5, hS15, rfl⟩ hb12 ho13
      unfold m_slices_Equal_impl_Word_impl_Word_b1 at hb12
      refine WP.seq ?_
      refine WP.region ?_
      refine RW.run ttok 1 rfl ?_
      refine RW.nil ?_
      refine WP.seq ?_
      refine WP.cond (decide (s1 < (x0.length : Int))) rfl (fun hc => ?_) (fun hc => ?_)
      · skip
        rw [if_pos hc] at hb12
        refine WP.skip ?_
        refine WP.seq ?_
        refine WP.block ?_
        refine WP.seq ?_
        refine WP.region ?_
        refine RW.run ttok 2 rfl ?_
        refine RW.nil ?_
        refine WP.seq ?_
        refine WP.drawnM 0 mixed 9 (by kernel_rfl) (by kernel_rfl) [([], 511), ([], 511), ([0, 1], 508), ([2], 507), ([], 511), ([], 511), ([4, 5], 463), ([6], 447), ([3, 7], 375)] (by kernel_rfl) (fun hsk17 => ?_)
        have hS18 := hS15.step (Ext.draw _)
        refine DM.run (fuel := 5) ttok hsk17 [0, 1, 4, 5] 51 (by kernel_rfl) (by kernel_rfl) rfl ?_
        obtain ⟨x19, hx20, hb12⟩ := bind_some hb12
        refine DM.idx ttok hS15.ext hsk17 2 55 (by kernel_rfl) (by kernel_rfl) (by kernel_rfl) (by kernel_rfl) rfl (by kernel_rfl) rfl rfl rfl rfl rfl rfl (by decide) rfl rfl h0_ (idx_some hx20).1 (idx_some hx20).2 rfl rfl (fun p21 es22 ha23 hr24 => ?_)
        have e25 := ty61_open hr24; subst e25
        refine DM.loadN ttok hsk17 3 63 (by kernel_rfl) (by kernel_rfl) (by kernel_rfl) (by kernel_rfl) rfl (by kernel_rfl) rfl rfl rfl rfl rfl (At.ext hS15.ext ha23) rfl rfl rfl ?_
        obtain ⟨x26, hx27, hb12⟩ := bind_some hb12
        refine DM.idx ttok hS15.ext hsk17 6 127 (by kernel_rfl) (by kernel_rfl) (by kernel_rfl) (by kernel_rfl) rfl (by kernel_rfl) rfl rfl rfl rfl rfl rfl (by decide) rfl rfl h1_ (idx_some hx27).1 (idx_some hx27).2 rfl rfl (fun p28 es29 ha30 hr31 => ?_)
        have e32 := ty61_open hr31; subst e32
        refine DM.loadN ttok hsk17 7 255 (by kernel_rfl) (by kernel_rfl) (by kernel_rfl) (by kernel_rfl) rfl (by kernel_rfl) rfl rfl rfl rfl rfl (At.ext hS15.ext ha30) rfl rfl rfl ?_
        refine DM.run (fuel := 0) ttok hsk17 [8] 511 (by kernel_rfl) (by kernel_rfl) rfl ?_
        refine DM.weak [(0, .slice A0_ x0.length k0_), (1, .slice A1_ x1.length k1_), (12, .int .i64 (x0.length : Int)), (13, .int .i64 s1), (24, .bool (!(((x19.Tag : Int) == x26.Tag) && (((x19.At : Int) == x26.At) && true))))] ⟨rfl, rfl, rfl, rfl, rfl, trivial⟩ ?_
        refine DM.done hsk17 (by kernel_rfl) ?_
        refine WP.cond (!(((x19.Tag : Int) == x26.Tag) && (((x19.At : Int) == x26.At) && true))) rfl (fun hc => ?_) (fun hc => ?_)
        · skip
          rw [if_pos hc] at hb12
          refine WP.seq ?_
          refine WP.region ?_
          refine RW.run ttok 1 rfl ?_
          refine RW.nil ?_
          refine WP.ret ?_
          cases hb12
          cases ho13
          have hm : some _ = some _ := hm
          cases hm
          exact ⟨_, .cons (.tmp rfl) .nil, rfl, (hS18.taken 0)⟩
        · skip
          rw [if_neg (not_t hc)] at hb12
          refine WP.skip ?_
          refine WP.region ?_
          refine RW.run ttok 2 rfl ?_
          refine RW.nil ?_
          cases hb12
          exact ⟨_, [(0, .slice A0_ x0.length k0_), (1, .slice A1_ x1.length k1_), (12, .int .i64 (x0.length : Int)), (13, .int .i64 (w64 (s1 + 1)))], ⟨rfl, rfl, rfl, rfl, trivial⟩, rfl, (hE5.trans (Ext.draw _)), (hS18.taken 0), rfl⟩
      · skip
        rw [if_neg (not_t hc)] at hb12
        refine WP.exit ?_
        cases hb12
        exact ⟨_, [], trivial, ho13, hE5, (hS15.taken 0), rfl⟩

theorem enters143 : Enters Try.prog 143 := ⟨_, _, Try.func143, rfl, by kernel_rfl⟩
def m_impl_sameCell (fuel : Nat) (x0 : D.Cell) (x1 : D.Cell) : Option (Bool) := (if (x0.Kind == x1.Kind) = true then (if (x0.Level == x1.Level) = true then (if (x0.Value == x1.Value) = true then ((m_slices_Equal_int64_int64 fuel x0.Data x1.Data).bind fun r26 => (if r26 = true then ((m_slices_Equal_impl_Word_impl_Word fuel x0.Words x1.Words).bind fun r34 => some r34) else some false)) else some false) else some false) else some false)

set_option maxRecDepth 100000 in
theorem impl_sameCell_ok {w : World} {c0_ : List Value} {x0 : D.Cell} {c1_ : List Value} {x1 : D.Cell} (h0_ : ty232.ro w c0_ x0) (h1_ : ty232.ro w c1_ x1) {fuel : Nat} {r : Bool} (hm : m_impl_sameCell fuel x0 x1 = some r) :
    Calls Try.prog 143 ⟨[.agg ⟨c0_⟩, .agg ⟨c1_⟩]⟩ w (Ret fun v w8 => v = .bool r ∧ St w w8 []) := by
  obtain ⟨A1, k2, A4, k5, e7, h3, h6⟩ := ty232_open h0_; subst e7
  obtain ⟨A8, k9, A11, k12, e14, h10, h13⟩ := ty232_open h1_; subst e14
  refine Calls.into Try.func143 rfl 38 rfl rfl _ rfl ?_
  unfold m_impl_sameCell at hm
  have hS := St.start w
  refine WP.seq ?_
  refine WP.region ?_
  refine RW.new ttok hS rfl rfl rfl rfl (fun g15 w16 e17 hS18 => ?_)
  refine RW.new ttok hS18 rfl rfl rfl rfl (fun g19 w20 e21 hS22 => ?_)
  refine RW.run ttok 1 rfl ?_
  refine RW.nil ?_
  refine WP.seq ?_
  refine WP.region ?_
  refine RW.run ttok 1 rfl ?_
  refine RW.load1 ttok rfl rfl rfl rfl rfl ((hS22.bring 1 rfl).box) 0 rfl rfl rfl rfl ?_
  refine RW.run ttok 1 rfl ?_
  refine RW.load1 ttok rfl rfl rfl rfl rfl ((hS22.bring 0 rfl).box) 0 rfl rfl rfl rfl ?_
  refine RW.run ttok 2 rfl ?_
  by_cases hg23 : (x0.Kind == x1.Kind) = true
  · skip
    rw [if_pos hg23] at hm
    refine RW.know 10 rfl (congrArg Value.bool hg23) ?_
    refine RW.run ttok 1 rfl ?_
    refine RW.load1 ttok rfl rfl rfl rfl rfl ((hS22.bring 1 rfl).box) 1 rfl rfl rfl rfl ?_
    refine RW.run ttok 1 rfl ?_
    refine RW.load1 ttok rfl rfl rfl rfl rfl ((hS22.bring 0 rfl).box) 1 rfl rfl rfl rfl ?_
    refine RW.run ttok 3 rfl ?_
    by_cases hg24 : (x0.Level == x1.Level) = true
    · skip
      rw [if_pos hg24] at hm
      refine RW.know 17 rfl (congrArg Value.bool hg24) ?_
      refine RW.run ttok 1 rfl ?_
      refine RW.load1 ttok rfl rfl rfl rfl rfl ((hS22.bring 1 rfl).box) 2 rfl rfl rfl rfl ?_
      refine RW.run ttok 1 rfl ?_
      refine RW.load1 ttok rfl rfl rfl rfl rfl ((hS22.bring 0 rfl).box) 2 rfl rfl rfl rfl ?_
      refine RW.run ttok 3 rfl ?_
      by_cases hg25 : (x0.Value == x1.Value) = true
      · skip
        rw [if_pos hg25] at hm
        refine RW.know 24 rfl (congrArg Value.bool hg25) ?_
        refine RW.run ttok 1 rfl ?_
        refine RW.load1 ttok rfl rfl rfl rfl rfl ((hS22.bring 1 rfl).box) 3 rfl rfl rfl rfl ?_
        refine RW.run ttok 1 rfl ?_
        refine RW.load1 ttok rfl rfl rfl rfl rfl ((hS22.bring 0 rfl).box) 3 rfl rfl rfl rfl ?_
        obtain ⟨r26, hx27, hm⟩ := bind_some hm
        refine RW.call rfl rfl rfl enters78 (slices_Equal_int64_int64_ok (ty72.ext hS22.ext h3) (ty72.ext hS22.ext h10) hx27) (fun v28 w29 hR30 => ?_)
        obtain ⟨rfl, hR31⟩ := hR30
        have hS32 := hS22.join hR31
        refine RW.run ttok 2 rfl ?_
        by_cases hg33 : r26 = true
        · skip
          rw [if_pos hg33] at hm
          refine RW.know 31 rfl (congrArg Value.bool hg33) ?_
          refine RW.run ttok 1 rfl ?_
          refine RW.load1 ttok rfl rfl rfl rfl rfl ((hS32.bring 1 rfl).box) 4 rfl rfl rfl rfl ?_
          refine RW.run ttok 1 rfl ?_
          refine RW.load1 ttok rfl rfl rfl rfl rfl ((hS32.bring 0 rfl).box) 4 rfl rfl rfl rfl ?_
          obtain ⟨r34, hx35, hm⟩ := bind_some hm
          refine RW.call rfl rfl rfl enters177 (slices_Equal_impl_Word_impl_Word_ok (ty230.ext hS32.ext h6) (ty230.ext hS32.ext h13) hx35) (fun v36 w37 hR38 => ?_)
          obtain ⟨rfl, hR39⟩ := hR38
          have hS40 := hS32.join hR39
          refine RW.run ttok 2 rfl ?_
          refine RW.nil ?_
          refine WP.ret ?_
          cases hm
          exact ⟨_, .cons (.tmp rfl) .nil, rfl, (hS40.taken 0)⟩
        · skip
          rw [if_neg hg33] at hm
          refine RW.know 31 rfl (congrArg Value.bool (Bool.eq_false_iff.2 hg33)) ?_
          refine RW.run ttok 7 rfl ?_
          refine RW.nil ?_
          refine WP.ret ?_
          cases hm
          exact ⟨_, .cons (.tmp rfl) .nil, rfl, (hS32.taken 0)⟩
      · skip
        rw [if_neg hg25] at hm
        refine RW.know 24 rfl (congrArg Value.bool (Bool.eq_false_iff.2 hg25)) ?_
        refine RW.run ttok 14 rfl ?_
        refine RW.nil ?_
        refine WP.ret ?_
        cases hm
        exact ⟨_, .cons (.tmp rfl) .nil, rfl, (hS22.taken 0)⟩
    · skip
      rw [if_neg hg24] at hm
      refine RW.know 17 rfl (congrArg Value.bool (Bool.eq_false_iff.2 hg24)) ?_
      refine RW.run ttok 21 rfl ?_
      refine RW.nil ?_
      refine WP.ret ?_
      cases hm
      exact ⟨_, .cons (.tmp rfl) .nil, rfl, (hS22.taken 0)⟩
  · skip
    rw [if_neg hg23] at hm
    refine RW.know 10 rfl (congrArg Value.bool (Bool.eq_false_iff.2 hg23)) ?_
    refine RW.run ttok 28 rfl ?_
    refine RW.nil ?_
    refine WP.ret ?_
    cases hm
    exact ⟨_, .cons (.tmp rfl) .nil, rfl, (hS22.taken 0)⟩

theorem enters73 : Enters Try.prog 73 := ⟨_, _, Try.func73, rfl, by kernel_rfl⟩
def m_impl_SameMemory (fuel : Nat) (x0 : D.Memory) (x1 : D.Memory) : Option (Bool) := (if (x0.Free == x1.Free) = true then (if (((x0.Root.Tag : Int) == x1.Root.Tag) && (((x0.Root.At : Int) == x1.Root.At) && true)) = true then ((m_slices_Equal_impl_Pair_impl_Pair fuel x0.Redexes x1.Redexes).bind fun r25 => (if r25 = true then ((m_slices_EqualFunc_impl_Cell_impl_Cell_impl_Cell_impl_Cell fuel x0.Cells x1.Cells (fun y0 y1 => m_impl_sameCell fuel y0 y1)).bind fun r33 => some r33) else some false)) else some false) else some false)

set_option maxRecDepth 100000 in
theorem impl_SameMemory_ok {w : World} {c0_ : List Value} {x0 : D.Memory} {c1_ : List Value} {x1 : D.Memory} (h0_ : ty64.ro w c0_ x0) (h1_ : ty64.ro w c1_ x1) {fuel : Nat} {r : Bool} (hm : m_impl_SameMemory fuel x0 x1 = some r) :
    Calls Try.prog 73 ⟨[.agg ⟨c0_⟩, .agg ⟨c1_⟩]⟩ w (Ret fun v w8 => v = .bool r ∧ St w w8 []) := by
  obtain ⟨A1, k2, A4, k5, e7, h3, h6⟩ := ty64_open h0_; subst e7
  obtain ⟨A8, k9, A11, k12, e14, h10, h13⟩ := ty64_open h1_; subst e14
  refine Calls.into Try.func73 rfl 31 rfl rfl _ rfl ?_
  unfold m_impl_SameMemory at hm
  have hS := St.start w
  refine WP.seq ?_
  refine WP.region ?_
  refine RW.new ttok hS rfl rfl rfl rfl (fun g15 w16 e17 hS18 => ?_)
  refine RW.new ttok hS18 rfl rfl rfl rfl (fun g19 w20 e21 hS22 => ?_)
  refine RW.run ttok 1 rfl ?_
  refine RW.nil ?_
  refine WP.seq ?_
  refine WP.region ?_
  refine RW.run ttok 1 rfl ?_
  refine RW.load1 ttok rfl rfl rfl rfl rfl ((hS22.bring 1 rfl).box) 1 rfl rfl rfl rfl ?_
  refine RW.run ttok 1 rfl ?_
  refine RW.load1 ttok rfl rfl rfl rfl rfl ((hS22.bring 0 rfl).box) 1 rfl rfl rfl rfl ?_
  refine RW.run ttok 2 rfl ?_
  by_cases hg23 : (x0.Free == x1.Free) = true
  · skip
    rw [if_pos hg23] at hm
    refine RW.know 10 rfl (congrArg Value.bool hg23) ?_
    refine RW.run ttok 1 rfl ?_
    refine RW.loadN ttok rfl rfl rfl rfl rfl (At.sub ((hS22.bring 1 rfl).box) 2 2) rfl rfl rfl ?_
    refine RW.run ttok 1 rfl ?_
    refine RW.loadN ttok rfl rfl rfl rfl rfl (At.sub ((hS22.bring 0 rfl).box) 2 2) rfl rfl rfl ?_
    refine RW.run ttok 3 rfl ?_
    by_cases hg24 : (((x0.Root.Tag : Int) == x1.Root.Tag) && (((x0.Root.At : Int) == x1.Root.At) && true)) = true
    · skip
      rw [if_pos hg24] at hm
      refine RW.know 17 rfl (congrArg Value.bool hg24) ?_
      refine RW.run ttok 1 rfl ?_
      refine RW.load1 ttok rfl rfl rfl rfl rfl ((hS22.bring 1 rfl).box) 4 rfl rfl rfl rfl ?_
      refine RW.run ttok 1 rfl ?_
      refine RW.load1 ttok rfl rfl rfl rfl rfl ((hS22.bring 0 rfl).box) 4 rfl rfl rfl rfl ?_
      obtain ⟨r25, hx26, hm⟩ := bind_some hm
      refine RW.call rfl rfl rfl enters76 (slices_Equal_impl_Pair_impl_Pair_ok (ty62.ext hS22.ext h6) (ty62.ext hS22.ext h13) hx26) (fun v27 w28 hR29 => ?_)
      obtain ⟨rfl, hR30⟩ := hR29
      have hS31 := hS22.join hR30
      refine RW.run ttok 2 rfl ?_
      by_cases hg32 : r25 = true
      · skip
        rw [if_pos hg32] at hm
        refine RW.know 24 rfl (congrArg Value.bool hg32) ?_
        refine RW.run ttok 1 rfl ?_
        refine RW.load1 ttok rfl rfl rfl rfl rfl ((hS31.bring 1 rfl).box) 0 rfl rfl rfl rfl ?_
        refine RW.run ttok 1 rfl ?_
        refine RW.load1 ttok rfl rfl rfl rfl rfl ((hS31.bring 0 rfl).box) 0 rfl rfl rfl rfl ?_
        obtain ⟨r33, hx34, hm⟩ := bind_some hm
        refine RW.call rfl rfl rfl enters142 (slices_EqualFunc_impl_Cell_impl_Cell_impl_Cell_impl_Cell_ok (ty60.ext hS31.ext h3) (ty60.ext hS31.ext h10) ⟨enters143, fun e9 => (fun a0_0 a1_0 hx9 => impl_sameCell_ok a0_0 a1_0 hx9)⟩ hx34) (fun v35 w36 hR37 => ?_)
        obtain ⟨rfl, hR38⟩ := hR37
        have hS39 := hS31.join hR38
        refine RW.run ttok 2 rfl ?_
        refine RW.nil ?_
        refine WP.ret ?_
        cases hm
        exact ⟨_, .cons (.tmp rfl) .nil, rfl, (hS39.taken 0)⟩
      · skip
        rw [if_neg hg32] at hm
        refine RW.know 24 rfl (congrArg Value.bool (Bool.eq_false_iff.2 hg32)) ?_
        refine RW.run ttok 7 rfl ?_
        refine RW.nil ?_
        refine WP.ret ?_
        cases hm
        exact ⟨_, .cons (.tmp rfl) .nil, rfl, (hS31.taken 0)⟩
    · skip
      rw [if_neg hg24] at hm
      refine RW.know 17 rfl (congrArg Value.bool (Bool.eq_false_iff.2 hg24)) ?_
      refine RW.run ttok 14 rfl ?_
      refine RW.nil ?_
      refine WP.ret ?_
      cases hm
      exact ⟨_, .cons (.tmp rfl) .nil, rfl, (hS22.taken 0)⟩
  · skip
    rw [if_neg hg23] at hm
    refine RW.know 10 rfl (congrArg Value.bool (Bool.eq_false_iff.2 hg23)) ?_
    refine RW.run ttok 21 rfl ?_
    refine RW.nil ?_
    refine WP.ret ?_
    cases hm
    exact ⟨_, .cons (.tmp rfl) .nil, rfl, (hS22.taken 0)⟩

theorem enters74 : Enters Try.prog 74 := ⟨_, _, Try.func74, rfl, by kernel_rfl⟩
def m_slices_EqualFunc_impl_Worker_impl_Worker_impl_Worker_impl_Worker_j1 (fuel : Nat) (t2 : Unit) : Option Bool := some true
def m_slices_EqualFunc_impl_Worker_impl_Worker_impl_Worker_impl_Worker_b1 (fuel : Nat) (x0 : (List D.Worker)) (x1 : (List D.Worker)) (x2 : D.Worker → D.Worker → Option Bool) (s1 : Int) : Option (Rd (Int) (Unit) (Bool)) := (if (decide (s1 < (x0.length : Int))) = true then ((idx x0 s1).bind fun x14 => ((idx x1 s1).bind fun x37 => ((x2 x14 x37).bind fun r60 => (if (!r60) = true then some (.ret false) else some (.next (w64 (s1 + 1))))))) else some (.brk ()))
def m_slices_EqualFunc_impl_Worker_impl_Worker_impl_Worker_impl_Worker (fuel : Nat) (x0 : (List D.Worker)) (x1 : (List D.Worker)) (x2 : D.Worker → D.Worker → Option Bool) : Option (Bool) := (if ((x0.length : Int) != (x1.length : Int)) = true then some false else ((iter (m_slices_EqualFunc_impl_Worker_impl_Worker_impl_Worker_impl_Worker_b1 fuel x0 x1 x2) fuel 0).bind fun o => aft o (m_slices_EqualFunc_impl_Worker_impl_Worker_impl_Worker_impl_Worker_j1 fuel)))

set_option maxRecDepth 100000 in
theorem slices_EqualFunc_impl_Worker_impl_Worker_impl_Worker_impl_Worker_ok {w : World} {A0_ : Option Addr} {k0_ : Nat} {x0 : (List D.Worker)} {A1_ : Option Addr} {k1_ : Nat} {x1 : (List D.Worker)} {f2_ : Nat} {u2_ : List Value} {x2 : D.Worker → D.Worker → Option Bool} (h0_ : ty65.ro w [.slice A0_ x0.length k0_] x0) (h1_ : ty65.ro w [.slice A1_ x1.length k1_] x1) (h2_ : Enters Try.prog f2_ ∧ ∀ {w9 : World}, Ext w w9 → ∀ {cz0 : List Value} {z0 : D.Worker} {cz1 : List Value} {z1 : D.Worker} {y9 : Bool}, ty152.ro w9 cz0 z0 → ty152.ro w9 cz1 z1 → x2 z0 z1 = some y9 → Calls Try.prog f2_ ⟨[.agg ⟨cz0⟩, .agg ⟨cz1⟩] ++ u2_⟩ w9 (Ret fun v w8 => v = .bool y9 ∧ St w9 w8 [])) {fuel : Nat} {r : Bool} (hm : m_slices_EqualFunc_impl_Worker_impl_Worker_impl_Worker_impl_Worker fuel x0 x1 x2 = some r) :
    Calls Try.prog 74 ⟨[.slice A0_ x0.length k0_, .slice A1_ x1.length k1_, .func (.func f2_) #[] ⟨u2_⟩]⟩ w (Ret fun v w8 => v = .bool r ∧ St w w8 []) := by
  refine Calls.into Try.func74 rfl 32 rfl rfl _ rfl ?_
  unfold m_slices_EqualFunc_impl_Worker_impl_Worker_impl_Worker_impl_Worker at hm
  have hS := St.start w
  refine WP.seq ?_
  refine WP.region ?_
  refine RW.run ttok 1 rfl ?_
  refine RW.nil ?_
  refine WP.seq ?_
  refine WP.seq ?_
  refine WP.region ?_
  refine RW.run ttok 5 rfl ?_
  refine RW.nil ?_
  refine WP.cond ((x0.length : Int) != (x1.length : Int)) rfl (fun hc => ?_) (fun hc => ?_)
  · skip
    rw [if_pos hc] at hm
    refine WP.seq ?_
    refine WP.region ?_
    refine RW.run ttok 1 rfl ?_
    refine RW.nil ?_
    refine WP.ret ?_
    cases hm
    exact ⟨_, .cons (.tmp rfl) .nil, rfl, (hS.taken 0)⟩
  · skip
    rw [if_neg (not_t hc)] at hm
    refine WP.skip ?_
    refine WP.seq ?_
    refine WP.seq ?_
    refine WP.region ?_
    refine RW.run ttok 3 rfl ?_
    refine RW.nil ?_
    obtain ⟨o5, hl6, hm⟩ := bind_some hm
    refine WP.cut (fun (t2 : Unit) F w9 => o5 = .inl t2 ∧ St w w9 [] ∧ F = []) ?_ ?_
    · skip
      rintro t2 F w4 ⟨ho8, hS7, rfl⟩
      subst ho8
      rw [aft_inl] at hm
      unfold m_slices_EqualFunc_impl_Worker_impl_Worker_impl_Worker_impl_Worker_j1 at hm
      refine WP.seq ?_
      refine WP.region ?_
      refine RW.run ttok 1 rfl ?_
      refine RW.nil ?_
      refine WP.ret ?_
      cases hm
      exact ⟨_, .cons (.tmp rfl) .nil, rfl, (hS7.taken 0)⟩
    · skip
      refine WP.block ?_
      refine WP.weak [(1, .slice A1_ x1.length k1_), (2, .func (.func f2_) #[] ⟨u2_⟩), (15, .slice A0_ x0.length k0_), (16, .int .i64 (x0.length : Int)), (17, .int .i64 0)] ⟨rfl, rfl, rfl, rfl, rfl, trivial⟩ ?_
      refine WP.iter (fun (s1 : Int) F w9 => St w w9 [] ∧ F = [(1, .slice A1_ x1.length k1_), (2, .func (.func f2_) #[] ⟨u2_⟩), (15, .slice A0_ x0.length k0_), (16, .int .i64 (x0.length : Int)), (17, .int .i64 s1)]) _ hl6 ⟨(hS.taken 0), rfl⟩ ?_
      rintro s1 F w13 _ o11 ⟨hS12, rfl⟩ hb9 ho10
      unfold m_slices_EqualFunc_impl_Worker_impl_Worker_impl_Worker_impl_Worker_b1 at hb9
      refine WP.seq ?_
      refine WP.region ?_
      refine RW.run ttok 1 rfl ?_
      refine RW.nil ?_
      refine WP.seq ?_
      refine WP.cond (decide (s1 < (x0.length : Int))) rfl (fun hc => ?_) (fun hc => ?_)
      · skip
        rw [if_pos hc] at hb9
        refine WP.skip ?_
        refine WP.seq ?_
        refine WP.block ?_
        refine WP.seq ?_
        refine WP.region ?_
        refine RW.run ttok 1 rfl ?_
        obtain ⟨x14, hx15, hb9⟩ := bind_some hb9
        refine RW.idx ttok hS12.ext rfl rfl rfl rfl rfl rfl (by decide) rfl rfl h0_ (idx_some hx15).1 (idx_some hx15).2 rfl rfl (fun p16 es17 ha18 hr19 => ?_)
        obtain ⟨A20, k21, A23, k24, A26, k27, e29, h22, h25, h28⟩ := ty152_open hr19; subst e29
        refine RW.loadN ttok rfl rfl rfl rfl rfl (At.ext hS12.ext ha18) rfl rfl rfl ?_
        refine RW.new ttok hS12 rfl rfl rfl rfl (fun g30 w31 e32 hS33 => ?_)
        refine RW.run ttok 1 rfl ?_
        have hS34 := hS33.bring 0 rfl
        refine RW.store ttok (A := []) hS34 rfl rfl rfl rfl rfl 0 rfl rfl rfl rfl rfl (fun w35 hS36 => ?_)
        refine RW.nil ?_
        refine WP.seq ?_
        refine WP.region ?_
        refine RW.run ttok 2 rfl ?_
        obtain ⟨x37, hx38, hb9⟩ := bind_some hb9
        refine RW.idx ttok hS36.ext rfl rfl rfl rfl rfl rfl (by decide) rfl rfl h1_ (idx_some hx38).1 (idx_some hx38).2 rfl rfl (fun p39 es40 ha41 hr42 => ?_)
        obtain ⟨A43, k44, A46, k47, A49, k50, e52, h45, h48, h51⟩ := ty152_open hr42; subst e52
        refine RW.loadN ttok rfl rfl rfl rfl rfl (At.ext hS36.ext ha41) rfl rfl rfl ?_
        refine RW.new ttok hS36 rfl rfl rfl rfl (fun g53 w54 e55 hS56 => ?_)
        have hS57 := hS56.bring 0 rfl
        refine RW.store ttok (A := []) hS57 rfl rfl rfl rfl rfl 0 rfl rfl rfl rfl rfl (fun w58 hS59 => ?_)
        refine RW.nil ?_
        refine WP.seq ?_
        refine WP.region ?_
        refine RW.run ttok 1 rfl ?_
        refine RW.loadN ttok rfl rfl rfl rfl rfl ((hS59.bring 1 rfl).box) rfl rfl rfl ?_
        refine RW.loadN ttok rfl rfl rfl rfl rfl ((hS59.bring 0 rfl).box) rfl rfl rfl ?_
        obtain ⟨r60, hx61, hb9⟩ := bind_some hb9
        refine RW.call rfl rfl rfl h2_.1 (h2_.2 hS59.ext (ty152_shut x14 (ty62.ext hS59.ext h22) (ty150.ext hS59.ext h25) (ty72.ext hS59.ext h28)) (ty152_shut x37 (ty62.ext hS59.ext h45) (ty150.ext hS59.ext h48) (ty72.ext hS59.ext h51)) hx61) (fun v62 w63 hR64 => ?_)
        obtain ⟨rfl, hR65⟩ := hR64
        have hS66 := hS59.join hR65
        refine RW.run ttok 1 rfl ?_
        refine RW.nil ?_
        refine WP.cond (!r60) rfl (fun hc => ?_) (fun hc => ?_)
        · skip
          rw [if_pos hc] at hb9
          refine WP.seq ?_
          refine WP.region ?_
          refine RW.run ttok 1 rfl ?_
          refine RW.nil ?_
          refine WP.ret ?_
          cases hb9
          cases ho10
          have hm : some _ = some _ := hm
          cases hm
          exact ⟨_, .cons (.tmp rfl) .nil, rfl, (hS66.taken 0)⟩
        · skip
          rw [if_neg (not_t hc)] at hb9
          refine WP.skip ?_
          refine WP.region ?_
          refine RW.run ttok 2 rfl ?_
          refine RW.nil ?_
          cases hb9
          exact ⟨_, [(1, .slice A1_ x1.length k1_), (2, .func (.func f2_) #[] ⟨u2_⟩), (15, .slice A0_ x0.length k0_), (16, .int .i64 (x0.length : Int)), (17, .int .i64 (w64 (s1 + 1)))], ⟨rfl, rfl, rfl, rfl, rfl, trivial⟩, rfl, (hS66.taken 0), rfl⟩
      · skip
        rw [if_neg (not_t hc)] at hb9
        refine WP.exit ?_
        cases hb9
        exact ⟨_, [], trivial, ho10, (hS12.taken 0), rfl⟩

theorem enters77 : Enters Try.prog 77 := ⟨_, _, Try.func77, rfl, by kernel_rfl⟩
def m_slices_Equal_impl_Link_impl_Link_j1 (fuel : Nat) (t2 : Unit) : Option Bool := some true
def m_slices_Equal_impl_Link_impl_Link_b1 (fuel : Nat) (x0 : (List D.Link)) (x1 : (List D.Link)) (s1 : Int) : Option (Rd (Int) (Unit) (Bool)) := (if (decide (s1 < (x0.length : Int))) = true then ((idx x0 s1).bind fun x19 => ((idx x1 s1).bind fun x26 => (if (!((((x19.A.Tag : Int) == x26.A.Tag) && (((x19.A.At : Int) == x26.A.At) && true)) && ((((x19.B.Tag : Int) == x26.B.Tag) && (((x19.B.At : Int) == x26.B.At) && true)) && true))) = true then some (.ret false) else some (.next (w64 (s1 + 1)))))) else some (.brk ()))
def m_slices_Equal_impl_Link_impl_Link (fuel : Nat) (x0 : (List D.Link)) (x1 : (List D.Link)) : Option (Bool) := (if ((x0.length : Int) != (x1.length : Int)) = true then some false else ((iter (m_slices_Equal_impl_Link_impl_Link_b1 fuel x0 x1) fuel 0).bind fun o => aft o (m_slices_Equal_impl_Link_impl_Link_j1 fuel)))

set_option maxRecDepth 100000 in
theorem slices_Equal_impl_Link_impl_Link_ok {w : World} {A0_ : Option Addr} {k0_ : Nat} {x0 : (List D.Link)} {A1_ : Option Addr} {k1_ : Nat} {x1 : (List D.Link)} (h0_ : ty150.ro w [.slice A0_ x0.length k0_] x0) (h1_ : ty150.ro w [.slice A1_ x1.length k1_] x1) {fuel : Nat} {r : Bool} (hm : m_slices_Equal_impl_Link_impl_Link fuel x0 x1 = some r) :
    Calls Try.prog 77 ⟨[.slice A0_ x0.length k0_, .slice A1_ x1.length k1_]⟩ w (Ret fun v w8 => v = .bool r ∧ St w w8 []) := by
  refine Calls.into Try.func77 rfl 26 rfl rfl _ rfl ?_
  unfold m_slices_Equal_impl_Link_impl_Link at hm
  have hS := St.start w
  refine WP.seq ?_
  refine WP.region ?_
  refine RW.run ttok 1 rfl ?_
  refine RW.nil ?_
  refine WP.seq ?_
  refine WP.seq ?_
  refine WP.region ?_
  refine RW.run ttok 5 rfl ?_
  refine RW.nil ?_
  refine WP.cond ((x0.length : Int) != (x1.length : Int)) rfl (fun hc => ?_) (fun hc => ?_)
  · skip
    rw [if_pos hc] at hm
    refine WP.seq ?_
    refine WP.region ?_
    refine RW.run ttok 1 rfl ?_
    refine RW.nil ?_
    refine WP.ret ?_
    cases hm
    exact ⟨_, .cons (.tmp rfl) .nil, rfl, (hS.taken 0)⟩
  · skip
    rw [if_neg (not_t hc)] at hm
    refine WP.skip ?_
    refine WP.seq ?_
    refine WP.seq ?_
    refine WP.region ?_
    refine RW.run ttok 3 rfl ?_
    refine RW.nil ?_
    obtain ⟨o8, hl9, hm⟩ := bind_some hm
    refine WP.cut (fun (t2 : Unit) F w9 => o8 = .inl t2 ∧ Ext w w9 ∧ St w w9 [] ∧ F = []) ?_ ?_
    · skip
      rintro t2 F w7 ⟨ho11, hE6, hS10, rfl⟩
      subst ho11
      rw [aft_inl] at hm
      unfold m_slices_Equal_impl_Link_impl_Link_j1 at hm
      refine WP.seq ?_
      refine WP.region ?_
      refine RW.run ttok 1 rfl ?_
      refine RW.nil ?_
      refine WP.ret ?_
      cases hm
      exact ⟨_, .cons (.tmp rfl) .nil, rfl, (hS10.taken 0)⟩
    · skip
      refine WP.block ?_
      refine WP.weak [(0, .slice A0_ x0.length k0_), (1, .slice A1_ x1.length k1_), (12, .int .i64 (x0.length : Int)), (13, .int .i64 0)] ⟨rfl, rfl, rfl, rfl, trivial⟩ ?_
      refine WP.iter (fun (s1 : Int) F w9 => Ext w w9 ∧ St w w9 [] ∧ F = [(0, .slice A0_ x0.length k0_), (1, .slice A1_ x1.length k1_), (12, .int .i64 (x0.length : Int)), (13, .int .i64 s1)]) _ hl9 ⟨(Ext.refl _), (hS.taken 0), rfl⟩ ?_
      rintro s1 F w16 _ o14 ⟨hE5, hS15, rfl⟩ hb12 ho13
      unfold m_slices_Equal_impl_Link_impl_Link_b1 at hb12
      refine WP.seq ?_
      refine WP.region ?_
      refine RW.run ttok 1 rfl ?_
      refine RW.nil ?_
      refine WP.seq ?_
      refine WP.cond (decide (s1 < (x0.length : Int))) rfl (fun hc => ?_) (fun hc => ?_)
      · skip
        rw [if_pos hc] at hb12
        refine WP.skip ?_
        refine WP.seq ?_
        refine WP.block ?_
        refine WP.seq ?_
        refine WP.region ?_
        refine RW.run ttok 2 rfl ?_
        refine RW.nil ?_
        refine WP.seq ?_
        refine WP.drawnM 0 mixed 9 (by kernel_rfl) (by kernel_rfl) [([], 511), ([], 511), ([0, 1], 508), ([2], 507), ([], 511), ([], 511), ([4, 5], 463), ([6], 447), ([3, 7], 375)] (by kernel_rfl) (fun hsk17 => ?_)
        have hS18 := hS15.step (Ext.draw _)
        refine DM.run (fuel := 5) ttok hsk17 [0, 1, 4, 5] 51 (by kernel_rfl) (by kernel_rfl) rfl ?_
        obtain ⟨x19, hx20, hb12⟩ := bind_some hb12
        refine DM.idx ttok hS15.ext hsk17 2 55 (by kernel_rfl) (by kernel_rfl) (by kernel_rfl) (by kernel_rfl) rfl (by kernel_rfl) rfl rfl rfl rfl rfl rfl (by decide) rfl rfl h0_ (idx_some hx20).1 (idx_some hx20).2 rfl rfl (fun p21 es22 ha23 hr24 => ?_)
        have e25 := ty158_open hr24; subst e25
        refine DM.loadN ttok hsk17 3 63 (by kernel_rfl) (by kernel_rfl) (by kernel_rfl) (by kernel_rfl) rfl (by kernel_rfl) rfl rfl rfl rfl rfl (At.ext hS15.ext ha23) rfl rfl rfl ?_
        obtain ⟨x26, hx27, hb12⟩ := bind_some hb12
        refine DM.idx ttok hS15.ext hsk17 6 127 (by kernel_rfl) (by kernel_rfl) (by kernel_rfl) (by kernel_rfl) rfl (by kernel_rfl) rfl rfl rfl rfl rfl rfl (by decide) rfl rfl h1_ (idx_some hx27).1 (idx_some hx27).2 rfl rfl (fun p28 es29 ha30 hr31 => ?_)
        have e32 := ty158_open hr31; subst e32
        refine DM.loadN ttok hsk17 7 255 (by kernel_rfl) (by kernel_rfl) (by kernel_rfl) (by kernel_rfl) rfl (by kernel_rfl) rfl rfl rfl rfl rfl (At.ext hS15.ext ha30) rfl rfl rfl ?_
        refine DM.run (fuel := 0) ttok hsk17 [8] 511 (by kernel_rfl) (by kernel_rfl) rfl ?_
        refine DM.weak [(0, .slice A0_ x0.length k0_), (1, .slice A1_ x1.length k1_), (12, .int .i64 (x0.length : Int)), (13, .int .i64 s1), (24, .bool (!((((x19.A.Tag : Int) == x26.A.Tag) && (((x19.A.At : Int) == x26.A.At) && true)) && ((((x19.B.Tag : Int) == x26.B.Tag) && (((x19.B.At : Int) == x26.B.At) && true)) && true))))] ⟨rfl, rfl, rfl, rfl, rfl, trivial⟩ ?_
        refine DM.done hsk17 (by kernel_rfl) ?_
        refine WP.cond (!((((x19.A.Tag : Int) == x26.A.Tag) && (((x19.A.At : Int) == x26.A.At) && true)) && ((((x19.B.Tag : Int) == x26.B.Tag) && (((x19.B.At : Int) == x26.B.At) && true)) && true))) rfl (fun hc => ?_) (fun hc => ?_)
        · skip
          rw [if_pos hc] at hb12
          refine WP.seq ?_
          refine WP.region ?_
          refine RW.run ttok 1 rfl ?_
          refine RW.nil ?_
          refine WP.ret ?_
          cases hb12
          cases ho13
          have hm : some _ = some _ := hm
          cases hm
          exact ⟨_, .cons (.tmp rfl) .nil, rfl, (hS18.taken 0)⟩
        · skip
          rw [if_neg (not_t hc)] at hb12
          refine WP.skip ?_
          refine WP.region ?_
          refine RW.run ttok 2 rfl ?_
          refine RW.nil ?_
          cases hb12
          exact ⟨_, [(0, .slice A0_ x0.length k0_), (1, .slice A1_ x1.length k1_), (12, .int .i64 (x0.length : Int)), (13, .int .i64 (w64 (s1 + 1)))], ⟨rfl, rfl, rfl, rfl, trivial⟩, rfl, (hE5.trans (Ext.draw _)), (hS18.taken 0), rfl⟩
      · skip
        rw [if_neg (not_t hc)] at hb12
        refine WP.exit ?_
        cases hb12
        exact ⟨_, [], trivial, ho13, hE5, (hS15.taken 0), rfl⟩

theorem enters75 : Enters Try.prog 75 := ⟨_, _, Try.func75, rfl, by kernel_rfl⟩
def m_impl_SamePool_c1 (fuel : Nat) (x0 : D.Worker) (x1 : D.Worker) : Option (Bool) := (if (x0.Phase == x1.Phase) = true then (if (x0.Victim == x1.Victim) = true then ((m_slices_Equal_impl_Pair_impl_Pair fuel x0.Redexes x1.Redexes).bind fun r31 => (if r31 = true then ((m_slices_Equal_impl_Link_impl_Link fuel x0.Links x1.Links).bind fun r39 => (if r39 = true then ((m_slices_Equal_int64_int64 fuel x0.Counts x1.Counts).bind fun r47 => some r47) else some false)) else some false)) else some false) else some false)

set_option maxRecDepth 100000 in
theorem impl_SamePool_c1_ok {w : World} {c0_ : List Value} {x0 : D.Worker} {c1_ : List Value} {x1 : D.Worker} (h0_ : ty152.ro w c0_ x0) (h1_ : ty152.ro w c1_ x1) {fuel : Nat} {r : Bool} (hm : m_impl_SamePool_c1 fuel x0 x1 = some r) :
    Calls Try.prog 75 ⟨[.agg ⟨c0_⟩, .agg ⟨c1_⟩]⟩ w (Ret fun v w8 => v = .bool r ∧ St w w8 []) := by
  obtain ⟨A1, k2, A4, k5, A7, k8, e10, h3, h6, h9⟩ := ty152_open h0_; subst e10
  obtain ⟨A11, k12, A14, k15, A17, k18, e20, h13, h16, h19⟩ := ty152_open h1_; subst e20
  refine Calls.into Try.func75 rfl 38 rfl rfl _ rfl ?_
  unfold m_impl_SamePool_c1 at hm
  have hS := St.start w
  refine WP.seq ?_
  refine WP.region ?_
  refine RW.new ttok hS rfl rfl rfl rfl (fun g21 w22 e23 hS24 => ?_)
  refine RW.new ttok hS24 rfl rfl rfl rfl (fun g25 w26 e27 hS28 => ?_)
  refine RW.run ttok 1 rfl ?_
  refine RW.nil ?_
  refine WP.seq ?_
  refine WP.region ?_
  refine RW.run ttok 1 rfl ?_
  refine RW.load1 ttok rfl rfl rfl rfl rfl ((hS28.bring 1 rfl).box) 0 rfl rfl rfl rfl ?_
  refine RW.run ttok 1 rfl ?_
  refine RW.load1 ttok rfl rfl rfl rfl rfl ((hS28.bring 0 rfl).box) 0 rfl rfl rfl rfl ?_
  refine RW.run ttok 2 rfl ?_
  by_cases hg29 : (x0.Phase == x1.Phase) = true
  · skip
    rw [if_pos hg29] at hm
    refine RW.know 10 rfl (congrArg Value.bool hg29) ?_
    refine RW.run ttok 1 rfl ?_
    refine RW.load1 ttok rfl rfl rfl rfl rfl ((hS28.bring 1 rfl).box) 1 rfl rfl rfl rfl ?_
    refine RW.run ttok 1 rfl ?_
    refine RW.load1 ttok rfl rfl rfl rfl rfl ((hS28.bring 0 rfl).box) 1 rfl rfl rfl rfl ?_
    refine RW.run ttok 3 rfl ?_
    by_cases hg30 : (x0.Victim == x1.Victim) = true
    · skip
      rw [if_pos hg30] at hm
      refine RW.know 17 rfl (congrArg Value.bool hg30) ?_
      refine RW.run ttok 1 rfl ?_
      refine RW.load1 ttok rfl rfl rfl rfl rfl ((hS28.bring 1 rfl).box) 2 rfl rfl rfl rfl ?_
      refine RW.run ttok 1 rfl ?_
      refine RW.load1 ttok rfl rfl rfl rfl rfl ((hS28.bring 0 rfl).box) 2 rfl rfl rfl rfl ?_
      obtain ⟨r31, hx32, hm⟩ := bind_some hm
      refine RW.call rfl rfl rfl enters76 (slices_Equal_impl_Pair_impl_Pair_ok (ty62.ext hS28.ext h3) (ty62.ext hS28.ext h13) hx32) (fun v33 w34 hR35 => ?_)
      obtain ⟨rfl, hR36⟩ := hR35
      have hS37 := hS28.join hR36
      refine RW.run ttok 2 rfl ?_
      by_cases hg38 : r31 = true
      · skip
        rw [if_pos hg38] at hm
        refine RW.know 24 rfl (congrArg Value.bool hg38) ?_
        refine RW.run ttok 1 rfl ?_
        refine RW.load1 ttok rfl rfl rfl rfl rfl ((hS37.bring 1 rfl).box) 3 rfl rfl rfl rfl ?_
        refine RW.run ttok 1 rfl ?_
        refine RW.load1 ttok rfl rfl rfl rfl rfl ((hS37.bring 0 rfl).box) 3 rfl rfl rfl rfl ?_
        obtain ⟨r39, hx40, hm⟩ := bind_some hm
        refine RW.call rfl rfl rfl enters77 (slices_Equal_impl_Link_impl_Link_ok (ty150.ext hS37.ext h6) (ty150.ext hS37.ext h16) hx40) (fun v41 w42 hR43 => ?_)
        obtain ⟨rfl, hR44⟩ := hR43
        have hS45 := hS37.join hR44
        refine RW.run ttok 2 rfl ?_
        by_cases hg46 : r39 = true
        · skip
          rw [if_pos hg46] at hm
          refine RW.know 31 rfl (congrArg Value.bool hg46) ?_
          refine RW.run ttok 1 rfl ?_
          refine RW.load1 ttok rfl rfl rfl rfl rfl ((hS45.bring 1 rfl).box) 4 rfl rfl rfl rfl ?_
          refine RW.run ttok 1 rfl ?_
          refine RW.load1 ttok rfl rfl rfl rfl rfl ((hS45.bring 0 rfl).box) 4 rfl rfl rfl rfl ?_
          obtain ⟨r47, hx48, hm⟩ := bind_some hm
          refine RW.call rfl rfl rfl enters78 (slices_Equal_int64_int64_ok (ty72.ext hS45.ext h9) (ty72.ext hS45.ext h19) hx48) (fun v49 w50 hR51 => ?_)
          obtain ⟨rfl, hR52⟩ := hR51
          have hS53 := hS45.join hR52
          refine RW.run ttok 2 rfl ?_
          refine RW.nil ?_
          refine WP.ret ?_
          cases hm
          exact ⟨_, .cons (.tmp rfl) .nil, rfl, (hS53.taken 0)⟩
        · skip
          rw [if_neg hg46] at hm
          refine RW.know 31 rfl (congrArg Value.bool (Bool.eq_false_iff.2 hg46)) ?_
          refine RW.run ttok 7 rfl ?_
          refine RW.nil ?_
          refine WP.ret ?_
          cases hm
          exact ⟨_, .cons (.tmp rfl) .nil, rfl, (hS45.taken 0)⟩
      · skip
        rw [if_neg hg38] at hm
        refine RW.know 24 rfl (congrArg Value.bool (Bool.eq_false_iff.2 hg38)) ?_
        refine RW.run ttok 14 rfl ?_
        refine RW.nil ?_
        refine WP.ret ?_
        cases hm
        exact ⟨_, .cons (.tmp rfl) .nil, rfl, (hS37.taken 0)⟩
    · skip
      rw [if_neg hg30] at hm
      refine RW.know 17 rfl (congrArg Value.bool (Bool.eq_false_iff.2 hg30)) ?_
      refine RW.run ttok 21 rfl ?_
      refine RW.nil ?_
      refine WP.ret ?_
      cases hm
      exact ⟨_, .cons (.tmp rfl) .nil, rfl, (hS28.taken 0)⟩
  · skip
    rw [if_neg hg29] at hm
    refine RW.know 10 rfl (congrArg Value.bool (Bool.eq_false_iff.2 hg29)) ?_
    refine RW.run ttok 28 rfl ?_
    refine RW.nil ?_
    refine WP.ret ?_
    cases hm
    exact ⟨_, .cons (.tmp rfl) .nil, rfl, (hS28.taken 0)⟩

theorem enters24 : Enters Try.prog 24 := ⟨_, _, Try.func24, rfl, by kernel_rfl⟩
def m_impl_SamePool (fuel : Nat) (x0 : D.Pool) (x1 : D.Pool) : Option (Bool) := (if (x0.Active == x1.Active) = true then ((m_impl_SameMemory fuel x0.Memory x1.Memory).bind fun r30 => (if r30 = true then ((m_slices_EqualFunc_impl_Worker_impl_Worker_impl_Worker_impl_Worker fuel x0.Workers x1.Workers (fun y0 y1 => m_impl_SamePool_c1 fuel y0 y1)).bind fun r38 => some r38) else some false)) else some false)

set_option maxRecDepth 100000 in
theorem impl_SamePool_ok {w : World} {c0_ : List Value} {x0 : D.Pool} {c1_ : List Value} {x1 : D.Pool} (h0_ : ty67.ro w c0_ x0) (h1_ : ty67.ro w c1_ x1) {fuel : Nat} {r : Bool} (hm : m_impl_SamePool fuel x0 x1 = some r) :
    Calls Try.prog 24 ⟨[.agg ⟨c0_⟩, .agg ⟨c1_⟩]⟩ w (Ret fun v w8 => v = .bool r ∧ St w w8 []) := by
  obtain ⟨A1, k2, A4, k5, A7, k8, e10, h3, h6, h9⟩ := ty67_open h0_; subst e10
  obtain ⟨A11, k12, A14, k15, A17, k18, e20, h13, h16, h19⟩ := ty67_open h1_; subst e20
  refine Calls.into Try.func24 rfl 24 rfl rfl _ rfl ?_
  unfold m_impl_SamePool at hm
  have hS := St.start w
  refine WP.seq ?_
  refine WP.region ?_
  refine RW.new ttok hS rfl rfl rfl rfl (fun g21 w22 e23 hS24 => ?_)
  refine RW.new ttok hS24 rfl rfl rfl rfl (fun g25 w26 e27 hS28 => ?_)
  refine RW.run ttok 1 rfl ?_
  refine RW.nil ?_
  refine WP.seq ?_
  refine WP.region ?_
  refine RW.run ttok 1 rfl ?_
  refine RW.load1 ttok rfl rfl rfl rfl rfl ((hS28.bring 1 rfl).box) 6 rfl rfl rfl rfl ?_
  refine RW.run ttok 1 rfl ?_
  refine RW.load1 ttok rfl rfl rfl rfl rfl ((hS28.bring 0 rfl).box) 6 rfl rfl rfl rfl ?_
  refine RW.run ttok 2 rfl ?_
  by_cases hg29 : (x0.Active == x1.Active) = true
  · skip
    rw [if_pos hg29] at hm
    refine RW.know 10 rfl (congrArg Value.bool hg29) ?_
    refine RW.run ttok 1 rfl ?_
    refine RW.loadN ttok rfl rfl rfl rfl rfl (At.sub ((hS28.bring 1 rfl).box) 0 5) rfl rfl rfl ?_
    refine RW.run ttok 1 rfl ?_
    refine RW.loadN ttok rfl rfl rfl rfl rfl (At.sub ((hS28.bring 0 rfl).box) 0 5) rfl rfl rfl ?_
    obtain ⟨r30, hx31, hm⟩ := bind_some hm
    refine RW.call rfl rfl rfl enters73 (impl_SameMemory_ok (ty64_shut x0.Memory (ty60.ext hS28.ext h3) (ty62.ext hS28.ext h6)) (ty64_shut x1.Memory (ty60.ext hS28.ext h13) (ty62.ext hS28.ext h16)) hx31) (fun v32 w33 hR34 => ?_)
    obtain ⟨rfl, hR35⟩ := hR34
    have hS36 := hS28.join hR35
    refine RW.run ttok 2 rfl ?_
    by_cases hg37 : r30 = true
    · skip
      rw [if_pos hg37] at hm
      refine RW.know 17 rfl (congrArg Value.bool hg37) ?_
      refine RW.run ttok 1 rfl ?_
      refine RW.load1 ttok rfl rfl rfl rfl rfl ((hS36.bring 1 rfl).box) 5 rfl rfl rfl rfl ?_
      refine RW.run ttok 1 rfl ?_
      refine RW.load1 ttok rfl rfl rfl rfl rfl ((hS36.bring 0 rfl).box) 5 rfl rfl rfl rfl ?_
      obtain ⟨r38, hx39, hm⟩ := bind_some hm
      refine RW.call rfl rfl rfl enters74 (slices_EqualFunc_impl_Worker_impl_Worker_impl_Worker_impl_Worker_ok (ty65.ext hS36.ext h9) (ty65.ext hS36.ext h19) ⟨enters75, fun e9 => (fun a0_0 a1_0 hx9 => impl_SamePool_c1_ok a0_0 a1_0 hx9)⟩ hx39) (fun v40 w41 hR42 => ?_)
      obtain ⟨rfl, hR43⟩ := hR42
      have hS44 := hS36.join hR43
      refine RW.run ttok 2 rfl ?_
      refine RW.nil ?_
      refine WP.ret ?_
      cases hm
      exact ⟨_, .cons (.tmp rfl) .nil, rfl, (hS44.taken 0)⟩
    · skip
      rw [if_neg hg37] at hm
      refine RW.know 17 rfl (congrArg Value.bool (Bool.eq_false_iff.2 hg37)) ?_
      refine RW.run ttok 7 rfl ?_
      refine RW.nil ?_
      refine WP.ret ?_
      cases hm
      exact ⟨_, .cons (.tmp rfl) .nil, rfl, (hS36.taken 0)⟩
  · skip
    rw [if_neg hg29] at hm
    refine RW.know 10 rfl (congrArg Value.bool (Bool.eq_false_iff.2 hg29)) ?_
    refine RW.run ttok 14 rfl ?_
    refine RW.nil ?_
    refine WP.ret ?_
    cases hm
    exact ⟨_, .cons (.tmp rfl) .nil, rfl, (hS28.taken 0)⟩

end Go.E
