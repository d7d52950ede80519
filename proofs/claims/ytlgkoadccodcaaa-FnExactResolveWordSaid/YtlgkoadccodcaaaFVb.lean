/- Models of functions and proofs that the code runs as they say (written by program). Conditions: the model gives a value. -/
import Derived.Test.YtlgkoadccodcaaaFV
namespace Go.E
open Go.RowKit Go.Proofs
set_option linter.unusedVariables false
set_option linter.unusedSimpArgs false
set_option maxHeartbeats 2000000

theorem enters118 : Enters Try.prog 118 := ⟨_, _, Try.func118, rfl, by kernel_rfl⟩
def m_spec_l21Ok (fuel : Nat) (x0 : D.Memory) : Option (Bool) := ((m_spec_l21With fuel x0 ([] : (List D.Word)) x0.Redexes).bind fun r10 => some r10)

set_option maxRecDepth 100000 in
theorem spec_l21Ok_ok {W w : World} (hE : Ext W w) {p0_ : Addr} {c0_ : List Value} {x0 : D.Memory} (h0_ : ty95.ro W c0_ x0) (g0_ : At W p0_ c0_) {fuel : Nat} {r : Bool} (hm : m_spec_l21Ok fuel x0 = some r) :
    Calls Try.prog 118 ⟨[.pointer (some p0_)]⟩ w (Ret fun v w8 => v = .bool r ∧ St w w8 []) := by
  obtain ⟨A1, k2, A4, k5, e7, h3, h6⟩ := ty95_open h0_; subst e7
  refine Calls.into Try.func118 rfl 9 rfl rfl _ rfl ?_
  unfold m_spec_l21Ok at hm
  have hS := St.start w
  refine WP.seq ?_
  refine WP.region ?_
  refine RW.run ttok 1 rfl ?_
  refine RW.nil ?_
  refine WP.seq ?_
  refine WP.region ?_
  refine RW.run ttok 4 rfl ?_
  refine RW.load1 ttok rfl rfl rfl rfl rfl (At.ext (hE.trans hS.ext) g0_) 4 rfl rfl rfl rfl ?_
  obtain ⟨r10, hx11, hm⟩ := bind_some hm
  refine RW.call rfl rfl rfl enters174 (spec_l21With_ok (hE.trans hS.ext) h0_ g0_ (show ty165.ro _ [.slice none ([] : (List D.Word)).length 0] [] from slNil ty92 92 _) h6 hx11) (fun v12 w13 hR14 => ?_)
  obtain ⟨rfl, hR15⟩ := hR14
  have hS16 := hS.join hR15
  refine RW.run ttok 1 rfl ?_
  refine RW.nil ?_
  refine WP.ret ?_
  cases hm
  exact ⟨_, .cons (.tmp rfl) .nil, rfl, hS16⟩

theorem enters55 : Enters Try.prog 55 := ⟨_, _, Try.func55, rfl, by kernel_rfl⟩
def m_spec_ValidMemory (fuel : Nat) (x0 : D.Memory) : Option (Bool) := ((m_spec_l21Ok fuel x0).bind fun r14 => some r14)

set_option maxRecDepth 100000 in
theorem spec_ValidMemory_ok {W w : World} (hE : Ext W w) {c0_ : List Value} {x0 : D.Memory} (h0_ : ty95.ro W c0_ x0) {fuel : Nat} {r : Bool} (hm : m_spec_ValidMemory fuel x0 = some r) :
    Calls Try.prog 55 ⟨[.agg ⟨c0_⟩]⟩ w (Ret fun v w8 => v = .bool r ∧ St w w8 []) := by
  obtain ⟨A1, k2, A4, k5, e7, h3, h6⟩ := ty95_open h0_; subst e7
  refine Calls.into Try.func55 rfl 4 rfl rfl _ rfl ?_
  unfold m_spec_ValidMemory at hm
  have hS := St.start w
  refine WP.seq ?_
  refine WP.region ?_
  refine RW.new ttok hS rfl rfl rfl rfl (fun g10 w11 e12 hS13 => ?_)
  refine RW.run ttok 1 rfl ?_
  refine RW.nil ?_
  refine WP.seq ?_
  refine WP.region ?_
  obtain ⟨r14, hx15, hm⟩ := bind_some hm
  refine RW.call rfl rfl rfl enters118 (spec_l21Ok_ok (Ext.refl _) (ty95.ext (hE.trans hS13.ext) h0_) ((hS13.bring 0 rfl).box) hx15) (fun v16 w17 hR18 => ?_)
  obtain ⟨rfl, hR19⟩ := hR18
  have hS20 := hS13.join hR19
  refine RW.run ttok 1 rfl ?_
  refine RW.nil ?_
  refine WP.ret ?_
  cases hm
  exact ⟨_, .cons (.tmp rfl) .nil, rfl, (hS20.taken 0)⟩

theorem enters217 : Enters Try.prog 217 := ⟨_, _, Try.func217, rfl, by kernel_rfl⟩
def m_slices_IndexFunc_impl_Cell_impl_Cell_j1 (fuel : Nat) (t2 : Unit) : Option Int := some (-1)
def m_slices_IndexFunc_impl_Cell_impl_Cell_b1 (fuel : Nat) (x0 : (List D.Cell)) (x1 : D.Cell → Option Bool) (s1 : Int) : Option (Rd (Int) (Unit) (Int)) := (if (decide (s1 < (x0.length : Int))) = true then ((idx x0 s1).bind fun x19 => ((x1 x19).bind fun r32 => (if r32 = true then some (.ret s1) else some (.next (w64 (s1 + 1)))))) else some (.brk ()))
def m_slices_IndexFunc_impl_Cell_impl_Cell (fuel : Nat) (x0 : (List D.Cell)) (x1 : D.Cell → Option Bool) : Option (Int) := ((iter (m_slices_IndexFunc_impl_Cell_impl_Cell_b1 fuel x0 x1) fuel 0).bind fun o => aft o (m_slices_IndexFunc_impl_Cell_impl_Cell_j1 fuel))

set_option maxRecDepth 100000 in
theorem slices_IndexFunc_impl_Cell_impl_Cell_ok {W w : World} (hE : Ext W w) {A0_ : Option Addr} {k0_ : Nat} {x0 : (List D.Cell)} {f1_ : Nat} {u1_ : List Value} {x1 : D.Cell → Option Bool} (h0_ : ty91.ro W [.slice A0_ x0.length k0_] x0) (h1_ : Enters Try.prog f1_ ∧ ∀ {w9 : World}, Ext W w9 → ∀ {cz0 : List Value} {z0 : D.Cell} {y9 : Bool}, ty167.ro w9 cz0 z0 → x1 z0 = some y9 → Calls Try.prog f1_ ⟨[.agg ⟨cz0⟩] ++ u1_⟩ w9 (Ret fun v w8 => v = .bool y9 ∧ St w9 w8 [])) {fuel : Nat} {r : Int} (hm : m_slices_IndexFunc_impl_Cell_impl_Cell fuel x0 x1 = some r) :
    Calls Try.prog 217 ⟨[.slice A0_ x0.length k0_, .func (.func f1_) #[] ⟨u1_⟩]⟩ w (Ret fun v w8 => v = .int .i64 r ∧ St w w8 []) := by
  refine Calls.into Try.func217 rfl 19 rfl rfl _ rfl ?_
  unfold m_slices_IndexFunc_impl_Cell_impl_Cell at hm
  have hS := St.start w
  refine WP.seq ?_
  refine WP.region ?_
  refine RW.run ttok 1 rfl ?_
  refine RW.nil ?_
  refine WP.seq ?_
  refine WP.seq ?_
  refine WP.region ?_
  refine RW.run ttok 3 rfl ?_
  refine RW.nil ?_
  obtain ⟨o10, hl11, hm⟩ := bind_some hm
  refine WP.cut (fun (t2 : Unit) F w9 => o10 = .inl t2 ∧ Ext w w9 ∧ St w w9 [] ∧ F = []) ?_ ?_
  · skip
    rintro t2 F w7 ⟨ho13, hE6, hS12, rfl⟩
    subst ho13
    rw [aft_inl] at hm
    unfold m_slices_IndexFunc_impl_Cell_impl_Cell_j1 at hm
    refine WP.seq ?_
    refine WP.region ?_
    refine RW.run ttok 1 rfl ?_
    refine RW.nil ?_
    refine WP.ret ?_
    cases hm
    exact ⟨_, .cons (.tmp rfl) .nil, rfl, hS12⟩
  · skip
    refine WP.block ?_
    refine WP.weak [(0, .slice A0_ x0.length k0_), (1, .func (.func f1_) #[] ⟨u1_⟩), (7, .int .i64 (x0.length : Int)), (8, .int .i64 0)] ⟨rfl, rfl, rfl, rfl, trivial⟩ ?_
    refine WP.iter (fun (s1 : Int) F w9 => Ext w w9 ∧ St w w9 [] ∧ F = [(0, .slice A0_ x0.length k0_), (1, .func (.func f1_) #[] ⟨u1_⟩), (7, .int .i64 (x0.length : Int)), (8, .int .i64 s1)]) _ hl11 ⟨(Ext.refl _), hS, rfl⟩ ?_
    rintro s1 F w18 _ o16 ⟨hE5, hS17, rfl⟩ hb14 ho15
    unfold m_slices_IndexFunc_impl_Cell_impl_Cell_b1 at hb14
    refine WP.seq ?_
    refine WP.region ?_
    refine RW.run ttok 1 rfl ?_
    refine RW.nil ?_
    refine WP.seq ?_
    refine WP.cond (decide (s1 < (x0.length : Int))) rfl (fun hc => ?_) (fun hc => ?_)
    · skip
      rw [if_pos hc] at hb14
      refine WP.skip ?_
      refine WP.seq ?_
      refine WP.block ?_
      refine WP.seq ?_
      refine WP.region ?_
      refine RW.run ttok 2 rfl ?_
      refine RW.nil ?_
      refine WP.seq ?_
      refine WP.region ?_
      refine RW.run ttok 3 rfl ?_
      obtain ⟨x19, hx20, hb14⟩ := bind_some hb14
      refine RW.idx ttok (hE.trans hS17.ext) rfl rfl rfl rfl rfl rfl (by decide) rfl rfl h0_ (idx_some hx20).1 (idx_some hx20).2 rfl rfl (fun p21 es22 ha23 hr24 => ?_)
      obtain ⟨A25, k26, A28, k29, e31, h27, h30⟩ := ty167_open hr24; subst e31
      refine RW.loadN ttok rfl rfl rfl rfl rfl (At.ext (hE.trans hS17.ext) ha23) rfl rfl rfl ?_
      obtain ⟨r32, hx33, hb14⟩ := bind_some hb14
      refine RW.call rfl rfl rfl h1_.1 (h1_.2 (hE.trans hS17.ext) (ty167.ext (hE.trans hS17.ext) hr24) hx33) (fun v34 w35 hR36 => ?_)
      obtain ⟨rfl, hR37⟩ := hR36
      have hS38 := hS17.join hR37
      refine RW.nil ?_
      refine WP.cond r32 rfl (fun hc => ?_) (fun hc => ?_)
      · skip
        rw [if_pos hc] at hb14
        refine WP.seq ?_
        refine WP.region ?_
        refine RW.run ttok 2 rfl ?_
        refine RW.nil ?_
        refine WP.ret ?_
        cases hb14
        cases ho15
        have hm : some _ = some _ := hm
        cases hm
        exact ⟨_, .cons (.tmp rfl) .nil, rfl, hS38⟩
      · skip
        rw [if_neg (not_t hc)] at hb14
        refine WP.skip ?_
        refine WP.region ?_
        refine RW.run ttok 2 rfl ?_
        refine RW.nil ?_
        cases hb14
        exact ⟨_, [(0, .slice A0_ x0.length k0_), (1, .func (.func f1_) #[] ⟨u1_⟩), (7, .int .i64 (x0.length : Int)), (8, .int .i64 (w64 (s1 + 1)))], ⟨rfl, rfl, rfl, rfl, trivial⟩, rfl, (hE5.trans hR37.ext), hS38, rfl⟩
    · skip
      rw [if_neg (not_t hc)] at hb14
      refine WP.exit ?_
      cases hb14
      exact ⟨_, [], trivial, ho15, hE5, hS17, rfl⟩

theorem enters177 : Enters Try.prog 177 := ⟨_, _, Try.func177, rfl, by kernel_rfl⟩
def m_slices_ContainsFunc_impl_Cell_impl_Cell (fuel : Nat) (x0 : (List D.Cell)) (x1 : D.Cell → Option Bool) : Option (Bool) := ((m_slices_IndexFunc_impl_Cell_impl_Cell fuel x0 x1).bind fun r1 => some (decide (r1 ≥ 0)))

set_option maxRecDepth 100000 in
theorem slices_ContainsFunc_impl_Cell_impl_Cell_ok {W w : World} (hE : Ext W w) {A0_ : Option Addr} {k0_ : Nat} {x0 : (List D.Cell)} {f1_ : Nat} {u1_ : List Value} {x1 : D.Cell → Option Bool} (h0_ : ty91.ro W [.slice A0_ x0.length k0_] x0) (h1_ : Enters Try.prog f1_ ∧ ∀ {w9 : World}, Ext W w9 → ∀ {cz0 : List Value} {z0 : D.Cell} {y9 : Bool}, ty167.ro w9 cz0 z0 → x1 z0 = some y9 → Calls Try.prog f1_ ⟨[.agg ⟨cz0⟩] ++ u1_⟩ w9 (Ret fun v w8 => v = .bool y9 ∧ St w9 w8 [])) {fuel : Nat} {r : Bool} (hm : m_slices_ContainsFunc_impl_Cell_impl_Cell fuel x0 x1 = some r) :
    Calls Try.prog 177 ⟨[.slice A0_ x0.length k0_, .func (.func f1_) #[] ⟨u1_⟩]⟩ w (Ret fun v w8 => v = .bool r ∧ St w w8 []) := by
  refine Calls.into Try.func177 rfl 9 rfl rfl _ rfl ?_
  unfold m_slices_ContainsFunc_impl_Cell_impl_Cell at hm
  have hS := St.start w
  refine WP.seq ?_
  refine WP.region ?_
  refine RW.run ttok 1 rfl ?_
  refine RW.nil ?_
  refine WP.seq ?_
  refine WP.region ?_
  refine RW.run ttok 2 rfl ?_
  obtain ⟨r1, hx2, hm⟩ := bind_some hm
  refine RW.call rfl rfl rfl enters217 (slices_IndexFunc_impl_Cell_impl_Cell_ok (hE.trans hS.ext) h0_ h1_ hx2) (fun v3 w4 hR5 => ?_)
  obtain ⟨rfl, hR6⟩ := hR5
  have hS7 := hS.join hR6
  refine RW.run ttok 2 rfl ?_
  refine RW.nil ?_
  refine WP.ret ?_
  cases hm
  exact ⟨_, .cons (.tmp rfl) .nil, rfl, hS7⟩

theorem enters192 : Enters Try.prog 192 := ⟨_, _, Try.func192, rfl, by kernel_rfl⟩
def m_impl_Cell_isAgentCell (fuel : Nat) (x0 : D.Cell) : Option (Bool) := (if (decide (x0.Kind ≥ 2)) = true then some (decide (x0.Kind ≤ 12)) else some false)

set_option maxRecDepth 100000 in
theorem impl_Cell_isAgentCell_ok {W w : World} (hE : Ext W w) {c0_ : List Value} {x0 : D.Cell} (h0_ : ty167.ro W c0_ x0) {fuel : Nat} {r : Bool} (hm : m_impl_Cell_isAgentCell fuel x0 = some r) :
    Calls Try.prog 192 ⟨[.agg ⟨c0_⟩]⟩ w (Ret fun v w8 => v = .bool r ∧ St w w8 []) := by
  obtain ⟨A1, k2, A4, k5, e7, h3, h6⟩ := ty167_open h0_; subst e7
  refine Calls.into Try.func192 rfl 11 rfl rfl _ rfl ?_
  unfold m_impl_Cell_isAgentCell at hm
  have hS := St.start w
  refine WP.seq ?_
  refine WP.region ?_
  refine RW.new ttok hS rfl rfl rfl rfl (fun g10 w11 e12 hS13 => ?_)
  refine RW.run ttok 1 rfl ?_
  refine RW.nil ?_
  refine WP.seq ?_
  refine WP.region ?_
  refine RW.run ttok 1 rfl ?_
  refine RW.load1 ttok rfl rfl rfl rfl rfl ((hS13.bring 0 rfl).box) 0 rfl rfl rfl rfl ?_
  refine RW.run ttok 2 rfl ?_
  by_cases hg14 : (decide (x0.Kind ≥ 2)) = true
  · skip
    rw [if_pos hg14] at hm
    refine RW.know 6 rfl (congrArg Value.bool hg14) ?_
    refine RW.run ttok 1 rfl ?_
    refine RW.load1 ttok rfl rfl rfl rfl rfl ((hS13.bring 0 rfl).box) 0 rfl rfl rfl rfl ?_
    refine RW.run ttok 3 rfl ?_
    refine RW.nil ?_
    refine WP.ret ?_
    cases hm
    exact ⟨_, .cons (.tmp rfl) .nil, rfl, (hS13.taken 0)⟩
  · skip
    rw [if_neg hg14] at hm
    refine RW.know 6 rfl (congrArg Value.bool (Bool.eq_false_iff.2 hg14)) ?_
    refine RW.run ttok 5 rfl ?_
    refine RW.nil ?_
    refine WP.ret ?_
    cases hm
    exact ⟨_, .cons (.tmp rfl) .nil, rfl, (hS13.taken 0)⟩

theorem enters232 : Enters Try.prog 232 := ⟨_, _, Try.func232, rfl, by kernel_rfl⟩
def m_impl_fieldsOf (fuel : Nat) (x0 : Int) (x1 : Int) : Option (Int) := (if (x0 == 9) = true then some (w64 (x1 - 1)) else some 0)

set_option maxRecDepth 100000 in
theorem impl_fieldsOf_ok {W w : World} (hE : Ext W w) {x0 : Int} {x1 : Int}  {fuel : Nat} {r : Int} (hm : m_impl_fieldsOf fuel x0 x1 = some r) :
    Calls Try.prog 232 ⟨[.int .i64 x0, .int .i64 x1]⟩ w (Ret fun v w8 => v = .int .i64 r ∧ St w w8 []) := by
  refine Calls.into Try.func232 rfl 9 rfl rfl _ rfl ?_
  unfold m_impl_fieldsOf at hm
  have hS := St.start w
  refine WP.seq ?_
  refine WP.region ?_
  refine RW.run ttok 1 rfl ?_
  refine RW.nil ?_
  refine WP.seq ?_
  refine WP.seq ?_
  refine WP.region ?_
  refine RW.run ttok 2 rfl ?_
  refine RW.nil ?_
  refine WP.cond (x0 == 9) rfl (fun hc => ?_) (fun hc => ?_)
  · skip
    rw [if_pos hc] at hm
    refine WP.seq ?_
    refine WP.region ?_
    refine RW.run ttok 3 rfl ?_
    refine RW.nil ?_
    refine WP.ret ?_
    cases hm
    exact ⟨_, .cons (.tmp rfl) .nil, rfl, hS⟩
  · skip
    rw [if_neg (not_t hc)] at hm
    refine WP.skip ?_
    refine WP.seq ?_
    refine WP.region ?_
    refine RW.run ttok 1 rfl ?_
    refine RW.nil ?_
    refine WP.ret ?_
    cases hm
    exact ⟨_, .cons (.tmp rfl) .nil, rfl, hS⟩

theorem enters246 : Enters Try.prog 246 := ⟨_, _, Try.func246, rfl, by kernel_rfl⟩
def m_impl_isKind (fuel : Nat) (x0 : Int) : Option (Bool) := (if (decide (x0 ≥ 1)) = true then some (decide (x0 ≤ 12)) else some false)

set_option maxRecDepth 100000 in
theorem impl_isKind_ok {W w : World} (hE : Ext W w) {x0 : Int}  {fuel : Nat} {r : Bool} (hm : m_impl_isKind fuel x0 = some r) :
    Calls Try.prog 246 ⟨[.int .i64 x0]⟩ w (Ret fun v w8 => v = .bool r ∧ St w w8 []) := by
  refine Calls.into Try.func246 rfl 9 rfl rfl _ rfl ?_
  unfold m_impl_isKind at hm
  have hS := St.start w
  refine WP.seq ?_
  refine WP.region ?_
  refine RW.run ttok 1 rfl ?_
  refine RW.nil ?_
  refine WP.seq ?_
  refine WP.region ?_
  refine RW.run ttok 3 rfl ?_
  by_cases hg1 : (decide (x0 ≥ 1)) = true
  · skip
    rw [if_pos hg1] at hm
    refine RW.know 5 rfl (congrArg Value.bool hg1) ?_
    refine RW.run ttok 4 rfl ?_
    refine RW.nil ?_
    refine WP.ret ?_
    cases hm
    exact ⟨_, .cons (.tmp rfl) .nil, rfl, hS⟩
  · skip
    rw [if_neg hg1] at hm
    refine RW.know 5 rfl (congrArg Value.bool (Bool.eq_false_iff.2 hg1)) ?_
    refine RW.run ttok 4 rfl ?_
    refine RW.nil ?_
    refine WP.ret ?_
    cases hm
    exact ⟨_, .cons (.tmp rfl) .nil, rfl, hS⟩

theorem enters231 : Enters Try.prog 231 := ⟨_, _, Try.func231, rfl, by kernel_rfl⟩
def m_impl_PortsOf_j2 (fuel : Nat) (x0 : Int) (t6 : Bool) : Option Int := (if t6 = true then some 0 else ((idx ([0, 1, 3, 3, 3, 1, 1, 3, 2, 0, 2, 2, 1] : List Int) x0).bind fun x13 => some x13))
def m_impl_PortsOf_j1 (fuel : Nat) (x0 : Int) (x1 : Int) (t1 : Bool) : Option Int := (if t1 = true then some (w64 (x1 + 1)) else ((m_impl_isKind fuel x0).bind fun r15 => (if (!r15) = true then m_impl_PortsOf_j2 fuel x0 true else (if (x0 == 9) = true then m_impl_PortsOf_j2 fuel x0 true else m_impl_PortsOf_j2 fuel x0 (x1 != 0)))))
def m_impl_PortsOf (fuel : Nat) (x0 : Int) (x1 : Int) : Option (Int) := (if (x0 == 9) = true then (if (decide (x1 ≥ 0)) = true then m_impl_PortsOf_j1 fuel x0 x1 (decide (x1 ≤ 3)) else m_impl_PortsOf_j1 fuel x0 x1 false) else m_impl_PortsOf_j1 fuel x0 x1 false)

set_option maxRecDepth 100000 in
theorem impl_PortsOf_ok {W w : World} (hE : Ext W w) {x0 : Int} {x1 : Int}  {fuel : Nat} {r : Int} (hm : m_impl_PortsOf fuel x0 x1 = some r) :
    Calls Try.prog 231 ⟨[.int .i64 x0, .int .i64 x1]⟩ w (Ret fun v w8 => v = .int .i64 r ∧ St w w8 []) := by
  refine Calls.into Try.func231 rfl 33 rfl rfl _ rfl ?_
  unfold m_impl_PortsOf at hm
  have hS := St.start w
  refine WP.seq ?_
  refine WP.region ?_
  refine RW.run ttok 1 rfl ?_
  refine RW.nil ?_
  refine WP.seq ?_
  refine WP.block ?_
  refine WP.seq ?_
  refine WP.cut (fun (t1 : Bool) F w9 => m_impl_PortsOf_j1 fuel x0 x1 t1 = some r ∧ Ext w w9 ∧ St w w9 [] ∧ F = [(0, .int .i64 x0), (1, .int .i64 x1), (5, .bool t1)]) ?_ ?_
  · skip
    rintro t1 F w4 ⟨hm, hE2, hS3, rfl⟩
    unfold m_impl_PortsOf_j1 at hm
    refine WP.cond t1 rfl (fun hc => ?_) (fun hc => ?_)
    · skip
      rw [if_pos hc] at hm
      refine WP.seq ?_
      refine WP.region ?_
      refine RW.run ttok 3 rfl ?_
      refine RW.nil ?_
      refine WP.ret ?_
      cases hm
      exact ⟨_, .cons (.tmp rfl) .nil, rfl, hS3⟩
    · skip
      rw [if_neg (not_t hc)] at hm
      refine WP.seq ?_
      refine WP.cut (fun (t6 : Bool) F w9 => m_impl_PortsOf_j2 fuel x0 t6 = some r ∧ Ext w4 w9 ∧ St w w9 [] ∧ F = [(0, .int .i64 x0), (18, .bool t6)]) ?_ ?_
      · skip
        rintro t6 F w11 ⟨hm, hE7, hS10, rfl⟩
        unfold m_impl_PortsOf_j2 at hm
        refine WP.cond t6 rfl (fun hc => ?_) (fun hc => ?_)
        · skip
          rw [if_pos hc] at hm
          refine WP.seq ?_
          refine WP.region ?_
          refine RW.run ttok 1 rfl ?_
          refine RW.nil ?_
          refine WP.ret ?_
          cases hm
          exact ⟨_, .cons (.tmp rfl) .nil, rfl, hS10⟩
        · skip
          rw [if_neg (not_t hc)] at hm
          refine WP.skip ?_
          refine WP.seq ?_
          refine WP.region ?_
          refine RW.quiet rfl (Quiet.buildK (cs := [.int .i64 0, .int .i64 1, .int .i64 3, .int .i64 3, .int .i64 3, .int .i64 1, .int .i64 1, .int .i64 3, .int .i64 2, .int .i64 0, .int .i64 2, .int .i64 2, .int .i64 1]) rfl rfl (by kernel_rfl)) rfl rfl ?_
          refine RW.run ttok 1 rfl ?_
          obtain ⟨x13, hx14, hm⟩ := bind_some hm
          refine RW.quiet rfl (Quiet.arrIdx ttok (xs := ([0, 1, 3, 3, 3, 1, 1, 3, 2, 0, 2, 2, 1] : List Int)) (e := 2) rfl (by kernel_rfl) rfl rfl rfl rfl rfl rfl (idx_some hx14).1 (idx_some hx14).2) rfl rfl ?_
          refine RW.run ttok 1 rfl ?_
          refine RW.nil ?_
          refine WP.ret ?_
          cases hm
          exact ⟨_, .cons (.tmp rfl) .nil, rfl, hS10⟩
      · skip
        refine WP.region ?_
        refine RW.run ttok 1 rfl ?_
        obtain ⟨r15, hx16, hm⟩ := bind_some hm
        refine RW.call rfl rfl rfl enters246 (impl_isKind_ok (hE.trans hS3.ext)  hx16) (fun v17 w18 hR19 => ?_)
        obtain ⟨rfl, hR20⟩ := hR19
        have hS21 := hS3.join hR20
        refine RW.run ttok 2 rfl ?_
        by_cases hg22 : (!r15) = true
        · skip
          rw [if_pos hg22] at hm
          refine RW.know 22 rfl (congrArg Value.bool hg22) ?_
          refine RW.run ttok 8 rfl ?_
          refine RW.nil ?_
          exact ⟨true, [(0, .int .i64 x0), (18, .bool true)], ⟨rfl, rfl, trivial⟩, hm, hR20.ext, hS21, rfl⟩
        · skip
          rw [if_neg hg22] at hm
          refine RW.know 22 rfl (congrArg Value.bool (Bool.eq_false_iff.2 hg22)) ?_
          refine RW.run ttok 4 rfl ?_
          by_cases hg23 : (x0 == 9) = true
          · skip
            rw [if_pos hg23] at hm
            refine RW.know 26 rfl (congrArg Value.bool hg23) ?_
            refine RW.run ttok 4 rfl ?_
            refine RW.nil ?_
            exact ⟨true, [(0, .int .i64 x0), (18, .bool true)], ⟨rfl, rfl, trivial⟩, hm, hR20.ext, hS21, rfl⟩
          · skip
            rw [if_neg hg23] at hm
            refine RW.know 26 rfl (congrArg Value.bool (Bool.eq_false_iff.2 hg23)) ?_
            refine RW.run ttok 4 rfl ?_
            refine RW.nil ?_
            exact ⟨(x1 != 0), [(0, .int .i64 x0), (18, .bool (x1 != 0))], ⟨rfl, rfl, trivial⟩, hm, hR20.ext, hS21, rfl⟩
  · skip
    refine WP.region ?_
    refine RW.run ttok 3 rfl ?_
    by_cases hg24 : (x0 == 9) = true
    · skip
      rw [if_pos hg24] at hm
      refine RW.know 8 rfl (congrArg Value.bool hg24) ?_
      refine RW.run ttok 4 rfl ?_
      by_cases hg25 : (decide (x1 ≥ 0)) = true
      · skip
        rw [if_pos hg25] at hm
        refine RW.know 12 rfl (congrArg Value.bool hg25) ?_
        refine RW.run ttok 4 rfl ?_
        refine RW.nil ?_
        exact ⟨decide (x1 ≤ 3), [(0, .int .i64 x0), (1, .int .i64 x1), (5, .bool (decide (x1 ≤ 3)))], ⟨rfl, rfl, rfl, trivial⟩, hm, (Ext.refl _), hS, rfl⟩
      · skip
        rw [if_neg hg25] at hm
        refine RW.know 12 rfl (congrArg Value.bool (Bool.eq_false_iff.2 hg25)) ?_
        refine RW.run ttok 4 rfl ?_
        refine RW.nil ?_
        exact ⟨false, [(0, .int .i64 x0), (1, .int .i64 x1), (5, .bool false)], ⟨rfl, rfl, rfl, trivial⟩, hm, (Ext.refl _), hS, rfl⟩
    · skip
      rw [if_neg hg24] at hm
      refine RW.know 8 rfl (congrArg Value.bool (Bool.eq_false_iff.2 hg24)) ?_
      refine RW.run ttok 8 rfl ?_
      refine RW.nil ?_
      exact ⟨false, [(0, .int .i64 x0), (1, .int .i64 x1), (5, .bool false)], ⟨rfl, rfl, rfl, trivial⟩, hm, (Ext.refl _), hS, rfl⟩

theorem enters247 : Enters Try.prog 247 := ⟨_, _, Try.func247, rfl, by kernel_rfl⟩
def m_impl_HasLevel (fuel : Nat) (x0 : Int) : Option (Bool) := ((m_impl_isKind fuel x0).bind fun r1 => (if r1 = true then (if (x0 != 1) = true then (if (x0 != 5) = true then some (x0 != 6) else some false) else some false) else some false))

set_option maxRecDepth 100000 in
theorem impl_HasLevel_ok {W w : World} (hE : Ext W w) {x0 : Int}  {fuel : Nat} {r : Bool} (hm : m_impl_HasLevel fuel x0 = some r) :
    Calls Try.prog 247 ⟨[.int .i64 x0]⟩ w (Ret fun v w8 => v = .bool r ∧ St w w8 []) := by
  refine Calls.into Try.func247 rfl 17 rfl rfl _ rfl ?_
  unfold m_impl_HasLevel at hm
  have hS := St.start w
  refine WP.seq ?_
  refine WP.region ?_
  refine RW.run ttok 1 rfl ?_
  refine RW.nil ?_
  refine WP.seq ?_
  refine WP.region ?_
  refine RW.run ttok 1 rfl ?_
  obtain ⟨r1, hx2, hm⟩ := bind_some hm
  refine RW.call rfl rfl rfl enters246 (impl_isKind_ok (hE.trans hS.ext)  hx2) (fun v3 w4 hR5 => ?_)
  obtain ⟨rfl, hR6⟩ := hR5
  have hS7 := hS.join hR6
  refine RW.run ttok 1 rfl ?_
  by_cases hg10 : r1 = true
  · skip
    rw [if_pos hg10] at hm
    refine RW.know 5 rfl (congrArg Value.bool hg10) ?_
    refine RW.run ttok 4 rfl ?_
    by_cases hg11 : (x0 != 1) = true
    · skip
      rw [if_pos hg11] at hm
      refine RW.know 9 rfl (congrArg Value.bool hg11) ?_
      refine RW.run ttok 4 rfl ?_
      by_cases hg12 : (x0 != 5) = true
      · skip
        rw [if_pos hg12] at hm
        refine RW.know 13 rfl (congrArg Value.bool hg12) ?_
        refine RW.run ttok 4 rfl ?_
        refine RW.nil ?_
        refine WP.ret ?_
        cases hm
        exact ⟨_, .cons (.tmp rfl) .nil, rfl, hS7⟩
      · skip
        rw [if_neg hg12] at hm
        refine RW.know 13 rfl (congrArg Value.bool (Bool.eq_false_iff.2 hg12)) ?_
        refine RW.run ttok 4 rfl ?_
        refine RW.nil ?_
        refine WP.ret ?_
        cases hm
        exact ⟨_, .cons (.tmp rfl) .nil, rfl, hS7⟩
    · skip
      rw [if_neg hg11] at hm
      refine RW.know 9 rfl (congrArg Value.bool (Bool.eq_false_iff.2 hg11)) ?_
      refine RW.run ttok 8 rfl ?_
      refine RW.nil ?_
      refine WP.ret ?_
      cases hm
      exact ⟨_, .cons (.tmp rfl) .nil, rfl, hS7⟩
  · skip
    rw [if_neg hg10] at hm
    refine RW.know 5 rfl (congrArg Value.bool (Bool.eq_false_iff.2 hg10)) ?_
    refine RW.run ttok 12 rfl ?_
    refine RW.nil ?_
    refine WP.ret ?_
    cases hm
    exact ⟨_, .cons (.tmp rfl) .nil, rfl, hS7⟩

theorem enters248 : Enters Try.prog 248 := ⟨_, _, Try.func248, rfl, by kernel_rfl⟩
def m_impl_isLevel (fuel : Nat) (x0 : Int) : Option (Bool) := (if (decide (x0 ≥ 0)) = true then some (decide (x0 ≤ 8)) else some false)

set_option maxRecDepth 100000 in
theorem impl_isLevel_ok {W w : World} (hE : Ext W w) {x0 : Int}  {fuel : Nat} {r : Bool} (hm : m_impl_isLevel fuel x0 = some r) :
    Calls Try.prog 248 ⟨[.int .i64 x0]⟩ w (Ret fun v w8 => v = .bool r ∧ St w w8 []) := by
  refine Calls.into Try.func248 rfl 9 rfl rfl _ rfl ?_
  unfold m_impl_isLevel at hm
  have hS := St.start w
  refine WP.seq ?_
  refine WP.region ?_
  refine RW.run ttok 1 rfl ?_
  refine RW.nil ?_
  refine WP.seq ?_
  refine WP.region ?_
  refine RW.run ttok 3 rfl ?_
  by_cases hg1 : (decide (x0 ≥ 0)) = true
  · skip
    rw [if_pos hg1] at hm
    refine RW.know 5 rfl (congrArg Value.bool hg1) ?_
    refine RW.run ttok 4 rfl ?_
    refine RW.nil ?_
    refine WP.ret ?_
    cases hm
    exact ⟨_, .cons (.tmp rfl) .nil, rfl, hS⟩
  · skip
    rw [if_neg hg1] at hm
    refine RW.know 5 rfl (congrArg Value.bool (Bool.eq_false_iff.2 hg1)) ?_
    refine RW.run ttok 4 rfl ?_
    refine RW.nil ?_
    refine WP.ret ?_
    cases hm
    exact ⟨_, .cons (.tmp rfl) .nil, rfl, hS⟩

theorem enters233 : Enters Try.prog 233 := ⟨_, _, Try.func233, rfl, by kernel_rfl⟩
def m_impl_isAllowed (fuel : Nat) (x0 : Int) (x1 : Int) : Option (Bool) := ((m_impl_isKind fuel x0).bind fun r1 => (if r1 = true then (if (x1 == 0) = true then some true else ((m_impl_HasLevel fuel x0).bind fun r12 => (if r12 = true then ((m_impl_isLevel fuel x1).bind fun r20 => some r20) else some false))) else some false))

set_option maxRecDepth 100000 in
theorem impl_isAllowed_ok {W w : World} (hE : Ext W w) {x0 : Int} {x1 : Int}  {fuel : Nat} {r : Bool} (hm : m_impl_isAllowed fuel x0 x1 = some r) :
    Calls Try.prog 233 ⟨[.int .i64 x0, .int .i64 x1]⟩ w (Ret fun v w8 => v = .bool r ∧ St w w8 []) := by
  refine Calls.into Try.func233 rfl 19 rfl rfl _ rfl ?_
  unfold m_impl_isAllowed at hm
  have hS := St.start w
  refine WP.seq ?_
  refine WP.region ?_
  refine RW.run ttok 1 rfl ?_
  refine RW.nil ?_
  refine WP.seq ?_
  refine WP.region ?_
  refine RW.run ttok 1 rfl ?_
  obtain ⟨r1, hx2, hm⟩ := bind_some hm
  refine RW.call rfl rfl rfl enters246 (impl_isKind_ok (hE.trans hS.ext)  hx2) (fun v3 w4 hR5 => ?_)
  obtain ⟨rfl, hR6⟩ := hR5
  have hS7 := hS.join hR6
  refine RW.run ttok 1 rfl ?_
  by_cases hg10 : r1 = true
  · skip
    rw [if_pos hg10] at hm
    refine RW.know 7 rfl (congrArg Value.bool hg10) ?_
    refine RW.run ttok 3 rfl ?_
    by_cases hg11 : (x1 == 0) = true
    · skip
      rw [if_pos hg11] at hm
      refine RW.know 10 rfl (congrArg Value.bool hg11) ?_
      refine RW.run ttok 9 rfl ?_
      refine RW.nil ?_
      refine WP.ret ?_
      cases hm
      exact ⟨_, .cons (.tmp rfl) .nil, rfl, hS7⟩
    · skip
      rw [if_neg hg11] at hm
      refine RW.know 10 rfl (congrArg Value.bool (Bool.eq_false_iff.2 hg11)) ?_
      refine RW.run ttok 1 rfl ?_
      obtain ⟨r12, hx13, hm⟩ := bind_some hm
      refine RW.call rfl rfl rfl enters247 (impl_HasLevel_ok (hE.trans hS7.ext)  hx13) (fun v14 w15 hR16 => ?_)
      obtain ⟨rfl, hR17⟩ := hR16
      have hS18 := hS7.join hR17
      refine RW.run ttok 1 rfl ?_
      by_cases hg19 : r12 = true
      · skip
        rw [if_pos hg19] at hm
        refine RW.know 13 rfl (congrArg Value.bool hg19) ?_
        refine RW.run ttok 1 rfl ?_
        obtain ⟨r20, hx21, hm⟩ := bind_some hm
        refine RW.call rfl rfl rfl enters248 (impl_isLevel_ok (hE.trans hS18.ext)  hx21) (fun v22 w23 hR24 => ?_)
        obtain ⟨rfl, hR25⟩ := hR24
        have hS26 := hS18.join hR25
        refine RW.run ttok 4 rfl ?_
        refine RW.nil ?_
        refine WP.ret ?_
        cases hm
        exact ⟨_, .cons (.tmp rfl) .nil, rfl, hS26⟩
      · skip
        rw [if_neg hg19] at hm
        refine RW.know 13 rfl (congrArg Value.bool (Bool.eq_false_iff.2 hg19)) ?_
        refine RW.run ttok 6 rfl ?_
        refine RW.nil ?_
        refine WP.ret ?_
        cases hm
        exact ⟨_, .cons (.tmp rfl) .nil, rfl, hS18⟩
  · skip
    rw [if_neg hg10] at hm
    refine RW.know 7 rfl (congrArg Value.bool (Bool.eq_false_iff.2 hg10)) ?_
    refine RW.run ttok 12 rfl ?_
    refine RW.nil ?_
    refine WP.ret ?_
    cases hm
    exact ⟨_, .cons (.tmp rfl) .nil, rfl, hS7⟩

theorem enters134 : Enters Try.prog 134 := ⟨_, _, Try.func134, rfl, by kernel_rfl⟩
def m_slices_IndexFunc_int64_int64_j1 (fuel : Nat) (t2 : Unit) : Option Int := some (-1)
def m_slices_IndexFunc_int64_int64_b1 (fuel : Nat) (x0 : (List Int)) (x1 : Int → Option Bool) (s1 : Int) : Option (Rd (Int) (Unit) (Int)) := (if (decide (s1 < (x0.length : Int))) = true then ((idx x0 s1).bind fun x19 => ((x1 x19).bind fun r25 => (if r25 = true then some (.ret s1) else some (.next (w64 (s1 + 1)))))) else some (.brk ()))
def m_slices_IndexFunc_int64_int64 (fuel : Nat) (x0 : (List Int)) (x1 : Int → Option Bool) : Option (Int) := ((iter (m_slices_IndexFunc_int64_int64_b1 fuel x0 x1) fuel 0).bind fun o => aft o (m_slices_IndexFunc_int64_int64_j1 fuel))

set_option maxRecDepth 100000 in
theorem slices_IndexFunc_int64_int64_ok {W w : World} (hE : Ext W w) {A0_ : Option Addr} {k0_ : Nat} {x0 : (List Int)} {f1_ : Nat} {u1_ : List Value} {x1 : Int → Option Bool} (h0_ : ty22.ro W [.slice A0_ x0.length k0_] x0) (h1_ : Enters Try.prog f1_ ∧ ∀ {w9 : World}, Ext W w9 → ∀ {z0 : Int} {y9 : Bool}, x1 z0 = some y9 → Calls Try.prog f1_ ⟨[.int .i64 z0] ++ u1_⟩ w9 (Ret fun v w8 => v = .bool y9 ∧ St w9 w8 [])) {fuel : Nat} {r : Int} (hm : m_slices_IndexFunc_int64_int64 fuel x0 x1 = some r) :
    Calls Try.prog 134 ⟨[.slice A0_ x0.length k0_, .func (.func f1_) #[] ⟨u1_⟩]⟩ w (Ret fun v w8 => v = .int .i64 r ∧ St w w8 []) := by
  refine Calls.into Try.func134 rfl 19 rfl rfl _ rfl ?_
  unfold m_slices_IndexFunc_int64_int64 at hm
  have hS := St.start w
  refine WP.seq ?_
  refine WP.region ?_
  refine RW.run ttok 1 rfl ?_
  refine RW.nil ?_
  refine WP.seq ?_
  refine WP.seq ?_
  refine WP.region ?_
  refine RW.run ttok 3 rfl ?_
  refine RW.nil ?_
  obtain ⟨o10, hl11, hm⟩ := bind_some hm
  refine WP.cut (fun (t2 : Unit) F w9 => o10 = .inl t2 ∧ Ext w w9 ∧ St w w9 [] ∧ F = []) ?_ ?_
  · skip
    rintro t2 F w7 ⟨ho13, hE6, hS12, rfl⟩
    subst ho13
    rw [aft_inl] at hm
    unfold m_slices_IndexFunc_int64_int64_j1 at hm
    refine WP.seq ?_
    refine WP.region ?_
    refine RW.run ttok 1 rfl ?_
    refine RW.nil ?_
    refine WP.ret ?_
    cases hm
    exact ⟨_, .cons (.tmp rfl) .nil, rfl, hS12⟩
  · skip
    refine WP.block ?_
    refine WP.weak [(0, .slice A0_ x0.length k0_), (1, .func (.func f1_) #[] ⟨u1_⟩), (7, .int .i64 (x0.length : Int)), (8, .int .i64 0)] ⟨rfl, rfl, rfl, rfl, trivial⟩ ?_
    refine WP.iter (fun (s1 : Int) F w9 => Ext w w9 ∧ St w w9 [] ∧ F = [(0, .slice A0_ x0.length k0_), (1, .func (.func f1_) #[] ⟨u1_⟩), (7, .int .i64 (x0.length : Int)), (8, .int .i64 s1)]) _ hl11 ⟨(Ext.refl _), hS, rfl⟩ ?_
    rintro s1 F w18 _ o16 ⟨hE5, hS17, rfl⟩ hb14 ho15
    unfold m_slices_IndexFunc_int64_int64_b1 at hb14
    refine WP.seq ?_
    refine WP.region ?_
    refine RW.run ttok 1 rfl ?_
    refine RW.nil ?_
    refine WP.seq ?_
    refine WP.cond (decide (s1 < (x0.length : Int))) rfl (fun hc => ?_) (fun hc => ?_)
    · skip
      rw [if_pos hc] at hb14
      refine WP.skip ?_
      refine WP.seq ?_
      refine WP.block ?_
      refine WP.seq ?_
      refine WP.region ?_
      refine RW.run ttok 2 rfl ?_
      refine RW.nil ?_
      refine WP.seq ?_
      refine WP.region ?_
      refine RW.run ttok 3 rfl ?_
      obtain ⟨x19, hx20, hb14⟩ := bind_some hb14
      refine RW.idx ttok (hE.trans hS17.ext) rfl rfl rfl rfl rfl rfl (by decide) rfl rfl h0_ (idx_some hx20).1 (idx_some hx20).2 rfl rfl (fun p21 es22 ha23 hr24 => ?_)
      cases hr24
      refine RW.load1 ttok rfl rfl rfl rfl rfl (At.ext (hE.trans hS17.ext) ha23) 0 rfl rfl rfl rfl ?_
      obtain ⟨r25, hx26, hb14⟩ := bind_some hb14
      refine RW.call rfl rfl rfl h1_.1 (h1_.2 (hE.trans hS17.ext)  hx26) (fun v27 w28 hR29 => ?_)
      obtain ⟨rfl, hR30⟩ := hR29
      have hS31 := hS17.join hR30
      refine RW.nil ?_
      refine WP.cond r25 rfl (fun hc => ?_) (fun hc => ?_)
      · skip
        rw [if_pos hc] at hb14
        refine WP.seq ?_
        refine WP.region ?_
        refine RW.run ttok 2 rfl ?_
        refine RW.nil ?_
        refine WP.ret ?_
        cases hb14
        cases ho15
        have hm : some _ = some _ := hm
        cases hm
        exact ⟨_, .cons (.tmp rfl) .nil, rfl, hS31⟩
      · skip
        rw [if_neg (not_t hc)] at hb14
        refine WP.skip ?_
        refine WP.region ?_
        refine RW.run ttok 2 rfl ?_
        refine RW.nil ?_
        cases hb14
        exact ⟨_, [(0, .slice A0_ x0.length k0_), (1, .func (.func f1_) #[] ⟨u1_⟩), (7, .int .i64 (x0.length : Int)), (8, .int .i64 (w64 (s1 + 1)))], ⟨rfl, rfl, rfl, rfl, trivial⟩, rfl, (hE5.trans hR30.ext), hS31, rfl⟩
    · skip
      rw [if_neg (not_t hc)] at hb14
      refine WP.exit ?_
      cases hb14
      exact ⟨_, [], trivial, ho15, hE5, hS17, rfl⟩

theorem enters70 : Enters Try.prog 70 := ⟨_, _, Try.func70, rfl, by kernel_rfl⟩
def m_slices_ContainsFunc_int64_int64 (fuel : Nat) (x0 : (List Int)) (x1 : Int → Option Bool) : Option (Bool) := ((m_slices_IndexFunc_int64_int64 fuel x0 x1).bind fun r1 => some (decide (r1 ≥ 0)))

set_option maxRecDepth 100000 in
theorem slices_ContainsFunc_int64_int64_ok {W w : World} (hE : Ext W w) {A0_ : Option Addr} {k0_ : Nat} {x0 : (List Int)} {f1_ : Nat} {u1_ : List Value} {x1 : Int → Option Bool} (h0_ : ty22.ro W [.slice A0_ x0.length k0_] x0) (h1_ : Enters Try.prog f1_ ∧ ∀ {w9 : World}, Ext W w9 → ∀ {z0 : Int} {y9 : Bool}, x1 z0 = some y9 → Calls Try.prog f1_ ⟨[.int .i64 z0] ++ u1_⟩ w9 (Ret fun v w8 => v = .bool y9 ∧ St w9 w8 [])) {fuel : Nat} {r : Bool} (hm : m_slices_ContainsFunc_int64_int64 fuel x0 x1 = some r) :
    Calls Try.prog 70 ⟨[.slice A0_ x0.length k0_, .func (.func f1_) #[] ⟨u1_⟩]⟩ w (Ret fun v w8 => v = .bool r ∧ St w w8 []) := by
  refine Calls.into Try.func70 rfl 9 rfl rfl _ rfl ?_
  unfold m_slices_ContainsFunc_int64_int64 at hm
  have hS := St.start w
  refine WP.seq ?_
  refine WP.region ?_
  refine RW.run ttok 1 rfl ?_
  refine RW.nil ?_
  refine WP.seq ?_
  refine WP.region ?_
  refine RW.run ttok 2 rfl ?_
  obtain ⟨r1, hx2, hm⟩ := bind_some hm
  refine RW.call rfl rfl rfl enters134 (slices_IndexFunc_int64_int64_ok (hE.trans hS.ext) h0_ h1_ hx2) (fun v3 w4 hR5 => ?_)
  obtain ⟨rfl, hR6⟩ := hR5
  have hS7 := hS.join hR6
  refine RW.run ttok 2 rfl ?_
  refine RW.nil ?_
  refine WP.ret ?_
  cases hm
  exact ⟨_, .cons (.tmp rfl) .nil, rfl, hS7⟩

theorem enters235 : Enters Try.prog 235 := ⟨_, _, Try.func235, rfl, by kernel_rfl⟩
def m_impl_isDefIndex (fuel : Nat) (x0 : Int) : Option (Bool) := (if (decide (x0 ≥ 0)) = true then some (decide (x0 < 24)) else some false)

set_option maxRecDepth 100000 in
theorem impl_isDefIndex_ok {W w : World} (hE : Ext W w) {x0 : Int}  {fuel : Nat} {r : Bool} (hm : m_impl_isDefIndex fuel x0 = some r) :
    Calls Try.prog 235 ⟨[.int .i64 x0]⟩ w (Ret fun v w8 => v = .bool r ∧ St w w8 []) := by
  refine Calls.into Try.func235 rfl 9 rfl rfl _ rfl ?_
  unfold m_impl_isDefIndex at hm
  have hS := St.start w
  refine WP.seq ?_
  refine WP.region ?_
  refine RW.run ttok 1 rfl ?_
  refine RW.nil ?_
  refine WP.seq ?_
  refine WP.region ?_
  refine RW.run ttok 3 rfl ?_
  by_cases hg1 : (decide (x0 ≥ 0)) = true
  · skip
    rw [if_pos hg1] at hm
    refine RW.know 5 rfl (congrArg Value.bool hg1) ?_
    refine RW.run ttok 4 rfl ?_
    refine RW.nil ?_
    refine WP.ret ?_
    cases hm
    exact ⟨_, .cons (.tmp rfl) .nil, rfl, hS⟩
  · skip
    rw [if_neg hg1] at hm
    refine RW.know 5 rfl (congrArg Value.bool (Bool.eq_false_iff.2 hg1)) ?_
    refine RW.run ttok 4 rfl ?_
    refine RW.nil ?_
    refine WP.ret ?_
    cases hm
    exact ⟨_, .cons (.tmp rfl) .nil, rfl, hS⟩

theorem enters234 : Enters Try.prog 234 := ⟨_, _, Try.func234, rfl, by kernel_rfl⟩
def m_impl_wellFormed_c1 (fuel : Nat) (x0 : Int) : Option (Bool) := ((m_impl_isDefIndex fuel x0).bind fun r1 => some (!r1))

set_option maxRecDepth 100000 in
theorem impl_wellFormed_c1_ok {W w : World} (hE : Ext W w) {x0 : Int}  {fuel : Nat} {r : Bool} (hm : m_impl_wellFormed_c1 fuel x0 = some r) :
    Calls Try.prog 234 ⟨[.int .i64 x0]⟩ w (Ret fun v w8 => v = .bool r ∧ St w w8 []) := by
  refine Calls.into Try.func234 rfl 6 rfl rfl _ rfl ?_
  unfold m_impl_wellFormed_c1 at hm
  have hS := St.start w
  refine WP.seq ?_
  refine WP.region ?_
  refine RW.run ttok 1 rfl ?_
  refine RW.nil ?_
  refine WP.seq ?_
  refine WP.region ?_
  refine RW.run ttok 1 rfl ?_
  obtain ⟨r1, hx2, hm⟩ := bind_some hm
  refine RW.call rfl rfl rfl enters235 (impl_isDefIndex_ok (hE.trans hS.ext)  hx2) (fun v3 w4 hR5 => ?_)
  obtain ⟨rfl, hR6⟩ := hR5
  have hS7 := hS.join hR6
  refine RW.run ttok 2 rfl ?_
  refine RW.nil ?_
  refine WP.ret ?_
  cases hm
  exact ⟨_, .cons (.tmp rfl) .nil, rfl, hS7⟩

theorem enters236 : Enters Try.prog 236 := ⟨_, _, Try.func236, rfl, by kernel_rfl⟩
def m_impl_isInt (fuel : Nat) (x0 : Int) : Option (Bool) := (if (decide (x0 ≥ (-2147483648))) = true then some (decide (x0 ≤ 2147483647)) else some false)

set_option maxRecDepth 100000 in
theorem impl_isInt_ok {W w : World} (hE : Ext W w) {x0 : Int}  {fuel : Nat} {r : Bool} (hm : m_impl_isInt fuel x0 = some r) :
    Calls Try.prog 236 ⟨[.int .i64 x0]⟩ w (Ret fun v w8 => v = .bool r ∧ St w w8 []) := by
  refine Calls.into Try.func236 rfl 9 rfl rfl _ rfl ?_
  unfold m_impl_isInt at hm
  have hS := St.start w
  refine WP.seq ?_
  refine WP.region ?_
  refine RW.run ttok 1 rfl ?_
  refine RW.nil ?_
  refine WP.seq ?_
  refine WP.region ?_
  refine RW.run ttok 3 rfl ?_
  by_cases hg1 : (decide (x0 ≥ (-2147483648))) = true
  · skip
    rw [if_pos hg1] at hm
    refine RW.know 5 rfl (congrArg Value.bool hg1) ?_
    refine RW.run ttok 4 rfl ?_
    refine RW.nil ?_
    refine WP.ret ?_
    cases hm
    exact ⟨_, .cons (.tmp rfl) .nil, rfl, hS⟩
  · skip
    rw [if_neg hg1] at hm
    refine RW.know 5 rfl (congrArg Value.bool (Bool.eq_false_iff.2 hg1)) ?_
    refine RW.run ttok 4 rfl ?_
    refine RW.nil ?_
    refine WP.ret ?_
    cases hm
    exact ⟨_, .cons (.tmp rfl) .nil, rfl, hS⟩

theorem enters237 : Enters Try.prog 237 := ⟨_, _, Try.func237, rfl, by kernel_rfl⟩
def m_impl_isOperator (fuel : Nat) (x0 : Int) : Option (Bool) := (if (decide (x0 ≥ 1)) = true then some (decide (x0 ≤ 6)) else some false)

set_option maxRecDepth 100000 in
theorem impl_isOperator_ok {W w : World} (hE : Ext W w) {x0 : Int}  {fuel : Nat} {r : Bool} (hm : m_impl_isOperator fuel x0 = some r) :
    Calls Try.prog 237 ⟨[.int .i64 x0]⟩ w (Ret fun v w8 => v = .bool r ∧ St w w8 []) := by
  refine Calls.into Try.func237 rfl 9 rfl rfl _ rfl ?_
  unfold m_impl_isOperator at hm
  have hS := St.start w
  refine WP.seq ?_
  refine WP.region ?_
  refine RW.run ttok 1 rfl ?_
  refine RW.nil ?_
  refine WP.seq ?_
  refine WP.region ?_
  refine RW.run ttok 3 rfl ?_
  by_cases hg1 : (decide (x0 ≥ 1)) = true
  · skip
    rw [if_pos hg1] at hm
    refine RW.know 5 rfl (congrArg Value.bool hg1) ?_
    refine RW.run ttok 4 rfl ?_
    refine RW.nil ?_
    refine WP.ret ?_
    cases hm
    exact ⟨_, .cons (.tmp rfl) .nil, rfl, hS⟩
  · skip
    rw [if_neg hg1] at hm
    refine RW.know 5 rfl (congrArg Value.bool (Bool.eq_false_iff.2 hg1)) ?_
    refine RW.run ttok 4 rfl ?_
    refine RW.nil ?_
    refine WP.ret ?_
    cases hm
    exact ⟨_, .cons (.tmp rfl) .nil, rfl, hS⟩

theorem enters208 : Enters Try.prog 208 := ⟨_, _, Try.func208, rfl, by kernel_rfl⟩
def m_impl_wellFormed_j2 (fuel : Nat) (t28 : Bool × Bool) : Option Bool := (if t28.1 = true then some t28.2 else some false)
def m_impl_wellFormed_j3 (fuel : Nat) (t41 : Bool × Bool) : Option Bool := m_impl_wellFormed_j2 fuel (t41.1, t41.2)
def m_impl_wellFormed_j4 (fuel : Nat) (t76 : Bool × Bool) : Option Bool := m_impl_wellFormed_j3 fuel (t76.1, t76.2)
def m_impl_wellFormed_j5 (fuel : Nat) (x0 : D.Agent) (t81 : Bool) : Option Bool := m_impl_wellFormed_j4 fuel (t81, ((x0.Data.length : Int) == 0))
def m_impl_wellFormed_j6 (fuel : Nat) (t87 : Bool × Bool) : Option Bool := m_impl_wellFormed_j4 fuel (t87.1, t87.2)
def m_impl_wellFormed_j7 (fuel : Nat) (x0 : D.Agent) (t92 : Bool) : Option Bool := m_impl_wellFormed_j6 fuel ((x0.Value == 0), t92)
def m_impl_wellFormed_j8 (fuel : Nat) (t99 : Bool × Bool) : Option Bool := m_impl_wellFormed_j6 fuel (t99.1, t99.2)
def m_impl_wellFormed_j9 (fuel : Nat) (x0 : D.Agent) (t104 : Bool) : Option Bool := m_impl_wellFormed_j8 fuel ((x0.Value == 0), t104)
def m_impl_wellFormed_j10 (fuel : Nat) (x0 : D.Agent) (t110 : Bool) : Option Bool := m_impl_wellFormed_j8 fuel (t110, ((x0.Data.length : Int) == 0))
def m_impl_wellFormed_j1 (fuel : Nat) (x0 : D.Agent) (t14 : Bool) : Option Bool := (if t14 = true then some false else ((m_slices_ContainsFunc_int64_int64 fuel x0.Data (fun y0 => m_impl_wellFormed_c1 fuel y0)).bind fun r21 => (if (x0.Kind == 6) = true then ((m_impl_isInt fuel x0.Value).bind fun r34 => m_impl_wellFormed_j2 fuel (r34, ((x0.Data.length : Int) == 0))) else (if (x0.Kind == 7) = true then ((m_impl_isOperator fuel x0.Value).bind fun r46 => m_impl_wellFormed_j3 fuel (r46, ((x0.Data.length : Int) == 0))) else (if (x0.Kind == 8) = true then ((m_impl_isOperator fuel x0.Value).bind fun r53 => (if r53 = true then (if ((x0.Data.length : Int) == 1) = true then ((idx x0.Data 0).bind fun x62 => ((m_impl_isInt fuel x62).bind fun r69 => some r69)) else some false) else some false)) else (if (x0.Kind == 9) = true then (if (decide (x0.Value ≥ 0)) = true then m_impl_wellFormed_j5 fuel x0 (decide (x0.Value < 4)) else m_impl_wellFormed_j5 fuel x0 false) else (if (x0.Kind == 10) = true then (if (decide ((x0.Data.length : Int) ≥ 1)) = true then (if (decide ((x0.Data.length : Int) ≤ 4)) = true then m_impl_wellFormed_j7 fuel x0 (!r21) else m_impl_wellFormed_j7 fuel x0 false) else m_impl_wellFormed_j7 fuel x0 false) else (if (x0.Kind == 11) = true then (if ((x0.Data.length : Int) == 2) = true then m_impl_wellFormed_j9 fuel x0 (!r21) else m_impl_wellFormed_j9 fuel x0 false) else (if (x0.Kind == 12) = true then ((m_impl_isDefIndex fuel x0.Value).bind fun r115 => m_impl_wellFormed_j10 fuel x0 r115) else m_impl_wellFormed_j10 fuel x0 (x0.Value == 0))))))))))
def m_impl_wellFormed (fuel : Nat) (x0 : D.Agent) : Option (Bool) := (if ((x0.Ports.length : Int) == 0) = true then m_impl_wellFormed_j1 fuel x0 true else ((m_impl_fieldsOf fuel x0.Kind (x0.Ports.length : Int)).bind fun r125 => ((m_impl_PortsOf fuel x0.Kind r125).bind fun r132 => (if (r132 != (x0.Ports.length : Int)) = true then m_impl_wellFormed_j1 fuel x0 true else ((m_impl_isAllowed fuel x0.Kind x0.Level).bind fun r140 => m_impl_wellFormed_j1 fuel x0 (!r140))))))

set_option maxRecDepth 100000 in
theorem impl_wellFormed_ok {W w : World} (hE : Ext W w) {c0_ : List Value} {x0 : D.Agent} (h0_ : ty206.ro W c0_ x0) {fuel : Nat} {r : Bool} (hm : m_impl_wellFormed fuel x0 = some r) :
    Calls Try.prog 208 ⟨[.agg ⟨c0_⟩]⟩ w (Ret fun v w8 => v = .bool r ∧ St w w8 []) := by
  obtain ⟨A1, k2, A4, k5, e7, h3, h6⟩ := ty206_open h0_; subst e7
  refine Calls.into Try.func208 rfl 117 rfl rfl _ rfl ?_
  unfold m_impl_wellFormed at hm
  have hS := St.start w
  refine WP.seq ?_
  refine WP.region ?_
  refine RW.new ttok hS rfl rfl rfl rfl (fun g10 w11 e12 hS13 => ?_)
  refine RW.run ttok 1 rfl ?_
  refine RW.nil ?_
  refine WP.seq ?_
  refine WP.seq ?_
  refine WP.cut (fun (t14 : Bool) F w9 => m_impl_wellFormed_j1 fuel x0 t14 = some r ∧ Ext w11 w9 ∧ St w w9 [Box g10 [.int .i64 x0.Kind, .int .i64 x0.Level, .int .i64 x0.Value, .slice A1 x0.Data.length k2, .slice A4 x0.Ports.length k5] 206] ∧ F = [(1, .pointer (some ⟨g10, 0, none⟩)), (32, .bool t14)]) ?_ ?_
  · skip
    rintro t14 F w17 ⟨hm, hE15, hS16, rfl⟩
    unfold m_impl_wellFormed_j1 at hm
    refine WP.cond t14 rfl (fun hc => ?_) (fun hc => ?_)
    · skip
      rw [if_pos hc] at hm
      refine WP.seq ?_
      refine WP.region ?_
      refine RW.run ttok 1 rfl ?_
      refine RW.nil ?_
      refine WP.ret ?_
      cases hm
      exact ⟨_, .cons (.tmp rfl) .nil, rfl, (hS16.taken 0)⟩
    · skip
      rw [if_neg (not_t hc)] at hm
      refine WP.skip ?_
      refine WP.seq ?_
      refine WP.drawnM 0 mixed 9 (by kernel_rfl) (by kernel_rfl) [([], 511), ([0], 510), ([1], 509), ([], 511), ([3], 503), ([4], 495), ([5], 479), ([2, 0, 1, 2], 507), ([6, 7, 0, 1, 2, 3, 4, 5, 6, 7], 447)] (by kernel_rfl) (fun hsk19 => ?_)
      have hS20 := hS16.step (Ext.draw _)
      refine DM.run (fuel := 7) ttok hsk19 [0, 3] 9 (by kernel_rfl) (by kernel_rfl) rfl ?_
      refine DM.load1 ttok hsk19 1 11 (by kernel_rfl) (by kernel_rfl) (by kernel_rfl) (by kernel_rfl) rfl (by kernel_rfl) rfl rfl rfl rfl rfl ((hS16.bring 0 rfl).box) 2 rfl rfl rfl rfl ?_
      refine DM.run (fuel := 4) ttok hsk19 [2, 7] 143 (by kernel_rfl) (by kernel_rfl) rfl ?_
      refine DM.load1 ttok hsk19 4 159 (by kernel_rfl) (by kernel_rfl) (by kernel_rfl) (by kernel_rfl) rfl (by kernel_rfl) rfl rfl rfl rfl rfl ((hS16.bring 0 rfl).box) 3 rfl rfl rfl rfl ?_
      refine DM.run (fuel := 0) ttok hsk19 [5, 6, 8] 511 (by kernel_rfl) (by kernel_rfl) rfl ?_
      refine DM.weak [(1, .pointer (some ⟨g10, 0, none⟩)), (3, .bool (x0.Value == 0)), (4, .bool ((x0.Data.length : Int) == 0))] ⟨rfl, rfl, rfl, trivial⟩ ?_
      refine DM.done hsk19 (by kernel_rfl) ?_
      refine WP.seq ?_
      refine WP.region ?_
      refine RW.run ttok 1 rfl ?_
      refine RW.load1 ttok rfl rfl rfl rfl rfl ((hS20.bring 0 rfl).box) 3 rfl rfl rfl rfl ?_
      obtain ⟨r21, hx22, hm⟩ := bind_some hm
      refine RW.call rfl rfl rfl enters70 (slices_ContainsFunc_int64_int64_ok (hE.trans hS20.ext) h3 ⟨enters234, fun e9 => (fun  hx9 => impl_wellFormed_c1_ok (Ext.refl _)  hx9)⟩ hx22) (fun v23 w24 hR25 => ?_)
      obtain ⟨rfl, hR26⟩ := hR25
      have hS27 := hS20.join hR26
      refine RW.run ttok 2 rfl ?_
      refine RW.nil ?_
      refine WP.seq ?_
      refine WP.seq ?_
      refine WP.region ?_
      refine RW.run ttok 1 rfl ?_
      refine RW.load1 ttok rfl rfl rfl rfl rfl ((hS27.bring 0 rfl).box) 0 rfl rfl rfl rfl ?_
      refine RW.nil ?_
      refine WP.block ?_
      refine WP.seq ?_
      refine WP.region ?_
      refine RW.run ttok 2 rfl ?_
      refine RW.nil ?_
      refine WP.cut (fun (t28 : Bool × Bool) F w9 => m_impl_wellFormed_j2 fuel t28 = some r ∧ Ext w24 w9 ∧ St w w9 [Box g10 [.int .i64 x0.Kind, .int .i64 x0.Level, .int .i64 x0.Value, .slice A1 x0.Data.length k2, .slice A4 x0.Ports.length k5] 206] ∧ F = [(3, .bool t28.1), (4, .bool t28.2)]) ?_ ?_
      · skip
        rintro t28 F w31 ⟨hm, hE29, hS30, rfl⟩
        unfold m_impl_wellFormed_j2 at hm
        refine WP.seq ?_
        refine WP.region ?_
        refine RW.run ttok 2 rfl ?_
        by_cases hg33 : t28.1 = true
        · skip
          rw [if_pos hg33] at hm
          refine RW.know 114 rfl (congrArg Value.bool hg33) ?_
          refine RW.run ttok 3 rfl ?_
          refine RW.nil ?_
          refine WP.ret ?_
          cases hm
          exact ⟨_, .cons (.tmp rfl) .nil, rfl, (hS30.taken 0)⟩
        · skip
          rw [if_neg hg33] at hm
          refine RW.know 114 rfl (congrArg Value.bool (Bool.eq_false_iff.2 hg33)) ?_
          refine RW.run ttok 3 rfl ?_
          refine RW.nil ?_
          refine WP.ret ?_
          cases hm
          exact ⟨_, .cons (.tmp rfl) .nil, rfl, (hS30.taken 0)⟩
      · skip
        refine WP.cond (x0.Kind == 6) rfl (fun hc => ?_) (fun hc => ?_)
        · skip
          rw [if_pos hc] at hm
          refine WP.region ?_
          refine RW.run ttok 1 rfl ?_
          refine RW.load1 ttok rfl rfl rfl rfl rfl ((hS27.bring 0 rfl).box) 2 rfl rfl rfl rfl ?_
          obtain ⟨r34, hx35, hm⟩ := bind_some hm
          refine RW.call rfl rfl rfl enters236 (impl_isInt_ok (hE.trans hS27.ext)  hx35) (fun v36 w37 hR38 => ?_)
          obtain ⟨rfl, hR39⟩ := hR38
          have hS40 := hS27.join hR39
          refine RW.run ttok 1 rfl ?_
          refine RW.nil ?_
          exact ⟨(r34, ((x0.Data.length : Int) == 0)), [(3, .bool r34), (4, .bool ((x0.Data.length : Int) == 0))], ⟨rfl, rfl, trivial⟩, hm, hR39.ext, hS40, rfl⟩
        · skip
          rw [if_neg (not_t hc)] at hm
          refine WP.seq ?_
          refine WP.region ?_
          refine RW.run ttok 2 rfl ?_
          refine RW.nil ?_
          refine WP.cut (fun (t41 : Bool × Bool) F w9 => m_impl_wellFormed_j3 fuel t41 = some r ∧ Ext w24 w9 ∧ St w w9 [Box g10 [.int .i64 x0.Kind, .int .i64 x0.Level, .int .i64 x0.Value, .slice A1 x0.Data.length k2, .slice A4 x0.Ports.length k5] 206] ∧ F = [(3, .bool t41.1), (4, .bool t41.2)]) ?_ ?_
          · skip
            rintro t41 F w44 ⟨hm, hE42, hS43, rfl⟩
            unfold m_impl_wellFormed_j3 at hm
            exact ⟨(t41.1, t41.2), [(3, .bool t41.1), (4, .bool t41.2)], ⟨rfl, rfl, trivial⟩, hm, hE42, hS43, rfl⟩
          · skip
            refine WP.cond (x0.Kind == 7) rfl (fun hc => ?_) (fun hc => ?_)
            · skip
              rw [if_pos hc] at hm
              refine WP.region ?_
              refine RW.run ttok 1 rfl ?_
              refine RW.load1 ttok rfl rfl rfl rfl rfl ((hS27.bring 0 rfl).box) 2 rfl rfl rfl rfl ?_
              obtain ⟨r46, hx47, hm⟩ := bind_some hm
              refine RW.call rfl rfl rfl enters237 (impl_isOperator_ok (hE.trans hS27.ext)  hx47) (fun v48 w49 hR50 => ?_)
              obtain ⟨rfl, hR51⟩ := hR50
              have hS52 := hS27.join hR51
              refine RW.run ttok 1 rfl ?_
              refine RW.nil ?_
              exact ⟨(r46, ((x0.Data.length : Int) == 0)), [(3, .bool r46), (4, .bool ((x0.Data.length : Int) == 0))], ⟨rfl, rfl, trivial⟩, hm, hR51.ext, hS52, rfl⟩
            · skip
              rw [if_neg (not_t hc)] at hm
              refine WP.seq ?_
              refine WP.region ?_
              refine RW.run ttok 2 rfl ?_
              refine RW.nil ?_
              refine WP.cond (x0.Kind == 8) rfl (fun hc => ?_) (fun hc => ?_)
              · skip
                rw [if_pos hc] at hm
                refine WP.seq ?_
                refine WP.region ?_
                refine RW.run ttok 1 rfl ?_
                refine RW.load1 ttok rfl rfl rfl rfl rfl ((hS27.bring 0 rfl).box) 2 rfl rfl rfl rfl ?_
                obtain ⟨r53, hx54, hm⟩ := bind_some hm
                refine RW.call rfl rfl rfl enters237 (impl_isOperator_ok (hE.trans hS27.ext)  hx54) (fun v55 w56 hR57 => ?_)
                obtain ⟨rfl, hR58⟩ := hR57
                have hS59 := hS27.join hR58
                refine RW.run ttok 1 rfl ?_
                by_cases hg60 : r53 = true
                · skip
                  rw [if_pos hg60] at hm
                  refine RW.know 61 rfl (congrArg Value.bool hg60) ?_
                  refine RW.run ttok 1 rfl ?_
                  refine RW.load1 ttok rfl rfl rfl rfl rfl ((hS59.bring 0 rfl).box) 3 rfl rfl rfl rfl ?_
                  refine RW.run ttok 4 rfl ?_
                  by_cases hg61 : ((x0.Data.length : Int) == 1) = true
                  · skip
                    rw [if_pos hg61] at hm
                    refine RW.know 67 rfl (congrArg Value.bool hg61) ?_
                    refine RW.run ttok 1 rfl ?_
                    refine RW.load1 ttok rfl rfl rfl rfl rfl ((hS59.bring 0 rfl).box) 3 rfl rfl rfl rfl ?_
                    obtain ⟨x62, hx63, hm⟩ := bind_some hm
                    refine RW.idx ttok (hE.trans hS59.ext) rfl rfl rfl rfl rfl rfl (by decide) rfl rfl h3 (idx_some hx63).1 (idx_some hx63).2 rfl rfl (fun p65 es66 ha67 hr68 => ?_)
                    cases hr68
                    refine RW.load1 ttok rfl rfl rfl rfl rfl (At.ext (hE.trans hS59.ext) ha67) 0 rfl rfl rfl rfl ?_
                    obtain ⟨r69, hx70, hm⟩ := bind_some hm
                    refine RW.call rfl rfl rfl enters236 (impl_isInt_ok (hE.trans hS59.ext)  hx70) (fun v71 w72 hR73 => ?_)
                    obtain ⟨rfl, hR74⟩ := hR73
                    have hS75 := hS59.join hR74
                    refine RW.run ttok 2 rfl ?_
                    refine RW.nil ?_
                    refine WP.ret ?_
                    cases hm
                    exact ⟨_, .cons (.tmp rfl) .nil, rfl, (hS75.taken 0)⟩
                  · skip
                    rw [if_neg hg61] at hm
                    refine RW.know 67 rfl (congrArg Value.bool (Bool.eq_false_iff.2 hg61)) ?_
                    refine RW.run ttok 7 rfl ?_
                    refine RW.nil ?_
                    refine WP.ret ?_
                    cases hm
                    exact ⟨_, .cons (.tmp rfl) .nil, rfl, (hS59.taken 0)⟩
                · skip
                  rw [if_neg hg60] at hm
                  refine RW.know 61 rfl (congrArg Value.bool (Bool.eq_false_iff.2 hg60)) ?_
                  refine RW.run ttok 13 rfl ?_
                  refine RW.nil ?_
                  refine WP.ret ?_
                  cases hm
                  exact ⟨_, .cons (.tmp rfl) .nil, rfl, (hS59.taken 0)⟩
              · skip
                rw [if_neg (not_t hc)] at hm
                refine WP.seq ?_
                refine WP.region ?_
                refine RW.run ttok 2 rfl ?_
                refine RW.nil ?_
                refine WP.cut (fun (t76 : Bool × Bool) F w9 => m_impl_wellFormed_j4 fuel t76 = some r ∧ Ext w24 w9 ∧ St w w9 [Box g10 [.int .i64 x0.Kind, .int .i64 x0.Level, .int .i64 x0.Value, .slice A1 x0.Data.length k2, .slice A4 x0.Ports.length k5] 206] ∧ F = [(3, .bool t76.1), (4, .bool t76.2)]) ?_ ?_
                · skip
                  rintro t76 F w79 ⟨hm, hE77, hS78, rfl⟩
                  unfold m_impl_wellFormed_j4 at hm
                  exact ⟨(t76.1, t76.2), [(3, .bool t76.1), (4, .bool t76.2)], ⟨rfl, rfl, trivial⟩, hm, hE77, hS78, rfl⟩
                · skip
                  refine WP.cond (x0.Kind == 9) rfl (fun hc => ?_) (fun hc => ?_)
                  · skip
                    rw [if_pos hc] at hm
                    refine WP.cut (fun (t81 : Bool) F w9 => m_impl_wellFormed_j5 fuel x0 t81 = some r ∧ Ext w24 w9 ∧ St w w9 [Box g10 [.int .i64 x0.Kind, .int .i64 x0.Level, .int .i64 x0.Value, .slice A1 x0.Data.length k2, .slice A4 x0.Ports.length k5] 206] ∧ F = [(3, .bool t81), (4, .bool ((x0.Data.length : Int) == 0))]) ?_ ?_
                    · skip
                      rintro t81 F w84 ⟨hm, hE82, hS83, rfl⟩
                      unfold m_impl_wellFormed_j5 at hm
                      exact ⟨(t81, ((x0.Data.length : Int) == 0)), [(3, .bool t81), (4, .bool ((x0.Data.length : Int) == 0))], ⟨rfl, rfl, trivial⟩, hm, hE82, hS83, rfl⟩
                    · skip
                      refine WP.region ?_
                      refine RW.run ttok 1 rfl ?_
                      refine RW.load1 ttok rfl rfl rfl rfl rfl ((hS27.bring 0 rfl).box) 2 rfl rfl rfl rfl ?_
                      refine RW.run ttok 2 rfl ?_
                      by_cases hg86 : (decide (x0.Value ≥ 0)) = true
                      · skip
                        rw [if_pos hg86] at hm
                        refine RW.know 79 rfl (congrArg Value.bool hg86) ?_
                        refine RW.run ttok 1 rfl ?_
                        refine RW.load1 ttok rfl rfl rfl rfl rfl ((hS27.bring 0 rfl).box) 2 rfl rfl rfl rfl ?_
                        refine RW.run ttok 3 rfl ?_
                        refine RW.nil ?_
                        exact ⟨decide (x0.Value < 4), [(3, .bool (decide (x0.Value < 4))), (4, .bool ((x0.Data.length : Int) == 0))], ⟨rfl, rfl, trivial⟩, hm, (Ext.refl _), hS27, rfl⟩
                      · skip
                        rw [if_neg hg86] at hm
                        refine RW.know 79 rfl (congrArg Value.bool (Bool.eq_false_iff.2 hg86)) ?_
                        refine RW.run ttok 5 rfl ?_
                        refine RW.nil ?_
                        exact ⟨false, [(3, .bool false), (4, .bool ((x0.Data.length : Int) == 0))], ⟨rfl, rfl, trivial⟩, hm, (Ext.refl _), hS27, rfl⟩
                  · skip
                    rw [if_neg (not_t hc)] at hm
                    refine WP.seq ?_
                    refine WP.region ?_
                    refine RW.run ttok 2 rfl ?_
                    refine RW.nil ?_
                    refine WP.cut (fun (t87 : Bool × Bool) F w9 => m_impl_wellFormed_j6 fuel t87 = some r ∧ Ext w24 w9 ∧ St w w9 [Box g10 [.int .i64 x0.Kind, .int .i64 x0.Level, .int .i64 x0.Value, .slice A1 x0.Data.length k2, .slice A4 x0.Ports.length k5] 206] ∧ F = [(3, .bool t87.1), (4, .bool t87.2)]) ?_ ?_
                    · skip
                      rintro t87 F w90 ⟨hm, hE88, hS89, rfl⟩
                      unfold m_impl_wellFormed_j6 at hm
                      exact ⟨(t87.1, t87.2), [(3, .bool t87.1), (4, .bool t87.2)], ⟨rfl, rfl, trivial⟩, hm, hE88, hS89, rfl⟩
                    · skip
                      refine WP.cond (x0.Kind == 10) rfl (fun hc => ?_) (fun hc => ?_)
                      · skip
                        rw [if_pos hc] at hm
                        refine WP.cut (fun (t92 : Bool) F w9 => m_impl_wellFormed_j7 fuel x0 t92 = some r ∧ Ext w24 w9 ∧ St w w9 [Box g10 [.int .i64 x0.Kind, .int .i64 x0.Level, .int .i64 x0.Value, .slice A1 x0.Data.length k2, .slice A4 x0.Ports.length k5] 206] ∧ F = [(3, .bool (x0.Value == 0)), (4, .bool t92)]) ?_ ?_
                        · skip
                          rintro t92 F w95 ⟨hm, hE93, hS94, rfl⟩
                          unfold m_impl_wellFormed_j7 at hm
                          exact ⟨((x0.Value == 0), t92), [(3, .bool (x0.Value == 0)), (4, .bool t92)], ⟨rfl, rfl, trivial⟩, hm, hE93, hS94, rfl⟩
                        · skip
                          refine WP.region ?_
                          refine RW.run ttok 1 rfl ?_
                          refine RW.load1 ttok rfl rfl rfl rfl rfl ((hS27.bring 0 rfl).box) 3 rfl rfl rfl rfl ?_
                          refine RW.run ttok 3 rfl ?_
                          by_cases hg97 : (decide ((x0.Data.length : Int) ≥ 1)) = true
                          · skip
                            rw [if_pos hg97] at hm
                            refine RW.know 90 rfl (congrArg Value.bool hg97) ?_
                            refine RW.run ttok 1 rfl ?_
                            refine RW.load1 ttok rfl rfl rfl rfl rfl ((hS27.bring 0 rfl).box) 3 rfl rfl rfl rfl ?_
                            refine RW.run ttok 4 rfl ?_
                            by_cases hg98 : (decide ((x0.Data.length : Int) ≤ 4)) = true
                            · skip
                              rw [if_pos hg98] at hm
                              refine RW.know 96 rfl (congrArg Value.bool hg98) ?_
                              refine RW.run ttok 3 rfl ?_
                              refine RW.nil ?_
                              exact ⟨!r21, [(3, .bool (x0.Value == 0)), (4, .bool (!r21))], ⟨rfl, rfl, trivial⟩, hm, (Ext.refl _), hS27, rfl⟩
                            · skip
                              rw [if_neg hg98] at hm
                              refine RW.know 96 rfl (congrArg Value.bool (Bool.eq_false_iff.2 hg98)) ?_
                              refine RW.run ttok 3 rfl ?_
                              refine RW.nil ?_
                              exact ⟨false, [(3, .bool (x0.Value == 0)), (4, .bool false)], ⟨rfl, rfl, trivial⟩, hm, (Ext.refl _), hS27, rfl⟩
                          · skip
                            rw [if_neg hg97] at hm
                            refine RW.know 90 rfl (congrArg Value.bool (Bool.eq_false_iff.2 hg97)) ?_
                            refine RW.run ttok 9 rfl ?_
                            refine RW.nil ?_
                            exact ⟨false, [(3, .bool (x0.Value == 0)), (4, .bool false)], ⟨rfl, rfl, trivial⟩, hm, (Ext.refl _), hS27, rfl⟩
                      · skip
                        rw [if_neg (not_t hc)] at hm
                        refine WP.seq ?_
                        refine WP.region ?_
                        refine RW.run ttok 2 rfl ?_
                        refine RW.nil ?_
                        refine WP.cut (fun (t99 : Bool × Bool) F w9 => m_impl_wellFormed_j8 fuel t99 = some r ∧ Ext w24 w9 ∧ St w w9 [Box g10 [.int .i64 x0.Kind, .int .i64 x0.Level, .int .i64 x0.Value, .slice A1 x0.Data.length k2, .slice A4 x0.Ports.length k5] 206] ∧ F = [(3, .bool t99.1), (4, .bool t99.2)]) ?_ ?_
                        · skip
                          rintro t99 F w102 ⟨hm, hE100, hS101, rfl⟩
                          unfold m_impl_wellFormed_j8 at hm
                          exact ⟨(t99.1, t99.2), [(3, .bool t99.1), (4, .bool t99.2)], ⟨rfl, rfl, trivial⟩, hm, hE100, hS101, rfl⟩
                        · skip
                          refine WP.cond (x0.Kind == 11) rfl (fun hc => ?_) (fun hc => ?_)
                          · skip
                            rw [if_pos hc] at hm
                            refine WP.cut (fun (t104 : Bool) F w9 => m_impl_wellFormed_j9 fuel x0 t104 = some r ∧ Ext w24 w9 ∧ St w w9 [Box g10 [.int .i64 x0.Kind, .int .i64 x0.Level, .int .i64 x0.Value, .slice A1 x0.Data.length k2, .slice A4 x0.Ports.length k5] 206] ∧ F = [(3, .bool (x0.Value == 0)), (4, .bool t104)]) ?_ ?_
                            · skip
                              rintro t104 F w107 ⟨hm, hE105, hS106, rfl⟩
                              unfold m_impl_wellFormed_j9 at hm
                              exact ⟨((x0.Value == 0), t104), [(3, .bool (x0.Value == 0)), (4, .bool t104)], ⟨rfl, rfl, trivial⟩, hm, hE105, hS106, rfl⟩
                            · skip
                              refine WP.region ?_
                              refine RW.run ttok 1 rfl ?_
                              refine RW.load1 ttok rfl rfl rfl rfl rfl ((hS27.bring 0 rfl).box) 3 rfl rfl rfl rfl ?_
                              refine RW.run ttok 3 rfl ?_
                              by_cases hg109 : ((x0.Data.length : Int) == 2) = true
                              · skip
                                rw [if_pos hg109] at hm
                                refine RW.know 105 rfl (congrArg Value.bool hg109) ?_
                                refine RW.run ttok 3 rfl ?_
                                refine RW.nil ?_
                                exact ⟨!r21, [(3, .bool (x0.Value == 0)), (4, .bool (!r21))], ⟨rfl, rfl, trivial⟩, hm, (Ext.refl _), hS27, rfl⟩
                              · skip
                                rw [if_neg hg109] at hm
                                refine RW.know 105 rfl (congrArg Value.bool (Bool.eq_false_iff.2 hg109)) ?_
                                refine RW.run ttok 3 rfl ?_
                                refine RW.nil ?_
                                exact ⟨false, [(3, .bool (x0.Value == 0)), (4, .bool false)], ⟨rfl, rfl, trivial⟩, hm, (Ext.refl _), hS27, rfl⟩
                          · skip
                            rw [if_neg (not_t hc)] at hm
                            refine WP.seq ?_
                            refine WP.region ?_
                            refine RW.run ttok 2 rfl ?_
                            refine RW.nil ?_
                            refine WP.cut (fun (t110 : Bool) F w9 => m_impl_wellFormed_j10 fuel x0 t110 = some r ∧ Ext w24 w9 ∧ St w w9 [Box g10 [.int .i64 x0.Kind, .int .i64 x0.Level, .int .i64 x0.Value, .slice A1 x0.Data.length k2, .slice A4 x0.Ports.length k5] 206] ∧ F = [(3, .bool t110), (4, .bool ((x0.Data.length : Int) == 0))]) ?_ ?_
                            · skip
                              rintro t110 F w113 ⟨hm, hE111, hS112, rfl⟩
                              unfold m_impl_wellFormed_j10 at hm
                              exact ⟨(t110, ((x0.Data.length : Int) == 0)), [(3, .bool t110), (4, .bool ((x0.Data.length : Int) == 0))], ⟨rfl, rfl, trivial⟩, hm, hE111, hS112, rfl⟩
                            · skip
                              refine WP.cond (x0.Kind == 12) rfl (fun hc => ?_) (fun hc => ?_)
                              · skip
                                rw [if_pos hc] at hm
                                refine WP.region ?_
                                refine RW.run ttok 1 rfl ?_
                                refine RW.load1 ttok rfl rfl rfl rfl rfl ((hS27.bring 0 rfl).box) 2 rfl rfl rfl rfl ?_
                                obtain ⟨r115, hx116, hm⟩ := bind_some hm
                                refine RW.call rfl rfl rfl enters235 (impl_isDefIndex_ok (hE.trans hS27.ext)  hx116) (fun v117 w118 hR119 => ?_)
                                obtain ⟨rfl, hR120⟩ := hR119
                                have hS121 := hS27.join hR120
                                refine RW.run ttok 1 rfl ?_
                                refine RW.nil ?_
                                exact ⟨r115, [(3, .bool r115), (4, .bool ((x0.Data.length : Int) == 0))], ⟨rfl, rfl, trivial⟩, hm, hR120.ext, hS121, rfl⟩
                              · skip
                                rw [if_neg (not_t hc)] at hm
                                refine WP.skip ?_
                                exact ⟨(x0.Value == 0), [(3, .bool (x0.Value == 0)), (4, .bool ((x0.Data.length : Int) == 0))], ⟨rfl, rfl, trivial⟩, hm, (Ext.refl _), hS27, rfl⟩
  · skip
    refine WP.drawnM 0 mixed 27 (by kernel_rfl) (by kernel_rfl) [([], 134217727), ([0], 134217726), ([1], 134217725), ([2], 134217723), ([3], 134217719), ([4], 134217711), ([5, 4], 134217679), ([4], 134217711), ([7, 4], 134217583), ([4], 134217711), ([9, 4], 134217199), ([10, 4], 134216687), ([8, 11, 4, 4], 134215407), ([6, 12, 12, 4], 134213551), ([4], 134217711), ([14, 4], 134201327), ([15, 4], 134184943), ([13, 16, 4], 134143983), ([4, 17], 134086639), ([18, 13], 133955583), ([19], 133693439), ([20, 19], 132644863), ([19], 133693439), ([22, 19], 129499135), ([21, 23, 19, 19], 123207679), ([24, 19], 116916223), ([19, 25], 100139007)] (by kernel_rfl) (fun hsk122 => ?_)
    have hS123 := hS13.step (Ext.draw _)
    refine DM.run (fuel := 26) ttok hsk122 [0] 1 (by kernel_rfl) (by kernel_rfl) rfl ?_
    refine DM.load1 ttok hsk122 1 3 (by kernel_rfl) (by kernel_rfl) (by kernel_rfl) (by kernel_rfl) rfl (by kernel_rfl) rfl rfl rfl rfl rfl ((hS13.bring 0 rfl).box) 4 rfl rfl rfl rfl ?_
    refine DM.run (fuel := 22) ttok hsk122 [2, 3, 4] 31 (by kernel_rfl) (by kernel_rfl) rfl ?_
    refine DM.weak [(1, .pointer (some ⟨g10, 0, none⟩)), (10, .bool ((x0.Ports.length : Int) == 0))] ⟨rfl, rfl, trivial⟩ ?_
    by_cases hg124 : ((x0.Ports.length : Int) == 0) = true
    · skip
      rw [if_pos hg124] at hm
      refine DM.know 10 rfl (congrArg Value.bool hg124) ?_
      refine DM.run (fuel := 0) ttok hsk122 [5, 6, 7, 8, 9, 10, 11, 12, 13, 14, 15, 16, 17, 18, 19, 20, 21, 22, 23, 24, 25, 26] 134217727 (by kernel_rfl) (by kernel_rfl) rfl ?_
      refine DM.weak [(1, .pointer (some ⟨g10, 0, none⟩)), (32, .bool true)] ⟨rfl, rfl, trivial⟩ ?_
      refine DM.done hsk122 (by kernel_rfl) ?_
      exact ⟨true, [(1, .pointer (some ⟨g10, 0, none⟩)), (32, .bool true)], ⟨rfl, rfl, trivial⟩, hm, (Ext.draw _), hS123, rfl⟩
    · skip
      rw [if_neg hg124] at hm
      refine DM.know 10 rfl (congrArg Value.bool (Bool.eq_false_iff.2 hg124)) ?_
      refine DM.run (fuel := 18) ttok hsk122 [5, 7, 9, 14] 17087 (by kernel_rfl) (by kernel_rfl) rfl ?_
      refine DM.load1 ttok hsk122 6 17151 (by kernel_rfl) (by kernel_rfl) (by kernel_rfl) (by kernel_rfl) rfl (by kernel_rfl) rfl rfl rfl rfl rfl ((hS13.bring 0 rfl).box) 0 rfl rfl rfl rfl ?_
      refine DM.load1 ttok hsk122 8 17407 (by kernel_rfl) (by kernel_rfl) (by kernel_rfl) (by kernel_rfl) rfl (by kernel_rfl) rfl rfl rfl rfl rfl ((hS13.bring 0 rfl).box) 0 rfl rfl rfl rfl ?_
      refine DM.load1 ttok hsk122 10 18431 (by kernel_rfl) (by kernel_rfl) (by kernel_rfl) (by kernel_rfl) rfl (by kernel_rfl) rfl rfl rfl rfl rfl ((hS13.bring 0 rfl).box) 4 rfl rfl rfl rfl ?_
      refine DM.run (fuel := 14) ttok hsk122 [11] 20479 (by kernel_rfl) (by kernel_rfl) rfl ?_
      refine DM.load1 ttok hsk122 15 53247 (by kernel_rfl) (by kernel_rfl) (by kernel_rfl) (by kernel_rfl) rfl (by kernel_rfl) rfl rfl rfl rfl rfl ((hS13.bring 0 rfl).box) 4 rfl rfl rfl rfl ?_
      refine DM.run (fuel := 12) ttok hsk122 [16] 118783 (by kernel_rfl) (by kernel_rfl) rfl ?_
      refine DM.weak [(1, .pointer (some ⟨g10, 0, none⟩)), (10, .bool false), (12, .int .i64 x0.Kind), (14, .int .i64 x0.Kind), (17, .int .i64 (x0.Ports.length : Int)), (22, .int .i64 (x0.Ports.length : Int))] ⟨rfl, rfl, rfl, rfl, rfl, rfl, trivial⟩ ?_
      obtain ⟨r125, hx126, hm⟩ := bind_some hm
      refine DM.one hsk122 12 (by kernel_rfl) (LM.call hsk122 122879 (by kernel_rfl) (by kernel_rfl) rfl rfl rfl rfl enters232 (impl_fieldsOf_ok (hE.trans hS123.ext)  hx126) (fun v127 w128 hR129 => ?_))
      obtain ⟨rfl, hR130⟩ := hR129
      refine ⟨hR130.ext, ?_⟩
      have hS131 := hS123.join hR130
      obtain ⟨r132, hx133, hm⟩ := bind_some hm
      refine DM.one hsk122 13 (by kernel_rfl) (LM.call hsk122 131071 (by kernel_rfl) (by kernel_rfl) rfl rfl rfl rfl enters231 (impl_PortsOf_ok (hE.trans hS131.ext)  hx133) (fun v134 w135 hR136 => ?_))
      obtain ⟨rfl, hR137⟩ := hR136
      refine ⟨hR137.ext, ?_⟩
      have hS138 := hS131.join hR137
      refine DM.run (fuel := 7) ttok hsk122 [17, 18, 19] 1048575 (by kernel_rfl) (by kernel_rfl) rfl ?_
      refine DM.weak [(1, .pointer (some ⟨g10, 0, none⟩)), (25, .bool (r132 != (x0.Ports.length : Int)))] ⟨rfl, rfl, trivial⟩ ?_
      by_cases hg139 : (r132 != (x0.Ports.length : Int)) = true
      · skip
        rw [if_pos hg139] at hm
        refine DM.know 25 rfl (congrArg Value.bool hg139) ?_
        refine DM.run (fuel := 0) ttok hsk122 [20, 21, 22, 23, 24, 25, 26] 134217727 (by kernel_rfl) (by kernel_rfl) rfl ?_
        refine DM.weak [(1, .pointer (some ⟨g10, 0, none⟩)), (32, .bool true)] ⟨rfl, rfl, trivial⟩ ?_
        refine DM.done hsk122 (by kernel_rfl) ?_
        exact ⟨true, [(1, .pointer (some ⟨g10, 0, none⟩)), (32, .bool true)], ⟨rfl, rfl, trivial⟩, hm, (((Ext.draw _).trans hR130.ext).trans hR137.ext), hS138, rfl⟩
      · skip
        rw [if_neg hg139] at hm
        refine DM.know 25 rfl (congrArg Value.bool (Bool.eq_false_iff.2 hg139)) ?_
        refine DM.run (fuel := 5) ttok hsk122 [20, 22] 6291455 (by kernel_rfl) (by kernel_rfl) rfl ?_
        refine DM.load1 ttok hsk122 21 8388607 (by kernel_rfl) (by kernel_rfl) (by kernel_rfl) (by kernel_rfl) rfl (by kernel_rfl) rfl rfl rfl rfl rfl ((hS13.bring 0 rfl).box) 0 rfl rfl rfl rfl ?_
        refine DM.load1 ttok hsk122 23 16777215 (by kernel_rfl) (by kernel_rfl) (by kernel_rfl) (by kernel_rfl) rfl (by kernel_rfl) rfl rfl rfl rfl rfl ((hS13.bring 0 rfl).box) 1 rfl rfl rfl rfl ?_
        obtain ⟨r140, hx141, hm⟩ := bind_some hm
        refine DM.one hsk122 24 (by kernel_rfl) (LM.call hsk122 33554431 (by kernel_rfl) (by kernel_rfl) rfl rfl rfl rfl enters233 (impl_isAllowed_ok (hE.trans hS138.ext)  hx141) (fun v142 w143 hR144 => ?_))
        obtain ⟨rfl, hR145⟩ := hR144
        refine ⟨hR145.ext, ?_⟩
        have hS146 := hS138.join hR145
        refine DM.run (fuel := 0) ttok hsk122 [25, 26] 134217727 (by kernel_rfl) (by kernel_rfl) rfl ?_
        refine DM.weak [(1, .pointer (some ⟨g10, 0, none⟩)), (32, .bool (!r140))] ⟨rfl, rfl, trivial⟩ ?_
        refine DM.done hsk122 (by kernel_rfl) ?_
        exact ⟨!r140, [(1, .pointer (some ⟨g10, 0, none⟩)), (32, .bool (!r140))], ⟨rfl, rfl, trivial⟩, hm, ((((Ext.draw _).trans hR130.ext).trans hR137.ext).trans hR145.ext), hS146, rfl⟩

theorem enters188 : Enters Try.prog 188 := ⟨_, _, Try.func188, rfl, by kernel_rfl⟩
def m_impl_Cell_isVariable (fuel : Nat) (x0 : D.Cell) : Option (Bool) := some (x0.Kind == 13)

set_option maxRecDepth 100000 in
theorem impl_Cell_isVariable_ok {W w : World} (hE : Ext W w) {c0_ : List Value} {x0 : D.Cell} (h0_ : ty167.ro W c0_ x0) {fuel : Nat} {r : Bool} (hm : m_impl_Cell_isVariable fuel x0 = some r) :
    Calls Try.prog 188 ⟨[.agg ⟨c0_⟩]⟩ w (Ret fun v w8 => v = .bool r ∧ St w w8 []) := by
  obtain ⟨A1, k2, A4, k5, e7, h3, h6⟩ := ty167_open h0_; subst e7
  refine Calls.into Try.func188 rfl 6 rfl rfl _ rfl ?_
  unfold m_impl_Cell_isVariable at hm
  have hS := St.start w
  refine WP.seq ?_
  refine WP.region ?_
  refine RW.new ttok hS rfl rfl rfl rfl (fun g10 w11 e12 hS13 => ?_)
  refine RW.run ttok 1 rfl ?_
  refine RW.nil ?_
  refine WP.seq ?_
  refine WP.region ?_
  refine RW.run ttok 1 rfl ?_
  refine RW.load1 ttok rfl rfl rfl rfl rfl ((hS13.bring 0 rfl).box) 0 rfl rfl rfl rfl ?_
  refine RW.run ttok 2 rfl ?_
  refine RW.nil ?_
  refine WP.ret ?_
  cases hm
  exact ⟨_, .cons (.tmp rfl) .nil, rfl, (hS13.taken 0)⟩

theorem enters193 : Enters Try.prog 193 := ⟨_, _, Try.func193, rfl, by kernel_rfl⟩
def m_impl_Cell_isFree (fuel : Nat) (x0 : D.Cell) : Option (Bool) := some (x0.Kind == 0)

set_option maxRecDepth 100000 in
theorem impl_Cell_isFree_ok {W w : World} (hE : Ext W w) {c0_ : List Value} {x0 : D.Cell} (h0_ : ty167.ro W c0_ x0) {fuel : Nat} {r : Bool} (hm : m_impl_Cell_isFree fuel x0 = some r) :
    Calls Try.prog 193 ⟨[.agg ⟨c0_⟩]⟩ w (Ret fun v w8 => v = .bool r ∧ St w w8 []) := by
  obtain ⟨A1, k2, A4, k5, e7, h3, h6⟩ := ty167_open h0_; subst e7
  refine Calls.into Try.func193 rfl 6 rfl rfl _ rfl ?_
  unfold m_impl_Cell_isFree at hm
  have hS := St.start w
  refine WP.seq ?_
  refine WP.region ?_
  refine RW.new ttok hS rfl rfl rfl rfl (fun g10 w11 e12 hS13 => ?_)
  refine RW.run ttok 1 rfl ?_
  refine RW.nil ?_
  refine WP.seq ?_
  refine WP.region ?_
  refine RW.run ttok 1 rfl ?_
  refine RW.load1 ttok rfl rfl rfl rfl rfl ((hS13.bring 0 rfl).box) 0 rfl rfl rfl rfl ?_
  refine RW.run ttok 2 rfl ?_
  refine RW.nil ?_
  refine WP.ret ?_
  cases hm
  exact ⟨_, .cons (.tmp rfl) .nil, rfl, (hS13.taken 0)⟩

theorem enters179 : Enters Try.prog 179 := ⟨_, _, Try.func179, rfl, by kernel_rfl⟩
def m_impl_validCell (fuel : Nat) (x0 : D.Cell) : Option (Bool) := ((m_impl_Cell_isAgentCell fuel x0).bind fun r14 => (if r14 = true then (if decide (0 ≤ (w64 ((x0.Words.length : Int) + 1)) ∧ (w64 ((x0.Words.length : Int) + 1)) ≤ 4294967296) = true then ((m_impl_wellFormed fuel (⟨x0.Kind, x0.Level, x0.Value, x0.Data, (List.replicate (w64 ((x0.Words.length : Int) + 1)).toNat (⟨(0 : Int), (0 : Int)⟩ : D.Port))⟩ : D.Agent)).bind fun r30 => some r30) else none) else ((m_impl_Cell_isVariable fuel x0).bind fun r37 => (if r37 = true then (if (x0.Level == 0) = true then (if (x0.Value == 0) = true then (if ((x0.Data.length : Int) == 0) = true then some (decide ((x0.Words.length : Int) ≤ 1)) else some false) else some false) else some false) else ((m_impl_Cell_isFree fuel x0).bind fun r47 => (if r47 = true then (if (x0.Level == 0) = true then (if ((x0.Data.length : Int) == 0) = true then some ((x0.Words.length : Int) == 0) else some false) else some false) else some false))))))

set_option maxRecDepth 100000 in
theorem impl_validCell_ok {W w : World} (hE : Ext W w) {c0_ : List Value} {x0 : D.Cell} (h0_ : ty167.ro W c0_ x0) {fuel : Nat} {r : Bool} (hm : m_impl_validCell fuel x0 = some r) :
    Calls Try.prog 179 ⟨[.agg ⟨c0_⟩]⟩ w (Ret fun v w8 => v = .bool r ∧ St w w8 []) := by
  obtain ⟨A1, k2, A4, k5, e7, h3, h6⟩ := ty167_open h0_; subst e7
  refine Calls.into Try.func179 rfl 63 rfl rfl _ rfl ?_
  unfold m_impl_validCell at hm
  have hS := St.start w
  refine WP.seq ?_
  refine WP.region ?_
  refine RW.new ttok hS rfl rfl rfl rfl (fun g10 w11 e12 hS13 => ?_)
  refine RW.run ttok 1 rfl ?_
  refine RW.nil ?_
  refine WP.seq ?_
  refine WP.block ?_
  refine WP.seq ?_
  refine WP.region ?_
  refine RW.loadN ttok rfl rfl rfl rfl rfl ((hS13.bring 0 rfl).box) rfl rfl rfl ?_
  obtain ⟨r14, hx15, hm⟩ := bind_some hm
  refine RW.call rfl rfl rfl enters192 (impl_Cell_isAgentCell_ok (hE.trans hS13.ext) h0_ hx15) (fun v16 w17 hR18 => ?_)
  obtain ⟨rfl, hR19⟩ := hR18
  have hS20 := hS13.join hR19
  refine RW.run ttok 1 rfl ?_
  refine RW.nil ?_
  refine WP.cond r14 rfl (fun hc => ?_) (fun hc => ?_)
  · skip
    rw [if_pos hc] at hm
    refine WP.seq ?_
    refine WP.drawnM 0 mixed 16 (by kernel_rfl) (by kernel_rfl) [([], 65535), ([0], 65534), ([], 65535), ([2], 65531), ([], 65535), ([4], 65519), ([], 65535), ([6], 65471), ([], 65535), ([8], 65279), ([9], 65023), ([10], 64511), ([11, 11], 63487), ([1, 3, 5, 7, 12], 61269), ([13], 57343), ([14, 14, 0, 1, 2, 3, 4, 5, 6, 7, 8, 9, 10, 11, 12, 13, 14], 49151)] (by kernel_rfl) (fun hsk21 => ?_)
    have hS22 := hS20.step (Ext.draw _)
    refine DM.run (fuel := 11) ttok hsk21 [0, 2, 4, 6, 8] 341 (by kernel_rfl) (by kernel_rfl) rfl ?_
    refine DM.load1 ttok hsk21 1 343 (by kernel_rfl) (by kernel_rfl) (by kernel_rfl) (by kernel_rfl) rfl (by kernel_rfl) rfl rfl rfl rfl rfl ((hS20.bring 0 rfl).box) 0 rfl rfl rfl rfl ?_
    refine DM.load1 ttok hsk21 3 351 (by kernel_rfl) (by kernel_rfl) (by kernel_rfl) (by kernel_rfl) rfl (by kernel_rfl) rfl rfl rfl rfl rfl ((hS20.bring 0 rfl).box) 1 rfl rfl rfl rfl ?_
    refine DM.load1 ttok hsk21 5 383 (by kernel_rfl) (by kernel_rfl) (by kernel_rfl) (by kernel_rfl) rfl (by kernel_rfl) rfl rfl rfl rfl rfl ((hS20.bring 0 rfl).box) 2 rfl rfl rfl rfl ?_
    refine DM.load1 ttok hsk21 7 511 (by kernel_rfl) (by kernel_rfl) (by kernel_rfl) (by kernel_rfl) rfl (by kernel_rfl) rfl rfl rfl rfl rfl ((hS20.bring 0 rfl).box) 3 rfl rfl rfl rfl ?_
    refine DM.load1 ttok hsk21 9 1023 (by kernel_rfl) (by kernel_rfl) (by kernel_rfl) (by kernel_rfl) rfl (by kernel_rfl) rfl rfl rfl rfl rfl ((hS20.bring 0 rfl).box) 4 rfl rfl rfl rfl ?_
    refine DM.run (fuel := 4) ttok hsk21 [10, 11] 4095 (by kernel_rfl) (by kernel_rfl) rfl ?_
    refine DM.weak [(2, .bool false), (7, .int .i64 x0.Kind), (9, .int .i64 x0.Level), (11, .int .i64 x0.Value), (13, .slice A1 x0.Data.length k2), (17, .int .i64 (w64 ((x0.Words.length : Int) + 1)))] ⟨rfl, rfl, rfl, rfl, rfl, rfl, trivial⟩ ?_
    by_cases hk23 : decide (0 ≤ (w64 ((x0.Words.length : Int) + 1)) ∧ (w64 ((x0.Words.length : Int) + 1)) ≤ 4294967296) = true
    case neg => rw [if_neg hk23] at hm; cases hm
    rw [if_pos hk23] at hm
    have hz29 := of_decide_eq_true hk23
    refine DM.one hsk21 12 (by kernel_rfl) (LM.make (U := ty208) ttok (⟨(0 : Int), (0 : Int)⟩ : D.Port) hS22 hsk21 8191 (by kernel_rfl) (by kernel_rfl) rfl rfl rfl rfl rfl rfl rfl rfl rfl hz29.1 (by have := hz29.2; show _ * (16 : Int) ≤ _; omega) (by have := hz29.2; simp only [maxLen]; omega) (fun _ => (ty208_ownI (c := (⟨(0 : Int), (0 : Int)⟩ : D.Port)) rfl)) rfl rfl (fun A24 k25 w26 e27 hS28 => ?_))
    refine DM.quietP hsk21 13 16383 (by kernel_rfl) (by kernel_rfl) rfl (by kernel_rfl) rfl (fun _ => Quiet.build ttok rfl rfl rfl rfl rfl) rfl rfl ?_
    obtain ⟨r30, hx31, hm⟩ := bind_some hm
    refine DM.one hsk21 14 (by kernel_rfl) (LM.call hsk21 32767 (by kernel_rfl) (by kernel_rfl) rfl rfl rfl rfl enters208 (impl_wellFormed_ok (Ext.refl _) (ty206_shut (⟨x0.Kind, x0.Level, x0.Value, x0.Data, (List.replicate (w64 ((x0.Words.length : Int) + 1)).toNat (⟨(0 : Int), (0 : Int)⟩ : D.Port))⟩ : D.Agent) (ty22.ext (hE.trans hS28.ext) h3) ((hS28.bring 0 rfl).own)) hx31) (fun v32 w33 hR34 => ?_))
    obtain ⟨rfl, hR35⟩ := hR34
    refine ⟨hR35.ext, ?_⟩
    have hS36 := hS28.join hR35
    refine DM.run (fuel := 0) ttok hsk21 [15] 65535 (by kernel_rfl) (by kernel_rfl) rfl ?_
    refine DM.weak [(2, .bool r30)] ⟨rfl, trivial⟩ ?_
    refine DM.done hsk21 (by kernel_rfl) ?_
    refine WP.ret ?_
    cases hm
    exact ⟨_, .cons (.tmp rfl) .nil, rfl, (hS36.taken 0)⟩
  · skip
    rw [if_neg (not_t hc)] at hm
    refine WP.seq ?_
    refine WP.region ?_
    refine RW.loadN ttok rfl rfl rfl rfl rfl ((hS20.bring 0 rfl).box) rfl rfl rfl ?_
    obtain ⟨r37, hx38, hm⟩ := bind_some hm
    refine RW.call rfl rfl rfl enters188 (impl_Cell_isVariable_ok (hE.trans hS20.ext) h0_ hx38) (fun v39 w40 hR41 => ?_)
    obtain ⟨rfl, hR42⟩ := hR41
    have hS43 := hS20.join hR42
    refine RW.run ttok 1 rfl ?_
    refine RW.nil ?_
    refine WP.cond r37 rfl (fun hc => ?_) (fun hc => ?_)
    · skip
      rw [if_pos hc] at hm
      refine WP.seq ?_
      refine WP.region ?_
      refine RW.run ttok 1 rfl ?_
      refine RW.load1 ttok rfl rfl rfl rfl rfl ((hS43.bring 0 rfl).box) 1 rfl rfl rfl rfl ?_
      refine RW.run ttok 2 rfl ?_
      by_cases hg44 : (x0.Level == 0) = true
      · skip
        rw [if_pos hg44] at hm
        refine RW.know 27 rfl (congrArg Value.bool hg44) ?_
        refine RW.run ttok 1 rfl ?_
        refine RW.load1 ttok rfl rfl rfl rfl rfl ((hS43.bring 0 rfl).box) 2 rfl rfl rfl rfl ?_
        refine RW.run ttok 3 rfl ?_
        by_cases hg45 : (x0.Value == 0) = true
        · skip
          rw [if_pos hg45] at hm
          refine RW.know 32 rfl (congrArg Value.bool hg45) ?_
          refine RW.run ttok 1 rfl ?_
          refine RW.load1 ttok rfl rfl rfl rfl rfl ((hS43.bring 0 rfl).box) 3 rfl rfl rfl rfl ?_
          refine RW.run ttok 4 rfl ?_
          by_cases hg46 : ((x0.Data.length : Int) == 0) = true
          · skip
            rw [if_pos hg46] at hm
            refine RW.know 38 rfl (congrArg Value.bool hg46) ?_
            refine RW.run ttok 1 rfl ?_
            refine RW.load1 ttok rfl rfl rfl rfl rfl ((hS43.bring 0 rfl).box) 4 rfl rfl rfl rfl ?_
            refine RW.run ttok 4 rfl ?_
            refine RW.nil ?_
            refine WP.ret ?_
            cases hm
            exact ⟨_, .cons (.tmp rfl) .nil, rfl, (hS43.taken 0)⟩
          · skip
            rw [if_neg hg46] at hm
            refine RW.know 38 rfl (congrArg Value.bool (Bool.eq_false_iff.2 hg46)) ?_
            refine RW.run ttok 6 rfl ?_
            refine RW.nil ?_
            refine WP.ret ?_
            cases hm
            exact ⟨_, .cons (.tmp rfl) .nil, rfl, (hS43.taken 0)⟩
        · skip
          rw [if_neg hg45] at hm
          refine RW.know 32 rfl (congrArg Value.bool (Bool.eq_false_iff.2 hg45)) ?_
          refine RW.run ttok 12 rfl ?_
          refine RW.nil ?_
          refine WP.ret ?_
          cases hm
          exact ⟨_, .cons (.tmp rfl) .nil, rfl, (hS43.taken 0)⟩
      · skip
        rw [if_neg hg44] at hm
        refine RW.know 27 rfl (congrArg Value.bool (Bool.eq_false_iff.2 hg44)) ?_
        refine RW.run ttok 17 rfl ?_
        refine RW.nil ?_
        refine WP.ret ?_
        cases hm
        exact ⟨_, .cons (.tmp rfl) .nil, rfl, (hS43.taken 0)⟩
    · skip
      rw [if_neg (not_t hc)] at hm
      refine WP.skip ?_
      refine WP.seq ?_
      refine WP.region ?_
      refine RW.loadN ttok rfl rfl rfl rfl rfl ((hS43.bring 0 rfl).box) rfl rfl rfl ?_
      obtain ⟨r47, hx48, hm⟩ := bind_some hm
      refine RW.call rfl rfl rfl enters193 (impl_Cell_isFree_ok (hE.trans hS43.ext) h0_ hx48) (fun v49 w50 hR51 => ?_)
      obtain ⟨rfl, hR52⟩ := hR51
      have hS53 := hS43.join hR52
      refine RW.run ttok 1 rfl ?_
      by_cases hg54 : r47 = true
      · skip
        rw [if_pos hg54] at hm
        refine RW.know 46 rfl (congrArg Value.bool hg54) ?_
        refine RW.run ttok 1 rfl ?_
        refine RW.load1 ttok rfl rfl rfl rfl rfl ((hS53.bring 0 rfl).box) 1 rfl rfl rfl rfl ?_
        refine RW.run ttok 3 rfl ?_
        by_cases hg55 : (x0.Level == 0) = true
        · skip
          rw [if_pos hg55] at hm
          refine RW.know 51 rfl (congrArg Value.bool hg55) ?_
          refine RW.run ttok 1 rfl ?_
          refine RW.load1 ttok rfl rfl rfl rfl rfl ((hS53.bring 0 rfl).box) 3 rfl rfl rfl rfl ?_
          refine RW.run ttok 4 rfl ?_
          by_cases hg56 : ((x0.Data.length : Int) == 0) = true
          · skip
            rw [if_pos hg56] at hm
            refine RW.know 57 rfl (congrArg Value.bool hg56) ?_
            refine RW.run ttok 1 rfl ?_
            refine RW.load1 ttok rfl rfl rfl rfl rfl ((hS53.bring 0 rfl).box) 4 rfl rfl rfl rfl ?_
            refine RW.run ttok 4 rfl ?_
            refine RW.nil ?_
            refine WP.ret ?_
            cases hm
            exact ⟨_, .cons (.tmp rfl) .nil, rfl, (hS53.taken 0)⟩
          · skip
            rw [if_neg hg56] at hm
            refine RW.know 57 rfl (congrArg Value.bool (Bool.eq_false_iff.2 hg56)) ?_
            refine RW.run ttok 6 rfl ?_
            refine RW.nil ?_
            refine WP.ret ?_
            cases hm
            exact ⟨_, .cons (.tmp rfl) .nil, rfl, (hS53.taken 0)⟩
        · skip
          rw [if_neg hg55] at hm
          refine RW.know 51 rfl (congrArg Value.bool (Bool.eq_false_iff.2 hg55)) ?_
          refine RW.run ttok 12 rfl ?_
          refine RW.nil ?_
          refine WP.ret ?_
          cases hm
          exact ⟨_, .cons (.tmp rfl) .nil, rfl, (hS53.taken 0)⟩
      · skip
        rw [if_neg hg54] at hm
        refine RW.know 46 rfl (congrArg Value.bool (Bool.eq_false_iff.2 hg54)) ?_
        refine RW.run ttok 17 rfl ?_
        refine RW.nil ?_
        refine WP.ret ?_
        cases hm
        exact ⟨_, .cons (.tmp rfl) .nil, rfl, (hS53.taken 0)⟩

theorem enters178 : Enters Try.prog 178 := ⟨_, _, Try.func178, rfl, by kernel_rfl⟩
def m_impl_Memory_validWith_c1 (fuel : Nat) (x0 : D.Cell) : Option (Bool) := ((m_impl_validCell fuel x0).bind fun r14 => some (!r14))

set_option maxRecDepth 100000 in
theorem impl_Memory_validWith_c1_ok {W w : World} (hE : Ext W w) {c0_ : List Value} {x0 : D.Cell} (h0_ : ty167.ro W c0_ x0) {fuel : Nat} {r : Bool} (hm : m_impl_Memory_validWith_c1 fuel x0 = some r) :
    Calls Try.prog 178 ⟨[.agg ⟨c0_⟩]⟩ w (Ret fun v w8 => v = .bool r ∧ St w w8 []) := by
  obtain ⟨A1, k2, A4, k5, e7, h3, h6⟩ := ty167_open h0_; subst e7
  refine Calls.into Try.func178 rfl 6 rfl rfl _ rfl ?_
  unfold m_impl_Memory_validWith_c1 at hm
  have hS := St.start w
  refine WP.seq ?_
  refine WP.region ?_
  refine RW.new ttok hS rfl rfl rfl rfl (fun g10 w11 e12 hS13 => ?_)
  refine RW.run ttok 1 rfl ?_
  refine RW.nil ?_
  refine WP.seq ?_
  refine WP.region ?_
  refine RW.loadN ttok rfl rfl rfl rfl rfl ((hS13.bring 0 rfl).box) rfl rfl rfl ?_
  obtain ⟨r14, hx15, hm⟩ := bind_some hm
  refine RW.call rfl rfl rfl enters179 (impl_validCell_ok (hE.trans hS13.ext) h0_ hx15) (fun v16 w17 hR18 => ?_)
  obtain ⟨rfl, hR19⟩ := hR18
  have hS20 := hS13.join hR19
  refine RW.run ttok 2 rfl ?_
  refine RW.nil ?_
  refine WP.ret ?_
  cases hm
  exact ⟨_, .cons (.tmp rfl) .nil, rfl, (hS20.taken 0)⟩

theorem enters181 : Enters Try.prog 181 := ⟨_, _, Try.func181, rfl, by kernel_rfl⟩
def m_impl_Memory_words_j1 (fuel : Nat) (t16 : (List D.Word)) : Option (List D.Word) := some t16
def m_impl_Memory_words_b1 (fuel : Nat) (x0 : D.Memory) (s15 : Int × (List D.Word)) : Option (Rd (Int × (List D.Word)) ((List D.Word)) ((List D.Word))) := (if (decide (s15.1 < (x0.Cells.length : Int))) = true then ((idx x0.Cells s15.1).bind fun x34 => (if decide ((s15.2.length : Int) + (x34.Words.length : Int) ≤ 4294967296) = true then some (.next (w64 (s15.1 + 1), (s15.2 ++ x34.Words))) else none)) else some (.brk s15.2))
def m_impl_Memory_words (fuel : Nat) (x0 : D.Memory) : Option ((List D.Word)) := ((iter (m_impl_Memory_words_b1 fuel x0) fuel (0, ([x0.Root] : (List D.Word)))).bind fun o => aft o (m_impl_Memory_words_j1 fuel))

set_option maxRecDepth 100000 in
theorem impl_Memory_words_ok {W w : World} (hE : Ext W w) {p0_ : Addr} {c0_ : List Value} {x0 : D.Memory} (h0_ : ty95.ro W c0_ x0) (g0_ : At W p0_ c0_) {fuel : Nat} {r : (List D.Word)} (hm : m_impl_Memory_words fuel x0 = some r) :
    Calls Try.prog 181 ⟨[.pointer (some p0_)]⟩ w (Ret fun v w8 => ∃ A0 k0, v = .slice A0 r.length k0 ∧ St w w8 [Own ty165 [.slice A0 r.length k0] r]) := by
  obtain ⟨A1, k2, A4, k5, e7, h3, h6⟩ := ty95_open h0_; subst e7
  refine Calls.into Try.func181 rfl 26 rfl rfl _ rfl ?_
  unfold m_impl_Memory_words at hm
  have hS := St.start w
  refine WP.seq ?_
  refine WP.region ?_
  refine RW.run ttok 1 rfl ?_
  refine RW.nil ?_
  refine WP.seq ?_
  refine WP.region ?_
  refine RW.run ttok 3 rfl ?_
  refine RW.loadN ttok rfl rfl rfl rfl rfl (At.sub (At.ext (hE.trans hS.ext) g0_) 2 2) rfl rfl rfl ?_
  refine RW.newSlice (U := ty92) (els := [.int .i64 x0.Root.Tag, .int .i64 x0.Root.At]) (ys := [x0.Root]) ttok (hS.flatEls (U := ty92) (els := [.int .i64 x0.Root.Tag, .int .i64 x0.Root.At]) (ys := [x0.Root]) ⟨[.int .i64 x0.Root.Tag, .int .i64 x0.Root.At], _, [], [], rfl, rfl, (ty92_ownI (c := x0.Root) rfl), ⟨rfl, rfl⟩⟩) rfl rfl rfl rfl rfl rfl rfl rfl rfl rfl rfl rfl (fun A10 k11 w12 e13 hS14 => ?_)
  refine RW.run ttok 1 rfl ?_
  refine RW.nil ?_
  refine WP.seq ?_
  refine WP.seq ?_
  refine WP.region ?_
  refine RW.run ttok 3 rfl ?_
  refine RW.load1 ttok rfl rfl rfl rfl rfl (At.ext (hE.trans hS14.ext) g0_) 0 rfl rfl rfl rfl ?_
  refine RW.run ttok 2 rfl ?_
  refine RW.nil ?_
  obtain ⟨o25, hl26, hm⟩ := bind_some hm
  refine WP.cut (fun (t16 : (List D.Word)) F w9 => ∃ A22 k23, o25 = .inl t16 ∧ St w w9 [Own ty165 [.slice A22 t16.length k23] t16] ∧ F = [(3, .slice A22 t16.length k23)]) ?_ ?_
  · skip
    rintro t16 F w24 ⟨A22, k23, ho28, hS27, rfl⟩
    subst ho28
    rw [aft_inl] at hm
    unfold m_impl_Memory_words_j1 at hm
    refine WP.seq ?_
    refine WP.region ?_
    refine RW.run ttok 2 rfl ?_
    refine RW.nil ?_
    refine WP.ret ?_
    cases hm
    exact ⟨_, .cons (.tmp rfl) .nil, A22, k23, rfl, hS27⟩
  · skip
    refine WP.block ?_
    refine WP.weak [(3, .slice A10 ([x0.Root] : (List D.Word)).length k11), (14, .slice A1 x0.Cells.length k2), (15, .int .i64 (x0.Cells.length : Int)), (16, .int .i64 0)] ⟨rfl, rfl, rfl, rfl, trivial⟩ ?_
    refine WP.iter (fun (s15 : Int × (List D.Word)) F w9 => ∃ A20 k21, St w w9 [Own ty165 [.slice A20 s15.2.length k21] s15.2] ∧ F = [(3, .slice A20 s15.2.length k21), (14, .slice A1 x0.Cells.length k2), (15, .int .i64 (x0.Cells.length : Int)), (16, .int .i64 s15.1)]) _ hl26 ⟨A10, k11, hS14, rfl⟩ ?_
    rintro s15 F w33 _ o31 ⟨A20, k21, hS32, rfl⟩ hb29 ho30
    unfold m_impl_Memory_words_b1 at hb29
    refine WP.seq ?_
    refine WP.region ?_
    refine RW.run ttok 1 rfl ?_
    refine RW.nil ?_
    refine WP.seq ?_
    refine WP.cond (decide (s15.1 < (x0.Cells.length : Int))) rfl (fun hc => ?_) (fun hc => ?_)
    · skip
      rw [if_pos hc] at hb29
      refine WP.skip ?_
      refine WP.seq ?_
      refine WP.block ?_
      refine WP.seq ?_
      refine WP.region ?_
      obtain ⟨x34, hx35, hb29⟩ := bind_some hb29
      refine RW.idx ttok (hE.trans hS32.ext) rfl rfl rfl rfl rfl rfl (by decide) rfl rfl h3 (idx_some hx35).1 (idx_some hx35).2 rfl rfl (fun p36 es37 ha38 hr39 => ?_)
      obtain ⟨A40, k41, A43, k44, e46, h42, h45⟩ := ty167_open hr39; subst e46
      refine RW.loadN ttok rfl rfl rfl rfl rfl (At.ext (hE.trans hS32.ext) ha38) rfl rfl rfl ?_
      refine RW.new ttok hS32 rfl rfl rfl rfl (fun g47 w48 e49 hS50 => ?_)
      have hS51 := hS50.bring 0 rfl
      refine RW.store ttok (A := []) hS51 rfl rfl rfl rfl rfl 0 rfl rfl rfl rfl rfl (fun w52 hS53 => ?_)
      refine RW.nil ?_
      refine WP.region ?_
      refine RW.run ttok 2 rfl ?_
      refine RW.load1 ttok rfl rfl rfl rfl rfl ((hS53.bring 0 rfl).box) 4 rfl rfl rfl rfl ?_
      have hS54 := hS53.bring 1 rfl
      by_cases hk55 : decide ((s15.2.length : Int) + (x34.Words.length : Int) ≤ 4294967296) = true
      case neg => rw [if_neg hk55] at hb29; cases hb29
      rw [if_pos hk55] at hb29
      refine RW.appendRo ttok (Flat.map (Flat.pair Flat.int (Flat.pair Flat.int Flat.unit))) hS54 rfl rfl rfl rfl rfl rfl (by decide) rfl rfl (ty165.ext (hE.trans hS54.ext) h45) (of_decide_eq_true hk55) (by decide) rfl rfl (fun A56 k57 w58 hS59 => ?_)
      refine RW.run ttok 1 rfl ?_
      refine RW.nil ?_
      refine WP.region ?_
      refine RW.run ttok 2 rfl ?_
      refine RW.nil ?_
      cases hb29
      exact ⟨_, [(3, .slice A56 (s15.2 ++ x34.Words).length k57), (14, .slice A1 x0.Cells.length k2), (15, .int .i64 (x0.Cells.length : Int)), (16, .int .i64 (w64 (s15.1 + 1)))], ⟨rfl, rfl, rfl, rfl, trivial⟩, rfl, A56, k57, (hS59.taken 1), rfl⟩
    · skip
      rw [if_neg (not_t hc)] at hb29
      refine WP.exit ?_
      cases hb29
      exact ⟨_, [(3, .slice A20 s15.2.length k21)], ⟨rfl, trivial⟩, A20, k21, ho30, hS32, rfl⟩

theorem enters218 : Enters Try.prog 218 := ⟨_, _, Try.func218, rfl, by kernel_rfl⟩
def m_slices_IndexFunc_impl_Word_impl_Word_j1 (fuel : Nat) (t2 : Unit) : Option Int := some (-1)
def m_slices_IndexFunc_impl_Word_impl_Word_b1 (fuel : Nat) (x0 : (List D.Word)) (x1 : D.Word → Option Bool) (s1 : Int) : Option (Rd (Int) (Unit) (Int)) := (if (decide (s1 < (x0.length : Int))) = true then ((idx x0 s1).bind fun x19 => ((x1 x19).bind fun r26 => (if r26 = true then some (.ret s1) else some (.next (w64 (s1 + 1)))))) else some (.brk ()))
def m_slices_IndexFunc_impl_Word_impl_Word (fuel : Nat) (x0 : (List D.Word)) (x1 : D.Word → Option Bool) : Option (Int) := ((iter (m_slices_IndexFunc_impl_Word_impl_Word_b1 fuel x0 x1) fuel 0).bind fun o => aft o (m_slices_IndexFunc_impl_Word_impl_Word_j1 fuel))

set_option maxRecDepth 100000 in
theorem slices_IndexFunc_impl_Word_impl_Word_ok {W w : World} (hE : Ext W w) {A0_ : Option Addr} {k0_ : Nat} {x0 : (List D.Word)} {f1_ : Nat} {u1_ : List Value} {x1 : D.Word → Option Bool} (h0_ : ty165.ro W [.slice A0_ x0.length k0_] x0) (h1_ : Enters Try.prog f1_ ∧ ∀ {w9 : World}, Ext W w9 → ∀ {cz0 : List Value} {z0 : D.Word} {y9 : Bool}, ty92.ro w9 cz0 z0 → x1 z0 = some y9 → Calls Try.prog f1_ ⟨[.agg ⟨cz0⟩] ++ u1_⟩ w9 (Ret fun v w8 => v = .bool y9 ∧ St w9 w8 [])) {fuel : Nat} {r : Int} (hm : m_slices_IndexFunc_impl_Word_impl_Word fuel x0 x1 = some r) :
    Calls Try.prog 218 ⟨[.slice A0_ x0.length k0_, .func (.func f1_) #[] ⟨u1_⟩]⟩ w (Ret fun v w8 => v = .int .i64 r ∧ St w w8 []) := by
  refine Calls.into Try.func218 rfl 19 rfl rfl _ rfl ?_
  unfold m_slices_IndexFunc_impl_Word_impl_Word at hm
  have hS := St.start w
  refine WP.seq ?_
  refine WP.region ?_
  refine RW.run ttok 1 rfl ?_
  refine RW.nil ?_
  refine WP.seq ?_
  refine WP.seq ?_
  refine WP.region ?_
  refine RW.run ttok 3 rfl ?_
  refine RW.nil ?_
  obtain ⟨o10, hl11, hm⟩ := bind_some hm
  refine WP.cut (fun (t2 : Unit) F w9 => o10 = .inl t2 ∧ Ext w w9 ∧ St w w9 [] ∧ F = []) ?_ ?_
  · skip
    rintro t2 F w7 ⟨ho13, hE6, hS12, rfl⟩
    subst ho13
    rw [aft_inl] at hm
    unfold m_slices_IndexFunc_impl_Word_impl_Word_j1 at hm
    refine WP.seq ?_
    refine WP.region ?_
    refine RW.run ttok 1 rfl ?_
    refine RW.nil ?_
    refine WP.ret ?_
    cases hm
    exact ⟨_, .cons (.tmp rfl) .nil, rfl, hS12⟩
  · skip
    refine WP.block ?_
    refine WP.weak [(0, .slice A0_ x0.length k0_), (1, .func (.func f1_) #[] ⟨u1_⟩), (7, .int .i64 (x0.length : Int)), (8, .int .i64 0)] ⟨rfl, rfl, rfl, rfl, trivial⟩ ?_
    refine WP.iter (fun (s1 : Int) F w9 => Ext w w9 ∧ St w w9 [] ∧ F = [(0, .slice A0_ x0.length k0_), (1, .func (.func f1_) #[] ⟨u1_⟩), (7, .int .i64 (x0.length : Int)), (8, .int .i64 s1)]) _ hl11 ⟨(Ext.refl _), hS, rfl⟩ ?_
    rintro s1 F w18 _ o16 ⟨hE5, hS17, rfl⟩ hb14 ho15
    unfold m_slices_IndexFunc_impl_Word_impl_Word_b1 at hb14
    refine WP.seq ?_
    refine WP.region ?_
    refine RW.run ttok 1 rfl ?_
    refine RW.nil ?_
    refine WP.seq ?_
    refine WP.cond (decide (s1 < (x0.length : Int))) rfl (fun hc => ?_) (fun hc => ?_)
    · skip
      rw [if_pos hc] at hb14
      refine WP.skip ?_
      refine WP.seq ?_
      refine WP.block ?_
      refine WP.seq ?_
      refine WP.region ?_
      refine RW.run ttok 2 rfl ?_
      refine RW.nil ?_
      refine WP.seq ?_
      refine WP.region ?_
      refine RW.run ttok 3 rfl ?_
      obtain ⟨x19, hx20, hb14⟩ := bind_some hb14
      refine RW.idx ttok (hE.trans hS17.ext) rfl rfl rfl rfl rfl rfl (by decide) rfl rfl h0_ (idx_some hx20).1 (idx_some hx20).2 rfl rfl (fun p21 es22 ha23 hr24 => ?_)
      have e25 := ty92_open hr24; subst e25
      refine RW.loadN ttok rfl rfl rfl rfl rfl (At.ext (hE.trans hS17.ext) ha23) rfl rfl rfl ?_
      obtain ⟨r26, hx27, hb14⟩ := bind_some hb14
      refine RW.call rfl rfl rfl h1_.1 (h1_.2 (hE.trans hS17.ext) (ty92.ext (hE.trans hS17.ext) hr24) hx27) (fun v28 w29 hR30 => ?_)
      obtain ⟨rfl, hR31⟩ := hR30
      have hS32 := hS17.join hR31
      refine RW.nil ?_
      refine WP.cond r26 rfl (fun hc => ?_) (fun hc => ?_)
      · skip
        rw [if_pos hc] at hb14
        refine WP.seq ?_
        refine WP.region ?_
        refine RW.run ttok 2 rfl ?_
        refine RW.nil ?_
        refine WP.ret ?_
        cases hb14
        cases ho15
        have hm : some _ = some _ := hm
        cases hm
        exact ⟨_, .cons (.tmp rfl) .nil, rfl, hS32⟩
      · skip
        rw [if_neg (not_t hc)] at hb14
        refine WP.skip ?_
        refine WP.region ?_
        refine RW.run ttok 2 rfl ?_
        refine RW.nil ?_
        cases hb14
        exact ⟨_, [(0, .slice A0_ x0.length k0_), (1, .func (.func f1_) #[] ⟨u1_⟩), (7, .int .i64 (x0.length : Int)), (8, .int .i64 (w64 (s1 + 1)))], ⟨rfl, rfl, rfl, rfl, trivial⟩, rfl, (hE5.trans hR31.ext), hS32, rfl⟩
    · skip
      rw [if_neg (not_t hc)] at hb14
      refine WP.exit ?_
      cases hb14
      exact ⟨_, [], trivial, ho15, hE5, hS17, rfl⟩

theorem enters180 : Enters Try.prog 180 := ⟨_, _, Try.func180, rfl, by kernel_rfl⟩
def m_slices_ContainsFunc_impl_Word_impl_Word (fuel : Nat) (x0 : (List D.Word)) (x1 : D.Word → Option Bool) : Option (Bool) := ((m_slices_IndexFunc_impl_Word_impl_Word fuel x0 x1).bind fun r1 => some (decide (r1 ≥ 0)))

set_option maxRecDepth 100000 in
theorem slices_ContainsFunc_impl_Word_impl_Word_ok {W w : World} (hE : Ext W w) {A0_ : Option Addr} {k0_ : Nat} {x0 : (List D.Word)} {f1_ : Nat} {u1_ : List Value} {x1 : D.Word → Option Bool} (h0_ : ty165.ro W [.slice A0_ x0.length k0_] x0) (h1_ : Enters Try.prog f1_ ∧ ∀ {w9 : World}, Ext W w9 → ∀ {cz0 : List Value} {z0 : D.Word} {y9 : Bool}, ty92.ro w9 cz0 z0 → x1 z0 = some y9 → Calls Try.prog f1_ ⟨[.agg ⟨cz0⟩] ++ u1_⟩ w9 (Ret fun v w8 => v = .bool y9 ∧ St w9 w8 [])) {fuel : Nat} {r : Bool} (hm : m_slices_ContainsFunc_impl_Word_impl_Word fuel x0 x1 = some r) :
    Calls Try.prog 180 ⟨[.slice A0_ x0.length k0_, .func (.func f1_) #[] ⟨u1_⟩]⟩ w (Ret fun v w8 => v = .bool r ∧ St w w8 []) := by
  refine Calls.into Try.func180 rfl 9 rfl rfl _ rfl ?_
  unfold m_slices_ContainsFunc_impl_Word_impl_Word at hm
  have hS := St.start w
  refine WP.seq ?_
  refine WP.region ?_
  refine RW.run ttok 1 rfl ?_
  refine RW.nil ?_
  refine WP.seq ?_
  refine WP.region ?_
  refine RW.run ttok 2 rfl ?_
  obtain ⟨r1, hx2, hm⟩ := bind_some hm
  refine RW.call rfl rfl rfl enters218 (slices_IndexFunc_impl_Word_impl_Word_ok (hE.trans hS.ext) h0_ h1_ hx2) (fun v3 w4 hR5 => ?_)
  obtain ⟨rfl, hR6⟩ := hR5
  have hS7 := hS.join hR6
  refine RW.run ttok 2 rfl ?_
  refine RW.nil ?_
  refine WP.ret ?_
  cases hm
  exact ⟨_, .cons (.tmp rfl) .nil, rfl, hS7⟩

theorem enters191 : Enters Try.prog 191 := ⟨_, _, Try.func191, rfl, by kernel_rfl⟩
def m_impl_Memory_hasCell (fuel : Nat) (x0 : D.Memory) (x1 : Int) : Option (Bool) := (if (decide (x1 ≥ 0)) = true then some (decide (x1 < (x0.Cells.length : Int))) else some false)

set_option maxRecDepth 100000 in
theorem impl_Memory_hasCell_ok {W w : World} (hE : Ext W w) {p0_ : Addr} {c0_ : List Value} {x0 : D.Memory} {x1 : Int} (h0_ : ty95.ro W c0_ x0) (g0_ : At W p0_ c0_) {fuel : Nat} {r : Bool} (hm : m_impl_Memory_hasCell fuel x0 x1 = some r) :
    Calls Try.prog 191 ⟨[.pointer (some p0_), .int .i64 x1]⟩ w (Ret fun v w8 => v = .bool r ∧ St w w8 []) := by
  obtain ⟨A1, k2, A4, k5, e7, h3, h6⟩ := ty95_open h0_; subst e7
  refine Calls.into Try.func191 rfl 16 rfl rfl _ rfl ?_
  unfold m_impl_Memory_hasCell at hm
  have hS := St.start w
  refine WP.seq ?_
  refine WP.region ?_
  refine RW.run ttok 1 rfl ?_
  refine RW.nil ?_
  refine WP.seq ?_
  refine WP.region ?_
  refine RW.run ttok 3 rfl ?_
  by_cases hg10 : (decide (x1 ≥ 0)) = true
  · skip
    rw [if_pos hg10] at hm
    refine RW.know 7 rfl (congrArg Value.bool hg10) ?_
    refine RW.run ttok 4 rfl ?_
    refine RW.load1 ttok rfl rfl rfl rfl rfl (At.ext (hE.trans hS.ext) g0_) 0 rfl rfl rfl rfl ?_
    refine RW.run ttok 4 rfl ?_
    refine RW.nil ?_
    refine WP.ret ?_
    cases hm
    exact ⟨_, .cons (.tmp rfl) .nil, rfl, hS⟩
  · skip
    rw [if_neg hg10] at hm
    refine RW.know 7 rfl (congrArg Value.bool (Bool.eq_false_iff.2 hg10)) ?_
    refine RW.run ttok 9 rfl ?_
    refine RW.nil ?_
    refine WP.ret ?_
    cases hm
    exact ⟨_, .cons (.tmp rfl) .nil, rfl, hS⟩

theorem enters126 : Enters Try.prog 126 := ⟨_, _, Try.func126, rfl, by kernel_rfl⟩
def m_impl_Memory_validWord (fuel : Nat) (x0 : D.Memory) (x1 : D.Word) : Option (Bool) := ((m_impl_Memory_hasCell fuel x0 x1.At).bind fun r15 => (if (!r15) = true then some false else ((idx x0.Cells x1.At).bind fun x24 => (if (x1.Tag == 1) = true then ((m_impl_Cell_isAgentCell fuel x24).bind fun r45 => (if r45 = true then some true else (if (x1.Tag == 2) = true then ((m_impl_Cell_isVariable fuel x24).bind fun r54 => some r54) else some false))) else (if (x1.Tag == 2) = true then ((m_impl_Cell_isVariable fuel x24).bind fun r62 => some r62) else some false)))))

set_option maxRecDepth 100000 in
theorem impl_Memory_validWord_ok {W w : World} (hE : Ext W w) {p0_ : Addr} {c0_ : List Value} {x0 : D.Memory} {c1_ : List Value} {x1 : D.Word} (h0_ : ty95.ro W c0_ x0) (g0_ : At W p0_ c0_) (h1_ : ty92.ro W c1_ x1) {fuel : Nat} {r : Bool} (hm : m_impl_Memory_validWord fuel x0 x1 = some r) :
    Calls Try.prog 126 ⟨[.pointer (some p0_), .agg ⟨c1_⟩]⟩ w (Ret fun v w8 => v = .bool r ∧ St w w8 []) := by
  obtain ⟨A1, k2, A4, k5, e7, h3, h6⟩ := ty95_open h0_; subst e7
  have e10 := ty92_open h1_; subst e10
  refine Calls.into Try.func126 rfl 35 rfl rfl _ rfl ?_
  unfold m_impl_Memory_validWord at hm
  have hS := St.start w
  refine WP.seq ?_
  refine WP.region ?_
  refine RW.new ttok hS rfl rfl rfl rfl (fun g11 w12 e13 hS14 => ?_)
  refine RW.run ttok 1 rfl ?_
  refine RW.nil ?_
  refine WP.seq ?_
  refine WP.seq ?_
  refine WP.region ?_
  refine RW.run ttok 2 rfl ?_
  refine RW.load1 ttok rfl rfl rfl rfl rfl ((hS14.bring 0 rfl).box) 1 rfl rfl rfl rfl ?_
  obtain ⟨r15, hx16, hm⟩ := bind_some hm
  refine RW.call rfl rfl rfl enters191 (impl_Memory_hasCell_ok (hE.trans hS14.ext) h0_ g0_ hx16) (fun v17 w18 hR19 => ?_)
  obtain ⟨rfl, hR20⟩ := hR19
  have hS21 := hS14.join hR20
  refine RW.run ttok 1 rfl ?_
  refine RW.nil ?_
  refine WP.cond (!r15) rfl (fun hc => ?_) (fun hc => ?_)
  · skip
    rw [if_pos hc] at hm
    refine WP.seq ?_
    refine WP.region ?_
    refine RW.run ttok 1 rfl ?_
    refine RW.nil ?_
    refine WP.ret ?_
    cases hm
    exact ⟨_, .cons (.tmp rfl) .nil, rfl, (hS21.taken 0)⟩
  · skip
    rw [if_neg (not_t hc)] at hm
    refine WP.skip ?_
    refine WP.seq ?_
    refine WP.drawnM 512 mixed 10 (by kernel_rfl) (by kernel_rfl) [([], 1023), ([0], 1022), ([1], 1021), ([2], 1019), ([], 1023), ([4], 1007), ([3, 5], 983), ([6], 959), ([], 1023), ([8, 7, 0, 1, 2, 3, 4, 5, 6, 7, 8], 639)] (by kernel_rfl) (fun hsk22 => ?_)
    have hS23 := hS21.step (Ext.draw _)
    refine DM.run (fuel := 6) ttok hsk22 [0, 1, 2, 4] 23 (by kernel_rfl) (by kernel_rfl) rfl ?_
    refine DM.weak [(3, .pointer (some ⟨g11, 0, none⟩)), (13, .pointer (some p0_)), (15, .pointer (some ⟨g11, 1, none⟩))] ⟨rfl, rfl, rfl, trivial⟩ ?_
    refine DM.load1 ttok hsk22 3 31 (by kernel_rfl) (by kernel_rfl) (by kernel_rfl) (by kernel_rfl) rfl (by kernel_rfl) rfl rfl rfl rfl rfl (At.ext (hE.trans hS21.ext) g0_) 0 rfl rfl rfl rfl ?_
    refine DM.load1 ttok hsk22 5 63 (by kernel_rfl) (by kernel_rfl) (by kernel_rfl) (by kernel_rfl) rfl (by kernel_rfl) rfl rfl rfl rfl rfl ((hS21.bring 0 rfl).box) 1 rfl rfl rfl rfl ?_
    obtain ⟨x24, hx25, hm⟩ := bind_some hm
    refine DM.idx ttok (hE.trans hS21.ext) hsk22 6 127 (by kernel_rfl) (by kernel_rfl) (by kernel_rfl) (by kernel_rfl) rfl (by kernel_rfl) rfl rfl rfl rfl rfl rfl (by decide) rfl rfl h3 (idx_some hx25).1 (idx_some hx25).2 rfl rfl (fun p26 es27 ha28 hr29 => ?_)
    obtain ⟨A30, k31, A33, k34, e36, h32, h35⟩ := ty167_open hr29; subst e36
    refine DM.loadN ttok hsk22 7 255 (by kernel_rfl) (by kernel_rfl) (by kernel_rfl) (by kernel_rfl) rfl (by kernel_rfl) rfl rfl rfl rfl rfl (At.ext (hE.trans hS21.ext) ha28) rfl rfl rfl ?_
    refine DM.one hsk22 8 (by kernel_rfl) (LM.new ttok hsk22 hS23 511 (by kernel_rfl) (by kernel_rfl) rfl rfl rfl rfl rfl (fun g37 w38 e39 hS40 => ?_))
    have hS41 := hS40.bring 0 rfl
    refine DM.one hsk22 9 (by kernel_rfl) (LM.store ttok (A := []) hS41 hsk22 1023 (by kernel_rfl) (by kernel_rfl) rfl rfl rfl rfl rfl rfl 0 rfl rfl rfl rfl rfl (fun w42 hS43 => ?_))
    refine DM.done hsk22 (by kernel_rfl) ?_
    refine WP.seq ?_
    refine WP.region ?_
    refine RW.run ttok 1 rfl ?_
    refine RW.load1 ttok rfl rfl rfl rfl rfl ((hS43.bring 1 rfl).box) 0 rfl rfl rfl rfl ?_
    refine RW.run ttok 2 rfl ?_
    by_cases hg44 : (x1.Tag == 1) = true
    · skip
      rw [if_pos hg44] at hm
      refine RW.know 22 rfl (congrArg Value.bool hg44) ?_
      refine RW.loadN ttok rfl rfl rfl rfl rfl ((hS43.bring 0 rfl).box) rfl rfl rfl ?_
      obtain ⟨r45, hx46, hm⟩ := bind_some hm
      refine RW.call rfl rfl rfl enters192 (impl_Cell_isAgentCell_ok (hE.trans hS43.ext) (ty167_shut x24 h32 h35) hx46) (fun v47 w48 hR49 => ?_)
      obtain ⟨rfl, hR50⟩ := hR49
      have hS51 := hS43.join hR50
      refine RW.run ttok 2 rfl ?_
      by_cases hg52 : r45 = true
      · skip
        rw [if_pos hg52] at hm
        refine RW.know 26 rfl (congrArg Value.bool hg52) ?_
        refine RW.run ttok 9 rfl ?_
        refine RW.nil ?_
        refine WP.ret ?_
        cases hm
        exact ⟨_, .cons (.tmp rfl) .nil, rfl, (hS51.taken 0)⟩
      · skip
        rw [if_neg hg52] at hm
        refine RW.know 26 rfl (congrArg Value.bool (Bool.eq_false_iff.2 hg52)) ?_
        refine RW.run ttok 1 rfl ?_
        refine RW.load1 ttok rfl rfl rfl rfl rfl ((hS51.bring 1 rfl).box) 0 rfl rfl rfl rfl ?_
        refine RW.run ttok 2 rfl ?_
        by_cases hg53 : (x1.Tag == 2) = true
        · skip
          rw [if_pos hg53] at hm
          refine RW.know 30 rfl (congrArg Value.bool hg53) ?_
          refine RW.loadN ttok rfl rfl rfl rfl rfl ((hS51.bring 0 rfl).box) rfl rfl rfl ?_
          obtain ⟨r54, hx55, hm⟩ := bind_some hm
          refine RW.call rfl rfl rfl enters188 (impl_Cell_isVariable_ok (hE.trans hS51.ext) (ty167_shut x24 h32 h35) hx55) (fun v56 w57 hR58 => ?_)
          obtain ⟨rfl, hR59⟩ := hR58
          have hS60 := hS51.join hR59
          refine RW.run ttok 3 rfl ?_
          refine RW.nil ?_
          refine WP.ret ?_
          cases hm
          exact ⟨_, .cons (.tmp rfl) .nil, rfl, (hS60.taken 0)⟩
        · skip
          rw [if_neg hg53] at hm
          refine RW.know 30 rfl (congrArg Value.bool (Bool.eq_false_iff.2 hg53)) ?_
          refine RW.run ttok 5 rfl ?_
          refine RW.nil ?_
          refine WP.ret ?_
          cases hm
          exact ⟨_, .cons (.tmp rfl) .nil, rfl, (hS51.taken 0)⟩
    · skip
      rw [if_neg hg44] at hm
      refine RW.know 22 rfl (congrArg Value.bool (Bool.eq_false_iff.2 hg44)) ?_
      refine RW.run ttok 5 rfl ?_
      refine RW.load1 ttok rfl rfl rfl rfl rfl ((hS43.bring 1 rfl).box) 0 rfl rfl rfl rfl ?_
      refine RW.run ttok 2 rfl ?_
      by_cases hg61 : (x1.Tag == 2) = true
      · skip
        rw [if_pos hg61] at hm
        refine RW.know 30 rfl (congrArg Value.bool hg61) ?_
        refine RW.loadN ttok rfl rfl rfl rfl rfl ((hS43.bring 0 rfl).box) rfl rfl rfl ?_
        obtain ⟨r62, hx63, hm⟩ := bind_some hm
        refine RW.call rfl rfl rfl enters188 (impl_Cell_isVariable_ok (hE.trans hS43.ext) (ty167_shut x24 h32 h35) hx63) (fun v65 w66 hR67 => ?_)
        obtain ⟨rfl, hR68⟩ := hR67
        have hS69 := hS43.join hR68
        refine RW.run ttok 3 rfl ?_
        refine RW.nil ?_
        refine WP.ret ?_
        cases hm
        exact ⟨_, .cons (.tmp rfl) .nil, rfl, (hS69.taken 0)⟩
      · skip
        rw [if_neg hg61] at hm
        refine RW.know 30 rfl (congrArg Value.bool (Bool.eq_false_iff.2 hg61)) ?_
        refine RW.run ttok 5 rfl ?_
        refine RW.nil ?_
        refine WP.ret ?_
        cases hm
        exact ⟨_, .cons (.tmp rfl) .nil, rfl, (hS43.taken 0)⟩

theorem enters182 : Enters Try.prog 182 := ⟨_, _, Try.func182, rfl, by kernel_rfl⟩
def m_impl_Memory_validWith_c2 (fuel : Nat) (x0 : D.Word) (x1 : D.Memory) : Option (Bool) := ((m_impl_Memory_validWord fuel x1 x0).bind fun r15 => some (!r15))

set_option maxRecDepth 100000 in
theorem impl_Memory_validWith_c2_ok {W w : World} (hE : Ext W w) {c0_ : List Value} {x0 : D.Word} {o1_ p1_ : Addr} {c1_ : List Value} {x1 : D.Memory} (h0_ : ty92.ro W c0_ x0) (f1_ : At W o1_ [.pointer (some p1_)]) (h1_ : ty95.ro W c1_ x1) (g1_ : At W p1_ c1_) {fuel : Nat} {r : Bool} (hm : m_impl_Memory_validWith_c2 fuel x0 x1 = some r) :
    Calls Try.prog 182 ⟨[.agg ⟨c0_⟩, .pointer (some o1_)]⟩ w (Ret fun v w8 => v = .bool r ∧ St w w8 []) := by
  have e1 := ty92_open h0_; subst e1
  obtain ⟨A2, k3, A5, k6, e10, h4, h7⟩ := ty95_open h1_; subst e10
  refine Calls.into Try.func182 rfl 8 rfl rfl _ rfl ?_
  unfold m_impl_Memory_validWith_c2 at hm
  have hS := St.start w
  refine WP.seq ?_
  refine WP.region ?_
  refine RW.new ttok hS rfl rfl rfl rfl (fun g11 w12 e13 hS14 => ?_)
  refine RW.run ttok 1 rfl ?_
  refine RW.nil ?_
  refine WP.seq ?_
  refine WP.region ?_
  refine RW.load1 ttok rfl rfl rfl rfl rfl (At.ext (hE.trans hS14.ext) f1_) 0 rfl rfl rfl rfl ?_
  refine RW.loadN ttok rfl rfl rfl rfl rfl ((hS14.bring 0 rfl).box) rfl rfl rfl ?_
  obtain ⟨r15, hx16, hm⟩ := bind_some hm
  refine RW.call rfl rfl rfl enters126 (impl_Memory_validWord_ok (hE.trans hS14.ext) h1_ g1_ h0_ hx16) (fun v17 w18 hR19 => ?_)
  obtain ⟨rfl, hR20⟩ := hR19
  have hS21 := hS14.join hR20
  refine RW.run ttok 2 rfl ?_
  refine RW.nil ?_
  refine WP.ret ?_
  cases hm
  exact ⟨_, .cons (.tmp rfl) .nil, rfl, (hS21.taken 0)⟩

theorem enters219 : Enters Try.prog 219 := ⟨_, _, Try.func219, rfl, by kernel_rfl⟩
def m_slices_IndexFunc_impl_Pair_impl_Pair_j1 (fuel : Nat) (t2 : Unit) : Option Int := some (-1)
def m_slices_IndexFunc_impl_Pair_impl_Pair_b1 (fuel : Nat) (x0 : (List D.Pair)) (x1 : D.Pair → Option Bool) (s1 : Int) : Option (Rd (Int) (Unit) (Int)) := (if (decide (s1 < (x0.length : Int))) = true then ((idx x0 s1).bind fun x19 => ((x1 x19).bind fun r26 => (if r26 = true then some (.ret s1) else some (.next (w64 (s1 + 1)))))) else some (.brk ()))
def m_slices_IndexFunc_impl_Pair_impl_Pair (fuel : Nat) (x0 : (List D.Pair)) (x1 : D.Pair → Option Bool) : Option (Int) := ((iter (m_slices_IndexFunc_impl_Pair_impl_Pair_b1 fuel x0 x1) fuel 0).bind fun o => aft o (m_slices_IndexFunc_impl_Pair_impl_Pair_j1 fuel))

set_option maxRecDepth 100000 in
theorem slices_IndexFunc_impl_Pair_impl_Pair_ok {W w : World} (hE : Ext W w) {A0_ : Option Addr} {k0_ : Nat} {x0 : (List D.Pair)} {f1_ : Nat} {u1_ : List Value} {x1 : D.Pair → Option Bool} (h0_ : ty93.ro W [.slice A0_ x0.length k0_] x0) (h1_ : Enters Try.prog f1_ ∧ ∀ {w9 : World}, Ext W w9 → ∀ {cz0 : List Value} {z0 : D.Pair} {y9 : Bool}, ty173.ro w9 cz0 z0 → x1 z0 = some y9 → Calls Try.prog f1_ ⟨[.agg ⟨cz0⟩] ++ u1_⟩ w9 (Ret fun v w8 => v = .bool y9 ∧ St w9 w8 [])) {fuel : Nat} {r : Int} (hm : m_slices_IndexFunc_impl_Pair_impl_Pair fuel x0 x1 = some r) :
    Calls Try.prog 219 ⟨[.slice A0_ x0.length k0_, .func (.func f1_) #[] ⟨u1_⟩]⟩ w (Ret fun v w8 => v = .int .i64 r ∧ St w w8 []) := by
  refine Calls.into Try.func219 rfl 19 rfl rfl _ rfl ?_
  unfold m_slices_IndexFunc_impl_Pair_impl_Pair at hm
  have hS := St.start w
  refine WP.seq ?_
  refine WP.region ?_
  refine RW.run ttok 1 rfl ?_
  refine RW.nil ?_
  refine WP.seq ?_
  refine WP.seq ?_
  refine WP.region ?_
  refine RW.run ttok 3 rfl ?_
  refine RW.nil ?_
  obtain ⟨o10, hl11, hm⟩ := bind_some hm
  refine WP.cut (fun (t2 : Unit) F w9 => o10 = .inl t2 ∧ Ext w w9 ∧ St w w9 [] ∧ F = []) ?_ ?_
  · skip
    rintro t2 F w7 ⟨ho13, hE6, hS12, rfl⟩
    subst ho13
    rw [aft_inl] at hm
    unfold m_slices_IndexFunc_impl_Pair_impl_Pair_j1 at hm
    refine WP.seq ?_
    refine WP.region ?_
    refine RW.run ttok 1 rfl ?_
    refine RW.nil ?_
    refine WP.ret ?_
    cases hm
    exact ⟨_, .cons (.tmp rfl) .nil, rfl, hS12⟩
  · skip
    refine WP.block ?_
    refine WP.weak [(0, .slice A0_ x0.length k0_), (1, .func (.func f1_) #[] ⟨u1_⟩), (7, .int .i64 (x0.length : Int)), (8, .int .i64 0)] ⟨rfl, rfl, rfl, rfl, trivial⟩ ?_
    refine WP.iter (fun (s1 : Int) F w9 => Ext w w9 ∧ St w w9 [] ∧ F = [(0, .slice A0_ x0.length k0_), (1, .func (.func f1_) #[] ⟨u1_⟩), (7, .int .i64 (x0.length : Int)), (8, .int .i64 s1)]) _ hl11 ⟨(Ext.refl _), hS, rfl⟩ ?_
    rintro s1 F w18 _ o16 ⟨hE5, hS17, rfl⟩ hb14 ho15
    unfold m_slices_IndexFunc_impl_Pair_impl_Pair_b1 at hb14
    refine WP.seq ?_
    refine WP.region ?_
    refine RW.run ttok 1 rfl ?_
    refine RW.nil ?_
    refine WP.seq ?_
    refine WP.cond (decide (s1 < (x0.length : Int))) rfl (fun hc => ?_) (fun hc => ?_)
    · skip
      rw [if_pos hc] at hb14
      refine WP.skip ?_
      refine WP.seq ?_
      refine WP.block ?_
      refine WP.seq ?_
      refine WP.region ?_
      refine RW.run ttok 2 rfl ?_
      refine RW.nil ?_
      refine WP.seq ?_
      refine WP.region ?_
      refine RW.run ttok 3 rfl ?_
      obtain ⟨x19, hx20, hb14⟩ := bind_some hb14
      refine RW.idx ttok (hE.trans hS17.ext) rfl rfl rfl rfl rfl rfl (by decide) rfl rfl h0_ (idx_some hx20).1 (idx_some hx20).2 rfl rfl (fun p21 es22 ha23 hr24 => ?_)
      have e25 := ty173_open hr24; subst e25
      refine RW.loadN ttok rfl rfl rfl rfl rfl (At.ext (hE.trans hS17.ext) ha23) rfl rfl rfl ?_
      obtain ⟨r26, hx27, hb14⟩ := bind_some hb14
      refine RW.call rfl rfl rfl h1_.1 (h1_.2 (hE.trans hS17.ext) (ty173.ext (hE.trans hS17.ext) hr24) hx27) (fun v28 w29 hR30 => ?_)
      obtain ⟨rfl, hR31⟩ := hR30
      have hS32 := hS17.join hR31
      refine RW.nil ?_
      refine WP.cond r26 rfl (fun hc => ?_) (fun hc => ?_)
      · skip
        rw [if_pos hc] at hb14
        refine WP.seq ?_
        refine WP.region ?_
        refine RW.run ttok 2 rfl ?_
        refine RW.nil ?_
        refine WP.ret ?_
        cases hb14
        cases ho15
        have hm : some _ = some _ := hm
        cases hm
        exact ⟨_, .cons (.tmp rfl) .nil, rfl, hS32⟩
      · skip
        rw [if_neg (not_t hc)] at hb14
        refine WP.skip ?_
        refine WP.region ?_
        refine RW.run ttok 2 rfl ?_
        refine RW.nil ?_
        cases hb14
        exact ⟨_, [(0, .slice A0_ x0.length k0_), (1, .func (.func f1_) #[] ⟨u1_⟩), (7, .int .i64 (x0.length : Int)), (8, .int .i64 (w64 (s1 + 1)))], ⟨rfl, rfl, rfl, rfl, trivial⟩, rfl, (hE5.trans hR31.ext), hS32, rfl⟩
    · skip
      rw [if_neg (not_t hc)] at hb14
      refine WP.exit ?_
      cases hb14
      exact ⟨_, [], trivial, ho15, hE5, hS17, rfl⟩

theorem enters183 : Enters Try.prog 183 := ⟨_, _, Try.func183, rfl, by kernel_rfl⟩
def m_slices_ContainsFunc_impl_Pair_impl_Pair (fuel : Nat) (x0 : (List D.Pair)) (x1 : D.Pair → Option Bool) : Option (Bool) := ((m_slices_IndexFunc_impl_Pair_impl_Pair fuel x0 x1).bind fun r1 => some (decide (r1 ≥ 0)))

set_option maxRecDepth 100000 in
theorem slices_ContainsFunc_impl_Pair_impl_Pair_ok {W w : World} (hE : Ext W w) {A0_ : Option Addr} {k0_ : Nat} {x0 : (List D.Pair)} {f1_ : Nat} {u1_ : List Value} {x1 : D.Pair → Option Bool} (h0_ : ty93.ro W [.slice A0_ x0.length k0_] x0) (h1_ : Enters Try.prog f1_ ∧ ∀ {w9 : World}, Ext W w9 → ∀ {cz0 : List Value} {z0 : D.Pair} {y9 : Bool}, ty173.ro w9 cz0 z0 → x1 z0 = some y9 → Calls Try.prog f1_ ⟨[.agg ⟨cz0⟩] ++ u1_⟩ w9 (Ret fun v w8 => v = .bool y9 ∧ St w9 w8 [])) {fuel : Nat} {r : Bool} (hm : m_slices_ContainsFunc_impl_Pair_impl_Pair fuel x0 x1 = some r) :
    Calls Try.prog 183 ⟨[.slice A0_ x0.length k0_, .func (.func f1_) #[] ⟨u1_⟩]⟩ w (Ret fun v w8 => v = .bool r ∧ St w w8 []) := by
  refine Calls.into Try.func183 rfl 9 rfl rfl _ rfl ?_
  unfold m_slices_ContainsFunc_impl_Pair_impl_Pair at hm
  have hS := St.start w
  refine WP.seq ?_
  refine WP.region ?_
  refine RW.run ttok 1 rfl ?_
  refine RW.nil ?_
  refine WP.seq ?_
  refine WP.region ?_
  refine RW.run ttok 2 rfl ?_
  obtain ⟨r1, hx2, hm⟩ := bind_some hm
  refine RW.call rfl rfl rfl enters219 (slices_IndexFunc_impl_Pair_impl_Pair_ok (hE.trans hS.ext) h0_ h1_ hx2) (fun v3 w4 hR5 => ?_)
  obtain ⟨rfl, hR6⟩ := hR5
  have hS7 := hS.join hR6
  refine RW.run ttok 2 rfl ?_
  refine RW.nil ?_
  refine WP.ret ?_
  cases hm
  exact ⟨_, .cons (.tmp rfl) .nil, rfl, hS7⟩

theorem enters185 : Enters Try.prog 185 := ⟨_, _, Try.func185, rfl, by kernel_rfl⟩
def m_impl_Memory_validRedex (fuel : Nat) (x0 : D.Memory) (x1 : D.Pair) : Option (Bool) := (if (decide (x1.A < x1.B)) = true then ((m_impl_Memory_hasCell fuel x0 x1.A).bind fun r18 => (if r18 = true then ((m_impl_Memory_hasCell fuel x0 x1.B).bind fun r26 => (if r26 = true then ((idx x0.Cells x1.A).bind fun x34 => ((m_impl_Cell_isAgentCell fuel x34).bind fun r47 => (if r47 = true then ((idx x0.Cells x1.B).bind fun x55 => ((m_impl_Cell_isAgentCell fuel x55).bind fun r69 => some r69)) else some false))) else some false)) else some false)) else some false)

set_option maxRecDepth 100000 in
theorem impl_Memory_validRedex_ok {W w : World} (hE : Ext W w) {p0_ : Addr} {c0_ : List Value} {x0 : D.Memory} {c1_ : List Value} {x1 : D.Pair} (h0_ : ty95.ro W c0_ x0) (g0_ : At W p0_ c0_) (h1_ : ty173.ro W c1_ x1) {fuel : Nat} {r : Bool} (hm : m_impl_Memory_validRedex fuel x0 x1 = some r) :
    Calls Try.prog 185 ⟨[.pointer (some p0_), .agg ⟨c1_⟩]⟩ w (Ret fun v w8 => v = .bool r ∧ St w w8 []) := by
  obtain ⟨A1, k2, A4, k5, e7, h3, h6⟩ := ty95_open h0_; subst e7
  have e10 := ty173_open h1_; subst e10
  refine Calls.into Try.func185 rfl 44 rfl rfl _ rfl ?_
  unfold m_impl_Memory_validRedex at hm
  have hS := St.start w
  refine WP.seq ?_
  refine WP.region ?_
  refine RW.new ttok hS rfl rfl rfl rfl (fun g11 w12 e13 hS14 => ?_)
  refine RW.run ttok 1 rfl ?_
  refine RW.nil ?_
  refine WP.seq ?_
  refine WP.drawnM 0 mixed 40 (by kernel_rfl) (by kernel_rfl) [([], 1099511627775), ([0], 1099511627774), ([], 1099511627775), ([2], 1099511627771), ([1, 3], 1099511627765), ([4], 1099511627759), ([5], 1099511627743), ([5], 1099511627743), ([7, 5], 1099511627615), ([6, 8, 5, 5], 1099511627423), ([5, 9], 1099511627231), ([10, 9], 1099511626751), ([11], 1099511625727), ([11], 1099511625727), ([13, 11], 1099511617535), ([12, 14, 11, 11], 1099511605247), ([11, 15], 1099511592959), ([16, 15], 1099511562239), ([17], 1099511496703), ([18, 17], 1099511234559), ([19, 17], 1099510972415), ([20, 17], 1099510448127), ([17], 1099511496703), ([22, 17], 1099507302399), ([21, 23, 17], 1099501010943), ([24, 17], 1099494719487), ([25, 17, 17], 1099477942271), ([17, 26], 1099444387839), ([27, 26], 1099377410047), ([28], 1099243192319), ([29, 28], 1098706321407), ([30, 28], 1098169450495), ([31, 28], 1097095708671), ([28], 1099243192319), ([33, 28], 1090653257727), ([32, 34, 28], 1077768355839), ([35, 28], 1064883453951), ([36, 28, 28], 1030523715583), ([28, 37], 961804238847), ([38, 37, 0, 1, 2, 3, 4, 5, 6, 7, 8, 9, 10, 11, 12, 13, 14, 15, 16, 17, 18, 19, 20, 21, 22, 23, 24, 25, 26, 27, 28, 29, 30, 31, 32, 33, 34, 35, 36, 37, 38], 824633720831)] (by kernel_rfl) (fun hsk15 => ?_)
  have hS16 := hS14.step (Ext.draw _)
  refine DM.run (fuel := 38) ttok hsk15 [0, 2] 5 (by kernel_rfl) (by kernel_rfl) rfl ?_
  refine DM.load1 ttok hsk15 1 7 (by kernel_rfl) (by kernel_rfl) (by kernel_rfl) (by kernel_rfl) rfl (by kernel_rfl) rfl rfl rfl rfl rfl ((hS14.bring 0 rfl).box) 0 rfl rfl rfl rfl ?_
  refine DM.load1 ttok hsk15 3 15 (by kernel_rfl) (by kernel_rfl) (by kernel_rfl) (by kernel_rfl) rfl (by kernel_rfl) rfl rfl rfl rfl rfl ((hS14.bring 0 rfl).box) 1 rfl rfl rfl rfl ?_
  refine DM.run (fuel := 34) ttok hsk15 [4, 5] 63 (by kernel_rfl) (by kernel_rfl) rfl ?_
  refine DM.weak [(0, .pointer (some p0_)), (3, .pointer (some ⟨g11, 0, none⟩)), (4, .bool false), (10, .bool (decide (x1.A < x1.B)))] ⟨rfl, rfl, rfl, rfl, trivial⟩ ?_
  by_cases hg17 : (decide (x1.A < x1.B)) = true
  · skip
    rw [if_pos hg17] at hm
    refine DM.know 10 rfl (congrArg Value.bool hg17) ?_
    refine DM.run (fuel := 32) ttok hsk15 [6, 7] 255 (by kernel_rfl) (by kernel_rfl) rfl ?_
    refine DM.load1 ttok hsk15 8 511 (by kernel_rfl) (by kernel_rfl) (by kernel_rfl) (by kernel_rfl) rfl (by kernel_rfl) rfl rfl rfl rfl rfl ((hS14.bring 0 rfl).box) 0 rfl rfl rfl rfl ?_
    obtain ⟨r18, hx19, hm⟩ := bind_some hm
    refine DM.one hsk15 9 (by kernel_rfl) (LM.call hsk15 1023 (by kernel_rfl) (by kernel_rfl) rfl rfl rfl rfl enters191 (impl_Memory_hasCell_ok (hE.trans hS16.ext) h0_ g0_ hx19) (fun v20 w21 hR22 => ?_))
    obtain ⟨rfl, hR23⟩ := hR22
    refine ⟨hR23.ext, ?_⟩
    have hS24 := hS16.join hR23
    refine DM.run (fuel := 28) ttok hsk15 [10, 11] 4095 (by kernel_rfl) (by kernel_rfl) rfl ?_
    refine DM.weak [(0, .pointer (some p0_)), (3, .pointer (some ⟨g11, 0, none⟩)), (4, .bool false), (16, .bool r18)] ⟨rfl, rfl, rfl, rfl, trivial⟩ ?_
    by_cases hg25 : r18 = true
    · skip
      rw [if_pos hg25] at hm
      refine DM.know 16 rfl (congrArg Value.bool hg25) ?_
      refine DM.run (fuel := 26) ttok hsk15 [12, 13] 16383 (by kernel_rfl) (by kernel_rfl) rfl ?_
      refine DM.load1 ttok hsk15 14 32767 (by kernel_rfl) (by kernel_rfl) (by kernel_rfl) (by kernel_rfl) rfl (by kernel_rfl) rfl rfl rfl rfl rfl ((hS14.bring 0 rfl).box) 1 rfl rfl rfl rfl ?_
      obtain ⟨r26, hx27, hm⟩ := bind_some hm
      refine DM.one hsk15 15 (by kernel_rfl) (LM.call hsk15 65535 (by kernel_rfl) (by kernel_rfl) rfl rfl rfl rfl enters191 (impl_Memory_hasCell_ok (hE.trans hS24.ext) h0_ g0_ hx27) (fun v28 w29 hR30 => ?_))
      obtain ⟨rfl, hR31⟩ := hR30
      refine ⟨hR31.ext, ?_⟩
      have hS32 := hS24.join hR31
      refine DM.run (fuel := 22) ttok hsk15 [16, 17] 262143 (by kernel_rfl) (by kernel_rfl) rfl ?_
      refine DM.weak [(0, .pointer (some p0_)), (3, .pointer (some ⟨g11, 0, none⟩)), (4, .bool false), (22, .bool r26)] ⟨rfl, rfl, rfl, rfl, trivial⟩ ?_
      by_cases hg33 : r26 = true
      · skip
        rw [if_pos hg33] at hm
        refine DM.know 22 rfl (congrArg Value.bool hg33) ?_
        refine DM.run (fuel := 18) ttok hsk15 [18, 19, 20, 22] 6291455 (by kernel_rfl) (by kernel_rfl) rfl ?_
        refine DM.load1 ttok hsk15 21 8388607 (by kernel_rfl) (by kernel_rfl) (by kernel_rfl) (by kernel_rfl) rfl (by kernel_rfl) rfl rfl rfl rfl rfl (At.ext (hE.trans hS14.ext) g0_) 0 rfl rfl rfl rfl ?_
        refine DM.load1 ttok hsk15 23 16777215 (by kernel_rfl) (by kernel_rfl) (by kernel_rfl) (by kernel_rfl) rfl (by kernel_rfl) rfl rfl rfl rfl rfl ((hS14.bring 0 rfl).box) 0 rfl rfl rfl rfl ?_
        obtain ⟨x34, hx35, hm⟩ := bind_some hm
        refine DM.idx ttok (hE.trans hS14.ext) hsk15 24 33554431 (by kernel_rfl) (by kernel_rfl) (by kernel_rfl) (by kernel_rfl) rfl (by kernel_rfl) rfl rfl rfl rfl rfl rfl (by decide) rfl rfl h3 (idx_some hx35).1 (idx_some hx35).2 rfl rfl (fun p36 es37 ha38 hr39 => ?_)
        obtain ⟨A40, k41, A43, k44, e46, h42, h45⟩ := ty167_open hr39; subst e46
        refine DM.loadN ttok hsk15 25 67108863 (by kernel_rfl) (by kernel_rfl) (by kernel_rfl) (by kernel_rfl) rfl (by kernel_rfl) rfl rfl rfl rfl rfl (At.ext (hE.trans hS14.ext) ha38) rfl rfl rfl ?_
        obtain ⟨r47, hx48, hm⟩ := bind_some hm
        refine DM.one hsk15 26 (by kernel_rfl) (LM.call hsk15 134217727 (by kernel_rfl) (by kernel_rfl) rfl rfl rfl rfl enters192 (impl_Cell_isAgentCell_ok (hE.trans hS32.ext) hr39 hx48) (fun v49 w50 hR51 => ?_))
        obtain ⟨rfl, hR52⟩ := hR51
        refine ⟨hR52.ext, ?_⟩
        have hS53 := hS32.join hR52
        refine DM.run (fuel := 11) ttok hsk15 [27, 28] 536870911 (by kernel_rfl) (by kernel_rfl) rfl ?_
        refine DM.weak [(0, .pointer (some p0_)), (3, .pointer (some ⟨g11, 0, none⟩)), (4, .bool false), (33, .bool r47)] ⟨rfl, rfl, rfl, rfl, trivial⟩ ?_
        by_cases hg54 : r47 = true
        · skip
          rw [if_pos hg54] at hm
          refine DM.know 33 rfl (congrArg Value.bool hg54) ?_
          refine DM.run (fuel := 7) ttok hsk15 [29, 30, 31, 33] 12884901887 (by kernel_rfl) (by kernel_rfl) rfl ?_
          refine DM.load1 ttok hsk15 32 17179869183 (by kernel_rfl) (by kernel_rfl) (by kernel_rfl) (by kernel_rfl) rfl (by kernel_rfl) rfl rfl rfl rfl rfl (At.ext (hE.trans hS14.ext) g0_) 0 rfl rfl rfl rfl ?_
          refine DM.load1 ttok hsk15 34 34359738367 (by kernel_rfl) (by kernel_rfl) (by kernel_rfl) (by kernel_rfl) rfl (by kernel_rfl) rfl rfl rfl rfl rfl ((hS14.bring 0 rfl).box) 1 rfl rfl rfl rfl ?_
          obtain ⟨x55, hx56, hm⟩ := bind_some hm
          refine DM.idx ttok (hE.trans hS14.ext) hsk15 35 68719476735 (by kernel_rfl) (by kernel_rfl) (by kernel_rfl) (by kernel_rfl) rfl (by kernel_rfl) rfl rfl rfl rfl rfl rfl (by decide) rfl rfl h3 (idx_some hx56).1 (idx_some hx56).2 rfl rfl (fun p57 es58 ha59 hr60 => ?_)
          obtain ⟨A61, k62, A65, k66, e68, h63, h67⟩ := ty167_open hr60; subst e68
          refine DM.loadN ttok hsk15 36 137438953471 (by kernel_rfl) (by kernel_rfl) (by kernel_rfl) (by kernel_rfl) rfl (by kernel_rfl) rfl rfl rfl rfl rfl (At.ext (hE.trans hS14.ext) ha59) rfl rfl rfl ?_
          obtain ⟨r69, hx70, hm⟩ := bind_some hm
          refine DM.one hsk15 37 (by kernel_rfl) (LM.call hsk15 274877906943 (by kernel_rfl) (by kernel_rfl) rfl rfl rfl rfl enters192 (impl_Cell_isAgentCell_ok (hE.trans hS53.ext) hr60 hx70) (fun v71 w72 hR73 => ?_))
          obtain ⟨rfl, hR74⟩ := hR73
          refine ⟨hR74.ext, ?_⟩
          have hS75 := hS53.join hR74
          refine DM.run (fuel := 0) ttok hsk15 [38, 39] 1099511627775 (by kernel_rfl) (by kernel_rfl) rfl ?_
          refine DM.weak [(4, .bool r69)] ⟨rfl, trivial⟩ ?_
          refine DM.done hsk15 (by kernel_rfl) ?_
          refine WP.ret ?_
          cases hm
          exact ⟨_, .cons (.tmp rfl) .nil, rfl, (hS75.taken 0)⟩
        · skip
          rw [if_neg hg54] at hm
          refine DM.know 33 rfl (congrArg Value.bool (Bool.eq_false_iff.2 hg54)) ?_
          refine DM.run (fuel := 0) ttok hsk15 [29, 30, 31, 32, 33, 34, 35, 36, 37, 38, 39] 1099511627775 (by kernel_rfl) (by kernel_rfl) rfl ?_
          refine DM.weak [(4, .bool false)] ⟨rfl, trivial⟩ ?_
          refine DM.done hsk15 (by kernel_rfl) ?_
          refine WP.ret ?_
          cases hm
          exact ⟨_, .cons (.tmp rfl) .nil, rfl, (hS53.taken 0)⟩
      · skip
        rw [if_neg hg33] at hm
        refine DM.know 22 rfl (congrArg Value.bool (Bool.eq_false_iff.2 hg33)) ?_
        refine DM.run (fuel := 0) ttok hsk15 [18, 19, 20, 21, 22, 23, 24, 25, 26, 27, 28, 29, 30, 31, 32, 33, 34, 35, 36, 37, 38, 39] 1099511627775 (by kernel_rfl) (by kernel_rfl) rfl ?_
        refine DM.weak [(4, .bool false)] ⟨rfl, trivial⟩ ?_
        refine DM.done hsk15 (by kernel_rfl) ?_
        refine WP.ret ?_
        cases hm
        exact ⟨_, .cons (.tmp rfl) .nil, rfl, (hS32.taken 0)⟩
    · skip
      rw [if_neg hg25] at hm
      refine DM.know 16 rfl (congrArg Value.bool (Bool.eq_false_iff.2 hg25)) ?_
      refine DM.run (fuel := 0) ttok hsk15 [12, 13, 14, 15, 16, 17, 18, 19, 20, 21, 22, 23, 24, 25, 26, 27, 28, 29, 30, 31, 32, 33, 34, 35, 36, 37, 38, 39] 1099511627775 (by kernel_rfl) (by kernel_rfl) rfl ?_
      refine DM.weak [(4, .bool false)] ⟨rfl, trivial⟩ ?_
      refine DM.done hsk15 (by kernel_rfl) ?_
      refine WP.ret ?_
      cases hm
      exact ⟨_, .cons (.tmp rfl) .nil, rfl, (hS24.taken 0)⟩
  · skip
    rw [if_neg hg17] at hm
    refine DM.know 10 rfl (congrArg Value.bool (Bool.eq_false_iff.2 hg17)) ?_
    refine DM.run (fuel := 0) ttok hsk15 [6, 7, 8, 9, 10, 11, 12, 13, 14, 15, 16, 17, 18, 19, 20, 21, 22, 23, 24, 25, 26, 27, 28, 29, 30, 31, 32, 33, 34, 35, 36, 37, 38, 39] 1099511627775 (by kernel_rfl) (by kernel_rfl) rfl ?_
    refine DM.weak [(4, .bool false)] ⟨rfl, trivial⟩ ?_
    refine DM.done hsk15 (by kernel_rfl) ?_
    refine WP.ret ?_
    cases hm
    exact ⟨_, .cons (.tmp rfl) .nil, rfl, (hS16.taken 0)⟩

theorem enters184 : Enters Try.prog 184 := ⟨_, _, Try.func184, rfl, by kernel_rfl⟩
def m_impl_Memory_validWith_c3 (fuel : Nat) (x0 : D.Pair) (x1 : D.Memory) : Option (Bool) := ((m_impl_Memory_validRedex fuel x1 x0).bind fun r15 => some (!r15))

set_option maxRecDepth 100000 in
theorem impl_Memory_validWith_c3_ok {W w : World} (hE : Ext W w) {c0_ : List Value} {x0 : D.Pair} {o1_ p1_ : Addr} {c1_ : List Value} {x1 : D.Memory} (h0_ : ty173.ro W c0_ x0) (f1_ : At W o1_ [.pointer (some p1_)]) (h1_ : ty95.ro W c1_ x1) (g1_ : At W p1_ c1_) {fuel : Nat} {r : Bool} (hm : m_impl_Memory_validWith_c3 fuel x0 x1 = some r) :
    Calls Try.prog 184 ⟨[.agg ⟨c0_⟩, .pointer (some o1_)]⟩ w (Ret fun v w8 => v = .bool r ∧ St w w8 []) := by
  have e1 := ty173_open h0_; subst e1
  obtain ⟨A2, k3, A5, k6, e10, h4, h7⟩ := ty95_open h1_; subst e10
  refine Calls.into Try.func184 rfl 8 rfl rfl _ rfl ?_
  unfold m_impl_Memory_validWith_c3 at hm
  have hS := St.start w
  refine WP.seq ?_
  refine WP.region ?_
  refine RW.new ttok hS rfl rfl rfl rfl (fun g11 w12 e13 hS14 => ?_)
  refine RW.run ttok 1 rfl ?_
  refine RW.nil ?_
  refine WP.seq ?_
  refine WP.region ?_
  refine RW.load1 ttok rfl rfl rfl rfl rfl (At.ext (hE.trans hS14.ext) f1_) 0 rfl rfl rfl rfl ?_
  refine RW.loadN ttok rfl rfl rfl rfl rfl ((hS14.bring 0 rfl).box) rfl rfl rfl ?_
  obtain ⟨r15, hx16, hm⟩ := bind_some hm
  refine RW.call rfl rfl rfl enters185 (impl_Memory_validRedex_ok (hE.trans hS14.ext) h1_ g1_ h0_ hx16) (fun v17 w18 hR19 => ?_)
  obtain ⟨rfl, hR20⟩ := hR19
  have hS21 := hS14.join hR20
  refine RW.run ttok 2 rfl ?_
  refine RW.nil ?_
  refine WP.ret ?_
  cases hm
  exact ⟨_, .cons (.tmp rfl) .nil, rfl, (hS21.taken 0)⟩

theorem enters186 : Enters Try.prog 186 := ⟨_, _, Try.func186, rfl, by kernel_rfl⟩
def m_impl_Memory_occurrencesOk_j3 (fuel : Nat) (t49 : Unit) : Option Bool := some true
def m_impl_Memory_occurrencesOk_j4 (fuel : Nat) (t41 : (List Int)) (s48 : Int) (t89 : Int) : Option (Rd (Int) (Unit) (Bool)) := ((idx t41 s48).bind fun x94 => (if (x94 != t89) = true then some (.ret false) else some (.next (w64 (s48 + 1)))))
def m_impl_Memory_occurrencesOk_j6 (fuel : Nat) (t41 : (List Int)) (s48 : Int) (t105 : Int) : Option (Rd (Int) (Unit) (Bool)) := m_impl_Memory_occurrencesOk_j4 fuel t41 s48 t105
def m_impl_Memory_occurrencesOk_j5 (fuel : Nat) (t41 : (List Int)) (s48 : Int) (t100 : Bool) : Option (Rd (Int) (Unit) (Bool)) := (if t100 = true then m_impl_Memory_occurrencesOk_j6 fuel t41 s48 2 else m_impl_Memory_occurrencesOk_j6 fuel t41 s48 1)
def m_impl_Memory_occurrencesOk_b3 (fuel : Nat) (x0 : D.Memory) (t41 : (List Int)) (s48 : Int) : Option (Rd (Int) (Unit) (Bool)) := (if (decide (s48 < (x0.Cells.length : Int))) = true then ((idx x0.Cells s48).bind fun x61 => ((m_impl_Cell_isFree fuel x61).bind fun r82 => (if r82 = true then m_impl_Memory_occurrencesOk_j4 fuel t41 s48 0 else ((m_impl_Cell_isVariable fuel x61).bind fun r110 => (if r110 = true then m_impl_Memory_occurrencesOk_j5 fuel t41 s48 ((x61.Words.length : Int) == 0) else m_impl_Memory_occurrencesOk_j5 fuel t41 s48 false))))) else some (.brk ()))
def m_impl_Memory_occurrencesOk_j2 (fuel : Nat) (x0 : D.Memory) (t41 : (List Int)) : Option Bool := ((iter (m_impl_Memory_occurrencesOk_b3 fuel x0 t41) fuel 0).bind fun o => aft o (m_impl_Memory_occurrencesOk_j3 fuel))
def m_impl_Memory_occurrencesOk_b2 (fuel : Nat) (x0 : D.Memory) (s40 : Int × (List Int)) : Option (Rd (Int × (List Int)) ((List Int)) (Bool)) := (if (decide (s40.1 < (x0.Redexes.length : Int))) = true then ((idx x0.Redexes s40.1).bind fun x123 => ((idx s40.2 x123.A).bind fun x137 => (if decide (0 ≤ x123.A ∧ x123.A.toNat < s40.2.length) = true then ((idx (s40.2.set x123.A.toNat (w64 (x137 + 1))) x123.B).bind fun x152 => (if decide (0 ≤ x123.B ∧ x123.B.toNat < (s40.2.set x123.A.toNat (w64 (x137 + 1))).length) = true then some (.next (w64 (s40.1 + 1), ((s40.2.set x123.A.toNat (w64 (x137 + 1))).set x123.B.toNat (w64 (x152 + 1))))) else none)) else none))) else some (.brk s40.2))
def m_impl_Memory_occurrencesOk_j1 (fuel : Nat) (x0 : D.Memory) (t33 : (List Int)) : Option Bool := ((iter (m_impl_Memory_occurrencesOk_b2 fuel x0) fuel (0, t33)).bind fun o => aft o (m_impl_Memory_occurrencesOk_j2 fuel x0))
def m_impl_Memory_occurrencesOk_b1 (fuel : Nat) (x1 : (List D.Word)) (r17 : (List D.Word)) (s32 : Int × (List Int)) : Option (Rd (Int × (List Int)) ((List Int)) (Bool)) := (if (decide (s32.1 < ((r17 ++ x1).length : Int))) = true then ((idx (r17 ++ x1) s32.1).bind fun x172 => ((idx s32.2 x172.At).bind fun x186 => (if decide (0 ≤ x172.At ∧ x172.At.toNat < s32.2.length) = true then some (.next (w64 (s32.1 + 1), (s32.2.set x172.At.toNat (w64 (x186 + 1))))) else none))) else some (.brk s32.2))
def m_impl_Memory_occurrencesOk (fuel : Nat) (x0 : D.Memory) (x1 : (List D.Word)) : Option (Bool) := (if decide (0 ≤ (x0.Cells.length : Int) ∧ (x0.Cells.length : Int) ≤ 4294967296) = true then ((m_impl_Memory_words fuel x0).bind fun r17 => (if decide ((r17.length : Int) + (x1.length : Int) ≤ 4294967296) = true then ((iter (m_impl_Memory_occurrencesOk_b1 fuel x1 r17) fuel (0, (List.replicate (x0.Cells.length : Int).toNat (0 : Int)))).bind fun o => aft o (m_impl_Memory_occurrencesOk_j1 fuel x0)) else none)) else none)

set_option maxRecDepth 100000 in
theorem impl_Memory_occurrencesOk_ok {W w : World} (hE : Ext W w) {p0_ : Addr} {c0_ : List Value} {x0 : D.Memory} {A1_ : Option Addr} {k1_ : Nat} {x1 : (List D.Word)} (h0_ : ty95.ro W c0_ x0) (g0_ : At W p0_ c0_) (h1_ : ty165.ro W [.slice A1_ x1.length k1_] x1) {fuel : Nat} {r : Bool} (hm : m_impl_Memory_occurrencesOk fuel x0 x1 = some r) :
    Calls Try.prog 186 ⟨[.pointer (some p0_), .slice A1_ x1.length k1_]⟩ w (Ret fun v w8 => v = .bool r ∧ St w w8 []) := by
  obtain ⟨A1, k2, A4, k5, e7, h3, h6⟩ := ty95_open h0_; subst e7
  refine Calls.into Try.func186 rfl 89 rfl rfl _ rfl ?_
  unfold m_impl_Memory_occurrencesOk at hm
  have hS := St.start w
  refine WP.seq ?_
  refine WP.region ?_
  refine RW.run ttok 1 rfl ?_
  refine RW.nil ?_
  refine WP.seq ?_
  refine WP.region ?_
  refine RW.run ttok 3 rfl ?_
  refine RW.load1 ttok rfl rfl rfl rfl rfl (At.ext (hE.trans hS.ext) g0_) 0 rfl rfl rfl rfl ?_
  refine RW.run ttok 1 rfl ?_
  by_cases hk10 : decide (0 ≤ (x0.Cells.length : Int) ∧ (x0.Cells.length : Int) ≤ 4294967296) = true
  case neg => rw [if_neg hk10] at hm; cases hm
  rw [if_pos hk10] at hm
  have hz16 := of_decide_eq_true hk10
  refine RW.make (U := tInt) ttok (0 : Int) hS rfl rfl rfl rfl rfl rfl rfl rfl hz16.1 (by have := hz16.2; show _ * (8 : Int) ≤ _; omega) (by have := hz16.2; simp only [maxLen]; omega) (fun _ => ⟨rfl, rfl⟩) rfl rfl (fun A11 k12 w13 e14 hS15 => ?_)
  refine RW.run ttok 1 rfl ?_
  refine RW.nil ?_
  refine WP.seq ?_
  refine WP.seq ?_
  refine WP.region ?_
  refine RW.run ttok 1 rfl ?_
  obtain ⟨r17, hx18, hm⟩ := bind_some hm
  refine RW.call rfl rfl rfl enters181 (impl_Memory_words_ok (hE.trans hS15.ext) h0_ g0_ hx18) (fun v19 w20 hR21 => ?_)
  obtain ⟨A22, k23, rfl, hR24⟩ := hR21
  have hS25 := hS15.join hR24
  refine RW.run ttok 1 rfl ?_
  have hS26 := hS25.bring 0 rfl
  by_cases hk27 : decide ((r17.length : Int) + (x1.length : Int) ≤ 4294967296) = true
  case neg => rw [if_neg hk27] at hm; cases hm
  rw [if_pos hk27] at hm
  refine RW.appendRo ttok (Flat.map (Flat.pair Flat.int (Flat.pair Flat.int Flat.unit))) hS26 rfl rfl rfl rfl rfl rfl (by decide) rfl rfl (ty165.ext (hE.trans hS26.ext) h1_) (of_decide_eq_true hk27) (by decide) rfl rfl (fun A28 k29 w30 hS31 => ?_)
  refine RW.run ttok 2 rfl ?_
  refine RW.nil ?_
  obtain ⟨o36, hl37, hm⟩ := bind_some hm
  refine WP.cut (fun (t33 : (List Int)) F w9 => o36 = .inl t33 ∧ St w w9 [Own ty165 [.slice A28 (r17 ++ x1).length k29] (r17 ++ x1), Own ty263 [.slice A11 (List.replicate (x0.Cells.length : Int).toNat (0 : Int)).length k12] t33] ∧ F = [(0, .pointer (some p0_)), (5, .slice A11 (List.replicate (x0.Cells.length : Int).toNat (0 : Int)).length k12)]) ?_ ?_
  · skip
    rintro t33 F w35 ⟨ho39, hS38, rfl⟩
    subst ho39
    rw [aft_inl] at hm
    unfold m_impl_Memory_occurrencesOk_j1 at hm
    refine WP.seq ?_
    refine WP.seq ?_
    refine WP.region ?_
    refine RW.run ttok 3 rfl ?_
    refine RW.load1 ttok rfl rfl rfl rfl rfl (At.ext (hE.trans hS38.ext) g0_) 4 rfl rfl rfl rfl ?_
    refine RW.run ttok 2 rfl ?_
    refine RW.nil ?_
    obtain ⟨o44, hl45, hm⟩ := bind_some hm
    refine WP.cut (fun (t41 : (List Int)) F w9 => o44 = .inl t41 ∧ St w w9 [Own ty165 [.slice A28 (r17 ++ x1).length k29] (r17 ++ x1), Own ty263 [.slice A11 (List.replicate (x0.Cells.length : Int).toNat (0 : Int)).length k12] t41] ∧ F = [(0, .pointer (some p0_)), (5, .slice A11 (List.replicate (x0.Cells.length : Int).toNat (0 : Int)).length k12)]) ?_ ?_
    · skip
      rintro t41 F w43 ⟨ho47, hS46, rfl⟩
      subst ho47
      rw [aft_inl] at hm
      unfold m_impl_Memory_occurrencesOk_j2 at hm
      refine WP.seq ?_
      refine WP.seq ?_
      refine WP.region ?_
      refine RW.run ttok 3 rfl ?_
      refine RW.load1 ttok rfl rfl rfl rfl rfl (At.ext (hE.trans hS46.ext) g0_) 0 rfl rfl rfl rfl ?_
      refine RW.run ttok 2 rfl ?_
      refine RW.nil ?_
      obtain ⟨o52, hl53, hm⟩ := bind_some hm
      refine WP.cut (fun (t49 : Unit) F w9 => o52 = .inl t49 ∧ St w w9 [Own ty165 [.slice A28 (r17 ++ x1).length k29] (r17 ++ x1), Own ty263 [.slice A11 (List.replicate (x0.Cells.length : Int).toNat (0 : Int)).length k12] t41] ∧ F = []) ?_ ?_
      · skip
        rintro t49 F w51 ⟨ho55, hS54, rfl⟩
        subst ho55
        rw [aft_inl] at hm
        unfold m_impl_Memory_occurrencesOk_j3 at hm
        refine WP.seq ?_
        refine WP.region ?_
        refine RW.run ttok 1 rfl ?_
        refine RW.nil ?_
        refine WP.ret ?_
        cases hm
        exact ⟨_, .cons (.tmp rfl) .nil, rfl, (hS54.taken 0)⟩
      · skip
        refine WP.block ?_
        refine WP.weak [(5, .slice A11 (List.replicate (x0.Cells.length : Int).toNat (0 : Int)).length k12), (63, .slice A1 x0.Cells.length k2), (64, .int .i64 (x0.Cells.length : Int)), (65, .int .i64 0)] ⟨rfl, rfl, rfl, rfl, trivial⟩ ?_
        refine WP.iter (fun (s48 : Int) F w9 => St w w9 [Own ty165 [.slice A28 (r17 ++ x1).length k29] (r17 ++ x1), Own ty263 [.slice A11 (List.replicate (x0.Cells.length : Int).toNat (0 : Int)).length k12] t41] ∧ F = [(5, .slice A11 (List.replicate (x0.Cells.length : Int).toNat (0 : Int)).length k12), (63, .slice A1 x0.Cells.length k2), (64, .int .i64 (x0.Cells.length : Int)), (65, .int .i64 s48)]) _ hl53 ⟨hS46, rfl⟩ ?_
        rintro s48 F w60 _ o58 ⟨hS59, rfl⟩ hb56 ho57
        unfold m_impl_Memory_occurrencesOk_b3 at hb56
        refine WP.seq ?_
        refine WP.region ?_
        refine RW.run ttok 1 rfl ?_
        refine RW.nil ?_
        refine WP.seq ?_
        refine WP.cond (decide (s48 < (x0.Cells.length : Int))) rfl (fun hc => ?_) (fun hc => ?_)
        · skip
          rw [if_pos hc] at hb56
          refine WP.skip ?_
          refine WP.seq ?_
          refine WP.block ?_
          refine WP.seq ?_
          refine WP.region ?_
          refine RW.run ttok 1 rfl ?_
          obtain ⟨x61, hx62, hb56⟩ := bind_some hb56
          refine RW.idx ttok (hE.trans hS59.ext) rfl rfl rfl rfl rfl rfl (by decide) rfl rfl h3 (idx_some hx62).1 (idx_some hx62).2 rfl rfl (fun p63 es65 ha66 hr67 => ?_)
          obtain ⟨A68, k69, A71, k72, e74, h70, h73⟩ := ty167_open hr67; subst e74
          refine RW.loadN ttok rfl rfl rfl rfl rfl (At.ext (hE.trans hS59.ext) ha66) rfl rfl rfl ?_
          refine RW.new ttok hS59 rfl rfl rfl rfl (fun g75 w76 e77 hS78 => ?_)
          refine RW.run ttok 1 rfl ?_
          have hS79 := hS78.bring 0 rfl
          refine RW.store ttok (A := []) hS79 rfl rfl rfl rfl rfl 0 rfl rfl rfl rfl rfl (fun w80 hS81 => ?_)
          refine RW.nil ?_
          refine WP.seq ?_
          refine WP.region ?_
          refine RW.run ttok 1 rfl ?_
          refine RW.nil ?_
          refine WP.seq ?_
          refine WP.block ?_
          refine WP.seq ?_
          refine WP.region ?_
          refine RW.loadN ttok rfl rfl rfl rfl rfl ((hS81.bring 0 rfl).box) rfl rfl rfl ?_
          obtain ⟨r82, hx83, hb56⟩ := bind_some hb56
          refine RW.call rfl rfl rfl enters193 (impl_Cell_isFree_ok (hE.trans hS81.ext) (ty167_shut x61 h70 h73) hx83) (fun v84 w85 hR86 => ?_)
          obtain ⟨rfl, hR87⟩ := hR86
          have hS88 := hS81.join hR87
          refine RW.run ttok 1 rfl ?_
          refine RW.nil ?_
          refine WP.cut (fun (t89 : Int) F w9 => m_impl_Memory_occurrencesOk_j4 fuel t41 s48 t89 = some o58 ∧ Ext w85 w9 ∧ St w w9 [Box g75 [.int .i64 x61.Kind, .int .i64 x61.Level, .int .i64 x61.Value, .slice A68 x61.Data.length k69, .slice A71 x61.Words.length k72] 167, Own ty165 [.slice A28 (r17 ++ x1).length k29] (r17 ++ x1), Own ty263 [.slice A11 (List.replicate (x0.Cells.length : Int).toNat (0 : Int)).length k12] t41] ∧ F = [(5, .slice A11 (List.replicate (x0.Cells.length : Int).toNat (0 : Int)).length k12), (10, .int .i64 s48), (12, .int .i64 t89), (63, .slice A1 x0.Cells.length k2), (64, .int .i64 (x0.Cells.length : Int)), (65, .int .i64 s48)]) ?_ ?_
          · skip
            rintro t89 F w92 ⟨hb56, hE90, hS91, rfl⟩
            unfold m_impl_Memory_occurrencesOk_j4 at hb56
            refine WP.seq ?_
            refine WP.region ?_
            refine RW.run ttok 2 rfl ?_
            obtain ⟨x94, hx95, hb56⟩ := bind_some hb56
            refine RW.idx ttok (Ext.refl _) rfl rfl rfl rfl rfl rfl (by decide) rfl rfl ((hS91.bring 2 rfl).own) (idx_some hx95).1 (idx_some hx95).2 rfl rfl (fun p96 es97 ha98 hr99 => ?_)
            cases hr99
            refine RW.load1 ttok rfl rfl rfl rfl rfl ha98 0 rfl rfl rfl rfl ?_
            refine RW.run ttok 2 rfl ?_
            refine RW.nil ?_
            refine WP.cond (x94 != t89) rfl (fun hc => ?_) (fun hc => ?_)
            · skip
              rw [if_pos hc] at hb56
              refine WP.seq ?_
              refine WP.region ?_
              refine RW.run ttok 1 rfl ?_
              refine RW.nil ?_
              refine WP.ret ?_
              cases hb56
              cases ho57
              have hm : some _ = some _ := hm
              cases hm
              exact ⟨_, .cons (.tmp rfl) .nil, rfl, (hS91.taken 0)⟩
            · skip
              rw [if_neg (not_t hc)] at hb56
              refine WP.skip ?_
              refine WP.region ?_
              refine RW.run ttok 2 rfl ?_
              refine RW.nil ?_
              cases hb56
              exact ⟨_, [(5, .slice A11 (List.replicate (x0.Cells.length : Int).toNat (0 : Int)).length k12), (63, .slice A1 x0.Cells.length k2), (64, .int .i64 (x0.Cells.length : Int)), (65, .int .i64 (w64 (s48 + 1)))], ⟨rfl, rfl, rfl, rfl, trivial⟩, rfl, (hS91.bring 0 rfl).drop, rfl⟩
          · skip
            refine WP.cond r82 rfl (fun hc => ?_) (fun hc => ?_)
            · skip
              rw [if_pos hc] at hb56
              refine WP.region ?_
              refine RW.run ttok 1 rfl ?_
              refine RW.nil ?_
              exact ⟨0, [(5, .slice A11 (List.replicate (x0.Cells.length : Int).toNat (0 : Int)).length k12), (10, .int .i64 s48), (12, .int .i64 0), (63, .slice A1 x0.Cells.length k2), (64, .int .i64 (x0.Cells.length : Int)), (65, .int .i64 s48)], ⟨rfl, rfl, rfl, rfl, rfl, rfl, trivial⟩, hb56, (Ext.refl _), hS88, rfl⟩
            · skip
              rw [if_neg (not_t hc)] at hb56
              refine WP.seq ?_
              refine WP.cut (fun (t100 : Bool) F w9 => m_impl_Memory_occurrencesOk_j5 fuel t41 s48 t100 = some o58 ∧ Ext w85 w9 ∧ St w w9 [Box g75 [.int .i64 x61.Kind, .int .i64 x61.Level, .int .i64 x61.Value, .slice A68 x61.Data.length k69, .slice A71 x61.Words.length k72] 167, Own ty165 [.slice A28 (r17 ++ x1).length k29] (r17 ++ x1), Own ty263 [.slice A11 (List.replicate (x0.Cells.length : Int).toNat (0 : Int)).length k12] t41] ∧ F = [(5, .slice A11 (List.replicate (x0.Cells.length : Int).toNat (0 : Int)).length k12), (10, .int .i64 s48), (12, .int .i64 1), (63, .slice A1 x0.Cells.length k2), (64, .int .i64 (x0.Cells.length : Int)), (65, .int .i64 s48), (73, .bool t100)]) ?_ ?_
              · skip
                rintro t100 F w103 ⟨hb56, hE101, hS102, rfl⟩
                unfold m_impl_Memory_occurrencesOk_j5 at hb56
                refine WP.cut (fun (t105 : Int) F w9 => m_impl_Memory_occurrencesOk_j6 fuel t41 s48 t105 = some o58 ∧ Ext w103 w9 ∧ St w w9 [Box g75 [.int .i64 x61.Kind, .int .i64 x61.Level, .int .i64 x61.Value, .slice A68 x61.Data.length k69, .slice A71 x61.Words.length k72] 167, Own ty165 [.slice A28 (r17 ++ x1).length k29] (r17 ++ x1), Own ty263 [.slice A11 (List.replicate (x0.Cells.length : Int).toNat (0 : Int)).length k12] t41] ∧ F = [(5, .slice A11 (List.replicate (x0.Cells.length : Int).toNat (0 : Int)).length k12), (10, .int .i64 s48), (12, .int .i64 t105), (63, .slice A1 x0.Cells.length k2), (64, .int .i64 (x0.Cells.length : Int)), (65, .int .i64 s48)]) ?_ ?_
                · skip
                  rintro t105 F w108 ⟨hb56, hE106, hS107, rfl⟩
                  unfold m_impl_Memory_occurrencesOk_j6 at hb56
                  exact ⟨t105, [(5, .slice A11 (List.replicate (x0.Cells.length : Int).toNat (0 : Int)).length k12), (10, .int .i64 s48), (12, .int .i64 t105), (63, .slice A1 x0.Cells.length k2), (64, .int .i64 (x0.Cells.length : Int)), (65, .int .i64 s48)], ⟨rfl, rfl, rfl, rfl, rfl, rfl, trivial⟩, hb56, (hE101.trans hE106), hS107, rfl⟩
                · skip
                  refine WP.cond t100 rfl (fun hc => ?_) (fun hc => ?_)
                  · skip
                    rw [if_pos hc] at hb56
                    refine WP.region ?_
                    refine RW.run ttok 1 rfl ?_
                    refine RW.nil ?_
                    exact ⟨2, [(5, .slice A11 (List.replicate (x0.Cells.length : Int).toNat (0 : Int)).length k12), (10, .int .i64 s48), (12, .int .i64 2), (63, .slice A1 x0.Cells.length k2), (64, .int .i64 (x0.Cells.length : Int)), (65, .int .i64 s48)], ⟨rfl, rfl, rfl, rfl, rfl, rfl, trivial⟩, hb56, (Ext.refl _), hS102, rfl⟩
                  · skip
                    rw [if_neg (not_t hc)] at hb56
                    refine WP.skip ?_
                    exact ⟨1, [(5, .slice A11 (List.replicate (x0.Cells.length : Int).toNat (0 : Int)).length k12), (10, .int .i64 s48), (12, .int .i64 1), (63, .slice A1 x0.Cells.length k2), (64, .int .i64 (x0.Cells.length : Int)), (65, .int .i64 s48)], ⟨rfl, rfl, rfl, rfl, rfl, rfl, trivial⟩, hb56, (Ext.refl _), hS102, rfl⟩
              · skip
                refine WP.region ?_
                refine RW.loadN ttok rfl rfl rfl rfl rfl ((hS88.bring 0 rfl).box) rfl rfl rfl ?_
                obtain ⟨r110, hx111, hb56⟩ := bind_some hb56
                refine RW.call rfl rfl rfl enters188 (impl_Cell_isVariable_ok (hE.trans hS88.ext) (ty167_shut x61 h70 h73) hx111) (fun v112 w113 hR114 => ?_)
                obtain ⟨rfl, hR115⟩ := hR114
                have hS116 := hS88.join hR115
                refine RW.run ttok 1 rfl ?_
                by_cases hg117 : r110 = true
                · skip
                  rw [if_pos hg117] at hb56
                  refine RW.know 76 rfl (congrArg Value.bool hg117) ?_
                  refine RW.run ttok 1 rfl ?_
                  refine RW.load1 ttok rfl rfl rfl rfl rfl ((hS116.bring 0 rfl).box) 4 rfl rfl rfl rfl ?_
                  refine RW.run ttok 4 rfl ?_
                  refine RW.nil ?_
                  exact ⟨((x61.Words.length : Int) == 0), [(5, .slice A11 (List.replicate (x0.Cells.length : Int).toNat (0 : Int)).length k12), (10, .int .i64 s48), (12, .int .i64 1), (63, .slice A1 x0.Cells.length k2), (64, .int .i64 (x0.Cells.length : Int)), (65, .int .i64 s48), (73, .bool ((x61.Words.length : Int) == 0))], ⟨rfl, rfl, rfl, rfl, rfl, rfl, rfl, trivial⟩, hb56, hR115.ext, hS116, rfl⟩
                · skip
                  rw [if_neg hg117] at hb56
                  refine RW.know 76 rfl (congrArg Value.bool (Bool.eq_false_iff.2 hg117)) ?_
                  refine RW.run ttok 6 rfl ?_
                  refine RW.nil ?_
                  exact ⟨false, [(5, .slice A11 (List.replicate (x0.Cells.length : Int).toNat (0 : Int)).length k12), (10, .int .i64 s48), (12, .int .i64 1), (63, .slice A1 x0.Cells.length k2), (64, .int .i64 (x0.Cells.length : Int)), (65, .int .i64 s48), (73, .bool false)], ⟨rfl, rfl, rfl, rfl, rfl, rfl, rfl, trivial⟩, hb56, hR115.ext, hS116, rfl⟩
        · skip
          rw [if_neg (not_t hc)] at hb56
          refine WP.exit ?_
          cases hb56
          exact ⟨_, [], trivial, ho57, hS59, rfl⟩
    · skip
      refine WP.block ?_
      refine WP.weak [(0, .pointer (some p0_)), (5, .slice A11 (List.replicate (x0.Cells.length : Int).toNat (0 : Int)).length k12), (39, .slice A4 x0.Redexes.length k5), (40, .int .i64 (x0.Redexes.length : Int)), (41, .int .i64 0)] ⟨rfl, rfl, rfl, rfl, rfl, trivial⟩ ?_
      refine WP.iter (fun (s40 : Int × (List Int)) F w9 => St w w9 [Own ty165 [.slice A28 (r17 ++ x1).length k29] (r17 ++ x1), Own ty263 [.slice A11 (List.replicate (x0.Cells.length : Int).toNat (0 : Int)).length k12] s40.2] ∧ F = [(0, .pointer (some p0_)), (5, .slice A11 (List.replicate (x0.Cells.length : Int).toNat (0 : Int)).length k12), (39, .slice A4 x0.Redexes.length k5), (40, .int .i64 (x0.Redexes.length : Int)), (41, .int .i64 s40.1)]) _ hl45 ⟨hS38, rfl⟩ ?_
      rintro s40 F w122 _ o120 ⟨hS121, rfl⟩ hb118 ho119
      unfold m_impl_Memory_occurrencesOk_b2 at hb118
      refine WP.seq ?_
      refine WP.region ?_
      refine RW.run ttok 1 rfl ?_
      refine RW.nil ?_
      refine WP.seq ?_
      refine WP.cond (decide (s40.1 < (x0.Redexes.length : Int))) rfl (fun hc => ?_) (fun hc => ?_)
      · skip
        rw [if_pos hc] at hb118
        refine WP.skip ?_
        refine WP.seq ?_
        refine WP.block ?_
        refine WP.seq ?_
        refine WP.region ?_
        obtain ⟨x123, hx124, hb118⟩ := bind_some hb118
        refine RW.idx ttok (hE.trans hS121.ext) rfl rfl rfl rfl rfl rfl (by decide) rfl rfl h6 (idx_some hx124).1 (idx_some hx124).2 rfl rfl (fun p125 es126 ha127 hr128 => ?_)
        have e129 := ty173_open hr128; subst e129
        refine RW.loadN ttok rfl rfl rfl rfl rfl (At.ext (hE.trans hS121.ext) ha127) rfl rfl rfl ?_
        refine RW.new ttok hS121 rfl rfl rfl rfl (fun g130 w131 e132 hS133 => ?_)
        have hS134 := hS133.bring 0 rfl
        refine RW.store ttok (A := []) hS134 rfl rfl rfl rfl rfl 0 rfl rfl rfl rfl rfl (fun w135 hS136 => ?_)
        refine RW.nil ?_
        refine WP.seq ?_
        refine WP.region ?_
        refine RW.run ttok 2 rfl ?_
        refine RW.load1 ttok rfl rfl rfl rfl rfl ((hS136.bring 0 rfl).box) 0 rfl rfl rfl rfl ?_
        obtain ⟨x137, hx138, hb118⟩ := bind_some hb118
        refine RW.idx ttok (Ext.refl _) rfl rfl rfl rfl rfl rfl (by decide) rfl rfl ((hS136.bring 2 rfl).own) (idx_some hx138).1 (idx_some hx138).2 rfl rfl (fun p139 es140 ha141 hr142 => ?_)
        cases hr142
        refine RW.load1 ttok rfl rfl rfl rfl rfl ha141 0 rfl rfl rfl rfl ?_
        refine RW.run ttok 1 rfl ?_
        have hS143 := hS136.bring 2 rfl
        by_cases hk144 : decide (0 ≤ x123.A ∧ x123.A.toNat < s40.2.length) = true
        case neg => rw [if_neg hk144] at hb118; cases hb118
        rw [if_pos hk144] at hb118
        have hb145 := of_decide_eq_true hk144
        refine RW.idxOwnN ttok hS143 rfl rfl rfl rfl rfl rfl rfl rfl hb145.1 hb145.2 rfl rfl (fun q146 hq147 => ?_)
        have hS148 := hS143.flat (T := tInt) (cs := [.int .i64 (w64 (x137 + 1))]) (x := (w64 (x137 + 1))) ⟨rfl, rfl⟩
        have hS149 := hS148.bring 1 rfl
        refine RW.storeElN ttok hS149 rfl rfl rfl rfl rfl rfl hb145.2 hq147 rfl rfl (fun w150 hS151 => ?_)
        refine RW.nil ?_
        refine WP.region ?_
        refine RW.run ttok 2 rfl ?_
        refine RW.load1 ttok rfl rfl rfl rfl rfl ((hS151.bring 1 rfl).box) 1 rfl rfl rfl rfl ?_
        obtain ⟨x152, hx153, hb118⟩ := bind_some hb118
        refine RW.idx ttok (Ext.refl _) rfl rfl rfl rfl rfl rfl (by decide) rfl rfl ((hS151.bring 0 rfl).own) (idx_some hx153).1 (idx_some hx153).2 rfl rfl (fun p154 es155 ha156 hr157 => ?_)
        cases hr157
        refine RW.load1 ttok rfl rfl rfl rfl rfl ha156 0 rfl rfl rfl rfl ?_
        refine RW.run ttok 1 rfl ?_
        have hS158 := hS151.bring 0 rfl
        by_cases hk159 : decide (0 ≤ x123.B ∧ x123.B.toNat < (s40.2.set x123.A.toNat (w64 (x137 + 1))).length) = true
        case neg => rw [if_neg hk159] at hb118; cases hb118
        rw [if_pos hk159] at hb118
        have hb160 := of_decide_eq_true hk159
        refine RW.idxOwnN ttok hS158 rfl rfl rfl rfl rfl rfl rfl rfl hb160.1 hb160.2 rfl rfl (fun q161 hq162 => ?_)
        have hS163 := hS158.flat (T := tInt) (cs := [.int .i64 (w64 (x152 + 1))]) (x := (w64 (x152 + 1))) ⟨rfl, rfl⟩
        have hS164 := hS163.bring 1 rfl
        refine RW.storeElN ttok hS164 rfl rfl rfl rfl rfl rfl hb160.2 hq162 rfl rfl (fun w165 hS166 => ?_)
        refine RW.nil ?_
        refine WP.region ?_
        refine RW.run ttok 2 rfl ?_
        refine RW.nil ?_
        cases hb118
        exact ⟨_, [(0, .pointer (some p0_)), (5, .slice A11 (List.replicate (x0.Cells.length : Int).toNat (0 : Int)).length k12), (39, .slice A4 x0.Redexes.length k5), (40, .int .i64 (x0.Redexes.length : Int)), (41, .int .i64 (w64 (s40.1 + 1)))], ⟨rfl, rfl, rfl, rfl, rfl, trivial⟩, rfl, (((hS166.bring 0 rfl).bring 2 rfl).taken 2), rfl⟩
      · skip
        rw [if_neg (not_t hc)] at hb118
        refine WP.exit ?_
        cases hb118
        exact ⟨_, [(0, .pointer (some p0_)), (5, .slice A11 (List.replicate (x0.Cells.length : Int).toNat (0 : Int)).length k12)], ⟨rfl, rfl, trivial⟩, ho119, hS121, rfl⟩
  · skip
    refine WP.block ?_
    refine WP.weak [(0, .pointer (some p0_)), (5, .slice A11 (List.replicate (x0.Cells.length : Int).toNat (0 : Int)).length k12), (22, .slice A28 (r17 ++ x1).length k29), (23, .int .i64 ((r17 ++ x1).length : Int)), (24, .int .i64 0)] ⟨rfl, rfl, rfl, rfl, rfl, trivial⟩ ?_
    refine WP.iter (fun (s32 : Int × (List Int)) F w9 => St w w9 [Own ty165 [.slice A28 (r17 ++ x1).length k29] (r17 ++ x1), Own ty263 [.slice A11 (List.replicate (x0.Cells.length : Int).toNat (0 : Int)).length k12] s32.2] ∧ F = [(0, .pointer (some p0_)), (5, .slice A11 (List.replicate (x0.Cells.length : Int).toNat (0 : Int)).length k12), (22, .slice A28 (r17 ++ x1).length k29), (23, .int .i64 ((r17 ++ x1).length : Int)), (24, .int .i64 s32.1)]) _ hl37 ⟨hS31, rfl⟩ ?_
    rintro s32 F w171 _ o169 ⟨hS170, rfl⟩ hb167 ho168
    unfold m_impl_Memory_occurrencesOk_b1 at hb167
    refine WP.seq ?_
    refine WP.region ?_
    refine RW.run ttok 1 rfl ?_
    refine RW.nil ?_
    refine WP.seq ?_
    refine WP.cond (decide (s32.1 < ((r17 ++ x1).length : Int))) rfl (fun hc => ?_) (fun hc => ?_)
    · skip
      rw [if_pos hc] at hb167
      refine WP.skip ?_
      refine WP.seq ?_
      refine WP.block ?_
      refine WP.seq ?_
      refine WP.region ?_
      obtain ⟨x172, hx173, hb167⟩ := bind_some hb167
      refine RW.idx ttok (Ext.refl _) rfl rfl rfl rfl rfl rfl (by decide) rfl rfl ((hS170.bring 0 rfl).own) (idx_some hx173).1 (idx_some hx173).2 rfl rfl (fun p174 es175 ha176 hr177 => ?_)
      have e178 := ty92_open hr177; subst e178
      refine RW.loadN ttok rfl rfl rfl rfl rfl ha176 rfl rfl rfl ?_
      refine RW.new ttok hS170 rfl rfl rfl rfl (fun g179 w180 e181 hS182 => ?_)
      have hS183 := hS182.bring 0 rfl
      refine RW.store ttok (A := []) hS183 rfl rfl rfl rfl rfl 0 rfl rfl rfl rfl rfl (fun w184 hS185 => ?_)
      refine RW.nil ?_
      refine WP.region ?_
      refine RW.run ttok 2 rfl ?_
      refine RW.load1 ttok rfl rfl rfl rfl rfl ((hS185.bring 0 rfl).box) 1 rfl rfl rfl rfl ?_
      obtain ⟨x186, hx187, hb167⟩ := bind_some hb167
      refine RW.idx ttok (Ext.refl _) rfl rfl rfl rfl rfl rfl (by decide) rfl rfl ((hS185.bring 2 rfl).own) (idx_some hx187).1 (idx_some hx187).2 rfl rfl (fun p188 es189 ha190 hr191 => ?_)
      cases hr191
      refine RW.load1 ttok rfl rfl rfl rfl rfl ha190 0 rfl rfl rfl rfl ?_
      refine RW.run ttok 1 rfl ?_
      have hS192 := hS185.bring 2 rfl
      by_cases hk193 : decide (0 ≤ x172.At ∧ x172.At.toNat < s32.2.length) = true
      case neg => rw [if_neg hk193] at hb167; cases hb167
      rw [if_pos hk193] at hb167
      have hb194 := of_decide_eq_true hk193
      refine RW.idxOwnN ttok hS192 rfl rfl rfl rfl rfl rfl rfl rfl hb194.1 hb194.2 rfl rfl (fun q195 hq196 => ?_)
      have hS197 := hS192.flat (T := tInt) (cs := [.int .i64 (w64 (x186 + 1))]) (x := (w64 (x186 + 1))) ⟨rfl, rfl⟩
      have hS198 := hS197.bring 1 rfl
      refine RW.storeElN ttok hS198 rfl rfl rfl rfl rfl rfl hb194.2 hq196 rfl rfl (fun w199 hS200 => ?_)
      refine RW.nil ?_
      refine WP.region ?_
      refine RW.run ttok 2 rfl ?_
      refine RW.nil ?_
      cases hb167
      exact ⟨_, [(0, .pointer (some p0_)), (5, .slice A11 (List.replicate (x0.Cells.length : Int).toNat (0 : Int)).length k12), (22, .slice A28 (r17 ++ x1).length k29), (23, .int .i64 ((r17 ++ x1).length : Int)), (24, .int .i64 (w64 (s32.1 + 1)))], ⟨rfl, rfl, rfl, rfl, rfl, trivial⟩, rfl, (((hS200.bring 0 rfl).bring 2 rfl).taken 2), rfl⟩
    · skip
      rw [if_neg (not_t hc)] at hb167
      refine WP.exit ?_
      cases hb167
      exact ⟨_, [(0, .pointer (some p0_)), (5, .slice A11 (List.replicate (x0.Cells.length : Int).toNat (0 : Int)).length k12)], ⟨rfl, rfl, trivial⟩, ho168, hS170, rfl⟩

theorem enters170 : Enters Try.prog 170 := ⟨_, _, Try.func170, rfl, by kernel_rfl⟩
def m_impl_truth (fuel : Nat) (x0 : Bool) : Option (Int) := (if x0 = true then some 1 else some 0)

set_option maxRecDepth 100000 in
theorem impl_truth_ok {W w : World} (hE : Ext W w) {x0 : Bool}  {fuel : Nat} {r : Int} (hm : m_impl_truth fuel x0 = some r) :
    Calls Try.prog 170 ⟨[.bool x0]⟩ w (Ret fun v w8 => v = .int .i64 r ∧ St w w8 []) := by
  refine Calls.into Try.func170 rfl 4 rfl rfl _ rfl ?_
  unfold m_impl_truth at hm
  have hS := St.start w
  refine WP.seq ?_
  refine WP.region ?_
  refine RW.run ttok 1 rfl ?_
  refine RW.nil ?_
  refine WP.seq ?_
  refine WP.seq ?_
  refine WP.region ?_
  refine RW.run ttok 1 rfl ?_
  refine RW.nil ?_
  refine WP.cond x0 rfl (fun hc => ?_) (fun hc => ?_)
  · skip
    rw [if_pos hc] at hm
    refine WP.seq ?_
    refine WP.region ?_
    refine RW.run ttok 1 rfl ?_
    refine RW.nil ?_
    refine WP.ret ?_
    cases hm
    exact ⟨_, .cons (.tmp rfl) .nil, rfl, hS⟩
  · skip
    rw [if_neg (not_t hc)] at hm
    refine WP.skip ?_
    refine WP.seq ?_
    refine WP.region ?_
    refine RW.run ttok 1 rfl ?_
    refine RW.nil ?_
    refine WP.ret ?_
    cases hm
    exact ⟨_, .cons (.tmp rfl) .nil, rfl, hS⟩

theorem enters187 : Enters Try.prog 187 := ⟨_, _, Try.func187, rfl, by kernel_rfl⟩
def m_impl_Memory_freeOk_j2 (fuel : Nat) (t19 : Int) : Option Bool := some (t19 == (-1))
def m_impl_Memory_freeOk_j3 (fuel : Nat) (x0 : D.Memory) (s18 : Int × Int) (t34 : Bool) : Option (Rd (Int × Int) (Int) (Bool)) := (if t34 = true then some (.ret false) else ((idx x0.Cells s18.1).bind fun x39 => some (.next (x39.Value, w64 (s18.2 + 1)))))
def m_impl_Memory_freeOk_b2 (fuel : Nat) (x0 : D.Memory) (t11 : Int) (s18 : Int × Int) : Option (Rd (Int × Int) (Int) (Bool)) := (if (decide (s18.2 < t11)) = true then ((m_impl_Memory_hasCell fuel x0 s18.1).bind fun r52 => (if (!r52) = true then m_impl_Memory_freeOk_j3 fuel x0 s18 true else ((idx x0.Cells s18.1).bind fun x60 => ((m_impl_Cell_isFree fuel x60).bind fun r74 => m_impl_Memory_freeOk_j3 fuel x0 s18 (!r74))))) else some (.brk s18.1))
def m_impl_Memory_freeOk_j1 (fuel : Nat) (x0 : D.Memory) (t11 : Int) : Option Bool := ((iter (m_impl_Memory_freeOk_b2 fuel x0 t11) fuel (x0.Free, 0)).bind fun o => aft o (m_impl_Memory_freeOk_j2 fuel))
def m_impl_Memory_freeOk_b1 (fuel : Nat) (x0 : D.Memory) (s10 : Int × Int) : Option (Rd (Int × Int) (Int) (Bool)) := (if (decide (s10.2 < (x0.Cells.length : Int))) = true then ((idx x0.Cells s10.2).bind fun x86 => ((m_impl_Cell_isFree fuel x86).bind fun r106 => ((m_impl_truth fuel r106).bind fun r113 => some (.next (w64 (s10.1 + r113), w64 (s10.2 + 1)))))) else some (.brk s10.1))
def m_impl_Memory_freeOk (fuel : Nat) (x0 : D.Memory) : Option (Bool) := ((iter (m_impl_Memory_freeOk_b1 fuel x0) fuel (0, 0)).bind fun o => aft o (m_impl_Memory_freeOk_j1 fuel x0))

set_option maxRecDepth 100000 in
theorem impl_Memory_freeOk_ok {W w : World} (hE : Ext W w) {p0_ : Addr} {c0_ : List Value} {x0 : D.Memory} (h0_ : ty95.ro W c0_ x0) (g0_ : At W p0_ c0_) {fuel : Nat} {r : Bool} (hm : m_impl_Memory_freeOk fuel x0 = some r) :
    Calls Try.prog 187 ⟨[.pointer (some p0_)]⟩ w (Ret fun v w8 => v = .bool r ∧ St w w8 []) := by
  obtain ⟨A1, k2, A4, k5, e7, h3, h6⟩ := ty95_open h0_; subst e7
  refine Calls.into Try.func187 rfl 55 rfl rfl _ rfl ?_
  unfold m_impl_Memory_freeOk at hm
  have hS := St.start w
  refine WP.seq ?_
  refine WP.region ?_
  refine RW.run ttok 1 rfl ?_
  refine RW.nil ?_
  refine WP.seq ?_
  refine WP.region ?_
  refine RW.run ttok 1 rfl ?_
  refine RW.nil ?_
  refine WP.seq ?_
  refine WP.seq ?_
  refine WP.region ?_
  refine RW.run ttok 3 rfl ?_
  refine RW.load1 ttok rfl rfl rfl rfl rfl (At.ext (hE.trans hS.ext) g0_) 0 rfl rfl rfl rfl ?_
  refine RW.run ttok 2 rfl ?_
  refine RW.nil ?_
  obtain ⟨o14, hl15, hm⟩ := bind_some hm
  refine WP.cut (fun (t11 : Int) F w9 => o14 = .inl t11 ∧ St w w9 [] ∧ F = [(0, .pointer (some p0_)), (3, .int .i64 t11)]) ?_ ?_
  · skip
    rintro t11 F w13 ⟨ho17, hS16, rfl⟩
    subst ho17
    rw [aft_inl] at hm
    unfold m_impl_Memory_freeOk_j1 at hm
    refine WP.seq ?_
    refine WP.region ?_
    refine RW.run ttok 3 rfl ?_
    refine RW.load1 ttok rfl rfl rfl rfl rfl (At.ext (hE.trans hS16.ext) g0_) 1 rfl rfl rfl rfl ?_
    refine RW.run ttok 1 rfl ?_
    refine RW.nil ?_
    refine WP.seq ?_
    refine WP.seq ?_
    refine WP.region ?_
    refine RW.run ttok 2 rfl ?_
    refine RW.nil ?_
    obtain ⟨o25, hl26, hm⟩ := bind_some hm
    refine WP.cut (fun (t19 : Int) F w9 => o25 = .inl t19 ∧ Ext w13 w9 ∧ St w w9 [] ∧ F = [(6, .int .i64 t19)]) ?_ ?_
    · skip
      rintro t19 F w24 ⟨ho28, hE23, hS27, rfl⟩
      subst ho28
      rw [aft_inl] at hm
      unfold m_impl_Memory_freeOk_j2 at hm
      refine WP.seq ?_
      refine WP.region ?_
      refine RW.run ttok 3 rfl ?_
      refine RW.nil ?_
      refine WP.ret ?_
      cases hm
      exact ⟨_, .cons (.tmp rfl) .nil, rfl, hS27⟩
    · skip
      refine WP.block ?_
      refine WP.weak [(0, .pointer (some p0_)), (6, .int .i64 x0.Free), (26, .int .i64 t11), (27, .int .i64 0)] ⟨rfl, rfl, rfl, rfl, trivial⟩ ?_
      refine WP.iter (fun (s18 : Int × Int) F w9 => Ext w13 w9 ∧ St w w9 [] ∧ F = [(0, .pointer (some p0_)), (6, .int .i64 s18.1), (26, .int .i64 t11), (27, .int .i64 s18.2)]) _ hl26 ⟨(Ext.refl _), hS16, rfl⟩ ?_
      rintro s18 F w33 _ o31 ⟨hE22, hS32, rfl⟩ hb29 ho30
      unfold m_impl_Memory_freeOk_b2 at hb29
      refine WP.seq ?_
      refine WP.region ?_
      refine RW.run ttok 1 rfl ?_
      refine RW.nil ?_
      refine WP.seq ?_
      refine WP.cond (decide (s18.2 < t11)) rfl (fun hc => ?_) (fun hc => ?_)
      · skip
        rw [if_pos hc] at hb29
        refine WP.skip ?_
        refine WP.seq ?_
        refine WP.block ?_
        refine WP.seq ?_
        refine WP.seq ?_
        refine WP.cut (fun (t34 : Bool) F w9 => m_impl_Memory_freeOk_j3 fuel x0 s18 t34 = some o31 ∧ Ext w33 w9 ∧ St w w9 [] ∧ F = [(0, .pointer (some p0_)), (6, .int .i64 s18.1), (26, .int .i64 t11), (27, .int .i64 s18.2), (43, .bool t34)]) ?_ ?_
        · skip
          rintro t34 F w37 ⟨hb29, hE35, hS36, rfl⟩
          unfold m_impl_Memory_freeOk_j3 at hb29
          refine WP.cond t34 rfl (fun hc => ?_) (fun hc => ?_)
          · skip
            rw [if_pos hc] at hb29
            refine WP.seq ?_
            refine WP.region ?_
            refine RW.run ttok 1 rfl ?_
            refine RW.nil ?_
            refine WP.ret ?_
            cases hb29
            cases ho30
            have hm : some _ = some _ := hm
            cases hm
            exact ⟨_, .cons (.tmp rfl) .nil, rfl, hS36⟩
          · skip
            rw [if_neg (not_t hc)] at hb29
            refine WP.skip ?_
            refine WP.region ?_
            refine RW.run ttok 3 rfl ?_
            refine RW.load1 ttok rfl rfl rfl rfl rfl (At.ext (hE.trans hS36.ext) g0_) 0 rfl rfl rfl rfl ?_
            refine RW.run ttok 1 rfl ?_
            obtain ⟨x39, hx40, hb29⟩ := bind_some hb29
            refine RW.idx ttok (hE.trans hS36.ext) rfl rfl rfl rfl rfl rfl (by decide) rfl rfl h3 (idx_some hx40).1 (idx_some hx40).2 rfl rfl (fun p41 es42 ha43 hr44 => ?_)
            obtain ⟨A45, k46, A48, k49, e51, h47, h50⟩ := ty167_open hr44; subst e51
            refine RW.run ttok 1 rfl ?_
            refine RW.load1 ttok rfl rfl rfl rfl rfl (At.ext (hE.trans hS36.ext) ha43) 2 rfl rfl rfl rfl ?_
            refine RW.run ttok 1 rfl ?_
            refine RW.nil ?_
            refine WP.region ?_
            refine RW.run ttok 2 rfl ?_
            refine RW.nil ?_
            cases hb29
            exact ⟨_, [(0, .pointer (some p0_)), (6, .int .i64 x39.Value), (26, .int .i64 t11), (27, .int .i64 (w64 (s18.2 + 1)))], ⟨rfl, rfl, rfl, rfl, trivial⟩, rfl, (hE22.trans hE35), hS36, rfl⟩
        · skip
          refine WP.region ?_
          refine RW.run ttok 2 rfl ?_
          obtain ⟨r52, hx53, hb29⟩ := bind_some hb29
          refine RW.call rfl rfl rfl enters191 (impl_Memory_hasCell_ok (hE.trans hS32.ext) h0_ g0_ hx53) (fun v54 w55 hR56 => ?_)
          obtain ⟨rfl, hR57⟩ := hR56
          have hS58 := hS32.join hR57
          refine RW.run ttok 2 rfl ?_
          by_cases hg59 : (!r52) = true
          · skip
            rw [if_pos hg59] at hb29
            refine RW.know 33 rfl (congrArg Value.bool hg59) ?_
            refine RW.run ttok 10 rfl ?_
            refine RW.nil ?_
            exact ⟨true, [(0, .pointer (some p0_)), (6, .int .i64 s18.1), (26, .int .i64 t11), (27, .int .i64 s18.2), (43, .bool true)], ⟨rfl, rfl, rfl, rfl, rfl, trivial⟩, hb29, hR57.ext, hS58, rfl⟩
          · skip
            rw [if_neg hg59] at hb29
            refine RW.know 33 rfl (congrArg Value.bool (Bool.eq_false_iff.2 hg59)) ?_
            refine RW.run ttok 3 rfl ?_
            refine RW.load1 ttok rfl rfl rfl rfl rfl (At.ext (hE.trans hS58.ext) g0_) 0 rfl rfl rfl rfl ?_
            refine RW.run ttok 1 rfl ?_
            obtain ⟨x60, hx61, hb29⟩ := bind_some hb29
            refine RW.idx ttok (hE.trans hS58.ext) rfl rfl rfl rfl rfl rfl (by decide) rfl rfl h3 (idx_some hx61).1 (idx_some hx61).2 rfl rfl (fun p62 es63 ha65 hr66 => ?_)
            obtain ⟨A67, k68, A70, k71, e73, h69, h72⟩ := ty167_open hr66; subst e73
            refine RW.loadN ttok rfl rfl rfl rfl rfl (At.ext (hE.trans hS58.ext) ha65) rfl rfl rfl ?_
            obtain ⟨r74, hx75, hb29⟩ := bind_some hb29
            refine RW.call rfl rfl rfl enters193 (impl_Cell_isFree_ok (hE.trans hS58.ext) hr66 hx75) (fun v76 w77 hR78 => ?_)
            obtain ⟨rfl, hR79⟩ := hR78
            have hS80 := hS58.join hR79
            refine RW.run ttok 2 rfl ?_
            refine RW.nil ?_
            exact ⟨!r74, [(0, .pointer (some p0_)), (6, .int .i64 s18.1), (26, .int .i64 t11), (27, .int .i64 s18.2), (43, .bool (!r74))], ⟨rfl, rfl, rfl, rfl, rfl, trivial⟩, hb29, (hR57.ext.trans hR79.ext), hS80, rfl⟩
      · skip
        rw [if_neg (not_t hc)] at hb29
        refine WP.exit ?_
        cases hb29
        exact ⟨_, [(6, .int .i64 s18.1)], ⟨rfl, trivial⟩, ho30, hE22, hS32, rfl⟩
  · skip
    refine WP.block ?_
    refine WP.weak [(0, .pointer (some p0_)), (3, .int .i64 0), (10, .slice A1 x0.Cells.length k2), (11, .int .i64 (x0.Cells.length : Int)), (12, .int .i64 0)] ⟨rfl, rfl, rfl, rfl, rfl, trivial⟩ ?_
    refine WP.iter (fun (s10 : Int × Int) F w9 => St w w9 [] ∧ F = [(0, .pointer (some p0_)), (3, .int .i64 s10.1), (10, .slice A1 x0.Cells.length k2), (11, .int .i64 (x0.Cells.length : Int)), (12, .int .i64 s10.2)]) _ hl15 ⟨hS, rfl⟩ ?_
    rintro s10 F w85 _ o83 ⟨hS84, rfl⟩ hb81 ho82
    unfold m_impl_Memory_freeOk_b1 at hb81
    refine WP.seq ?_
    refine WP.region ?_
    refine RW.run ttok 1 rfl ?_
    refine RW.nil ?_
    refine WP.seq ?_
    refine WP.cond (decide (s10.2 < (x0.Cells.length : Int))) rfl (fun hc => ?_) (fun hc => ?_)
    · skip
      rw [if_pos hc] at hb81
      refine WP.skip ?_
      refine WP.seq ?_
      refine WP.block ?_
      refine WP.seq ?_
      refine WP.region ?_
      obtain ⟨x86, hx87, hb81⟩ := bind_some hb81
      refine RW.idx ttok (hE.trans hS84.ext) rfl rfl rfl rfl rfl rfl (by decide) rfl rfl h3 (idx_some hx87).1 (idx_some hx87).2 rfl rfl (fun p88 es89 ha90 hr91 => ?_)
      obtain ⟨A92, k93, A95, k96, e98, h94, h97⟩ := ty167_open hr91; subst e98
      refine RW.loadN ttok rfl rfl rfl rfl rfl (At.ext (hE.trans hS84.ext) ha90) rfl rfl rfl ?_
      refine RW.new ttok hS84 rfl rfl rfl rfl (fun g99 w100 e101 hS102 => ?_)
      have hS103 := hS102.bring 0 rfl
      refine RW.store ttok (A := []) hS103 rfl rfl rfl rfl rfl 0 rfl rfl rfl rfl rfl (fun w104 hS105 => ?_)
      refine RW.nil ?_
      refine WP.region ?_
      refine RW.run ttok 1 rfl ?_
      refine RW.loadN ttok rfl rfl rfl rfl rfl ((hS105.bring 0 rfl).box) rfl rfl rfl ?_
      obtain ⟨r106, hx107, hb81⟩ := bind_some hb81
      refine RW.call rfl rfl rfl enters193 (impl_Cell_isFree_ok (hE.trans hS105.ext) (ty167_shut x86 h94 h97) hx107) (fun v108 w109 hR110 => ?_)
      obtain ⟨rfl, hR111⟩ := hR110
      have hS112 := hS105.join hR111
      obtain ⟨r113, hx114, hb81⟩ := bind_some hb81
      refine RW.call rfl rfl rfl enters170 (impl_truth_ok (hE.trans hS112.ext)  hx114) (fun v115 w116 hR117 => ?_)
      obtain ⟨rfl, hR118⟩ := hR117
      have hS119 := hS112.join hR118
      refine RW.run ttok 2 rfl ?_
      refine RW.nil ?_
      refine WP.region ?_
      refine RW.run ttok 2 rfl ?_
      refine RW.nil ?_
      cases hb81
      exact ⟨_, [(0, .pointer (some p0_)), (3, .int .i64 (w64 (s10.1 + r113))), (10, .slice A1 x0.Cells.length k2), (11, .int .i64 (x0.Cells.length : Int)), (12, .int .i64 (w64 (s10.2 + 1)))], ⟨rfl, rfl, rfl, rfl, rfl, trivial⟩, rfl, (hS119.taken 0), rfl⟩
    · skip
      rw [if_neg (not_t hc)] at hb81
      refine WP.exit ?_
      cases hb81
      exact ⟨_, [(0, .pointer (some p0_)), (3, .int .i64 s10.1)], ⟨rfl, rfl, trivial⟩, ho82, hS84, rfl⟩

theorem enters127 : Enters Try.prog 127 := ⟨_, _, Try.func127, rfl, by kernel_rfl⟩
def m_impl_Memory_resolve_j1 (fuel : Nat) (t20 : Int × Int) : Option (D.Word × Bool) := some ((⟨0, 0⟩ : D.Word), false)
def m_impl_Memory_resolve_j2 (fuel : Nat) (x0 : D.Memory) (s19 : Int × Int × Int) (t35 : Bool) : Option (Rd (Int × Int × Int) (Int × Int) (D.Word × Bool)) := (if t35 = true then some (.ret ((⟨s19.2.1, s19.2.2⟩ : D.Word), true)) else ((idx x0.Cells s19.2.2).bind fun x45 => ((idx x45.Words 0).bind fun x58 => some (.next (w64 (s19.1 + 1), x58.Tag, x58.At)))))
def m_impl_Memory_resolve_b1 (fuel : Nat) (x0 : D.Memory) (s19 : Int × Int × Int) : Option (Rd (Int × Int × Int) (Int × Int) (D.Word × Bool)) := (if (decide (s19.1 < (w64 ((x0.Cells.length : Int) + 1)))) = true then (if (s19.2.1 == 1) = true then m_impl_Memory_resolve_j2 fuel x0 s19 true else ((idx x0.Cells s19.2.2).bind fun x72 => m_impl_Memory_resolve_j2 fuel x0 s19 ((x72.Words.length : Int) == 0))) else some (.brk (s19.2.1, s19.2.2)))
def m_impl_Memory_resolve (fuel : Nat) (x0 : D.Memory) (x1 : D.Word) : Option (D.Word × Bool) := ((iter (m_impl_Memory_resolve_b1 fuel x0) fuel (0, x1.Tag, x1.At)).bind fun o => aft o (m_impl_Memory_resolve_j1 fuel))

set_option maxRecDepth 100000 in
theorem impl_Memory_resolve_ok {W w : World} (hE : Ext W w) {p0_ : Addr} {c0_ : List Value} {x0 : D.Memory} {c1_ : List Value} {x1 : D.Word} (h0_ : ty95.ro W c0_ x0) (g0_ : At W p0_ c0_) (h1_ : ty92.ro W c1_ x1) {fuel : Nat} {r : D.Word × Bool} (hm : m_impl_Memory_resolve fuel x0 x1 = some r) :
    Calls Try.prog 127 ⟨[.pointer (some p0_), .agg ⟨c1_⟩]⟩ w (Ret fun v w8 => v = .tuple ⟨[.agg ⟨[.int .i64 r.1.Tag, .int .i64 r.1.At]⟩, .bool r.2]⟩ ∧ St w w8 []) := by
  obtain ⟨A1, k2, A4, k5, e7, h3, h6⟩ := ty95_open h0_; subst e7
  have e10 := ty92_open h1_; subst e10
  refine Calls.into Try.func127 rfl 44 rfl rfl _ rfl ?_
  unfold m_impl_Memory_resolve at hm
  have hS := St.start w
  refine WP.seq ?_
  refine WP.region ?_
  refine RW.new ttok hS rfl rfl rfl rfl (fun g11 w12 e13 hS14 => ?_)
  refine RW.new ttok hS14 rfl rfl rfl rfl (fun g15 w16 e17 hS18 => ?_)
  refine RW.run ttok 1 rfl ?_
  refine RW.nil ?_
  refine WP.seq ?_
  refine WP.seq ?_
  refine WP.region ?_
  refine RW.run ttok 3 rfl ?_
  refine RW.load1 ttok rfl rfl rfl rfl rfl (At.ext (hE.trans hS18.ext) g0_) 0 rfl rfl rfl rfl ?_
  refine RW.run ttok 3 rfl ?_
  refine RW.nil ?_
  obtain ⟨o23, hl24, hm⟩ := bind_some hm
  refine WP.cut (fun (t20 : Int × Int) F w9 => o23 = .inl t20 ∧ St w w9 [Box g15 [.int .i64 0, .int .i64 0] 92, Box g11 [.int .i64 t20.1, .int .i64 t20.2] 92] ∧ F = [(4, .pointer (some ⟨g15, 0, none⟩))]) ?_ ?_
  · skip
    rintro t20 F w22 ⟨ho26, hS25, rfl⟩
    subst ho26
    rw [aft_inl] at hm
    unfold m_impl_Memory_resolve_j1 at hm
    refine WP.seq ?_
    refine WP.region ?_
    refine RW.quiet rfl (Quiet.build ttok rfl rfl rfl rfl rfl) rfl rfl ?_
    have hS27 := hS25.bring 0 rfl
    refine RW.store ttok (A := []) hS27 rfl rfl rfl rfl rfl 0 rfl rfl rfl rfl rfl (fun w28 hS29 => ?_)
    refine RW.run ttok 1 rfl ?_
    refine RW.nil ?_
    refine WP.ret ?_
    cases hm
    exact ⟨_, .cons (ResIs.agg ttok rfl rfl rfl ((hS29.bring 0 rfl).box) rfl) (.cons (.tmp rfl) .nil), rfl, (hS29.taken 0)⟩
  · skip
    refine WP.block ?_
    refine WP.weak [(0, .pointer (some p0_)), (3, .pointer (some ⟨g11, 0, none⟩)), (4, .pointer (some ⟨g15, 0, none⟩)), (11, .int .i64 (w64 ((x0.Cells.length : Int) + 1))), (12, .int .i64 0)] ⟨rfl, rfl, rfl, rfl, rfl, trivial⟩ ?_
    refine WP.iter (fun (s19 : Int × Int × Int) F w9 => St w w9 [Box g15 [.int .i64 0, .int .i64 0] 92, Box g11 [.int .i64 s19.2.1, .int .i64 s19.2.2] 92] ∧ F = [(0, .pointer (some p0_)), (3, .pointer (some ⟨g11, 0, none⟩)), (4, .pointer (some ⟨g15, 0, none⟩)), (11, .int .i64 (w64 ((x0.Cells.length : Int) + 1))), (12, .int .i64 s19.1)]) _ hl24 ⟨hS18, rfl⟩ ?_
    rintro s19 F w34 _ o32 ⟨hS33, rfl⟩ hb30 ho31
    unfold m_impl_Memory_resolve_b1 at hb30
    refine WP.seq ?_
    refine WP.region ?_
    refine RW.run ttok 1 rfl ?_
    refine RW.nil ?_
    refine WP.seq ?_
    refine WP.cond (decide (s19.1 < (w64 ((x0.Cells.length : Int) + 1)))) rfl (fun hc => ?_) (fun hc => ?_)
    · skip
      rw [if_pos hc] at hb30
      refine WP.skip ?_
      refine WP.seq ?_
      refine WP.block ?_
      refine WP.seq ?_
      refine WP.seq ?_
      refine WP.cut (fun (t35 : Bool) F w9 => m_impl_Memory_resolve_j2 fuel x0 s19 t35 = some o32 ∧ Ext w34 w9 ∧ St w w9 [Box g15 [.int .i64 0, .int .i64 0] 92, Box g11 [.int .i64 s19.2.1, .int .i64 s19.2.2] 92] ∧ F = [(0, .pointer (some p0_)), (3, .pointer (some ⟨g11, 0, none⟩)), (4, .pointer (some ⟨g15, 0, none⟩)), (11, .int .i64 (w64 ((x0.Cells.length : Int) + 1))), (12, .int .i64 s19.1), (29, .bool t35)]) ?_ ?_
      · skip
        rintro t35 F w38 ⟨hb30, hE36, hS37, rfl⟩
        unfold m_impl_Memory_resolve_j2 at hb30
        refine WP.cond t35 rfl (fun hc => ?_) (fun hc => ?_)
        · skip
          rw [if_pos hc] at hb30
          refine WP.seq ?_
          refine WP.region ?_
          refine RW.loadN ttok rfl rfl rfl rfl rfl ((hS37.bring 1 rfl).box) rfl rfl rfl ?_
          have hS40 := hS37.bring 0 rfl
          refine RW.store ttok (A := []) hS40 rfl rfl rfl rfl rfl 0 rfl rfl rfl rfl rfl (fun w41 hS42 => ?_)
          refine RW.run ttok 1 rfl ?_
          refine RW.nil ?_
          refine WP.ret ?_
          cases hb30
          cases ho31
          have hm : some _ = some _ := hm
          cases hm
          exact ⟨_, .cons (ResIs.agg ttok rfl rfl rfl ((hS42.bring 0 rfl).box) rfl) (.cons (.tmp rfl) .nil), rfl, (hS42.taken 0)⟩
        · skip
          rw [if_neg (not_t hc)] at hb30
          refine WP.skip ?_
          refine WP.drawnM 2048 mixed 12 (by kernel_rfl) (by kernel_rfl) [([], 4095), ([0], 4094), ([1], 4093), ([2], 4091), ([], 4095), ([4], 4079), ([3, 5], 4055), ([6], 4031), ([7], 3967), ([8], 3839), ([9], 3583), ([10, 0, 1, 2, 3, 4, 5, 6, 7, 8, 9, 10], 3071)] (by kernel_rfl) (fun hsk43 => ?_)
          have hS44 := hS37.step (Ext.draw _)
          refine DM.run (fuel := 8) ttok hsk43 [0, 1, 2, 4] 23 (by kernel_rfl) (by kernel_rfl) rfl ?_
          refine DM.load1 ttok hsk43 3 31 (by kernel_rfl) (by kernel_rfl) (by kernel_rfl) (by kernel_rfl) rfl (by kernel_rfl) rfl rfl rfl rfl rfl (At.ext (hE.trans hS37.ext) g0_) 0 rfl rfl rfl rfl ?_
          refine DM.load1 ttok hsk43 5 63 (by kernel_rfl) (by kernel_rfl) (by kernel_rfl) (by kernel_rfl) rfl (by kernel_rfl) rfl rfl rfl rfl rfl ((hS37.bring 1 rfl).box) 1 rfl rfl rfl rfl ?_
          obtain ⟨x45, hx46, hb30⟩ := bind_some hb30
          refine DM.idx ttok (hE.trans hS37.ext) hsk43 6 127 (by kernel_rfl) (by kernel_rfl) (by kernel_rfl) (by kernel_rfl) rfl (by kernel_rfl) rfl rfl rfl rfl rfl rfl (by decide) rfl rfl h3 (idx_some hx46).1 (idx_some hx46).2 rfl rfl (fun p47 es48 ha49 hr50 => ?_)
          obtain ⟨A51, k52, A54, k55, e57, h53, h56⟩ := ty167_open hr50; subst e57
          refine DM.run (fuel := 4) ttok hsk43 [7] 255 (by kernel_rfl) (by kernel_rfl) rfl ?_
          refine DM.weak [(0, .pointer (some p0_)), (3, .pointer (some ⟨g11, 0, none⟩)), (4, .pointer (some ⟨g15, 0, none⟩)), (11, .int .i64 (w64 ((x0.Cells.length : Int) + 1))), (12, .int .i64 s19.1), (38, .pointer (some (p47.add 4)))] ⟨rfl, rfl, rfl, rfl, rfl, rfl, trivial⟩ ?_
          refine DM.load1 ttok hsk43 8 511 (by kernel_rfl) (by kernel_rfl) (by kernel_rfl) (by kernel_rfl) rfl (by kernel_rfl) rfl rfl rfl rfl rfl (At.ext (hE.trans hS37.ext) ha49) 4 rfl rfl rfl rfl ?_
          obtain ⟨x58, hx59, hb30⟩ := bind_some hb30
          refine DM.idx ttok (hE.trans hS37.ext) hsk43 9 1023 (by kernel_rfl) (by kernel_rfl) (by kernel_rfl) (by kernel_rfl) rfl (by kernel_rfl) rfl rfl rfl rfl rfl rfl (by decide) rfl rfl h56 (idx_some hx59).1 (idx_some hx59).2 rfl rfl (fun p60 es61 ha62 hr63 => ?_)
          have e65 := ty92_open hr63; subst e65
          refine DM.loadN ttok hsk43 10 2047 (by kernel_rfl) (by kernel_rfl) (by kernel_rfl) (by kernel_rfl) rfl (by kernel_rfl) rfl rfl rfl rfl rfl (At.ext (hE.trans hS37.ext) ha62) rfl rfl rfl ?_
          have hS66 := hS44.bring 1 rfl
          refine DM.one hsk43 11 (by kernel_rfl) (LM.store ttok (A := []) hS66 hsk43 4095 (by kernel_rfl) (by kernel_rfl) rfl rfl rfl rfl rfl rfl 0 rfl rfl rfl rfl rfl (fun w67 hS68 => ?_))
          refine DM.done hsk43 (by kernel_rfl) ?_
          refine WP.region ?_
          refine RW.run ttok 2 rfl ?_
          refine RW.nil ?_
          cases hb30
          exact ⟨_, [(0, .pointer (some p0_)), (3, .pointer (some ⟨g11, 0, none⟩)), (4, .pointer (some ⟨g15, 0, none⟩)), (11, .int .i64 (w64 ((x0.Cells.length : Int) + 1))), (12, .int .i64 (w64 (s19.1 + 1)))], ⟨rfl, rfl, rfl, rfl, rfl, trivial⟩, rfl, ((hS68.bring 0 rfl).bring 1 rfl), rfl⟩
      · skip
        refine WP.drawnM 0 mixed 16 (by kernel_rfl) (by kernel_rfl) [([], 65535), ([0], 65534), ([1], 65533), ([2], 65531), ([3], 65527), ([4, 3], 65511), ([5, 3], 65495), ([6, 3], 65463), ([3], 65527), ([8, 3], 65271), ([7, 9, 3], 64887), ([10, 3], 64503), ([11, 3], 63479), ([12, 3], 61431), ([13, 3], 57335), ([3, 14], 49143)] (by kernel_rfl) (fun hsk69 => ?_)
        have hS70 := hS33.step (Ext.draw _)
        refine DM.run (fuel := 15) ttok hsk69 [0] 1 (by kernel_rfl) (by kernel_rfl) rfl ?_
        refine DM.load1 ttok hsk69 1 3 (by kernel_rfl) (by kernel_rfl) (by kernel_rfl) (by kernel_rfl) rfl (by kernel_rfl) rfl rfl rfl rfl rfl ((hS33.bring 1 rfl).box) 0 rfl rfl rfl rfl ?_
        refine DM.run (fuel := 12) ttok hsk69 [2, 3] 15 (by kernel_rfl) (by kernel_rfl) rfl ?_
        by_cases hg71 : (s19.2.1 == 1) = true
        · skip
          rw [if_pos hg71] at hb30
          refine DM.know 17 rfl (congrArg Value.bool hg71) ?_
          refine DM.run (fuel := 0) ttok hsk69 [4, 5, 6, 7, 8, 9, 10, 11, 12, 13, 14, 15] 65535 (by kernel_rfl) (by kernel_rfl) rfl ?_
          refine DM.weak [(0, .pointer (some p0_)), (3, .pointer (some ⟨g11, 0, none⟩)), (4, .pointer (some ⟨g15, 0, none⟩)), (11, .int .i64 (w64 ((x0.Cells.length : Int) + 1))), (12, .int .i64 s19.1), (29, .bool true)] ⟨rfl, rfl, rfl, rfl, rfl, rfl, trivial⟩ ?_
          refine DM.done hsk69 (by kernel_rfl) ?_
          exact ⟨true, [(0, .pointer (some p0_)), (3, .pointer (some ⟨g11, 0, none⟩)), (4, .pointer (some ⟨g15, 0, none⟩)), (11, .int .i64 (w64 ((x0.Cells.length : Int) + 1))), (12, .int .i64 s19.1), (29, .bool true)], ⟨rfl, rfl, rfl, rfl, rfl, rfl, trivial⟩, hb30, (Ext.draw _), hS70, rfl⟩
        · skip
          rw [if_neg hg71] at hb30
          refine DM.know 17 rfl (congrArg Value.bool (Bool.eq_false_iff.2 hg71)) ?_
          refine DM.run (fuel := 8) ttok hsk69 [4, 5, 6, 8] 383 (by kernel_rfl) (by kernel_rfl) rfl ?_
          refine DM.weak [(0, .pointer (some p0_)), (3, .pointer (some ⟨g11, 0, none⟩)), (4, .pointer (some ⟨g15, 0, none⟩)), (11, .int .i64 (w64 ((x0.Cells.length : Int) + 1))), (12, .int .i64 s19.1), (17, .bool false), (20, .pointer (some p0_)), (22, .pointer (some ⟨g11, 1, none⟩))] ⟨rfl, rfl, rfl, rfl, rfl, rfl, rfl, rfl, trivial⟩ ?_
          refine DM.load1 ttok hsk69 7 511 (by kernel_rfl) (by kernel_rfl) (by kernel_rfl) (by kernel_rfl) rfl (by kernel_rfl) rfl rfl rfl rfl rfl (At.ext (hE.trans hS33.ext) g0_) 0 rfl rfl rfl rfl ?_
          refine DM.load1 ttok hsk69 9 1023 (by kernel_rfl) (by kernel_rfl) (by kernel_rfl) (by kernel_rfl) rfl (by kernel_rfl) rfl rfl rfl rfl rfl ((hS33.bring 1 rfl).box) 1 rfl rfl rfl rfl ?_
          obtain ⟨x72, hx73, hb30⟩ := bind_some hb30
          refine DM.idx ttok (hE.trans hS33.ext) hsk69 10 2047 (by kernel_rfl) (by kernel_rfl) (by kernel_rfl) (by kernel_rfl) rfl (by kernel_rfl) rfl rfl rfl rfl rfl rfl (by decide) rfl rfl h3 (idx_some hx73).1 (idx_some hx73).2 rfl rfl (fun p74 es75 ha76 hr77 => ?_)
          obtain ⟨A78, k79, A81, k82, e84, h80, h83⟩ := ty167_open hr77; subst e84
          refine DM.run (fuel := 4) ttok hsk69 [11] 4095 (by kernel_rfl) (by kernel_rfl) rfl ?_
          refine DM.load1 ttok hsk69 12 8191 (by kernel_rfl) (by kernel_rfl) (by kernel_rfl) (by kernel_rfl) rfl (by kernel_rfl) rfl rfl rfl rfl rfl (At.ext (hE.trans hS33.ext) ha76) 4 rfl rfl rfl rfl ?_
          refine DM.run (fuel := 0) ttok hsk69 [13, 14, 15] 65535 (by kernel_rfl) (by kernel_rfl) rfl ?_
          refine DM.weak [(0, .pointer (some p0_)), (3, .pointer (some ⟨g11, 0, none⟩)), (4, .pointer (some ⟨g15, 0, none⟩)), (11, .int .i64 (w64 ((x0.Cells.length : Int) + 1))), (12, .int .i64 s19.1), (29, .bool ((x72.Words.length : Int) == 0))] ⟨rfl, rfl, rfl, rfl, rfl, rfl, trivial⟩ ?_
          refine DM.done hsk69 (by kernel_rfl) ?_
          exact ⟨((x72.Words.length : Int) == 0), [(0, .pointer (some p0_)), (3, .pointer (some ⟨g11, 0, none⟩)), (4, .pointer (some ⟨g15, 0, none⟩)), (11, .int .i64 (w64 ((x0.Cells.length : Int) + 1))), (12, .int .i64 s19.1), (29, .bool ((x72.Words.length : Int) == 0))], ⟨rfl, rfl, rfl, rfl, rfl, rfl, trivial⟩, hb30, (Ext.draw _), hS70, rfl⟩
    · skip
      rw [if_neg (not_t hc)] at hb30
      refine WP.exit ?_
      cases hb30
      exact ⟨_, [(4, .pointer (some ⟨g15, 0, none⟩))], ⟨rfl, trivial⟩, ho31, hS33, rfl⟩

theorem enters121 : Enters Try.prog 121 := ⟨_, _, Try.func121, rfl, by kernel_rfl⟩
def m_impl_Memory_validWith_j4 (fuel : Nat) (t29 : Unit) : Option Bool := some true
def m_impl_Memory_validWith_j5 (fuel : Nat) (s28 : Int) (t69 : Unit) : Option (Rd (Int) (Unit) (Bool)) := some (.next (w64 (s28 + 1)))
def m_impl_Memory_validWith_b1 (fuel : Nat) (x0 : D.Memory) (s28 : Int) : Option (Rd (Int) (Unit) (Bool)) := (if (decide (s28 < (x0.Cells.length : Int))) = true then ((idx x0.Cells s28).bind fun x41 => ((m_impl_Cell_isVariable fuel x41).bind fun r61 => (if r61 = true then ((m_impl_Memory_resolve fuel x0 (⟨2, s28⟩ : D.Word)).bind fun r73 => (if (!r73.2) = true then some (.ret false) else m_impl_Memory_validWith_j5 fuel s28 ())) else m_impl_Memory_validWith_j5 fuel s28 ()))) else some (.brk ()))
def m_impl_Memory_validWith_j3 (fuel : Nat) (x0 : D.Memory) (t23 : Bool) : Option Bool := (if t23 = true then some false else ((iter (m_impl_Memory_validWith_b1 fuel x0) fuel 0).bind fun o => aft o (m_impl_Memory_validWith_j4 fuel)))
def m_impl_Memory_validWith_j2 (fuel : Nat) (x0 : D.Memory) (x1 : (List D.Word)) (t19 : Bool) : Option Bool := (if t19 = true then some false else ((m_impl_Memory_occurrencesOk fuel x0 x1).bind fun r87 => (if (!r87) = true then m_impl_Memory_validWith_j3 fuel x0 true else ((m_impl_Memory_freeOk fuel x0).bind fun r95 => m_impl_Memory_validWith_j3 fuel x0 (!r95)))))
def m_impl_Memory_validWith_j1 (fuel : Nat) (x0 : D.Memory) (x1 : (List D.Word)) (t14 : Bool) : Option Bool := (if t14 = true then some false else ((m_slices_ContainsFunc_impl_Cell_impl_Cell fuel x0.Cells (fun y0 => m_impl_Memory_validWith_c1 fuel y0)).bind fun r102 => (if r102 = true then m_impl_Memory_validWith_j2 fuel x0 x1 true else ((m_impl_Memory_words fuel x0).bind fun r110 => (if decide ((r110.length : Int) + (x1.length : Int) ≤ 4294967296) = true then ((m_slices_ContainsFunc_impl_Word_impl_Word fuel (r110 ++ x1) (fun y0 => m_impl_Memory_validWith_c2 fuel y0 x0)).bind fun r125 => (if r125 = true then m_impl_Memory_validWith_j2 fuel x0 x1 true else ((m_slices_ContainsFunc_impl_Pair_impl_Pair fuel x0.Redexes (fun y0 => m_impl_Memory_validWith_c3 fuel y0 x0)).bind fun r133 => m_impl_Memory_validWith_j2 fuel x0 x1 r133))) else none)))))
def m_impl_Memory_validWith (fuel : Nat) (x0 : D.Memory) (x1 : (List D.Word)) : Option (Bool) := (if (decide ((x0.Cells.length : Int) < 1)) = true then m_impl_Memory_validWith_j1 fuel x0 x1 true else (if (decide ((x0.Cells.length : Int) > 1500)) = true then m_impl_Memory_validWith_j1 fuel x0 x1 true else m_impl_Memory_validWith_j1 fuel x0 x1 (decide ((x0.Redexes.length : Int) > (x0.Cells.length : Int)))))

set_option maxRecDepth 100000 in
theorem impl_Memory_validWith_ok {W w : World} (hE : Ext W w) {p0_ : Addr} {c0_ : List Value} {x0 : D.Memory} {A1_ : Option Addr} {k1_ : Nat} {x1 : (List D.Word)} (h0_ : ty95.ro W c0_ x0) (g0_ : At W p0_ c0_) (h1_ : ty165.ro W [.slice A1_ x1.length k1_] x1) {fuel : Nat} {r : Bool} (hm : m_impl_Memory_validWith fuel x0 x1 = some r) :
    Calls Try.prog 121 ⟨[.pointer (some p0_), .slice A1_ x1.length k1_]⟩ w (Ret fun v w8 => v = .bool r ∧ St w w8 []) := by
  obtain ⟨A1, k2, A4, k5, e7, h3, h6⟩ := ty95_open h0_; subst e7
  refine Calls.into Try.func121 rfl 88 rfl rfl _ rfl ?_
  unfold m_impl_Memory_validWith at hm
  have hS := St.start w
  refine WP.seq ?_
  refine WP.region ?_
  refine RW.new ttok hS rfl rfl rfl rfl (fun g10 w11 e12 hS13 => ?_)
  refine RW.run ttok 1 rfl ?_
  refine RW.nil ?_
  refine WP.seq ?_
  refine WP.seq ?_
  refine WP.cut (fun (t14 : Bool) F w9 => m_impl_Memory_validWith_j1 fuel x0 x1 t14 = some r ∧ Ext w11 w9 ∧ St w w9 [Box g10 [.pointer (some p0_)] 152] ∧ F = [(1, .slice A1_ x1.length k1_), (2, .pointer (some ⟨g10, 0, none⟩)), (35, .bool t14)]) ?_ ?_
  · skip
    rintro t14 F w17 ⟨hm, hE15, hS16, rfl⟩
    unfold m_impl_Memory_validWith_j1 at hm
    refine WP.cond t14 rfl (fun hc => ?_) (fun hc => ?_)
    · skip
      rw [if_pos hc] at hm
      refine WP.seq ?_
      refine WP.region ?_
      refine RW.run ttok 1 rfl ?_
      refine RW.nil ?_
      refine WP.ret ?_
      cases hm
      exact ⟨_, .cons (.tmp rfl) .nil, rfl, (hS16.taken 0)⟩
    · skip
      rw [if_neg (not_t hc)] at hm
      refine WP.skip ?_
      refine WP.seq ?_
      refine WP.seq ?_
      refine WP.cut (fun (t19 : Bool) F w9 => m_impl_Memory_validWith_j2 fuel x0 x1 t19 = some r ∧ St w w9 [Box g10 [.pointer (some p0_)] 152] ∧ F = [(1, .slice A1_ x1.length k1_), (2, .pointer (some ⟨g10, 0, none⟩)), (56, .bool t19)]) ?_ ?_
      · skip
        rintro t19 F w21 ⟨hm, hS20, rfl⟩
        unfold m_impl_Memory_validWith_j2 at hm
        refine WP.cond t19 rfl (fun hc => ?_) (fun hc => ?_)
        · skip
          rw [if_pos hc] at hm
          refine WP.seq ?_
          refine WP.region ?_
          refine RW.run ttok 1 rfl ?_
          refine RW.nil ?_
          refine WP.ret ?_
          cases hm
          exact ⟨_, .cons (.tmp rfl) .nil, rfl, (hS20.taken 0)⟩
        · skip
          rw [if_neg (not_t hc)] at hm
          refine WP.skip ?_
          refine WP.seq ?_
          refine WP.seq ?_
          refine WP.cut (fun (t23 : Bool) F w9 => m_impl_Memory_validWith_j3 fuel x0 t23 = some r ∧ Ext w21 w9 ∧ St w w9 [Box g10 [.pointer (some p0_)] 152] ∧ F = [(2, .pointer (some ⟨g10, 0, none⟩)), (65, .bool t23)]) ?_ ?_
          · skip
            rintro t23 F w26 ⟨hm, hE24, hS25, rfl⟩
            unfold m_impl_Memory_validWith_j3 at hm
            refine WP.cond t23 rfl (fun hc => ?_) (fun hc => ?_)
            · skip
              rw [if_pos hc] at hm
              refine WP.seq ?_
              refine WP.region ?_
              refine RW.run ttok 1 rfl ?_
              refine RW.nil ?_
              refine WP.ret ?_
              cases hm
              exact ⟨_, .cons (.tmp rfl) .nil, rfl, (hS25.taken 0)⟩
            · skip
              rw [if_neg (not_t hc)] at hm
              refine WP.skip ?_
              refine WP.seq ?_
              refine WP.seq ?_
              refine WP.region ?_
              refine RW.load1 ttok rfl rfl rfl rfl rfl ((hS25.bring 0 rfl).box) 0 rfl rfl rfl rfl ?_
              refine RW.run ttok 2 rfl ?_
              refine RW.load1 ttok rfl rfl rfl rfl rfl (At.ext (hE.trans hS25.ext) g0_) 0 rfl rfl rfl rfl ?_
              refine RW.run ttok 2 rfl ?_
              refine RW.nil ?_
              obtain ⟨o32, hl33, hm⟩ := bind_some hm
              refine WP.cut (fun (t29 : Unit) F w9 => o32 = .inl t29 ∧ St w w9 [Box g10 [.pointer (some p0_)] 152] ∧ F = []) ?_ ?_
              · skip
                rintro t29 F w31 ⟨ho35, hS34, rfl⟩
                subst ho35
                rw [aft_inl] at hm
                unfold m_impl_Memory_validWith_j4 at hm
                refine WP.seq ?_
                refine WP.region ?_
                refine RW.run ttok 1 rfl ?_
                refine RW.nil ?_
                refine WP.ret ?_
                cases hm
                exact ⟨_, .cons (.tmp rfl) .nil, rfl, (hS34.taken 0)⟩
              · skip
                refine WP.block ?_
                refine WP.weak [(2, .pointer (some ⟨g10, 0, none⟩)), (69, .slice A1 x0.Cells.length k2), (70, .int .i64 (x0.Cells.length : Int)), (71, .int .i64 0)] ⟨rfl, rfl, rfl, rfl, trivial⟩ ?_
                refine WP.iter (fun (s28 : Int) F w9 => St w w9 [Box g10 [.pointer (some p0_)] 152] ∧ F = [(2, .pointer (some ⟨g10, 0, none⟩)), (69, .slice A1 x0.Cells.length k2), (70, .int .i64 (x0.Cells.length : Int)), (71, .int .i64 s28)]) _ hl33 ⟨hS25, rfl⟩ ?_
                rintro s28 F w40 _ o38 ⟨hS39, rfl⟩ hb36 ho37
                unfold m_impl_Memory_validWith_b1 at hb36
                refine WP.seq ?_
                refine WP.region ?_
                refine RW.run ttok 1 rfl ?_
                refine RW.nil ?_
                refine WP.seq ?_
                refine WP.cond (decide (s28 < (x0.Cells.length : Int))) rfl (fun hc => ?_) (fun hc => ?_)
                · skip
                  rw [if_pos hc] at hb36
                  refine WP.skip ?_
                  refine WP.seq ?_
                  refine WP.block ?_
                  refine WP.seq ?_
                  refine WP.region ?_
                  refine RW.run ttok 1 rfl ?_
                  obtain ⟨x41, hx42, hb36⟩ := bind_some hb36
                  refine RW.idx ttok (hE.trans hS39.ext) rfl rfl rfl rfl rfl rfl (by decide) rfl rfl h3 (idx_some hx42).1 (idx_some hx42).2 rfl rfl (fun p43 es44 ha45 hr46 => ?_)
                  obtain ⟨A47, k48, A50, k51, e53, h49, h52⟩ := ty167_open hr46; subst e53
                  refine RW.loadN ttok rfl rfl rfl rfl rfl (At.ext (hE.trans hS39.ext) ha45) rfl rfl rfl ?_
                  refine RW.new ttok hS39 rfl rfl rfl rfl (fun g54 w55 e56 hS57 => ?_)
                  refine RW.run ttok 1 rfl ?_
                  have hS58 := hS57.bring 0 rfl
                  refine RW.store ttok (A := []) hS58 rfl rfl rfl rfl rfl 0 rfl rfl rfl rfl rfl (fun w59 hS60 => ?_)
                  refine RW.nil ?_
                  refine WP.seq ?_
                  refine WP.region ?_
                  refine RW.loadN ttok rfl rfl rfl rfl rfl ((hS60.bring 0 rfl).box) rfl rfl rfl ?_
                  obtain ⟨r61, hx62, hb36⟩ := bind_some hb36
                  refine RW.call rfl rfl rfl enters188 (impl_Cell_isVariable_ok (hE.trans hS60.ext) (ty167_shut x41 h49 h52) hx62) (fun v63 w65 hR66 => ?_)
                  obtain ⟨rfl, hR67⟩ := hR66
                  have hS68 := hS60.join hR67
                  refine RW.nil ?_
                  refine WP.cut (fun (t69 : Unit) F w9 => m_impl_Memory_validWith_j5 fuel s28 t69 = some o38 ∧ St w w9 [Box g54 [.int .i64 x41.Kind, .int .i64 x41.Level, .int .i64 x41.Value, .slice A47 x41.Data.length k48, .slice A50 x41.Words.length k51] 167, Box g10 [.pointer (some p0_)] 152] ∧ F = [(2, .pointer (some ⟨g10, 0, none⟩)), (69, .slice A1 x0.Cells.length k2), (70, .int .i64 (x0.Cells.length : Int)), (71, .int .i64 s28)]) ?_ ?_
                  · skip
                    rintro t69 F w71 ⟨hb36, hS70, rfl⟩
                    unfold m_impl_Memory_validWith_j5 at hb36
                    refine WP.region ?_
                    refine RW.run ttok 2 rfl ?_
                    refine RW.nil ?_
                    cases hb36
                    exact ⟨_, [(2, .pointer (some ⟨g10, 0, none⟩)), (69, .slice A1 x0.Cells.length k2), (70, .int .i64 (x0.Cells.length : Int)), (71, .int .i64 (w64 (s28 + 1)))], ⟨rfl, rfl, rfl, rfl, trivial⟩, rfl, ((hS70.bring 1 rfl).taken 1), rfl⟩
                  · skip
                    refine WP.cond r61 rfl (fun hc => ?_) (fun hc => ?_)
                    · skip
                      rw [if_pos hc] at hb36
                      refine WP.seq ?_
                      refine WP.region ?_
                      refine RW.load1 ttok rfl rfl rfl rfl rfl ((hS68.bring 1 rfl).box) 0 rfl rfl rfl rfl ?_
                      refine RW.run ttok 1 rfl ?_
                      refine RW.quiet rfl (Quiet.build ttok rfl rfl rfl rfl rfl) rfl rfl ?_
                      obtain ⟨r73, hx74, hb36⟩ := bind_some hb36
                      refine RW.call rfl rfl rfl enters127 (impl_Memory_resolve_ok (hE.trans hS68.ext) h0_ g0_ (ty92_shut (⟨2, s28⟩ : D.Word)) hx74) (fun v75 w76 hR77 => ?_)
                      obtain ⟨rfl, hR78⟩ := hR77
                      have hS79 := hS68.join hR78
                      refine RW.run ttok 3 rfl ?_
                      refine RW.new ttok hS79 rfl rfl rfl rfl (fun g80 w81 e82 hS83 => ?_)
                      have hS84 := hS83.bring 0 rfl
                      refine RW.store ttok (A := []) hS84 rfl rfl rfl rfl rfl 0 rfl rfl rfl rfl rfl (fun w85 hS86 => ?_)
                      refine RW.run ttok 1 rfl ?_
                      refine RW.nil ?_
                      refine WP.seq ?_
                      refine WP.region ?_
                      refine RW.run ttok 2 rfl ?_
                      refine RW.nil ?_
                      refine WP.cond (!r73.2) rfl (fun hc => ?_) (fun hc => ?_)
                      · skip
                        rw [if_pos hc] at hb36
                        refine WP.seq ?_
                        refine WP.region ?_
                        refine RW.run ttok 1 rfl ?_
                        refine RW.nil ?_
                        refine WP.ret ?_
                        cases hb36
                        cases ho37
                        have hm : some _ = some _ := hm
                        cases hm
                        exact ⟨_, .cons (.tmp rfl) .nil, rfl, (hS86.taken 0)⟩
                      · skip
                        rw [if_neg (not_t hc)] at hb36
                        refine WP.skip ?_
                        exact ⟨(), [(2, .pointer (some ⟨g10, 0, none⟩)), (69, .slice A1 x0.Cells.length k2), (70, .int .i64 (x0.Cells.length : Int)), (71, .int .i64 s28)], ⟨rfl, rfl, rfl, rfl, trivial⟩, hb36, (hS86.bring 0 rfl).drop, rfl⟩
                    · skip
                      rw [if_neg (not_t hc)] at hb36
                      refine WP.skip ?_
                      exact ⟨(), [(2, .pointer (some ⟨g10, 0, none⟩)), (69, .slice A1 x0.Cells.length k2), (70, .int .i64 (x0.Cells.length : Int)), (71, .int .i64 s28)], ⟨rfl, rfl, rfl, rfl, trivial⟩, hb36, hS68, rfl⟩
                · skip
                  rw [if_neg (not_t hc)] at hb36
                  refine WP.exit ?_
                  cases hb36
                  exact ⟨_, [], trivial, ho37, hS39, rfl⟩
          · skip
            refine WP.region ?_
            refine RW.load1 ttok rfl rfl rfl rfl rfl ((hS20.bring 0 rfl).box) 0 rfl rfl rfl rfl ?_
            refine RW.run ttok 1 rfl ?_
            obtain ⟨r87, hx88, hm⟩ := bind_some hm
            refine RW.call rfl rfl rfl enters186 (impl_Memory_occurrencesOk_ok (hE.trans hS20.ext) h0_ g0_ h1_ hx88) (fun v89 w90 hR91 => ?_)
            obtain ⟨rfl, hR92⟩ := hR91
            have hS93 := hS20.join hR92
            refine RW.run ttok 2 rfl ?_
            by_cases hg94 : (!r87) = true
            · skip
              rw [if_pos hg94] at hm
              refine RW.know 61 rfl (congrArg Value.bool hg94) ?_
              refine RW.run ttok 4 rfl ?_
              refine RW.nil ?_
              exact ⟨true, [(2, .pointer (some ⟨g10, 0, none⟩)), (65, .bool true)], ⟨rfl, rfl, trivial⟩, hm, hR92.ext, hS93, rfl⟩
            · skip
              rw [if_neg hg94] at hm
              refine RW.know 61 rfl (congrArg Value.bool (Bool.eq_false_iff.2 hg94)) ?_
              refine RW.load1 ttok rfl rfl rfl rfl rfl ((hS93.bring 0 rfl).box) 0 rfl rfl rfl rfl ?_
              obtain ⟨r95, hx96, hm⟩ := bind_some hm
              refine RW.call rfl rfl rfl enters187 (impl_Memory_freeOk_ok (hE.trans hS93.ext) h0_ g0_ hx96) (fun v97 w98 hR99 => ?_)
              obtain ⟨rfl, hR100⟩ := hR99
              have hS101 := hS93.join hR100
              refine RW.run ttok 2 rfl ?_
              refine RW.nil ?_
              exact ⟨!r95, [(2, .pointer (some ⟨g10, 0, none⟩)), (65, .bool (!r95))], ⟨rfl, rfl, trivial⟩, hm, (hR92.ext.trans hR100.ext), hS101, rfl⟩
      · skip
        refine WP.region ?_
        refine RW.load1 ttok rfl rfl rfl rfl rfl ((hS16.bring 0 rfl).box) 0 rfl rfl rfl rfl ?_
        refine RW.run ttok 2 rfl ?_
        refine RW.load1 ttok rfl rfl rfl rfl rfl (At.ext (hE.trans hS16.ext) g0_) 0 rfl rfl rfl rfl ?_
        obtain ⟨r102, hx103, hm⟩ := bind_some hm
        refine RW.call rfl rfl rfl enters177 (slices_ContainsFunc_impl_Cell_impl_Cell_ok (hE.trans hS16.ext) h3 ⟨enters178, fun e9 => (fun a0_0 hx9 => impl_Memory_validWith_c1_ok (Ext.refl _) a0_0 hx9)⟩ hx103) (fun v104 w105 hR106 => ?_)
        obtain ⟨rfl, hR107⟩ := hR106
        have hS108 := hS16.join hR107
        refine RW.run ttok 1 rfl ?_
        by_cases hg109 : r102 = true
        · skip
          rw [if_pos hg109] at hm
          refine RW.know 41 rfl (congrArg Value.bool hg109) ?_
          refine RW.run ttok 15 rfl ?_
          refine RW.nil ?_
          exact ⟨true, [(1, .slice A1_ x1.length k1_), (2, .pointer (some ⟨g10, 0, none⟩)), (56, .bool true)], ⟨rfl, rfl, rfl, trivial⟩, hm, hS108, rfl⟩
        · skip
          rw [if_neg hg109] at hm
          refine RW.know 41 rfl (congrArg Value.bool (Bool.eq_false_iff.2 hg109)) ?_
          refine RW.load1 ttok rfl rfl rfl rfl rfl ((hS108.bring 0 rfl).box) 0 rfl rfl rfl rfl ?_
          obtain ⟨r110, hx111, hm⟩ := bind_some hm
          refine RW.call rfl rfl rfl enters181 (impl_Memory_words_ok (hE.trans hS108.ext) h0_ g0_ hx111) (fun v112 w113 hR114 => ?_)
          obtain ⟨A115, k116, rfl, hR117⟩ := hR114
          have hS118 := hS108.join hR117
          refine RW.run ttok 1 rfl ?_
          have hS119 := hS118.bring 0 rfl
          by_cases hk120 : decide ((r110.length : Int) + (x1.length : Int) ≤ 4294967296) = true
          case neg => rw [if_neg hk120] at hm; cases hm
          rw [if_pos hk120] at hm
          refine RW.appendRo ttok (Flat.map (Flat.pair Flat.int (Flat.pair Flat.int Flat.unit))) hS119 rfl rfl rfl rfl rfl rfl (by decide) rfl rfl (ty165.ext (hE.trans hS119.ext) h1_) (of_decide_eq_true hk120) (by decide) rfl rfl (fun A121 k122 w123 hS124 => ?_)
          refine RW.run ttok 1 rfl ?_
          obtain ⟨r125, hx126, hm⟩ := bind_some hm
          refine RW.call rfl rfl rfl enters180 (slices_ContainsFunc_impl_Word_impl_Word_ok (Ext.refl _) ((hS124.bring 0 rfl).own) ⟨enters182, fun e9 => (fun a0_0 hx9 => impl_Memory_validWith_c2_ok (Ext.refl _) a0_0 (At.ext e9 ((hS124.bring 1 rfl).box)) (ty95.ext e9 (ty95.ext (hE.trans hS124.ext) h0_)) (At.ext e9 (At.ext (hE.trans hS124.ext) g0_)) hx9)⟩ hx126) (fun v127 w128 hR129 => ?_)
          obtain ⟨rfl, hR130⟩ := hR129
          have hS131 := hS124.join hR130
          refine RW.run ttok 2 rfl ?_
          by_cases hg132 : r125 = true
          · skip
            rw [if_pos hg132] at hm
            refine RW.know 49 rfl (congrArg Value.bool hg132) ?_
            refine RW.run ttok 7 rfl ?_
            refine RW.nil ?_
            exact ⟨true, [(1, .slice A1_ x1.length k1_), (2, .pointer (some ⟨g10, 0, none⟩)), (56, .bool true)], ⟨rfl, rfl, rfl, trivial⟩, hm, ((hS131.bring 1 rfl).taken 1), rfl⟩
          · skip
            rw [if_neg hg132] at hm
            refine RW.know 49 rfl (congrArg Value.bool (Bool.eq_false_iff.2 hg132)) ?_
            refine RW.load1 ttok rfl rfl rfl rfl rfl ((hS131.bring 1 rfl).box) 0 rfl rfl rfl rfl ?_
            refine RW.run ttok 2 rfl ?_
            refine RW.load1 ttok rfl rfl rfl rfl rfl (At.ext (hE.trans hS131.ext) g0_) 4 rfl rfl rfl rfl ?_
            refine RW.run ttok 1 rfl ?_
            obtain ⟨r133, hx134, hm⟩ := bind_some hm
            refine RW.call rfl rfl rfl enters183 (slices_ContainsFunc_impl_Pair_impl_Pair_ok (Ext.refl _) (ty93.ext (hE.trans hS131.ext) h6) ⟨enters184, fun e9 => (fun a0_0 hx9 => impl_Memory_validWith_c3_ok (Ext.refl _) a0_0 (At.ext e9 ((hS131.bring 1 rfl).box)) (ty95.ext e9 (ty95.ext (hE.trans hS131.ext) h0_)) (At.ext e9 (At.ext (hE.trans hS131.ext) g0_)) hx9)⟩ hx134) (fun v135 w136 hR137 => ?_)
            obtain ⟨rfl, hR138⟩ := hR137
            have hS139 := hS131.join hR138
            refine RW.run ttok 1 rfl ?_
            refine RW.nil ?_
            exact ⟨r133, [(1, .slice A1_ x1.length k1_), (2, .pointer (some ⟨g10, 0, none⟩)), (56, .bool r133)], ⟨rfl, rfl, rfl, trivial⟩, hm, ((hS139.bring 1 rfl).taken 1), rfl⟩
  · skip
    refine WP.drawnM 0 mixed 27 (by kernel_rfl) (by kernel_rfl) [([], 134217727), ([0], 134217726), ([1], 134217725), ([2], 134217723), ([3], 134217719), ([4], 134217711), ([5], 134217695), ([6], 134217663), ([7, 6], 134217535), ([8, 6], 134217407), ([9, 6], 134217151), ([10, 6], 134216639), ([11, 6], 134215615), ([6, 12], 134213567), ([13, 6], 134209535), ([14], 134201343), ([15, 14], 134168575), ([16, 14], 134135807), ([17, 14], 134070271), ([18, 14], 133939199), ([14], 134201343), ([20, 14], 133152767), ([21, 14], 132104191), ([22, 14], 130007039), ([23, 14], 125812735), ([19, 24, 14], 116899839), ([14, 25], 100646911)] (by kernel_rfl) (fun hsk140 => ?_)
    have hS141 := hS13.step (Ext.draw _)
    refine DM.load1 ttok hsk140 0 1 (by kernel_rfl) (by kernel_rfl) (by kernel_rfl) (by kernel_rfl) rfl (by kernel_rfl) rfl rfl rfl rfl rfl ((hS13.bring 0 rfl).box) 0 rfl rfl rfl rfl ?_
    refine DM.run (fuel := 24) ttok hsk140 [1, 2] 7 (by kernel_rfl) (by kernel_rfl) rfl ?_
    refine DM.load1 ttok hsk140 3 15 (by kernel_rfl) (by kernel_rfl) (by kernel_rfl) (by kernel_rfl) rfl (by kernel_rfl) rfl rfl rfl rfl rfl (At.ext (hE.trans hS13.ext) g0_) 0 rfl rfl rfl rfl ?_
    refine DM.run (fuel := 20) ttok hsk140 [4, 5, 6] 127 (by kernel_rfl) (by kernel_rfl) rfl ?_
    refine DM.weak [(1, .slice A1_ x1.length k1_), (2, .pointer (some ⟨g10, 0, none⟩)), (15, .bool (decide ((x0.Cells.length : Int) < 1)))] ⟨rfl, rfl, rfl, trivial⟩ ?_
    by_cases hg142 : (decide ((x0.Cells.length : Int) < 1)) = true
    · skip
      rw [if_pos hg142] at hm
      refine DM.know 15 rfl (congrArg Value.bool hg142) ?_
      refine DM.run (fuel := 0) ttok hsk140 [7, 8, 9, 10, 11, 12, 13, 14, 15, 16, 17, 18, 19, 20, 21, 22, 23, 24, 25, 26] 134217727 (by kernel_rfl) (by kernel_rfl) rfl ?_
      refine DM.weak [(1, .slice A1_ x1.length k1_), (2, .pointer (some ⟨g10, 0, none⟩)), (35, .bool true)] ⟨rfl, rfl, rfl, trivial⟩ ?_
      refine DM.done hsk140 (by kernel_rfl) ?_
      exact ⟨true, [(1, .slice A1_ x1.length k1_), (2, .pointer (some ⟨g10, 0, none⟩)), (35, .bool true)], ⟨rfl, rfl, rfl, trivial⟩, hm, (Ext.draw _), hS141, rfl⟩
    · skip
      rw [if_neg hg142] at hm
      refine DM.know 15 rfl (congrArg Value.bool (Bool.eq_false_iff.2 hg142)) ?_
      refine DM.load1 ttok hsk140 7 255 (by kernel_rfl) (by kernel_rfl) (by kernel_rfl) (by kernel_rfl) rfl (by kernel_rfl) rfl rfl rfl rfl rfl ((hS13.bring 0 rfl).box) 0 rfl rfl rfl rfl ?_
      refine DM.run (fuel := 17) ttok hsk140 [8, 9] 1023 (by kernel_rfl) (by kernel_rfl) rfl ?_
      refine DM.load1 ttok hsk140 10 2047 (by kernel_rfl) (by kernel_rfl) (by kernel_rfl) (by kernel_rfl) rfl (by kernel_rfl) rfl rfl rfl rfl rfl (At.ext (hE.trans hS13.ext) g0_) 0 rfl rfl rfl rfl ?_
      refine DM.run (fuel := 12) ttok hsk140 [11, 12, 13, 14] 32767 (by kernel_rfl) (by kernel_rfl) rfl ?_
      refine DM.weak [(1, .slice A1_ x1.length k1_), (2, .pointer (some ⟨g10, 0, none⟩)), (23, .bool (decide ((x0.Cells.length : Int) > 1500)))] ⟨rfl, rfl, rfl, trivial⟩ ?_
      by_cases hg143 : (decide ((x0.Cells.length : Int) > 1500)) = true
      · skip
        rw [if_pos hg143] at hm
        refine DM.know 23 rfl (congrArg Value.bool hg143) ?_
        refine DM.run (fuel := 0) ttok hsk140 [15, 16, 17, 18, 19, 20, 21, 22, 23, 24, 25, 26] 134217727 (by kernel_rfl) (by kernel_rfl) rfl ?_
        refine DM.weak [(1, .slice A1_ x1.length k1_), (2, .pointer (some ⟨g10, 0, none⟩)), (35, .bool true)] ⟨rfl, rfl, rfl, trivial⟩ ?_
        refine DM.done hsk140 (by kernel_rfl) ?_
        exact ⟨true, [(1, .slice A1_ x1.length k1_), (2, .pointer (some ⟨g10, 0, none⟩)), (35, .bool true)], ⟨rfl, rfl, rfl, trivial⟩, hm, (Ext.draw _), hS141, rfl⟩
      · skip
        rw [if_neg hg143] at hm
        refine DM.know 23 rfl (congrArg Value.bool (Bool.eq_false_iff.2 hg143)) ?_
        refine DM.load1 ttok hsk140 15 65535 (by kernel_rfl) (by kernel_rfl) (by kernel_rfl) (by kernel_rfl) rfl (by kernel_rfl) rfl rfl rfl rfl rfl ((hS13.bring 0 rfl).box) 0 rfl rfl rfl rfl ?_
        refine DM.run (fuel := 9) ttok hsk140 [16, 17] 262143 (by kernel_rfl) (by kernel_rfl) rfl ?_
        refine DM.load1 ttok hsk140 18 524287 (by kernel_rfl) (by kernel_rfl) (by kernel_rfl) (by kernel_rfl) rfl (by kernel_rfl) rfl rfl rfl rfl rfl (At.ext (hE.trans hS13.ext) g0_) 4 rfl rfl rfl rfl ?_
        refine DM.run (fuel := 7) ttok hsk140 [19] 1048575 (by kernel_rfl) (by kernel_rfl) rfl ?_
        refine DM.load1 ttok hsk140 20 2097151 (by kernel_rfl) (by kernel_rfl) (by kernel_rfl) (by kernel_rfl) rfl (by kernel_rfl) rfl rfl rfl rfl rfl ((hS13.bring 0 rfl).box) 0 rfl rfl rfl rfl ?_
        refine DM.run (fuel := 4) ttok hsk140 [21, 22] 8388607 (by kernel_rfl) (by kernel_rfl) rfl ?_
        refine DM.weak [(1, .slice A1_ x1.length k1_), (2, .pointer (some ⟨g10, 0, none⟩)), (23, .bool false), (28, .int .i64 (x0.Redexes.length : Int)), (31, .pointer (some p0_))] ⟨rfl, rfl, rfl, rfl, rfl, trivial⟩ ?_
        refine DM.load1 ttok hsk140 23 16777215 (by kernel_rfl) (by kernel_rfl) (by kernel_rfl) (by kernel_rfl) rfl (by kernel_rfl) rfl rfl rfl rfl rfl (At.ext (hE.trans hS13.ext) g0_) 0 rfl rfl rfl rfl ?_
        refine DM.run (fuel := 0) ttok hsk140 [24, 25, 26] 134217727 (by kernel_rfl) (by kernel_rfl) rfl ?_
        refine DM.weak [(1, .slice A1_ x1.length k1_), (2, .pointer (some ⟨g10, 0, none⟩)), (35, .bool (decide ((x0.Redexes.length : Int) > (x0.Cells.length : Int))))] ⟨rfl, rfl, rfl, trivial⟩ ?_
        refine DM.done hsk140 (by kernel_rfl) ?_
        exact ⟨decide ((x0.Redexes.length : Int) > (x0.Cells.length : Int)), [(1, .slice A1_ x1.length k1_), (2, .pointer (some ⟨g10, 0, none⟩)), (35, .bool (decide ((x0.Redexes.length : Int) > (x0.Cells.length : Int))))], ⟨rfl, rfl, rfl, trivial⟩, hm, (Ext.draw _), hS141, rfl⟩

theorem enters57 : Enters Try.prog 57 := ⟨_, _, Try.func57, rfl, by kernel_rfl⟩
def m_impl_ValidMemory (fuel : Nat) (x0 : D.Memory) : Option (Bool) := ((m_impl_Memory_validWith fuel x0 ([] : (List D.Word))).bind fun r14 => some r14)

set_option maxRecDepth 100000 in
theorem impl_ValidMemory_ok {W w : World} (hE : Ext W w) {c0_ : List Value} {x0 : D.Memory} (h0_ : ty95.ro W c0_ x0) {fuel : Nat} {r : Bool} (hm : m_impl_ValidMemory fuel x0 = some r) :
    Calls Try.prog 57 ⟨[.agg ⟨c0_⟩]⟩ w (Ret fun v w8 => v = .bool r ∧ St w w8 []) := by
  obtain ⟨A1, k2, A4, k5, e7, h3, h6⟩ := ty95_open h0_; subst e7
  refine Calls.into Try.func57 rfl 4 rfl rfl _ rfl ?_
  unfold m_impl_ValidMemory at hm
  have hS := St.start w
  refine WP.seq ?_
  refine WP.region ?_
  refine RW.new ttok hS rfl rfl rfl rfl (fun g10 w11 e12 hS13 => ?_)
  refine RW.run ttok 1 rfl ?_
  refine RW.nil ?_
  refine WP.seq ?_
  refine WP.region ?_
  obtain ⟨r14, hx15, hm⟩ := bind_some hm
  refine RW.call rfl rfl rfl enters121 (impl_Memory_validWith_ok (Ext.refl _) (ty95.ext (hE.trans hS13.ext) h0_) ((hS13.bring 0 rfl).box) (show ty165.ro _ [.slice none ([] : (List D.Word)).length 0] [] from slNil ty92 92 _) hx15) (fun v16 w17 hR18 => ?_)
  obtain ⟨rfl, hR19⟩ := hR18
  have hS20 := hS13.join hR19
  refine RW.run ttok 1 rfl ?_
  refine RW.nil ?_
  refine WP.ret ?_
  cases hm
  exact ⟨_, .cons (.tmp rfl) .nil, rfl, (hS20.taken 0)⟩

theorem enters19 : Enters Try.prog 19 := ⟨_, _, Try.func19, rfl, by kernel_rfl⟩
def m_laws_eqInt64S_j1 (fuel : Nat) (t2 : Unit) : Option Bool := some true
def m_laws_eqInt64S_b1 (fuel : Nat) (x0 : (List Int)) (x1 : (List Int)) (s1 : Int) : Option (Rd (Int) (Unit) (Bool)) := (if (decide (s1 < (x0.length : Int))) = true then ((idx x0 s1).bind fun x21 => ((idx x1 s1).bind fun x27 => (if (x21 != x27) = true then some (.ret false) else some (.next (w64 (s1 + 1)))))) else some (.brk ()))
def m_laws_eqInt64S (fuel : Nat) (x0 : (List Int)) (x1 : (List Int)) : Option (Bool) := (if ((x0.length : Int) != (x1.length : Int)) = true then some false else ((iter (m_laws_eqInt64S_b1 fuel x0 x1) fuel 0).bind fun o => aft o (m_laws_eqInt64S_j1 fuel)))

set_option maxRecDepth 100000 in
theorem laws_eqInt64S_ok {W w : World} (hE : Ext W w) {A0_ : Option Addr} {k0_ : Nat} {x0 : (List Int)} {A1_ : Option Addr} {k1_ : Nat} {x1 : (List Int)} (h0_ : ty22.ro W [.slice A0_ x0.length k0_] x0) (h1_ : ty22.ro W [.slice A1_ x1.length k1_] x1) {fuel : Nat} {r : Bool} (hm : m_laws_eqInt64S fuel x0 x1 = some r) :
    Calls Try.prog 19 ⟨[.slice A0_ x0.length k0_, .slice A1_ x1.length k1_]⟩ w (Ret fun v w8 => v = .bool r ∧ St w w8 []) := by
  refine Calls.into Try.func19 rfl 26 rfl rfl _ rfl ?_
  unfold m_laws_eqInt64S at hm
  have hS := St.start w
  refine WP.seq ?_
  refine WP.region ?_
  refine RW.run ttok 1 rfl ?_
  refine RW.nil ?_
  refine WP.seq ?_
  refine WP.seq ?_
  refine WP.region ?_
  refine RW.run ttok 5 rfl ?_
  refine RW.nil ?_
  refine WP.cond ((x0.length : Int) != (x1.length : Int)) rfl (fun hc => ?_) (fun hc => ?_)
  · skip
    rw [if_pos hc] at hm
    refine WP.seq ?_
    refine WP.region ?_
    refine RW.run ttok 1 rfl ?_
    refine RW.nil ?_
    refine WP.ret ?_
    cases hm
    exact ⟨_, .cons (.tmp rfl) .nil, rfl, hS⟩
  · skip
    rw [if_neg (not_t hc)] at hm
    refine WP.skip ?_
    refine WP.seq ?_
    refine WP.seq ?_
    refine WP.region ?_
    refine RW.run ttok 1 rfl ?_
    refine RW.nil ?_
    obtain ⟨o10, hl11, hm⟩ := bind_some hm
    refine WP.cut (fun (t2 : Unit) F w9 => o10 = .inl t2 ∧ Ext w w9 ∧ St w w9 [] ∧ F = []) ?_ ?_
    · skip
      rintro t2 F w7 ⟨ho13, hE6, hS12, rfl⟩
      subst ho13
      rw [aft_inl] at hm
      unfold m_laws_eqInt64S_j1 at hm
      refine WP.seq ?_
      refine WP.region ?_
      refine RW.run ttok 1 rfl ?_
      refine RW.nil ?_
      refine WP.ret ?_
      cases hm
      exact ⟨_, .cons (.tmp rfl) .nil, rfl, hS12⟩
    · skip
      refine WP.block ?_
      refine WP.weak [(0, .slice A0_ x0.length k0_), (1, .slice A1_ x1.length k1_), (5, .int .i64 0)] ⟨rfl, rfl, rfl, trivial⟩ ?_
      refine WP.iter (fun (s1 : Int) F w9 => Ext w w9 ∧ St w w9 [] ∧ F = [(0, .slice A0_ x0.length k0_), (1, .slice A1_ x1.length k1_), (5, .int .i64 s1)]) _ hl11 ⟨(Ext.refl _), hS, rfl⟩ ?_
      rintro s1 F w18 _ o16 ⟨hE5, hS17, rfl⟩ hb14 ho15
      unfold m_laws_eqInt64S_b1 at hb14
      refine WP.seq ?_
      refine WP.seq ?_
      refine WP.region ?_
      refine RW.run ttok 4 rfl ?_
      refine RW.nil ?_
      refine WP.cond (decide (s1 < (x0.length : Int))) rfl (fun hc => ?_) (fun hc => ?_)
      · skip
        rw [if_pos hc] at hb14
        refine WP.skip ?_
        refine WP.seq ?_
        refine WP.block ?_
        refine WP.seq ?_
        refine WP.drawnM 0 mixed 9 (by kernel_rfl) (by kernel_rfl) [([], 511), ([], 511), ([0, 1], 508), ([2], 507), ([], 511), ([], 511), ([4, 5], 463), ([6], 447), ([3, 7], 375)] (by kernel_rfl) (fun hsk19 => ?_)
        have hS20 := hS17.step (Ext.draw _)
        refine DM.run (fuel := 5) ttok hsk19 [0, 1, 4, 5] 51 (by kernel_rfl) (by kernel_rfl) rfl ?_
        obtain ⟨x21, hx22, hb14⟩ := bind_some hb14
        refine DM.idx ttok (hE.trans hS17.ext) hsk19 2 55 (by kernel_rfl) (by kernel_rfl) (by kernel_rfl) (by kernel_rfl) rfl (by kernel_rfl) rfl rfl rfl rfl rfl rfl (by decide) rfl rfl h0_ (idx_some hx22).1 (idx_some hx22).2 rfl rfl (fun p23 es24 ha25 hr26 => ?_)
        cases hr26
        refine DM.load1 ttok hsk19 3 63 (by kernel_rfl) (by kernel_rfl) (by kernel_rfl) (by kernel_rfl) rfl (by kernel_rfl) rfl rfl rfl rfl rfl (At.ext (hE.trans hS17.ext) ha25) 0 rfl rfl rfl rfl ?_
        obtain ⟨x27, hx28, hb14⟩ := bind_some hb14
        refine DM.idx ttok (hE.trans hS17.ext) hsk19 6 127 (by kernel_rfl) (by kernel_rfl) (by kernel_rfl) (by kernel_rfl) rfl (by kernel_rfl) rfl rfl rfl rfl rfl rfl (by decide) rfl rfl h1_ (idx_some hx28).1 (idx_some hx28).2 rfl rfl (fun p29 es30 ha31 hr32 => ?_)
        cases hr32
        refine DM.load1 ttok hsk19 7 255 (by kernel_rfl) (by kernel_rfl) (by kernel_rfl) (by kernel_rfl) rfl (by kernel_rfl) rfl rfl rfl rfl rfl (At.ext (hE.trans hS17.ext) ha31) 0 rfl rfl rfl rfl ?_
        refine DM.run (fuel := 0) ttok hsk19 [8] 511 (by kernel_rfl) (by kernel_rfl) rfl ?_
        refine DM.weak [(0, .slice A0_ x0.length k0_), (1, .slice A1_ x1.length k1_), (5, .int .i64 s1), (25, .bool (x21 != x27))] ⟨rfl, rfl, rfl, rfl, trivial⟩ ?_
        refine DM.done hsk19 (by kernel_rfl) ?_
        refine WP.cond (x21 != x27) rfl (fun hc => ?_) (fun hc => ?_)
        · skip
          rw [if_pos hc] at hb14
          refine WP.seq ?_
          refine WP.region ?_
          refine RW.run ttok 1 rfl ?_
          refine RW.nil ?_
          refine WP.ret ?_
          cases hb14
          cases ho15
          have hm : some _ = some _ := hm
          cases hm
          exact ⟨_, .cons (.tmp rfl) .nil, rfl, hS20⟩
        · skip
          rw [if_neg (not_t hc)] at hb14
          refine WP.skip ?_
          refine WP.region ?_
          refine RW.run ttok 3 rfl ?_
          refine RW.nil ?_
          cases hb14
          exact ⟨_, [(0, .slice A0_ x0.length k0_), (1, .slice A1_ x1.length k1_), (5, .int .i64 (w64 (s1 + 1)))], ⟨rfl, rfl, rfl, trivial⟩, rfl, (hE5.trans (Ext.draw _)), hS20, rfl⟩
      · skip
        rw [if_neg (not_t hc)] at hb14
        refine WP.exit ?_
        cases hb14
        exact ⟨_, [], trivial, ho15, hE5, hS17, rfl⟩

theorem enters62 : Enters Try.prog 62 := ⟨_, _, Try.func62, rfl, by kernel_rfl⟩
def m_laws_eqWord (fuel : Nat) (x0 : D.Word) (x1 : D.Word) : Option (Bool) := (if (x0.Tag != x1.Tag) = true then some false else (if (x0.At != x1.At) = true then some false else some true))

set_option maxRecDepth 100000 in
theorem laws_eqWord_ok {W w : World} (hE : Ext W w) {c0_ : List Value} {x0 : D.Word} {c1_ : List Value} {x1 : D.Word} (h0_ : ty92.ro W c0_ x0) (h1_ : ty92.ro W c1_ x1) {fuel : Nat} {r : Bool} (hm : m_laws_eqWord fuel x0 x1 = some r) :
    Calls Try.prog 62 ⟨[.agg ⟨c0_⟩, .agg ⟨c1_⟩]⟩ w (Ret fun v w8 => v = .bool r ∧ St w w8 []) := by
  have e1 := ty92_open h0_; subst e1
  have e2 := ty92_open h1_; subst e2
  refine Calls.into Try.func62 rfl 15 rfl rfl _ rfl ?_
  unfold m_laws_eqWord at hm
  have hS := St.start w
  refine WP.seq ?_
  refine WP.region ?_
  refine RW.new ttok hS rfl rfl rfl rfl (fun g3 w4 e5 hS6 => ?_)
  refine RW.new ttok hS6 rfl rfl rfl rfl (fun g7 w10 e11 hS12 => ?_)
  refine RW.run ttok 1 rfl ?_
  refine RW.nil ?_
  refine WP.seq ?_
  refine WP.seq ?_
  refine WP.region ?_
  refine RW.run ttok 1 rfl ?_
  refine RW.load1 ttok rfl rfl rfl rfl rfl ((hS12.bring 1 rfl).box) 0 rfl rfl rfl rfl ?_
  refine RW.run ttok 1 rfl ?_
  refine RW.load1 ttok rfl rfl rfl rfl rfl ((hS12.bring 0 rfl).box) 0 rfl rfl rfl rfl ?_
  refine RW.run ttok 1 rfl ?_
  refine RW.nil ?_
  refine WP.cond (x0.Tag != x1.Tag) rfl (fun hc => ?_) (fun hc => ?_)
  · skip
    rw [if_pos hc] at hm
    refine WP.seq ?_
    refine WP.region ?_
    refine RW.run ttok 1 rfl ?_
    refine RW.nil ?_
    refine WP.ret ?_
    cases hm
    exact ⟨_, .cons (.tmp rfl) .nil, rfl, (hS12.taken 0)⟩
  · skip
    rw [if_neg (not_t hc)] at hm
    refine WP.skip ?_
    refine WP.seq ?_
    refine WP.seq ?_
    refine WP.region ?_
    refine RW.run ttok 1 rfl ?_
    refine RW.load1 ttok rfl rfl rfl rfl rfl ((hS12.bring 1 rfl).box) 1 rfl rfl rfl rfl ?_
    refine RW.run ttok 1 rfl ?_
    refine RW.load1 ttok rfl rfl rfl rfl rfl ((hS12.bring 0 rfl).box) 1 rfl rfl rfl rfl ?_
    refine RW.run ttok 1 rfl ?_
    refine RW.nil ?_
    refine WP.cond (x0.At != x1.At) rfl (fun hc => ?_) (fun hc => ?_)
    · skip
      rw [if_pos hc] at hm
      refine WP.seq ?_
      refine WP.region ?_
      refine RW.run ttok 1 rfl ?_
      refine RW.nil ?_
      refine WP.ret ?_
      cases hm
      exact ⟨_, .cons (.tmp rfl) .nil, rfl, (hS12.taken 0)⟩
    · skip
      rw [if_neg (not_t hc)] at hm
      refine WP.skip ?_
      refine WP.seq ?_
      refine WP.region ?_
      refine RW.run ttok 1 rfl ?_
      refine RW.nil ?_
      refine WP.ret ?_
      cases hm
      exact ⟨_, .cons (.tmp rfl) .nil, rfl, (hS12.taken 0)⟩

theorem enters220 : Enters Try.prog 220 := ⟨_, _, Try.func220, rfl, by kernel_rfl⟩
def m_laws_eqWordS_j1 (fuel : Nat) (t2 : Unit) : Option Bool := some true
def m_laws_eqWordS_b1 (fuel : Nat) (x0 : (List D.Word)) (x1 : (List D.Word)) (s1 : Int) : Option (Rd (Int) (Unit) (Bool)) := (if (decide (s1 < (x0.length : Int))) = true then ((idx x0 s1).bind fun x21 => ((idx x1 s1).bind fun x28 => ((m_laws_eqWord fuel x21 x28).bind fun r35 => (if (!r35) = true then some (.ret false) else some (.next (w64 (s1 + 1))))))) else some (.brk ()))
def m_laws_eqWordS (fuel : Nat) (x0 : (List D.Word)) (x1 : (List D.Word)) : Option (Bool) := (if ((x0.length : Int) != (x1.length : Int)) = true then some false else ((iter (m_laws_eqWordS_b1 fuel x0 x1) fuel 0).bind fun o => aft o (m_laws_eqWordS_j1 fuel)))

set_option maxRecDepth 100000 in
theorem laws_eqWordS_ok {W w : World} (hE : Ext W w) {A0_ : Option Addr} {k0_ : Nat} {x0 : (List D.Word)} {A1_ : Option Addr} {k1_ : Nat} {x1 : (List D.Word)} (h0_ : ty165.ro W [.slice A0_ x0.length k0_] x0) (h1_ : ty165.ro W [.slice A1_ x1.length k1_] x1) {fuel : Nat} {r : Bool} (hm : m_laws_eqWordS fuel x0 x1 = some r) :
    Calls Try.prog 220 ⟨[.slice A0_ x0.length k0_, .slice A1_ x1.length k1_]⟩ w (Ret fun v w8 => v = .bool r ∧ St w w8 []) := by
  refine Calls.into Try.func220 rfl 27 rfl rfl _ rfl ?_
  unfold m_laws_eqWordS at hm
  have hS := St.start w
  refine WP.seq ?_
  refine WP.region ?_
  refine RW.run ttok 1 rfl ?_
  refine RW.nil ?_
  refine WP.seq ?_
  refine WP.seq ?_
  refine WP.region ?_
  refine RW.run ttok 5 rfl ?_
  refine RW.nil ?_
  refine WP.cond ((x0.length : Int) != (x1.length : Int)) rfl (fun hc => ?_) (fun hc => ?_)
  · skip
    rw [if_pos hc] at hm
    refine WP.seq ?_
    refine WP.region ?_
    refine RW.run ttok 1 rfl ?_
    refine RW.nil ?_
    refine WP.ret ?_
    cases hm
    exact ⟨_, .cons (.tmp rfl) .nil, rfl, hS⟩
  · skip
    rw [if_neg (not_t hc)] at hm
    refine WP.skip ?_
    refine WP.seq ?_
    refine WP.seq ?_
    refine WP.region ?_
    refine RW.run ttok 1 rfl ?_
    refine RW.nil ?_
    obtain ⟨o10, hl11, hm⟩ := bind_some hm
    refine WP.cut (fun (t2 : Unit) F w9 => o10 = .inl t2 ∧ Ext w w9 ∧ St w w9 [] ∧ F = []) ?_ ?_
    · skip
      rintro t2 F w7 ⟨ho13, hE6, hS12, rfl⟩
      subst ho13
      rw [aft_inl] at hm
      unfold m_laws_eqWordS_j1 at hm
      refine WP.seq ?_
      refine WP.region ?_
      refine RW.run ttok 1 rfl ?_
      refine RW.nil ?_
      refine WP.ret ?_
      cases hm
      exact ⟨_, .cons (.tmp rfl) .nil, rfl, hS12⟩
    · skip
      refine WP.block ?_
      refine WP.weak [(0, .slice A0_ x0.length k0_), (1, .slice A1_ x1.length k1_), (5, .int .i64 0)] ⟨rfl, rfl, rfl, trivial⟩ ?_
      refine WP.iter (fun (s1 : Int) F w9 => Ext w w9 ∧ St w w9 [] ∧ F = [(0, .slice A0_ x0.length k0_), (1, .slice A1_ x1.length k1_), (5, .int .i64 s1)]) _ hl11 ⟨(Ext.refl _), hS, rfl⟩ ?_
      rintro s1 F w18 _ o16 ⟨hE5, hS17, rfl⟩ hb14 ho15
      unfold m_laws_eqWordS_b1 at hb14
      refine WP.seq ?_
      refine WP.seq ?_
      refine WP.region ?_
      refine RW.run ttok 4 rfl ?_
      refine RW.nil ?_
      refine WP.cond (decide (s1 < (x0.length : Int))) rfl (fun hc => ?_) (fun hc => ?_)
      · skip
        rw [if_pos hc] at hb14
        refine WP.skip ?_
        refine WP.seq ?_
        refine WP.block ?_
        refine WP.seq ?_
        refine WP.drawnM 0 mixed 10 (by kernel_rfl) (by kernel_rfl) [([], 1023), ([], 1023), ([0, 1], 1020), ([2], 1019), ([], 1023), ([], 1023), ([4, 5], 975), ([6], 959), ([3, 7], 887), ([8], 767)] (by kernel_rfl) (fun hsk19 => ?_)
        have hS20 := hS17.step (Ext.draw _)
        refine DM.run (fuel := 6) ttok hsk19 [0, 1, 4, 5] 51 (by kernel_rfl) (by kernel_rfl) rfl ?_
        obtain ⟨x21, hx22, hb14⟩ := bind_some hb14
        refine DM.idx ttok (hE.trans hS17.ext) hsk19 2 55 (by kernel_rfl) (by kernel_rfl) (by kernel_rfl) (by kernel_rfl) rfl (by kernel_rfl) rfl rfl rfl rfl rfl rfl (by decide) rfl rfl h0_ (idx_some hx22).1 (idx_some hx22).2 rfl rfl (fun p23 es24 ha25 hr26 => ?_)
        have e27 := ty92_open hr26; subst e27
        refine DM.loadN ttok hsk19 3 63 (by kernel_rfl) (by kernel_rfl) (by kernel_rfl) (by kernel_rfl) rfl (by kernel_rfl) rfl rfl rfl rfl rfl (At.ext (hE.trans hS17.ext) ha25) rfl rfl rfl ?_
        obtain ⟨x28, hx29, hb14⟩ := bind_some hb14
        refine DM.idx ttok (hE.trans hS17.ext) hsk19 6 127 (by kernel_rfl) (by kernel_rfl) (by kernel_rfl) (by kernel_rfl) rfl (by kernel_rfl) rfl rfl rfl rfl rfl rfl (by decide) rfl rfl h1_ (idx_some hx29).1 (idx_some hx29).2 rfl rfl (fun p30 es31 ha32 hr33 => ?_)
        have e34 := ty92_open hr33; subst e34
        refine DM.loadN ttok hsk19 7 255 (by kernel_rfl) (by kernel_rfl) (by kernel_rfl) (by kernel_rfl) rfl (by kernel_rfl) rfl rfl rfl rfl rfl (At.ext (hE.trans hS17.ext) ha32) rfl rfl rfl ?_
        obtain ⟨r35, hx36, hb14⟩ := bind_some hb14
        refine DM.one hsk19 8 (by kernel_rfl) (LM.call hsk19 511 (by kernel_rfl) (by kernel_rfl) rfl rfl rfl rfl enters62 (laws_eqWord_ok (hE.trans hS20.ext) hr26 hr33 hx36) (fun v37 w38 hR39 => ?_))
        obtain ⟨rfl, hR40⟩ := hR39
        refine ⟨hR40.ext, ?_⟩
        have hS41 := hS20.join hR40
        refine DM.run (fuel := 0) ttok hsk19 [9] 1023 (by kernel_rfl) (by kernel_rfl) rfl ?_
        refine DM.weak [(0, .slice A0_ x0.length k0_), (1, .slice A1_ x1.length k1_), (5, .int .i64 s1), (26, .bool (!r35))] ⟨rfl, rfl, rfl, rfl, trivial⟩ ?_
        refine DM.done hsk19 (by kernel_rfl) ?_
        refine WP.cond (!r35) rfl (fun hc => ?_) (fun hc => ?_)
        · skip
          rw [if_pos hc] at hb14
          refine WP.seq ?_
          refine WP.region ?_
          refine RW.run ttok 1 rfl ?_
          refine RW.nil ?_
          refine WP.ret ?_
          cases hb14
          cases ho15
          have hm : some _ = some _ := hm
          cases hm
          exact ⟨_, .cons (.tmp rfl) .nil, rfl, hS41⟩
        · skip
          rw [if_neg (not_t hc)] at hb14
          refine WP.skip ?_
          refine WP.region ?_
          refine RW.run ttok 3 rfl ?_
          refine RW.nil ?_
          cases hb14
          exact ⟨_, [(0, .slice A0_ x0.length k0_), (1, .slice A1_ x1.length k1_), (5, .int .i64 (w64 (s1 + 1)))], ⟨rfl, rfl, rfl, trivial⟩, rfl, ((hE5.trans (Ext.draw _)).trans hR40.ext), hS41, rfl⟩
      · skip
        rw [if_neg (not_t hc)] at hb14
        refine WP.exit ?_
        cases hb14
        exact ⟨_, [], trivial, ho15, hE5, hS17, rfl⟩

theorem enters189 : Enters Try.prog 189 := ⟨_, _, Try.func189, rfl, by kernel_rfl⟩
def m_laws_eqCell (fuel : Nat) (x0 : D.Cell) (x1 : D.Cell) : Option (Bool) := (if (x0.Kind != x1.Kind) = true then some false else (if (x0.Level != x1.Level) = true then some false else (if (x0.Value != x1.Value) = true then some false else ((m_laws_eqInt64S fuel x0.Data x1.Data).bind fun r25 => (if (!r25) = true then some false else ((m_laws_eqWordS fuel x0.Words x1.Words).bind fun r32 => (if (!r32) = true then some false else some true)))))))

set_option maxRecDepth 100000 in
theorem laws_eqCell_ok {W w : World} (hE : Ext W w) {c0_ : List Value} {x0 : D.Cell} {c1_ : List Value} {x1 : D.Cell} (h0_ : ty167.ro W c0_ x0) (h1_ : ty167.ro W c1_ x1) {fuel : Nat} {r : Bool} (hm : m_laws_eqCell fuel x0 x1 = some r) :
    Calls Try.prog 189 ⟨[.agg ⟨c0_⟩, .agg ⟨c1_⟩]⟩ w (Ret fun v w8 => v = .bool r ∧ St w w8 []) := by
  obtain ⟨A1, k2, A4, k5, e7, h3, h6⟩ := ty167_open h0_; subst e7
  obtain ⟨A10, k11, A13, k14, e16, h12, h15⟩ := ty167_open h1_; subst e16
  refine Calls.into Try.func189 rfl 32 rfl rfl _ rfl ?_
  unfold m_laws_eqCell at hm
  have hS := St.start w
  refine WP.seq ?_
  refine WP.region ?_
  refine RW.new ttok hS rfl rfl rfl rfl (fun g17 w18 e19 hS20 => ?_)
  refine RW.new ttok hS20 rfl rfl rfl rfl (fun g21 w22 e23 hS24 => ?_)
  refine RW.run ttok 1 rfl ?_
  refine RW.nil ?_
  refine WP.seq ?_
  refine WP.seq ?_
  refine WP.region ?_
  refine RW.run ttok 1 rfl ?_
  refine RW.load1 ttok rfl rfl rfl rfl rfl ((hS24.bring 1 rfl).box) 0 rfl rfl rfl rfl ?_
  refine RW.run ttok 1 rfl ?_
  refine RW.load1 ttok rfl rfl rfl rfl rfl ((hS24.bring 0 rfl).box) 0 rfl rfl rfl rfl ?_
  refine RW.run ttok 1 rfl ?_
  refine RW.nil ?_
  refine WP.cond (x0.Kind != x1.Kind) rfl (fun hc => ?_) (fun hc => ?_)
  · skip
    rw [if_pos hc] at hm
    refine WP.seq ?_
    refine WP.region ?_
    refine RW.run ttok 1 rfl ?_
    refine RW.nil ?_
    refine WP.ret ?_
    cases hm
    exact ⟨_, .cons (.tmp rfl) .nil, rfl, (hS24.taken 0)⟩
  · skip
    rw [if_neg (not_t hc)] at hm
    refine WP.skip ?_
    refine WP.seq ?_
    refine WP.seq ?_
    refine WP.region ?_
    refine RW.run ttok 1 rfl ?_
    refine RW.load1 ttok rfl rfl rfl rfl rfl ((hS24.bring 1 rfl).box) 1 rfl rfl rfl rfl ?_
    refine RW.run ttok 1 rfl ?_
    refine RW.load1 ttok rfl rfl rfl rfl rfl ((hS24.bring 0 rfl).box) 1 rfl rfl rfl rfl ?_
    refine RW.run ttok 1 rfl ?_
    refine RW.nil ?_
    refine WP.cond (x0.Level != x1.Level) rfl (fun hc => ?_) (fun hc => ?_)
    · skip
      rw [if_pos hc] at hm
      refine WP.seq ?_
      refine WP.region ?_
      refine RW.run ttok 1 rfl ?_
      refine RW.nil ?_
      refine WP.ret ?_
      cases hm
      exact ⟨_, .cons (.tmp rfl) .nil, rfl, (hS24.taken 0)⟩
    · skip
      rw [if_neg (not_t hc)] at hm
      refine WP.skip ?_
      refine WP.seq ?_
      refine WP.seq ?_
      refine WP.region ?_
      refine RW.run ttok 1 rfl ?_
      refine RW.load1 ttok rfl rfl rfl rfl rfl ((hS24.bring 1 rfl).box) 2 rfl rfl rfl rfl ?_
      refine RW.run ttok 1 rfl ?_
      refine RW.load1 ttok rfl rfl rfl rfl rfl ((hS24.bring 0 rfl).box) 2 rfl rfl rfl rfl ?_
      refine RW.run ttok 1 rfl ?_
      refine RW.nil ?_
      refine WP.cond (x0.Value != x1.Value) rfl (fun hc => ?_) (fun hc => ?_)
      · skip
        rw [if_pos hc] at hm
        refine WP.seq ?_
        refine WP.region ?_
        refine RW.run ttok 1 rfl ?_
        refine RW.nil ?_
        refine WP.ret ?_
        cases hm
        exact ⟨_, .cons (.tmp rfl) .nil, rfl, (hS24.taken 0)⟩
      · skip
        rw [if_neg (not_t hc)] at hm
        refine WP.skip ?_
        refine WP.seq ?_
        refine WP.seq ?_
        refine WP.region ?_
        refine RW.run ttok 1 rfl ?_
        refine RW.load1 ttok rfl rfl rfl rfl rfl ((hS24.bring 1 rfl).box) 3 rfl rfl rfl rfl ?_
        refine RW.run ttok 1 rfl ?_
        refine RW.load1 ttok rfl rfl rfl rfl rfl ((hS24.bring 0 rfl).box) 3 rfl rfl rfl rfl ?_
        obtain ⟨r25, hx26, hm⟩ := bind_some hm
        refine RW.call rfl rfl rfl enters19 (laws_eqInt64S_ok (hE.trans hS24.ext) h3 h12 hx26) (fun v27 w28 hR29 => ?_)
        obtain ⟨rfl, hR30⟩ := hR29
        have hS31 := hS24.join hR30
        refine RW.run ttok 1 rfl ?_
        refine RW.nil ?_
        refine WP.cond (!r25) rfl (fun hc => ?_) (fun hc => ?_)
        · skip
          rw [if_pos hc] at hm
          refine WP.seq ?_
          refine WP.region ?_
          refine RW.run ttok 1 rfl ?_
          refine RW.nil ?_
          refine WP.ret ?_
          cases hm
          exact ⟨_, .cons (.tmp rfl) .nil, rfl, (hS31.taken 0)⟩
        · skip
          rw [if_neg (not_t hc)] at hm
          refine WP.skip ?_
          refine WP.seq ?_
          refine WP.seq ?_
          refine WP.region ?_
          refine RW.run ttok 1 rfl ?_
          refine RW.load1 ttok rfl rfl rfl rfl rfl ((hS31.bring 1 rfl).box) 4 rfl rfl rfl rfl ?_
          refine RW.run ttok 1 rfl ?_
          refine RW.load1 ttok rfl rfl rfl rfl rfl ((hS31.bring 0 rfl).box) 4 rfl rfl rfl rfl ?_
          obtain ⟨r32, hx33, hm⟩ := bind_some hm
          refine RW.call rfl rfl rfl enters220 (laws_eqWordS_ok (hE.trans hS31.ext) h6 h15 hx33) (fun v34 w35 hR36 => ?_)
          obtain ⟨rfl, hR37⟩ := hR36
          have hS38 := hS31.join hR37
          refine RW.run ttok 1 rfl ?_
          refine RW.nil ?_
          refine WP.cond (!r32) rfl (fun hc => ?_) (fun hc => ?_)
          · skip
            rw [if_pos hc] at hm
            refine WP.seq ?_
            refine WP.region ?_
            refine RW.run ttok 1 rfl ?_
            refine RW.nil ?_
            refine WP.ret ?_
            cases hm
            exact ⟨_, .cons (.tmp rfl) .nil, rfl, (hS38.taken 0)⟩
          · skip
            rw [if_neg (not_t hc)] at hm
            refine WP.skip ?_
            refine WP.seq ?_
            refine WP.region ?_
            refine RW.run ttok 1 rfl ?_
            refine RW.nil ?_
            refine WP.ret ?_
            cases hm
            exact ⟨_, .cons (.tmp rfl) .nil, rfl, (hS38.taken 0)⟩

theorem enters122 : Enters Try.prog 122 := ⟨_, _, Try.func122, rfl, by kernel_rfl⟩
def m_laws_eqCellS_j1 (fuel : Nat) (t2 : Unit) : Option Bool := some true
def m_laws_eqCellS_b1 (fuel : Nat) (x0 : (List D.Cell)) (x1 : (List D.Cell)) (s1 : Int) : Option (Rd (Int) (Unit) (Bool)) := (if (decide (s1 < (x0.length : Int))) = true then ((idx x0 s1).bind fun x21 => ((idx x1 s1).bind fun x34 => ((m_laws_eqCell fuel x21 x34).bind fun r47 => (if (!r47) = true then some (.ret false) else some (.next (w64 (s1 + 1))))))) else some (.brk ()))
def m_laws_eqCellS (fuel : Nat) (x0 : (List D.Cell)) (x1 : (List D.Cell)) : Option (Bool) := (if ((x0.length : Int) != (x1.length : Int)) = true then some false else ((iter (m_laws_eqCellS_b1 fuel x0 x1) fuel 0).bind fun o => aft o (m_laws_eqCellS_j1 fuel)))

set_option maxRecDepth 100000 in
theorem laws_eqCellS_ok {W w : World} (hE : Ext W w) {A0_ : Option Addr} {k0_ : Nat} {x0 : (List D.Cell)} {A1_ : Option Addr} {k1_ : Nat} {x1 : (List D.Cell)} (h0_ : ty91.ro W [.slice A0_ x0.length k0_] x0) (h1_ : ty91.ro W [.slice A1_ x1.length k1_] x1) {fuel : Nat} {r : Bool} (hm : m_laws_eqCellS fuel x0 x1 = some r) :
    Calls Try.prog 122 ⟨[.slice A0_ x0.length k0_, .slice A1_ x1.length k1_]⟩ w (Ret fun v w8 => v = .bool r ∧ St w w8 []) := by
  refine Calls.into Try.func122 rfl 27 rfl rfl _ rfl ?_
  unfold m_laws_eqCellS at hm
  have hS := St.start w
  refine WP.seq ?_
  refine WP.region ?_
  refine RW.run ttok 1 rfl ?_
  refine RW.nil ?_
  refine WP.seq ?_
  refine WP.seq ?_
  refine WP.region ?_
  refine RW.run ttok 5 rfl ?_
  refine RW.nil ?_
  refine WP.cond ((x0.length : Int) != (x1.length : Int)) rfl (fun hc => ?_) (fun hc => ?_)
  · skip
    rw [if_pos hc] at hm
    refine WP.seq ?_
    refine WP.region ?_
    refine RW.run ttok 1 rfl ?_
    refine RW.nil ?_
    refine WP.ret ?_
    cases hm
    exact ⟨_, .cons (.tmp rfl) .nil, rfl, hS⟩
  · skip
    rw [if_neg (not_t hc)] at hm
    refine WP.skip ?_
    refine WP.seq ?_
    refine WP.seq ?_
    refine WP.region ?_
    refine RW.run ttok 1 rfl ?_
    refine RW.nil ?_
    obtain ⟨o10, hl11, hm⟩ := bind_some hm
    refine WP.cut (fun (t2 : Unit) F w9 => o10 = .inl t2 ∧ Ext w w9 ∧ St w w9 [] ∧ F = []) ?_ ?_
    · skip
      rintro t2 F w7 ⟨ho13, hE6, hS12, rfl⟩
      subst ho13
      rw [aft_inl] at hm
      unfold m_laws_eqCellS_j1 at hm
      refine WP.seq ?_
      refine WP.region ?_
      refine RW.run ttok 1 rfl ?_
      refine RW.nil ?_
      refine WP.ret ?_
      cases hm
      exact ⟨_, .cons (.tmp rfl) .nil, rfl, hS12⟩
    · skip
      refine WP.block ?_
      refine WP.weak [(0, .slice A0_ x0.length k0_), (1, .slice A1_ x1.length k1_), (5, .int .i64 0)] ⟨rfl, rfl, rfl, trivial⟩ ?_
      refine WP.iter (fun (s1 : Int) F w9 => Ext w w9 ∧ St w w9 [] ∧ F = [(0, .slice A0_ x0.length k0_), (1, .slice A1_ x1.length k1_), (5, .int .i64 s1)]) _ hl11 ⟨(Ext.refl _), hS, rfl⟩ ?_
      rintro s1 F w18 _ o16 ⟨hE5, hS17, rfl⟩ hb14 ho15
      unfold m_laws_eqCellS_b1 at hb14
      refine WP.seq ?_
      refine WP.seq ?_
      refine WP.region ?_
      refine RW.run ttok 4 rfl ?_
      refine RW.nil ?_
      refine WP.cond (decide (s1 < (x0.length : Int))) rfl (fun hc => ?_) (fun hc => ?_)
      · skip
        rw [if_pos hc] at hb14
        refine WP.skip ?_
        refine WP.seq ?_
        refine WP.block ?_
        refine WP.seq ?_
        refine WP.drawnM 0 mixed 10 (by kernel_rfl) (by kernel_rfl) [([], 1023), ([], 1023), ([0, 1], 1020), ([2], 1019), ([], 1023), ([], 1023), ([4, 5], 975), ([6], 959), ([3, 7], 887), ([8], 767)] (by kernel_rfl) (fun hsk19 => ?_)
        have hS20 := hS17.step (Ext.draw _)
        refine DM.run (fuel := 6) ttok hsk19 [0, 1, 4, 5] 51 (by kernel_rfl) (by kernel_rfl) rfl ?_
        obtain ⟨x21, hx22, hb14⟩ := bind_some hb14
        refine DM.idx ttok (hE.trans hS17.ext) hsk19 2 55 (by kernel_rfl) (by kernel_rfl) (by kernel_rfl) (by kernel_rfl) rfl (by kernel_rfl) rfl rfl rfl rfl rfl rfl (by decide) rfl rfl h0_ (idx_some hx22).1 (idx_some hx22).2 rfl rfl (fun p23 es24 ha25 hr26 => ?_)
        obtain ⟨A27, k28, A30, k31, e33, h29, h32⟩ := ty167_open hr26; subst e33
        refine DM.loadN ttok hsk19 3 63 (by kernel_rfl) (by kernel_rfl) (by kernel_rfl) (by kernel_rfl) rfl (by kernel_rfl) rfl rfl rfl rfl rfl (At.ext (hE.trans hS17.ext) ha25) rfl rfl rfl ?_
        obtain ⟨x34, hx35, hb14⟩ := bind_some hb14
        refine DM.idx ttok (hE.trans hS17.ext) hsk19 6 127 (by kernel_rfl) (by kernel_rfl) (by kernel_rfl) (by kernel_rfl) rfl (by kernel_rfl) rfl rfl rfl rfl rfl rfl (by decide) rfl rfl h1_ (idx_some hx35).1 (idx_some hx35).2 rfl rfl (fun p36 es37 ha38 hr39 => ?_)
        obtain ⟨A40, k41, A43, k44, e46, h42, h45⟩ := ty167_open hr39; subst e46
        refine DM.loadN ttok hsk19 7 255 (by kernel_rfl) (by kernel_rfl) (by kernel_rfl) (by kernel_rfl) rfl (by kernel_rfl) rfl rfl rfl rfl rfl (At.ext (hE.trans hS17.ext) ha38) rfl rfl rfl ?_
        obtain ⟨r47, hx48, hb14⟩ := bind_some hb14
        refine DM.one hsk19 8 (by kernel_rfl) (LM.call hsk19 511 (by kernel_rfl) (by kernel_rfl) rfl rfl rfl rfl enters189 (laws_eqCell_ok (hE.trans hS20.ext) hr26 hr39 hx48) (fun v49 w50 hR51 => ?_))
        obtain ⟨rfl, hR52⟩ := hR51
        refine ⟨hR52.ext, ?_⟩
        have hS53 := hS20.join hR52
        refine DM.run (fuel := 0) ttok hsk19 [9] 1023 (by kernel_rfl) (by kernel_rfl) rfl ?_
        refine DM.weak [(0, .slice A0_ x0.length k0_), (1, .slice A1_ x1.length k1_), (5, .int .i64 s1), (26, .bool (!r47))] ⟨rfl, rfl, rfl, rfl, trivial⟩ ?_
        refine DM.done hsk19 (by kernel_rfl) ?_
        refine WP.cond (!r47) rfl (fun hc => ?_) (fun hc => ?_)
        · skip
          rw [if_pos hc] at hb14
          refine WP.seq ?_
          refine WP.region ?_
          refine RW.run ttok 1 rfl ?_
          refine RW.nil ?_
          refine WP.ret ?_
          cases hb14
          cases ho15
          have hm : some _ = some _ := hm
          cases hm
          exact ⟨_, .cons (.tmp rfl) .nil, rfl, hS53⟩
        · skip
          rw [if_neg (not_t hc)] at hb14
          refine WP.skip ?_
          refine WP.region ?_
          refine RW.run ttok 3 rfl ?_
          refine RW.nil ?_
          cases hb14
          exact ⟨_, [(0, .slice A0_ x0.length k0_), (1, .slice A1_ x1.length k1_), (5, .int .i64 (w64 (s1 + 1)))], ⟨rfl, rfl, rfl, trivial⟩, rfl, ((hE5.trans (Ext.draw _)).trans hR52.ext), hS53, rfl⟩
      · skip
        rw [if_neg (not_t hc)] at hb14
        refine WP.exit ?_
        cases hb14
        exact ⟨_, [], trivial, ho15, hE5, hS17, rfl⟩

end Go.E
