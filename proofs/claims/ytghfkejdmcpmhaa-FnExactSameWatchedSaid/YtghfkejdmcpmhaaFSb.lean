/- Models of functions and proofs that the code runs as they say (written by program). Conditions: the model gives a value. -/
import Derived.Test.YtghfkejdmcpmhaaFS
namespace Go.E
open Go.RowKit Go.Proofs
set_option linter.unusedVariables false
set_option linter.unusedSimpArgs false

theorem enters63 : Enters Try.prog 63 := ⟨_, _, Try.func63, rfl, by kernel_rfl⟩
def m_laws_toShardS_j1 (fuel : Nat) (t9 : (List D.Shard)) : Option (List D.Shard) := some t9
def m_laws_toShardS_b1 (fuel : Nat) (x0 : (List D.Shard)) (s8 : Int × (List D.Shard)) : Option (Rd (Int × (List D.Shard)) ((List D.Shard)) ((List D.Shard))) := (if (decide (s8.1 < (x0.length : Int))) = true then ((idx x0 s8.1).bind fun x27 => ((m_laws_toShard fuel x27).bind fun r43 => (if decide (0 ≤ s8.1 ∧ s8.1.toNat < s8.2.length) = true then some (.next (w64 (s8.1 + 1), (s8.2.set s8.1.toNat r43))) else none))) else some (.brk s8.2))
def m_laws_toShardS (fuel : Nat) (x0 : (List D.Shard)) : Option ((List D.Shard)) := (if decide (0 ≤ (x0.length : Int) ∧ (x0.length : Int) ≤ 4294967296) = true then ((iter (m_laws_toShardS_b1 fuel x0) fuel (0, (List.replicate (x0.length : Int).toNat (⟨([] : (List D.ShardCell)), ([] : (List D.ShardVar)), ([] : (List D.ShardRedex))⟩ : D.Shard)))).bind fun o => aft o (m_laws_toShardS_j1 fuel)) else none)

set_option maxRecDepth 100000 in
theorem laws_toShardS_ok {w : World} {A0_ : Option Addr} {k0_ : Nat} {x0 : (List D.Shard)} (h0_ : ty36.ro w [.slice A0_ x0.length k0_] x0) {fuel : Nat} {r : (List D.Shard)} (hm : m_laws_toShardS fuel x0 = some r) :
    Calls Try.prog 63 ⟨[.slice A0_ x0.length k0_]⟩ w (Ret fun v w8 => ∃ A0 k0, v = .slice A0 r.length k0 ∧ St w w8 [Own ty43 [.slice A0 r.length k0] r]) := by
  refine Calls.into Try.func63 rfl 23 rfl rfl _ rfl ?_
  unfold m_laws_toShardS at hm
  have hS := St.start w
  refine WP.seq ?_
  refine WP.region ?_
  refine RW.run ttok 1 rfl ?_
  refine RW.nil ?_
  refine WP.seq ?_
  refine WP.region ?_
  refine RW.run ttok 2 rfl ?_
  by_cases hk1 : decide (0 ≤ (x0.length : Int) ∧ (x0.length : Int) ≤ 4294967296) = true
  case neg => rw [if_neg hk1] at hm; cases hm
  rw [if_pos hk1] at hm
  have hz7 := of_decide_eq_true hk1
  refine RW.make (U := ty33) ttok (⟨([] : (List D.ShardCell)), ([] : (List D.ShardVar)), ([] : (List D.ShardRedex))⟩ : D.Shard) hS rfl rfl rfl rfl rfl rfl rfl rfl hz7.1 (by have := hz7.2; show _ * (72 : Int) ≤ _; omega) (by have := hz7.2; simp only [maxLen]; omega) (fun _ => (ty33_ownI (c := (⟨([] : (List D.ShardCell)), ([] : (List D.ShardVar)), ([] : (List D.ShardRedex))⟩ : D.Shard)) ⟨[], [], rfl, (slNilOwn ty123 123 _), ⟨[], [], rfl, (slNilOwn ty125 125 _), ⟨[], [], rfl, (slNilOwn ty127 127 _), rfl⟩⟩⟩)) rfl rfl (fun A2 k3 w4 e5 hS6 => ?_)
  refine RW.run ttok 1 rfl ?_
  refine RW.nil ?_
  refine WP.seq ?_
  refine WP.seq ?_
  refine WP.region ?_
  refine RW.run ttok 1 rfl ?_
  refine RW.nil ?_
  obtain ⟨o18, hl19, hm⟩ := bind_some hm
  refine WP.cut (fun (t9 : (List D.Shard)) F w9 => ∃ A15 k16, o18 = .inl t9 ∧ St w w9 [Own ty43 [.slice A15 t9.length k16] t9] ∧ F = [(3, .slice A15 t9.length k16)]) ?_ ?_
  · skip
    rintro t9 F w17 ⟨A15, k16, ho21, hS20, rfl⟩
    subst ho21
    rw [aft_inl] at hm
    unfold m_laws_toShardS_j1 at hm
    refine WP.seq ?_
    refine WP.region ?_
    refine RW.run ttok 2 rfl ?_
    refine RW.nil ?_
    refine WP.ret ?_
    cases hm
    exact ⟨_, .cons (.tmp rfl) .nil, A15, k16, rfl, ((hS20.bring 0 rfl).taken 1)⟩
  · skip
    refine WP.block ?_
    refine WP.weak [(0, .slice A0_ x0.length k0_), (3, .slice A2 (List.replicate (x0.length : Int).toNat (⟨([] : (List D.ShardCell)), ([] : (List D.ShardVar)), ([] : (List D.ShardRedex))⟩ : D.Shard)).length k3), (4, .int .i64 0)] ⟨rfl, rfl, rfl, trivial⟩ ?_
    refine WP.iter (fun (s8 : Int × (List D.Shard)) F w9 => ∃ A13 k14, St w w9 [Own ty43 [.slice A13 s8.2.length k14] s8.2] ∧ F = [(0, .slice A0_ x0.length k0_), (3, .slice A13 s8.2.length k14), (4, .int .i64 s8.1)]) _ hl19 ⟨A2, k3, ((hS6.bring 0 rfl).taken 1), rfl⟩ ?_
    rintro s8 F w26 _ o24 ⟨A13, k14, hS25, rfl⟩ hb22 ho23
    unfold m_laws_toShardS_b1 at hb22
    refine WP.seq ?_
    refine WP.seq ?_
    refine WP.region ?_
    refine RW.run ttok 4 rfl ?_
    refine RW.nil ?_
    refine WP.cond (decide (s8.1 < (x0.length : Int))) rfl (fun hc => ?_) (fun hc => ?_)
    · skip
      rw [if_pos hc] at hb22
      refine WP.skip ?_
      refine WP.seq ?_
      refine WP.block ?_
      refine WP.region ?_
      refine RW.run ttok 4 rfl ?_
      obtain ⟨x27, hx28, hb22⟩ := bind_some hb22
      refine RW.idx ttok hS25.ext rfl rfl rfl rfl rfl rfl (by decide) rfl rfl h0_ (idx_some hx28).1 (idx_some hx28).2 rfl rfl (fun p29 es30 ha31 hr32 => ?_)
      obtain ⟨A33, k34, A36, k37, A39, k40, e42, h35, h38, h41⟩ := ty26_open hr32; subst e42
      refine RW.loadN ttok rfl rfl rfl rfl rfl (At.ext hS25.ext ha31) rfl rfl rfl ?_
      obtain ⟨r43, hx44, hb22⟩ := bind_some hb22
      refine RW.call rfl rfl rfl enters13 (laws_toShard_ok (ty26.ext hS25.ext hr32) hx44) (fun v45 w46 hR47 => ?_)
      obtain ⟨A48, k49, A50, k51, A52, k53, rfl, hR54⟩ := hR47
      have hS55 := hS25.join hR54
      have hS56 := hS55.bring 3 rfl
      by_cases hk57 : decide (0 ≤ s8.1 ∧ s8.1.toNat < s8.2.length) = true
      case neg => rw [if_neg hk57] at hb22; cases hb22
      rw [if_pos hk57] at hb22
      have hb58 := of_decide_eq_true hk57
      refine RW.idxOwn ttok hS56 rfl rfl rfl rfl rfl rfl rfl rfl hb58.1 hb58.2 rfl rfl (fun q59 hq60 => ?_)
      have hS61 := hS56.bring 3 rfl
      have hS62 := hS61.bring 3 rfl
      have hS63 := hS62.bring 3 rfl
      have hS64 := ty33_shutS (c := r43) (B := _) hS63
      have hS65 := hS64.bring 1 rfl
      refine RW.storeEl ttok hS65 rfl rfl rfl rfl rfl rfl hb58.2 hq60 rfl rfl (fun w66 hS67 => ?_)
      refine RW.know (u := .slice A13 (s8.2.set s8.1.toNat r43).length k14) 3 rfl (by simp) ?_
      refine RW.know (u := .slice A13 (s8.2.set s8.1.toNat r43).length k14) 14 rfl (by simp) ?_
      refine RW.nil ?_
      refine WP.region ?_
      refine RW.run ttok 3 rfl ?_
      refine RW.nil ?_
      cases hb22
      exact ⟨_, [(0, .slice A0_ x0.length k0_), (3, .slice A13 (s8.2.set s8.1.toNat r43).length k14), (4, .int .i64 (w64 (s8.1 + 1)))], ⟨rfl, rfl, rfl, trivial⟩, rfl, A13, k14, ((hS67.bring 0 rfl).taken 1), rfl⟩
    · skip
      rw [if_neg (not_t hc)] at hb22
      refine WP.exit ?_
      cases hb22
      exact ⟨_, [(3, .slice A13 s8.2.length k14)], ⟨rfl, trivial⟩, A13, k14, ho23, ((hS25.bring 0 rfl).taken 1), rfl⟩

theorem enters18 : Enters Try.prog 18 := ⟨_, _, Try.func18, rfl, by kernel_rfl⟩
def m_laws_toGrid (fuel : Nat) (x0 : D.Grid) : Option (D.Grid) := ((m_laws_toShardS fuel x0.Shards).bind fun r17 => ((m_laws_toAddress fuel x0.Root).bind fun r29 => some (⟨r17, (⟨r29.Machine, r29.Kind, r29.Index⟩ : D.Address)⟩ : D.Grid)))

set_option maxRecDepth 100000 in
theorem laws_toGrid_ok {w : World} {c0_ : List Value} {x0 : D.Grid} (h0_ : ty40.ro w c0_ x0) {fuel : Nat} {r : D.Grid} (hm : m_laws_toGrid fuel x0 = some r) :
    Calls Try.prog 18 ⟨[.agg ⟨c0_⟩]⟩ w (Ret fun v w8 => ∃ A0 k0, v = .agg ⟨[.slice A0 r.Shards.length k0, .int .i64 r.Root.Machine, .int .i64 r.Root.Kind, .int .i64 r.Root.Index]⟩ ∧ St w w8 [Own ty43 [.slice A0 r.Shards.length k0] r.Shards]) := by
  obtain ⟨A1, k2, e4, h3⟩ := ty40_open h0_; subst e4
  refine Calls.into Try.func18 rfl 13 rfl rfl _ rfl ?_
  unfold m_laws_toGrid at hm
  have hS := St.start w
  refine WP.seq ?_
  refine WP.region ?_
  refine RW.new ttok hS rfl rfl rfl rfl (fun g5 w6 e7 hS8 => ?_)
  refine RW.new ttok hS8 rfl rfl rfl rfl (fun g9 w10 e11 hS12 => ?_)
  refine RW.nil ?_
  refine WP.seq ?_
  refine WP.region ?_
  refine RW.new ttok hS12 rfl rfl rfl rfl (fun g13 w14 e15 hS16 => ?_)
  refine RW.nil ?_
  refine WP.seq ?_
  refine WP.region ?_
  refine RW.run ttok 1 rfl ?_
  refine RW.load1 ttok rfl rfl rfl rfl rfl ((hS16.bring 2 rfl).box) 0 rfl rfl rfl rfl ?_
  obtain ⟨r17, hx18, hm⟩ := bind_some hm
  refine RW.call rfl rfl rfl enters63 (laws_toShardS_ok (ty36.ext hS16.ext h3) hx18) (fun v19 w20 hR21 => ?_)
  obtain ⟨A22, k23, rfl, hR24⟩ := hR21
  have hS25 := hS16.join hR24
  refine RW.run ttok 1 rfl ?_
  have hS26 := hS25.bring 1 rfl
  refine RW.store ttok (A := []) hS26 rfl rfl rfl rfl rfl 0 rfl rfl rfl rfl rfl (fun w27 hS28 => ?_)
  refine RW.nil ?_
  refine WP.seq ?_
  refine WP.region ?_
  refine RW.run ttok 1 rfl ?_
  refine RW.loadN ttok rfl rfl rfl rfl rfl (At.sub ((hS28.bring 3 rfl).box) 1 3) rfl rfl rfl ?_
  obtain ⟨r29, hx30, hm⟩ := bind_some hm
  refine RW.call rfl rfl rfl enters64 (laws_toAddress_ok (ty38_shut x0.Root) hx30) (fun v31 w32 hR33 => ?_)
  obtain ⟨rfl, hR34⟩ := hR33
  have hS35 := hS28.join hR34
  refine RW.run ttok 1 rfl ?_
  have hS36 := hS35.bring 0 rfl
  refine RW.store ttok (A := []) hS36 rfl rfl rfl rfl rfl 1 rfl rfl rfl rfl rfl (fun w37 hS38 => ?_)
  refine RW.nil ?_
  refine WP.seq ?_
  refine WP.region ?_
  refine RW.loadN ttok rfl rfl rfl rfl rfl ((hS38.bring 0 rfl).box) rfl rfl rfl ?_
  have hS39 := hS38.bring 2 rfl
  refine RW.store ttok (A := []) hS39 rfl rfl rfl rfl rfl 0 rfl rfl rfl rfl rfl (fun w40 hS41 => ?_)
  refine RW.nil ?_
  refine WP.ret ?_
  cases hm
  exact ⟨_, .cons (ResIs.agg ttok rfl rfl rfl ((hS41.bring 0 rfl).box) rfl) .nil, A22, k23, rfl, ((hS41.bring 2 rfl).taken 1)⟩

theorem enters17 : Enters Try.prog 17 := ⟨_, _, Try.func17, rfl, by kernel_rfl⟩
def m_spec_SameGrid_j2 (fuel : Nat) (t23 : Unit) : Option Bool := some true
def m_spec_SameGrid_b1 (fuel : Nat) (x0 : D.Grid) (x1 : D.Grid) (s22 : Int) : Option (Rd (Int) (Unit) (Bool)) := (if (decide (s22 < (x0.Shards.length : Int))) = true then ((idx x0.Shards s22).bind fun x40 => ((idx x1.Shards s22).bind fun x56 => ((m_spec_SameShard fuel x40 x56).bind fun r72 => (if (!r72) = true then some (.ret false) else some (.next (w64 (s22 + 1))))))) else some (.brk ()))
def m_spec_SameGrid_j1 (fuel : Nat) (x0 : D.Grid) (x1 : D.Grid) (t17 : Bool) : Option Bool := (if t17 = true then some false else ((iter (m_spec_SameGrid_b1 fuel x0 x1) fuel 0).bind fun o => aft o (m_spec_SameGrid_j2 fuel)))
def m_spec_SameGrid (fuel : Nat) (x0 : D.Grid) (x1 : D.Grid) : Option (Bool) := (if (!(((x0.Root.Machine : Int) == x1.Root.Machine) && (((x0.Root.Kind : Int) == x1.Root.Kind) && (((x0.Root.Index : Int) == x1.Root.Index) && true)))) = true then m_spec_SameGrid_j1 fuel x0 x1 true else m_spec_SameGrid_j1 fuel x0 x1 ((x0.Shards.length : Int) != (x1.Shards.length : Int)))

set_option maxRecDepth 100000 in
theorem spec_SameGrid_ok {w : World} {c0_ : List Value} {x0 : D.Grid} {c1_ : List Value} {x1 : D.Grid} (h0_ : ty46.ro w c0_ x0) (h1_ : ty46.ro w c1_ x1) {fuel : Nat} {r : Bool} (hm : m_spec_SameGrid fuel x0 x1 = some r) :
    Calls Try.prog 17 ⟨[.agg ⟨c0_⟩, .agg ⟨c1_⟩]⟩ w (Ret fun v w8 => v = .bool r ∧ St w w8 []) := by
  obtain ⟨A1, k2, e4, h3⟩ := ty46_open h0_; subst e4
  obtain ⟨A5, k6, e8, h7⟩ := ty46_open h1_; subst e8
  refine Calls.into Try.func17 rfl 39 rfl rfl _ rfl ?_
  unfold m_spec_SameGrid at hm
  have hS := St.start w
  refine WP.seq ?_
  refine WP.region ?_
  refine RW.new ttok hS rfl rfl rfl rfl (fun g9 w10 e11 hS12 => ?_)
  refine RW.new ttok hS12 rfl rfl rfl rfl (fun g13 w14 e15 hS16 => ?_)
  refine RW.run ttok 1 rfl ?_
  refine RW.nil ?_
  refine WP.seq ?_
  refine WP.seq ?_
  refine WP.cut (fun (t17 : Bool) F w9 => m_spec_SameGrid_j1 fuel x0 x1 t17 = some r ∧ Ext w14 w9 ∧ St w w9 [Box g13 [.slice A5 x1.Shards.length k6, .int .i64 x1.Root.Machine, .int .i64 x1.Root.Kind, .int .i64 x1.Root.Index] 46, Box g9 [.slice A1 x0.Shards.length k2, .int .i64 x0.Root.Machine, .int .i64 x0.Root.Kind, .int .i64 x0.Root.Index] 46] ∧ F = [(2, .pointer (some ⟨g9, 0, none⟩)), (3, .pointer (some ⟨g13, 0, none⟩)), (19, .bool t17)]) ?_ ?_
  · skip
    rintro t17 F w20 ⟨hm, hE18, hS19, rfl⟩
    unfold m_spec_SameGrid_j1 at hm
    refine WP.cond t17 rfl (fun hc => ?_) (fun hc => ?_)
    · skip
      rw [if_pos hc] at hm
      refine WP.seq ?_
      refine WP.region ?_
      refine RW.run ttok 1 rfl ?_
      refine RW.nil ?_
      refine WP.ret ?_
      cases hm
      exact ⟨_, .cons (.tmp rfl) .nil, rfl, (hS19.taken 0)⟩
    · skip
      rw [if_neg (not_t hc)] at hm
      refine WP.skip ?_
      refine WP.seq ?_
      refine WP.seq ?_
      refine WP.region ?_
      refine RW.run ttok 1 rfl ?_
      refine RW.nil ?_
      obtain ⟨o29, hl30, hm⟩ := bind_some hm
      refine WP.cut (fun (t23 : Unit) F w9 => o29 = .inl t23 ∧ Ext w20 w9 ∧ St w w9 [Box g13 [.slice A5 x1.Shards.length k6, .int .i64 x1.Root.Machine, .int .i64 x1.Root.Kind, .int .i64 x1.Root.Index] 46, Box g9 [.slice A1 x0.Shards.length k2, .int .i64 x0.Root.Machine, .int .i64 x0.Root.Kind, .int .i64 x0.Root.Index] 46] ∧ F = []) ?_ ?_
      · skip
        rintro t23 F w28 ⟨ho32, hE27, hS31, rfl⟩
        subst ho32
        rw [aft_inl] at hm
        unfold m_spec_SameGrid_j2 at hm
        refine WP.seq ?_
        refine WP.region ?_
        refine RW.run ttok 1 rfl ?_
        refine RW.nil ?_
        refine WP.ret ?_
        cases hm
        exact ⟨_, .cons (.tmp rfl) .nil, rfl, (hS31.taken 0)⟩
      · skip
        refine WP.block ?_
        refine WP.weak [(2, .pointer (some ⟨g9, 0, none⟩)), (3, .pointer (some ⟨g13, 0, none⟩)), (5, .int .i64 0)] ⟨rfl, rfl, rfl, trivial⟩ ?_
        refine WP.iter (fun (s22 : Int) F w9 => Ext w20 w9 ∧ St w w9 [Box g13 [.slice A5 x1.Shards.length k6, .int .i64 x1.Root.Machine, .int .i64 x1.Root.Kind, .int .i64 x1.Root.Index] 46, Box g9 [.slice A1 x0.Shards.length k2, .int .i64 x0.Root.Machine, .int .i64 x0.Root.Kind, .int .i64 x0.Root.Index] 46] ∧ F = [(2, .pointer (some ⟨g9, 0, none⟩)), (3, .pointer (some ⟨g13, 0, none⟩)), (5, .int .i64 s22)]) _ hl30 ⟨(Ext.refl _), (((hS19.bring 1 rfl).bring 1 rfl).taken 2), rfl⟩ ?_
        rintro s22 F w37 _ o35 ⟨hE26, hS36, rfl⟩ hb33 ho34
        unfold m_spec_SameGrid_b1 at hb33
        refine WP.seq ?_
        refine WP.seq ?_
        refine WP.region ?_
        refine RW.run ttok 2 rfl ?_
        refine RW.load1 ttok rfl rfl rfl rfl rfl ((hS36.bring 1 rfl).box) 0 rfl rfl rfl rfl ?_
        refine RW.run ttok 2 rfl ?_
        refine RW.nil ?_
        refine WP.cond (decide (s22 < (x0.Shards.length : Int))) rfl (fun hc => ?_) (fun hc => ?_)
        · skip
          rw [if_pos hc] at hb33
          refine WP.skip ?_
          refine WP.seq ?_
          refine WP.block ?_
          refine WP.seq ?_
          refine WP.drawnM 0 mixed 12 (by kernel_rfl) (by kernel_rfl) [([], 4095), ([0], 4094), ([], 4095), ([1, 2], 4089), ([3], 4087), ([], 4095), ([5], 4063), ([], 4095), ([6, 7], 3903), ([8], 3839), ([4, 9], 3567), ([10], 3071)] (by kernel_rfl) (fun hsk38 => ?_)
          have hS39 := hS36.step (Ext.draw _)
          refine DM.run (fuel := 8) ttok hsk38 [0, 2, 5, 7] 165 (by kernel_rfl) (by kernel_rfl) rfl ?_
          refine DM.load1 ttok hsk38 1 167 (by kernel_rfl) (by kernel_rfl) (by kernel_rfl) (by kernel_rfl) rfl (by kernel_rfl) rfl rfl rfl rfl rfl ((hS36.bring 1 rfl).box) 0 rfl rfl rfl rfl ?_
          obtain ⟨x40, hx41, hb33⟩ := bind_some hb33
          refine DM.idx ttok hS36.ext hsk38 3 175 (by kernel_rfl) (by kernel_rfl) (by kernel_rfl) (by kernel_rfl) rfl (by kernel_rfl) rfl rfl rfl rfl rfl rfl (by decide) rfl rfl h3 (idx_some hx41).1 (idx_some hx41).2 rfl rfl (fun p42 es43 ha44 hr45 => ?_)
          obtain ⟨A46, k47, A49, k50, A52, k53, e55, h48, h51, h54⟩ := ty33_open hr45; subst e55
          refine DM.loadN ttok hsk38 4 191 (by kernel_rfl) (by kernel_rfl) (by kernel_rfl) (by kernel_rfl) rfl (by kernel_rfl) rfl rfl rfl rfl rfl (At.ext hS36.ext ha44) rfl rfl rfl ?_
          refine DM.load1 ttok hsk38 6 255 (by kernel_rfl) (by kernel_rfl) (by kernel_rfl) (by kernel_rfl) rfl (by kernel_rfl) rfl rfl rfl rfl rfl ((hS36.bring 0 rfl).box) 0 rfl rfl rfl rfl ?_
          obtain ⟨x56, hx57, hb33⟩ := bind_some hb33
          refine DM.idx ttok hS36.ext hsk38 8 511 (by kernel_rfl) (by kernel_rfl) (by kernel_rfl) (by kernel_rfl) rfl (by kernel_rfl) rfl rfl rfl rfl rfl rfl (by decide) rfl rfl h7 (idx_some hx57).1 (idx_some hx57).2 rfl rfl (fun p58 es59 ha60 hr61 => ?_)
          obtain ⟨A62, k63, A65, k66, A68, k69, e71, h64, h67, h70⟩ := ty33_open hr61; subst e71
          refine DM.loadN ttok hsk38 9 1023 (by kernel_rfl) (by kernel_rfl) (by kernel_rfl) (by kernel_rfl) rfl (by kernel_rfl) rfl rfl rfl rfl rfl (At.ext hS36.ext ha60) rfl rfl rfl ?_
          obtain ⟨r72, hx73, hb33⟩ := bind_some hb33
          refine DM.one hsk38 10 (by kernel_rfl) (LM.call hsk38 2047 (by kernel_rfl) (by kernel_rfl) rfl rfl rfl rfl enters12 (spec_SameShard_ok (ty33.ext hS39.ext hr45) (ty33.ext hS39.ext hr61) hx73) (fun v74 w75 hR76 => ?_))
          obtain ⟨rfl, hR77⟩ := hR76
          refine ⟨hR77.ext, ?_⟩
          have hS78 := hS39.join hR77
          refine DM.run (fuel := 0) ttok hsk38 [11] 4095 (by kernel_rfl) (by kernel_rfl) rfl ?_
          refine DM.weak [(2, .pointer (some ⟨g9, 0, none⟩)), (3, .pointer (some ⟨g13, 0, none⟩)), (5, .int .i64 s22), (38, .bool (!r72))] ⟨rfl, rfl, rfl, rfl, trivial⟩ ?_
          refine DM.done hsk38 (by kernel_rfl) ?_
          refine WP.cond (!r72) rfl (fun hc => ?_) (fun hc => ?_)
          · skip
            rw [if_pos hc] at hb33
            refine WP.seq ?_
            refine WP.region ?_
            refine RW.run ttok 1 rfl ?_
            refine RW.nil ?_
            refine WP.ret ?_
            cases hb33
            cases ho34
            have hm : some _ = some _ := hm
            cases hm
            exact ⟨_, .cons (.tmp rfl) .nil, rfl, (hS78.taken 0)⟩
          · skip
            rw [if_neg (not_t hc)] at hb33
            refine WP.skip ?_
            refine WP.region ?_
            refine RW.run ttok 3 rfl ?_
            refine RW.nil ?_
            cases hb33
            exact ⟨_, [(2, .pointer (some ⟨g9, 0, none⟩)), (3, .pointer (some ⟨g13, 0, none⟩)), (5, .int .i64 (w64 (s22 + 1)))], ⟨rfl, rfl, rfl, trivial⟩, rfl, ((hE26.trans (Ext.draw _)).trans hR77.ext), (((hS78.bring 1 rfl).bring 1 rfl).taken 2), rfl⟩
        · skip
          rw [if_neg (not_t hc)] at hb33
          refine WP.exit ?_
          cases hb33
          exact ⟨_, [], trivial, ho34, hE26, (((hS36.bring 1 rfl).bring 1 rfl).taken 2), rfl⟩
  · skip
    refine WP.region ?_
    refine RW.run ttok 1 rfl ?_
    refine RW.loadN ttok rfl rfl rfl rfl rfl (At.sub ((hS16.bring 1 rfl).box) 1 3) rfl rfl rfl ?_
    refine RW.run ttok 1 rfl ?_
    refine RW.loadN ttok rfl rfl rfl rfl rfl (At.sub ((hS16.bring 0 rfl).box) 1 3) rfl rfl rfl ?_
    refine RW.run ttok 2 rfl ?_
    by_cases hg79 : (!(((x0.Root.Machine : Int) == x1.Root.Machine) && (((x0.Root.Kind : Int) == x1.Root.Kind) && (((x0.Root.Index : Int) == x1.Root.Index) && true)))) = true
    · skip
      rw [if_pos hg79] at hm
      refine RW.know 11 rfl (congrArg Value.bool hg79) ?_
      refine RW.run ttok 8 rfl ?_
      refine RW.nil ?_
      exact ⟨true, [(2, .pointer (some ⟨g9, 0, none⟩)), (3, .pointer (some ⟨g13, 0, none⟩)), (19, .bool true)], ⟨rfl, rfl, rfl, trivial⟩, hm, (Ext.refl _), (((hS16.bring 1 rfl).bring 1 rfl).taken 2), rfl⟩
    · skip
      rw [if_neg hg79] at hm
      refine RW.know 11 rfl (congrArg Value.bool (Bool.eq_false_iff.2 hg79)) ?_
      refine RW.run ttok 1 rfl ?_
      refine RW.load1 ttok rfl rfl rfl rfl rfl ((hS16.bring 1 rfl).box) 0 rfl rfl rfl rfl ?_
      refine RW.run ttok 2 rfl ?_
      refine RW.load1 ttok rfl rfl rfl rfl rfl ((hS16.bring 0 rfl).box) 0 rfl rfl rfl rfl ?_
      refine RW.run ttok 3 rfl ?_
      refine RW.nil ?_
      exact ⟨((x0.Shards.length : Int) != (x1.Shards.length : Int)), [(2, .pointer (some ⟨g9, 0, none⟩)), (3, .pointer (some ⟨g13, 0, none⟩)), (19, .bool ((x0.Shards.length : Int) != (x1.Shards.length : Int)))], ⟨rfl, rfl, rfl, trivial⟩, hm, (Ext.refl _), (((hS16.bring 1 rfl).bring 1 rfl).taken 2), rfl⟩

theorem enters65 : Enters Try.prog 65 := ⟨_, _, Try.func65, rfl, by kernel_rfl⟩
def m_slices_EqualFunc_impl_Shard_impl_Shard_impl_Shard_impl_Shard_j1 (fuel : Nat) (t2 : Unit) : Option Bool := some true
def m_slices_EqualFunc_impl_Shard_impl_Shard_impl_Shard_impl_Shard_b1 (fuel : Nat) (x0 : (List D.Shard)) (x1 : (List D.Shard)) (x2 : D.Shard → D.Shard → Option Bool) (s1 : Int) : Option (Rd (Int) (Unit) (Bool)) := (if (decide (s1 < (x0.length : Int))) = true then ((idx x0 s1).bind fun x14 => ((idx x1 s1).bind fun x37 => ((x2 x14 x37).bind fun r60 => (if (!r60) = true then some (.ret false) else some (.next (w64 (s1 + 1))))))) else some (.brk ()))
def m_slices_EqualFunc_impl_Shard_impl_Shard_impl_Shard_impl_Shard (fuel : Nat) (x0 : (List D.Shard)) (x1 : (List D.Shard)) (x2 : D.Shard → D.Shard → Option Bool) : Option (Bool) := (if ((x0.length : Int) != (x1.length : Int)) = true then some false else ((iter (m_slices_EqualFunc_impl_Shard_impl_Shard_impl_Shard_impl_Shard_b1 fuel x0 x1 x2) fuel 0).bind fun o => aft o (m_slices_EqualFunc_impl_Shard_impl_Shard_impl_Shard_impl_Shard_j1 fuel)))

set_option maxRecDepth 100000 in
theorem slices_EqualFunc_impl_Shard_impl_Shard_impl_Shard_impl_Shard_ok {w : World} {A0_ : Option Addr} {k0_ : Nat} {x0 : (List D.Shard)} {A1_ : Option Addr} {k1_ : Nat} {x1 : (List D.Shard)} {f2_ : Nat} {u2_ : List Value} {x2 : D.Shard → D.Shard → Option Bool} (h0_ : ty43.ro w [.slice A0_ x0.length k0_] x0) (h1_ : ty43.ro w [.slice A1_ x1.length k1_] x1) (h2_ : Enters Try.prog f2_ ∧ ∀ {w9 : World}, Ext w w9 → ∀ {cz0 : List Value} {z0 : D.Shard} {cz1 : List Value} {z1 : D.Shard} {y9 : Bool}, ty33.ro w9 cz0 z0 → ty33.ro w9 cz1 z1 → x2 z0 z1 = some y9 → Calls Try.prog f2_ ⟨[.agg ⟨cz0⟩, .agg ⟨cz1⟩] ++ u2_⟩ w9 (Ret fun v w8 => v = .bool y9 ∧ St w9 w8 [])) {fuel : Nat} {r : Bool} (hm : m_slices_EqualFunc_impl_Shard_impl_Shard_impl_Shard_impl_Shard fuel x0 x1 x2 = some r) :
    Calls Try.prog 65 ⟨[.slice A0_ x0.length k0_, .slice A1_ x1.length k1_, .func (.func f2_) #[] ⟨u2_⟩]⟩ w (Ret fun v w8 => v = .bool r ∧ St w w8 []) := by
  refine Calls.into Try.func65 rfl 32 rfl rfl _ rfl ?_
  unfold m_slices_EqualFunc_impl_Shard_impl_Shard_impl_Shard_impl_Shard at hm
  have hS := St.start w
  refine WP.seq ?_
  refine WP.region ?_
  refine RW.run ttok 1 rfl ?_
  refine RW.nil ?_
  refine WP.seq ?_
  refine WP.seq ?_
  refine WP.region ?_
  refine RW.run ttok 5 rfl ?_
  refine RW.nil ?_
  refine WP.cond ((x0.length : Int) != (x1.length : Int)) rfl (fun hc => ?_) (fun hc => ?_)
  · skip
    rw [if_pos hc] at hm
    refine WP.seq ?_
    refine WP.region ?_
    refine RW.run ttok 1 rfl ?_
    refine RW.nil ?_
    refine WP.ret ?_
    cases hm
    exact ⟨_, .cons (.tmp rfl) .nil, rfl, (hS.taken 0)⟩
  · skip
    rw [if_neg (not_t hc)] at hm
    refine WP.skip ?_
    refine WP.seq ?_
    refine WP.seq ?_
    refine WP.region ?_
    refine RW.run ttok 3 rfl ?_
    refine RW.nil ?_
    obtain ⟨o5, hl6, hm⟩ := bind_some hm
    refine WP.cut (fun (t2 : Unit) F w9 => o5 = .inl t2 ∧ St w w9 [] ∧ F = []) ?_ ?_
    · skip
      rintro t2 F w4 ⟨ho8, hS7, rfl⟩
      subst ho8
      rw [aft_inl] at hm
      unfold m_slices_EqualFunc_impl_Shard_impl_Shard_impl_Shard_impl_Shard_j1 at hm
      refine WP.seq ?_
      refine WP.region ?_
      refine RW.run ttok 1 rfl ?_
      refine RW.nil ?_
      refine WP.ret ?_
      cases hm
      exact ⟨_, .cons (.tmp rfl) .nil, rfl, (hS7.taken 0)⟩
    · skip
      refine WP.block ?_
      refine WP.weak [(1, .slice A1_ x1.length k1_), (2, .func (.func f2_) #[] ⟨u2_⟩), (15, .slice A0_ x0.length k0_), (16, .int .i64 (x0.length : Int)), (17, .int .i64 0)] ⟨rfl, rfl, rfl, rfl, rfl, trivial⟩ ?_
      refine WP.iter (fun (s1 : Int) F w9 => St w w9 [] ∧ F = [(1, .slice A1_ x1.length k1_), (2, .func (.func f2_) #[] ⟨u2_⟩), (15, .slice A0_ x0.length k0_), (16, .int .i64 (x0.length : Int)), (17, .int .i64 s1)]) _ hl6 ⟨(hS.taken 0), rfl⟩ ?_
      rintro s1 F w13 _ o11 ⟨hS12, rfl⟩ hb9 ho10
      unfold m_slices_EqualFunc_impl_Shard_impl_Shard_impl_Shard_impl_Shard_b1 at hb9
      refine WP.seq ?_
      refine WP.region ?_
      refine RW.run ttok 1 rfl ?_
      refine RW.nil ?_
      refine WP.seq ?_
      refine WP.cond (decide (s1 < (x0.length : Int))) rfl (fun hc => ?_) (fun hc => ?_)
      · skip
        rw [if_pos hc] at hb9
        refine WP.skip ?_
        refine WP.seq ?_
        refine WP.block ?_
        refine WP.seq ?_
        refine WP.region ?_
        refine RW.run ttok 1 rfl ?_
        obtain ⟨x14, hx15, hb9⟩ := bind_some hb9
        refine RW.idx ttok hS12.ext rfl rfl rfl rfl rfl rfl (by decide) rfl rfl h0_ (idx_some hx15).1 (idx_some hx15).2 rfl rfl (fun p16 es17 ha18 hr19 => ?_)
        obtain ⟨A20, k21, A23, k24, A26, k27, e29, h22, h25, h28⟩ := ty33_open hr19; subst e29
        refine RW.loadN ttok rfl rfl rfl rfl rfl (At.ext hS12.ext ha18) rfl rfl rfl ?_
        refine RW.new ttok hS12 rfl rfl rfl rfl (fun g30 w31 e32 hS33 => ?_)
        refine RW.run ttok 1 rfl ?_
        have hS34 := hS33.bring 0 rfl
        refine RW.store ttok (A := []) hS34 rfl rfl rfl rfl rfl 0 rfl rfl rfl rfl rfl (fun w35 hS36 => ?_)
        refine RW.nil ?_
        refine WP.seq ?_
        refine WP.region ?_
        refine RW.run ttok 2 rfl ?_
        obtain ⟨x37, hx38, hb9⟩ := bind_some hb9
        refine RW.idx ttok hS36.ext rfl rfl rfl rfl rfl rfl (by decide) rfl rfl h1_ (idx_some hx38).1 (idx_some hx38).2 rfl rfl (fun p39 es40 ha41 hr42 => ?_)
        obtain ⟨A43, k44, A46, k47, A49, k50, e52, h45, h48, h51⟩ := ty33_open hr42; subst e52
        refine RW.loadN ttok rfl rfl rfl rfl rfl (At.ext hS36.ext ha41) rfl rfl rfl ?_
        refine RW.new ttok hS36 rfl rfl rfl rfl (fun g53 w54 e55 hS56 => ?_)
        have hS57 := hS56.bring 0 rfl
        refine RW.store ttok (A := []) hS57 rfl rfl rfl rfl rfl 0 rfl rfl rfl rfl rfl (fun w58 hS59 => ?_)
        refine RW.nil ?_
        refine WP.seq ?_
        refine WP.region ?_
        refine RW.run ttok 1 rfl ?_
        refine RW.loadN ttok rfl rfl rfl rfl rfl ((hS59.bring 1 rfl).box) rfl rfl rfl ?_
        refine RW.loadN ttok rfl rfl rfl rfl rfl ((hS59.bring 0 rfl).box) rfl rfl rfl ?_
        obtain ⟨r60, hx61, hb9⟩ := bind_some hb9
        refine RW.call rfl rfl rfl h2_.1 (h2_.2 hS59.ext (ty33_shut x14 (ty29.ext hS59.ext h22) (ty30.ext hS59.ext h25) (ty31.ext hS59.ext h28)) (ty33_shut x37 (ty29.ext hS59.ext h45) (ty30.ext hS59.ext h48) (ty31.ext hS59.ext h51)) hx61) (fun v62 w63 hR64 => ?_)
        obtain ⟨rfl, hR65⟩ := hR64
        have hS66 := hS59.join hR65
        refine RW.run ttok 1 rfl ?_
        refine RW.nil ?_
        refine WP.cond (!r60) rfl (fun hc => ?_) (fun hc => ?_)
        · skip
          rw [if_pos hc] at hb9
          refine WP.seq ?_
          refine WP.region ?_
          refine RW.run ttok 1 rfl ?_
          refine RW.nil ?_
          refine WP.ret ?_
          cases hb9
          cases ho10
          have hm : some _ = some _ := hm
          cases hm
          exact ⟨_, .cons (.tmp rfl) .nil, rfl, (hS66.taken 0)⟩
        · skip
          rw [if_neg (not_t hc)] at hb9
          refine WP.skip ?_
          refine WP.region ?_
          refine RW.run ttok 2 rfl ?_
          refine RW.nil ?_
          cases hb9
          exact ⟨_, [(1, .slice A1_ x1.length k1_), (2, .func (.func f2_) #[] ⟨u2_⟩), (15, .slice A0_ x0.length k0_), (16, .int .i64 (x0.length : Int)), (17, .int .i64 (w64 (s1 + 1)))], ⟨rfl, rfl, rfl, rfl, rfl, trivial⟩, rfl, (hS66.taken 0), rfl⟩
      · skip
        rw [if_neg (not_t hc)] at hb9
        refine WP.exit ?_
        cases hb9
        exact ⟨_, [], trivial, ho10, (hS12.taken 0), rfl⟩

theorem enters19 : Enters Try.prog 19 := ⟨_, _, Try.func19, rfl, by kernel_rfl⟩
def m_impl_SameGrid (fuel : Nat) (x0 : D.Grid) (x1 : D.Grid) : Option (Bool) := (if (((x0.Root.Machine : Int) == x1.Root.Machine) && (((x0.Root.Kind : Int) == x1.Root.Kind) && (((x0.Root.Index : Int) == x1.Root.Index) && true))) = true then ((m_slices_EqualFunc_impl_Shard_impl_Shard_impl_Shard_impl_Shard fuel x0.Shards x1.Shards (fun y0 y1 => m_impl_SameShard fuel y0 y1)).bind fun r18 => some r18) else some false)

set_option maxRecDepth 100000 in
theorem impl_SameGrid_ok {w : World} {c0_ : List Value} {x0 : D.Grid} {c1_ : List Value} {x1 : D.Grid} (h0_ : ty46.ro w c0_ x0) (h1_ : ty46.ro w c1_ x1) {fuel : Nat} {r : Bool} (hm : m_impl_SameGrid fuel x0 x1 = some r) :
    Calls Try.prog 19 ⟨[.agg ⟨c0_⟩, .agg ⟨c1_⟩]⟩ w (Ret fun v w8 => v = .bool r ∧ St w w8 []) := by
  obtain ⟨A1, k2, e4, h3⟩ := ty46_open h0_; subst e4
  obtain ⟨A5, k6, e8, h7⟩ := ty46_open h1_; subst e8
  refine Calls.into Try.func19 rfl 17 rfl rfl _ rfl ?_
  unfold m_impl_SameGrid at hm
  have hS := St.start w
  refine WP.seq ?_
  refine WP.region ?_
  refine RW.new ttok hS rfl rfl rfl rfl (fun g9 w10 e11 hS12 => ?_)
  refine RW.new ttok hS12 rfl rfl rfl rfl (fun g13 w14 e15 hS16 => ?_)
  refine RW.run ttok 1 rfl ?_
  refine RW.nil ?_
  refine WP.seq ?_
  refine WP.region ?_
  refine RW.run ttok 1 rfl ?_
  refine RW.loadN ttok rfl rfl rfl rfl rfl (At.sub ((hS16.bring 1 rfl).box) 1 3) rfl rfl rfl ?_
  refine RW.run ttok 1 rfl ?_
  refine RW.loadN ttok rfl rfl rfl rfl rfl (At.sub ((hS16.bring 0 rfl).box) 1 3) rfl rfl rfl ?_
  refine RW.run ttok 2 rfl ?_
  by_cases hg17 : (((x0.Root.Machine : Int) == x1.Root.Machine) && (((x0.Root.Kind : Int) == x1.Root.Kind) && (((x0.Root.Index : Int) == x1.Root.Index) && true))) = true
  · skip
    rw [if_pos hg17] at hm
    refine RW.know 10 rfl (congrArg Value.bool hg17) ?_
    refine RW.run ttok 1 rfl ?_
    refine RW.load1 ttok rfl rfl rfl rfl rfl ((hS16.bring 1 rfl).box) 0 rfl rfl rfl rfl ?_
    refine RW.run ttok 1 rfl ?_
    refine RW.load1 ttok rfl rfl rfl rfl rfl ((hS16.bring 0 rfl).box) 0 rfl rfl rfl rfl ?_
    obtain ⟨r18, hx19, hm⟩ := bind_some hm
    refine RW.call rfl rfl rfl enters65 (slices_EqualFunc_impl_Shard_impl_Shard_impl_Shard_impl_Shard_ok (ty43.ext hS16.ext h3) (ty43.ext hS16.ext h7) ⟨enters14, fun e9 => (fun a0_0 a1_0 hx9 => impl_SameShard_ok a0_0 a1_0 hx9)⟩ hx19) (fun v20 w21 hR22 => ?_)
    obtain ⟨rfl, hR23⟩ := hR22
    have hS24 := hS16.join hR23
    refine RW.run ttok 2 rfl ?_
    refine RW.nil ?_
    refine WP.ret ?_
    cases hm
    exact ⟨_, .cons (.tmp rfl) .nil, rfl, (hS24.taken 0)⟩
  · skip
    rw [if_neg hg17] at hm
    refine RW.know 10 rfl (congrArg Value.bool (Bool.eq_false_iff.2 hg17)) ?_
    refine RW.run ttok 7 rfl ?_
    refine RW.nil ?_
    refine WP.ret ?_
    cases hm
    exact ⟨_, .cons (.tmp rfl) .nil, rfl, (hS16.taken 0)⟩

theorem enters66 : Enters Try.prog 66 := ⟨_, _, Try.func66, rfl, by kernel_rfl⟩
def m_laws_eqShardS_j1 (fuel : Nat) (t2 : Unit) : Option Bool := some true
def m_laws_eqShardS_b1 (fuel : Nat) (x0 : (List D.Shard)) (x1 : (List D.Shard)) (s1 : Int) : Option (Rd (Int) (Unit) (Bool)) := (if (decide (s1 < (x0.length : Int))) = true then ((idx x0 s1).bind fun x19 => ((idx x1 s1).bind fun x35 => ((m_laws_eqShard fuel x19 x35).bind fun r51 => (if (!r51) = true then some (.ret false) else some (.next (w64 (s1 + 1))))))) else some (.brk ()))
def m_laws_eqShardS (fuel : Nat) (x0 : (List D.Shard)) (x1 : (List D.Shard)) : Option (Bool) := (if ((x0.length : Int) != (x1.length : Int)) = true then some false else ((iter (m_laws_eqShardS_b1 fuel x0 x1) fuel 0).bind fun o => aft o (m_laws_eqShardS_j1 fuel)))

set_option maxRecDepth 100000 in
theorem laws_eqShardS_ok {w : World} {A0_ : Option Addr} {k0_ : Nat} {x0 : (List D.Shard)} {A1_ : Option Addr} {k1_ : Nat} {x1 : (List D.Shard)} (h0_ : ty43.ro w [.slice A0_ x0.length k0_] x0) (h1_ : ty43.ro w [.slice A1_ x1.length k1_] x1) {fuel : Nat} {r : Bool} (hm : m_laws_eqShardS fuel x0 x1 = some r) :
    Calls Try.prog 66 ⟨[.slice A0_ x0.length k0_, .slice A1_ x1.length k1_]⟩ w (Ret fun v w8 => v = .bool r ∧ St w w8 []) := by
  refine Calls.into Try.func66 rfl 27 rfl rfl _ rfl ?_
  unfold m_laws_eqShardS at hm
  have hS := St.start w
  refine WP.seq ?_
  refine WP.region ?_
  refine RW.run ttok 1 rfl ?_
  refine RW.nil ?_
  refine WP.seq ?_
  refine WP.seq ?_
  refine WP.region ?_
  refine RW.run ttok 5 rfl ?_
  refine RW.nil ?_
  refine WP.cond ((x0.length : Int) != (x1.length : Int)) rfl (fun hc => ?_) (fun hc => ?_)
  · skip
    rw [if_pos hc] at hm
    refine WP.seq ?_
    refine WP.region ?_
    refine RW.run ttok 1 rfl ?_
    refine RW.nil ?_
    refine WP.ret ?_
    cases hm
    exact ⟨_, .cons (.tmp rfl) .nil, rfl, (hS.taken 0)⟩
  · skip
    rw [if_neg (not_t hc)] at hm
    refine WP.skip ?_
    refine WP.seq ?_
    refine WP.seq ?_
    refine WP.region ?_
    refine RW.run ttok 1 rfl ?_
    refine RW.nil ?_
    obtain ⟨o8, hl9, hm⟩ := bind_some hm
    refine WP.cut (fun (t2 : Unit) F w9 => o8 = .inl t2 ∧ Ext w w9 ∧ St w w9 [] ∧ F = []) ?_ ?_
    · skip
      rintro t2 F w7 ⟨ho11, hE6, hS10, rfl⟩
      subst ho11
      rw [aft_inl] at hm
      unfold m_laws_eqShardS_j1 at hm
      refine WP.seq ?_
      refine WP.region ?_
      refine RW.run ttok 1 rfl ?_
      refine RW.nil ?_
      refine WP.ret ?_
      cases hm
      exact ⟨_, .cons (.tmp rfl) .nil, rfl, (hS10.taken 0)⟩
    · skip
      refine WP.block ?_
      refine WP.weak [(0, .slice A0_ x0.length k0_), (1, .slice A1_ x1.length k1_), (5, .int .i64 0)] ⟨rfl, rfl, rfl, trivial⟩ ?_
      refine WP.iter (fun (s1 : Int) F w9 => Ext w w9 ∧ St w w9 [] ∧ F = [(0, .slice A0_ x0.length k0_), (1, .slice A1_ x1.length k1_), (5, .int .i64 s1)]) _ hl9 ⟨(Ext.refl _), (hS.taken 0), rfl⟩ ?_
      rintro s1 F w16 _ o14 ⟨hE5, hS15, rfl⟩ hb12 ho13
      unfold m_laws_eqShardS_b1 at hb12
      refine WP.seq ?_
      refine WP.seq ?_
      refine WP.region ?_
      refine RW.run ttok 4 rfl ?_
      refine RW.nil ?_
      refine WP.cond (decide (s1 < (x0.length : Int))) rfl (fun hc => ?_) (fun hc => ?_)
      · skip
        rw [if_pos hc] at hb12
        refine WP.skip ?_
        refine WP.seq ?_
        refine WP.block ?_
        refine WP.seq ?_
        refine WP.drawnM 0 mixed 10 (by kernel_rfl) (by kernel_rfl) [([], 1023), ([], 1023), ([0, 1], 1020), ([2], 1019), ([], 1023), ([], 1023), ([4, 5], 975), ([6], 959), ([3, 7], 887), ([8], 767)] (by kernel_rfl) (fun hsk17 => ?_)
        have hS18 := hS15.step (Ext.draw _)
        refine DM.run (fuel := 6) ttok hsk17 [0, 1, 4, 5] 51 (by kernel_rfl) (by kernel_rfl) rfl ?_
        obtain ⟨x19, hx20, hb12⟩ := bind_some hb12
        refine DM.idx ttok hS15.ext hsk17 2 55 (by kernel_rfl) (by kernel_rfl) (by kernel_rfl) (by kernel_rfl) rfl (by kernel_rfl) rfl rfl rfl rfl rfl rfl (by decide) rfl rfl h0_ (idx_some hx20).1 (idx_some hx20).2 rfl rfl (fun p21 es22 ha23 hr24 => ?_)
        obtain ⟨A25, k26, A28, k29, A31, k32, e34, h27, h30, h33⟩ := ty33_open hr24; subst e34
        refine DM.loadN ttok hsk17 3 63 (by kernel_rfl) (by kernel_rfl) (by kernel_rfl) (by kernel_rfl) rfl (by kernel_rfl) rfl rfl rfl rfl rfl (At.ext hS15.ext ha23) rfl rfl rfl ?_
        obtain ⟨x35, hx36, hb12⟩ := bind_some hb12
        refine DM.idx ttok hS15.ext hsk17 6 127 (by kernel_rfl) (by kernel_rfl) (by kernel_rfl) (by kernel_rfl) rfl (by kernel_rfl) rfl rfl rfl rfl rfl rfl (by decide) rfl rfl h1_ (idx_some hx36).1 (idx_some hx36).2 rfl rfl (fun p37 es38 ha39 hr40 => ?_)
        obtain ⟨A41, k42, A44, k45, A47, k48, e50, h43, h46, h49⟩ := ty33_open hr40; subst e50
        refine DM.loadN ttok hsk17 7 255 (by kernel_rfl) (by kernel_rfl) (by kernel_rfl) (by kernel_rfl) rfl (by kernel_rfl) rfl rfl rfl rfl rfl (At.ext hS15.ext ha39) rfl rfl rfl ?_
        obtain ⟨r51, hx52, hb12⟩ := bind_some hb12
        refine DM.one hsk17 8 (by kernel_rfl) (LM.call hsk17 511 (by kernel_rfl) (by kernel_rfl) rfl rfl rfl rfl enters15 (laws_eqShard_ok (ty33.ext hS18.ext hr24) (ty33.ext hS18.ext hr40) hx52) (fun v53 w54 hR55 => ?_))
        obtain ⟨rfl, hR56⟩ := hR55
        refine ⟨hR56.ext, ?_⟩
        have hS57 := hS18.join hR56
        refine DM.run (fuel := 0) ttok hsk17 [9] 1023 (by kernel_rfl) (by kernel_rfl) rfl ?_
        refine DM.weak [(0, .slice A0_ x0.length k0_), (1, .slice A1_ x1.length k1_), (5, .int .i64 s1), (26, .bool (!r51))] ⟨rfl, rfl, rfl, rfl, trivial⟩ ?_
        refine DM.done hsk17 (by kernel_rfl) ?_
        refine WP.cond (!r51) rfl (fun hc => ?_) (fun hc => ?_)
        · skip
          rw [if_pos hc] at hb12
          refine WP.seq ?_
          refine WP.region ?_
          refine RW.run ttok 1 rfl ?_
          refine RW.nil ?_
          refine WP.ret ?_
          cases hb12
          cases ho13
          have hm : some _ = some _ := hm
          cases hm
          exact ⟨_, .cons (.tmp rfl) .nil, rfl, (hS57.taken 0)⟩
        · skip
          rw [if_neg (not_t hc)] at hb12
          refine WP.skip ?_
          refine WP.region ?_
          refine RW.run ttok 3 rfl ?_
          refine RW.nil ?_
          cases hb12
          exact ⟨_, [(0, .slice A0_ x0.length k0_), (1, .slice A1_ x1.length k1_), (5, .int .i64 (w64 (s1 + 1)))], ⟨rfl, rfl, rfl, trivial⟩, rfl, ((hE5.trans (Ext.draw _)).trans hR56.ext), (hS57.taken 0), rfl⟩
      · skip
        rw [if_neg (not_t hc)] at hb12
        refine WP.exit ?_
        cases hb12
        exact ⟨_, [], trivial, ho13, hE5, (hS15.taken 0), rfl⟩

theorem enters20 : Enters Try.prog 20 := ⟨_, _, Try.func20, rfl, by kernel_rfl⟩
def m_laws_eqGrid (fuel : Nat) (x0 : D.Grid) (x1 : D.Grid) : Option (Bool) := ((m_laws_eqShardS fuel x0.Shards x1.Shards).bind fun r17 => (if (!r17) = true then some false else ((m_laws_eqAddress fuel x0.Root x1.Root).bind fun r24 => (if (!r24) = true then some false else some true))))

set_option maxRecDepth 100000 in
theorem laws_eqGrid_ok {w : World} {c0_ : List Value} {x0 : D.Grid} {c1_ : List Value} {x1 : D.Grid} (h0_ : ty46.ro w c0_ x0) (h1_ : ty46.ro w c1_ x1) {fuel : Nat} {r : Bool} (hm : m_laws_eqGrid fuel x0 x1 = some r) :
    Calls Try.prog 20 ⟨[.agg ⟨c0_⟩, .agg ⟨c1_⟩]⟩ w (Ret fun v w8 => v = .bool r ∧ St w w8 []) := by
  obtain ⟨A1, k2, e4, h3⟩ := ty46_open h0_; subst e4
  obtain ⟨A5, k6, e8, h7⟩ := ty46_open h1_; subst e8
  refine Calls.into Try.func20 rfl 17 rfl rfl _ rfl ?_
  unfold m_laws_eqGrid at hm
  have hS := St.start w
  refine WP.seq ?_
  refine WP.region ?_
  refine RW.new ttok hS rfl rfl rfl rfl (fun g9 w10 e11 hS12 => ?_)
  refine RW.new ttok hS12 rfl rfl rfl rfl (fun g13 w14 e15 hS16 => ?_)
  refine RW.run ttok 1 rfl ?_
  refine RW.nil ?_
  refine WP.seq ?_
  refine WP.seq ?_
  refine WP.region ?_
  refine RW.run ttok 1 rfl ?_
  refine RW.load1 ttok rfl rfl rfl rfl rfl ((hS16.bring 1 rfl).box) 0 rfl rfl rfl rfl ?_
  refine RW.run ttok 1 rfl ?_
  refine RW.load1 ttok rfl rfl rfl rfl rfl ((hS16.bring 0 rfl).box) 0 rfl rfl rfl rfl ?_
  obtain ⟨r17, hx18, hm⟩ := bind_some hm
  refine RW.call rfl rfl rfl enters66 (laws_eqShardS_ok (ty43.ext hS16.ext h3) (ty43.ext hS16.ext h7) hx18) (fun v19 w20 hR21 => ?_)
  obtain ⟨rfl, hR22⟩ := hR21
  have hS23 := hS16.join hR22
  refine RW.run ttok 1 rfl ?_
  refine RW.nil ?_
  refine WP.cond (!r17) rfl (fun hc => ?_) (fun hc => ?_)
  · skip
    rw [if_pos hc] at hm
    refine WP.seq ?_
    refine WP.region ?_
    refine RW.run ttok 1 rfl ?_
    refine RW.nil ?_
    refine WP.ret ?_
    cases hm
    exact ⟨_, .cons (.tmp rfl) .nil, rfl, (hS23.taken 0)⟩
  · skip
    rw [if_neg (not_t hc)] at hm
    refine WP.skip ?_
    refine WP.seq ?_
    refine WP.seq ?_
    refine WP.region ?_
    refine RW.run ttok 1 rfl ?_
    refine RW.loadN ttok rfl rfl rfl rfl rfl (At.sub ((hS23.bring 1 rfl).box) 1 3) rfl rfl rfl ?_
    refine RW.run ttok 1 rfl ?_
    refine RW.loadN ttok rfl rfl rfl rfl rfl (At.sub ((hS23.bring 0 rfl).box) 1 3) rfl rfl rfl ?_
    obtain ⟨r24, hx25, hm⟩ := bind_some hm
    refine RW.call rfl rfl rfl enters67 (laws_eqAddress_ok (ty44_shut x0.Root) (ty44_shut x1.Root) hx25) (fun v26 w27 hR28 => ?_)
    obtain ⟨rfl, hR29⟩ := hR28
    have hS30 := hS23.join hR29
    refine RW.run ttok 1 rfl ?_
    refine RW.nil ?_
    refine WP.cond (!r24) rfl (fun hc => ?_) (fun hc => ?_)
    · skip
      rw [if_pos hc] at hm
      refine WP.seq ?_
      refine WP.region ?_
      refine RW.run ttok 1 rfl ?_
      refine RW.nil ?_
      refine WP.ret ?_
      cases hm
      exact ⟨_, .cons (.tmp rfl) .nil, rfl, (hS30.taken 0)⟩
    · skip
      rw [if_neg (not_t hc)] at hm
      refine WP.skip ?_
      refine WP.seq ?_
      refine WP.region ?_
      refine RW.run ttok 1 rfl ?_
      refine RW.nil ?_
      refine WP.ret ?_
      cases hm
      exact ⟨_, .cons (.tmp rfl) .nil, rfl, (hS30.taken 0)⟩

theorem enters4 : Enters Try.prog 4 := ⟨_, _, Try.func4, rfl, by kernel_rfl⟩
def m_laws_FnExactSameGrid (fuel : Nat) (x0 : D.Grid) (x1 : D.Grid) : Option (Bool) := ((m_laws_szGrid fuel x0 1048576).bind fun r17 => (if (decide (r17 < 0)) = true then some true else ((m_laws_szGrid fuel x1 r17).bind fun r24 => (if (decide (r24 < 0)) = true then some true else ((m_laws_toGrid fuel x0).bind fun r33 => ((m_laws_toGrid fuel x1).bind fun r42 => ((m_spec_SameGrid fuel r33 r42).bind fun r51 => ((m_laws_toGrid fuel x0).bind fun r58 => ((m_laws_toGrid fuel x1).bind fun r74 => ((m_impl_SameGrid fuel r58 r74).bind fun r90 => (if (!(r90 == r51)) = true then some false else ((m_laws_toGrid fuel x0).bind fun r99 => ((m_laws_eqGrid fuel r58 r99).bind fun r108 => (if (!r108) = true then some false else ((m_laws_toGrid fuel x1).bind fun r117 => ((m_laws_eqGrid fuel r74 r117).bind fun r126 => (if (!r126) = true then some false else some true)))))))))))))))))

set_option maxRecDepth 100000 in
theorem laws_FnExactSameGrid_ok {w : World} {c0_ : List Value} {x0 : D.Grid} {c1_ : List Value} {x1 : D.Grid} (h0_ : ty40.ro w c0_ x0) (h1_ : ty40.ro w c1_ x1) {fuel : Nat} {r : Bool} (hm : m_laws_FnExactSameGrid fuel x0 x1 = some r) :
    Calls Try.prog 4 ⟨[.agg ⟨c0_⟩, .agg ⟨c1_⟩]⟩ w (Ret fun v w8 => v = .bool r ∧ St w w8 []) := by
  obtain ⟨A1, k2, e4, h3⟩ := ty40_open h0_; subst e4
  obtain ⟨A5, k6, e8, h7⟩ := ty40_open h1_; subst e8
  refine Calls.into Try.func4 rfl 45 rfl rfl _ rfl ?_
  unfold m_laws_FnExactSameGrid at hm
  have hS := St.start w
  refine WP.seq ?_
  refine WP.region ?_
  refine RW.new ttok hS rfl rfl rfl rfl (fun g9 w10 e11 hS12 => ?_)
  refine RW.new ttok hS12 rfl rfl rfl rfl (fun g13 w14 e15 hS16 => ?_)
  refine RW.run ttok 1 rfl ?_
  refine RW.nil ?_
  refine WP.seq ?_
  refine WP.region ?_
  refine RW.run ttok 1 rfl ?_
  refine RW.nil ?_
  refine WP.seq ?_
  refine WP.region ?_
  refine RW.loadN ttok rfl rfl rfl rfl rfl ((hS16.bring 1 rfl).box) rfl rfl rfl ?_
  refine RW.run ttok 1 rfl ?_
  obtain ⟨r17, hx18, hm⟩ := bind_some hm
  refine RW.call rfl rfl rfl enters16 (laws_szGrid_ok (ty40.ext hS16.ext h0_) hx18) (fun v19 w20 hR21 => ?_)
  obtain ⟨rfl, hR22⟩ := hR21
  have hS23 := hS16.join hR22
  refine RW.run ttok 1 rfl ?_
  refine RW.nil ?_
  refine WP.seq ?_
  refine WP.seq ?_
  refine WP.region ?_
  refine RW.run ttok 2 rfl ?_
  refine RW.nil ?_
  refine WP.cond (decide (r17 < 0)) rfl (fun hc => ?_) (fun hc => ?_)
  · skip
    rw [if_pos hc] at hm
    refine WP.seq ?_
    refine WP.region ?_
    refine RW.run ttok 1 rfl ?_
    refine RW.nil ?_
    refine WP.ret ?_
    cases hm
    exact ⟨_, .cons (.tmp rfl) .nil, rfl, (hS23.taken 0)⟩
  · skip
    rw [if_neg (not_t hc)] at hm
    refine WP.skip ?_
    refine WP.seq ?_
    refine WP.region ?_
    refine RW.loadN ttok rfl rfl rfl rfl rfl ((hS23.bring 0 rfl).box) rfl rfl rfl ?_
    refine RW.run ttok 1 rfl ?_
    obtain ⟨r24, hx25, hm⟩ := bind_some hm
    refine RW.call rfl rfl rfl enters16 (laws_szGrid_ok (ty40.ext hS23.ext h1_) hx25) (fun v26 w27 hR28 => ?_)
    obtain ⟨rfl, hR29⟩ := hR28
    have hS30 := hS23.join hR29
    refine RW.run ttok 1 rfl ?_
    refine RW.nil ?_
    refine WP.seq ?_
    refine WP.seq ?_
    refine WP.region ?_
    refine RW.run ttok 2 rfl ?_
    refine RW.nil ?_
    refine WP.cond (decide (r24 < 0)) rfl (fun hc => ?_) (fun hc => ?_)
    · skip
      rw [if_pos hc] at hm
      refine WP.seq ?_
      refine WP.region ?_
      refine RW.run ttok 1 rfl ?_
      refine RW.nil ?_
      refine WP.ret ?_
      cases hm
      exact ⟨_, .cons (.tmp rfl) .nil, rfl, (hS30.taken 0)⟩
    · skip
      rw [if_neg (not_t hc)] at hm
      refine WP.skip ?_
      refine WP.seq ?_
      refine WP.drawnM 0 mixed 6 (by kernel_rfl) (by kernel_rfl) [([], 63), ([0], 62), ([], 63), ([2, 1], 59), ([1, 3, 3], 53), ([4, 4, 0, 1, 2, 3, 4], 47)] (by kernel_rfl) (fun hsk31 => ?_)
      have hS32 := hS30.step (Ext.draw _)
      refine DM.loadN ttok hsk31 0 1 (by kernel_rfl) (by kernel_rfl) (by kernel_rfl) (by kernel_rfl) rfl (by kernel_rfl) rfl rfl rfl rfl rfl ((hS30.bring 1 rfl).box) rfl rfl rfl ?_
      refine DM.loadN ttok hsk31 2 5 (by kernel_rfl) (by kernel_rfl) (by kernel_rfl) (by kernel_rfl) rfl (by kernel_rfl) rfl rfl rfl rfl rfl ((hS30.bring 0 rfl).box) rfl rfl rfl ?_
      obtain ⟨r33, hx34, hm⟩ := bind_some hm
      refine DM.one hsk31 1 (by kernel_rfl) (LM.call hsk31 7 (by kernel_rfl) (by kernel_rfl) rfl rfl rfl rfl enters18 (laws_toGrid_ok (ty40.ext hS32.ext h0_) hx34) (fun v35 w36 hR37 => ?_))
      obtain ⟨A38, k39, rfl, hR40⟩ := hR37
      refine ⟨hR40.ext, ?_⟩
      have hS41 := hS32.join hR40
      obtain ⟨r42, hx43, hm⟩ := bind_some hm
      refine DM.one hsk31 3 (by kernel_rfl) (LM.call hsk31 15 (by kernel_rfl) (by kernel_rfl) rfl rfl rfl rfl enters18 (laws_toGrid_ok (ty40.ext hS41.ext h1_) hx43) (fun v44 w45 hR46 => ?_))
      obtain ⟨A47, k48, rfl, hR49⟩ := hR46
      refine ⟨hR49.ext, ?_⟩
      have hS50 := hS41.join hR49
      obtain ⟨r51, hx52, hm⟩ := bind_some hm
      refine DM.one hsk31 4 (by kernel_rfl) (LM.call hsk31 31 (by kernel_rfl) (by kernel_rfl) rfl rfl rfl rfl enters17 (spec_SameGrid_ok (ty46_shut r33 ((hS50.bring 1 rfl).own)) (ty46_shut r42 ((hS50.bring 0 rfl).own)) hx52) (fun v53 w54 hR55 => ?_))
      obtain ⟨rfl, hR56⟩ := hR55
      refine ⟨hR56.ext, ?_⟩
      have hS57 := hS50.join hR56
      refine DM.run (fuel := 0) ttok hsk31 [5] 63 (by kernel_rfl) (by kernel_rfl) rfl ?_
      refine DM.weak [(2, .pointer (some ⟨g9, 0, none⟩)), (3, .pointer (some ⟨g13, 0, none⟩)), (6, .bool r51)] ⟨rfl, rfl, rfl, trivial⟩ ?_
      refine DM.done hsk31 (by kernel_rfl) ?_
      refine WP.seq ?_
      refine WP.region ?_
      refine RW.loadN ttok rfl rfl rfl rfl rfl ((hS57.bring 3 rfl).box) rfl rfl rfl ?_
      obtain ⟨r58, hx59, hm⟩ := bind_some hm
      refine RW.call rfl rfl rfl enters18 (laws_toGrid_ok (ty40.ext hS57.ext h0_) hx59) (fun v60 w61 hR62 => ?_)
      obtain ⟨A63, k64, rfl, hR65⟩ := hR62
      have hS66 := hS57.join hR65
      refine RW.new ttok hS66 rfl rfl rfl rfl (fun g67 w68 e69 hS70 => ?_)
      have hS71 := hS70.bring 0 rfl
      refine RW.store ttok (A := []) hS71 rfl rfl rfl rfl rfl 0 rfl rfl rfl rfl rfl (fun w72 hS73 => ?_)
      refine RW.nil ?_
      refine WP.seq ?_
      refine WP.region ?_
      refine RW.loadN ttok rfl rfl rfl rfl rfl ((hS73.bring 4 rfl).box) rfl rfl rfl ?_
      obtain ⟨r74, hx75, hm⟩ := bind_some hm
      refine RW.call rfl rfl rfl enters18 (laws_toGrid_ok (ty40.ext hS73.ext h1_) hx75) (fun v76 w77 hR78 => ?_)
      obtain ⟨A79, k80, rfl, hR81⟩ := hR78
      have hS82 := hS73.join hR81
      refine RW.new ttok hS82 rfl rfl rfl rfl (fun g83 w84 e85 hS86 => ?_)
      have hS87 := hS86.bring 0 rfl
      refine RW.store ttok (A := []) hS87 rfl rfl rfl rfl rfl 0 rfl rfl rfl rfl rfl (fun w88 hS89 => ?_)
      refine RW.nil ?_
      refine WP.seq ?_
      refine WP.region ?_
      refine RW.loadN ttok rfl rfl rfl rfl rfl ((hS89.bring 2 rfl).box) rfl rfl rfl ?_
      refine RW.loadN ttok rfl rfl rfl rfl rfl ((hS89.bring 0 rfl).box) rfl rfl rfl ?_
      obtain ⟨r90, hx91, hm⟩ := bind_some hm
      refine RW.call rfl rfl rfl enters19 (impl_SameGrid_ok (ty46_shut r58 ((hS89.bring 3 rfl).own)) (ty46_shut r74 ((hS89.bring 1 rfl).own)) hx91) (fun v92 w93 hR94 => ?_)
      obtain ⟨rfl, hR95⟩ := hR94
      have hS96 := hS89.join hR95
      refine RW.run ttok 1 rfl ?_
      refine RW.nil ?_
      refine WP.seq ?_
      refine WP.seq ?_
      refine WP.region ?_
      refine RW.run ttok 3 rfl ?_
      refine RW.nil ?_
      refine WP.cond (!(r90 == r51)) rfl (fun hc => ?_) (fun hc => ?_)
      · skip
        rw [if_pos hc] at hm
        refine WP.seq ?_
        refine WP.region ?_
        refine RW.run ttok 1 rfl ?_
        refine RW.nil ?_
        refine WP.ret ?_
        cases hm
        exact ⟨_, .cons (.tmp rfl) .nil, rfl, (hS96.taken 0)⟩
      · skip
        rw [if_neg (not_t hc)] at hm
        refine WP.skip ?_
        refine WP.seq ?_
        refine WP.seq ?_
        refine WP.drawnM 0 mixed 5 (by kernel_rfl) (by kernel_rfl) [([], 31), ([], 31), ([1], 29), ([0, 2, 2], 26), ([3], 23)] (by kernel_rfl) (fun hsk97 => ?_)
        have hS98 := hS96.step (Ext.draw _)
        refine DM.loadN ttok hsk97 0 1 (by kernel_rfl) (by kernel_rfl) (by kernel_rfl) (by kernel_rfl) rfl (by kernel_rfl) rfl rfl rfl rfl rfl ((hS96.bring 2 rfl).box) rfl rfl rfl ?_
        refine DM.loadN ttok hsk97 1 3 (by kernel_rfl) (by kernel_rfl) (by kernel_rfl) (by kernel_rfl) rfl (by kernel_rfl) rfl rfl rfl rfl rfl ((hS96.bring 7 rfl).box) rfl rfl rfl ?_
        obtain ⟨r99, hx100, hm⟩ := bind_some hm
        refine DM.one hsk97 2 (by kernel_rfl) (LM.call hsk97 7 (by kernel_rfl) (by kernel_rfl) rfl rfl rfl rfl enters18 (laws_toGrid_ok (ty40.ext hS98.ext h0_) hx100) (fun v101 w102 hR103 => ?_))
        obtain ⟨A104, k105, rfl, hR106⟩ := hR103
        refine ⟨hR106.ext, ?_⟩
        have hS107 := hS98.join hR106
        obtain ⟨r108, hx109, hm⟩ := bind_some hm
        refine DM.one hsk97 3 (by kernel_rfl) (LM.call hsk97 15 (by kernel_rfl) (by kernel_rfl) rfl rfl rfl rfl enters20 (laws_eqGrid_ok (ty46_shut r58 ((hS107.bring 4 rfl).own)) (ty46_shut r99 ((hS107.bring 0 rfl).own)) hx109) (fun v110 w111 hR112 => ?_))
        obtain ⟨rfl, hR113⟩ := hR112
        refine ⟨hR113.ext, ?_⟩
        have hS114 := hS107.join hR113
        refine DM.run (fuel := 0) ttok hsk97 [4] 31 (by kernel_rfl) (by kernel_rfl) rfl ?_
        refine DM.weak [(3, .pointer (some ⟨g13, 0, none⟩)), (8, .pointer (some ⟨g83, 0, none⟩)), (39, .bool (!r108))] ⟨rfl, rfl, rfl, trivial⟩ ?_
        refine DM.done hsk97 (by kernel_rfl) ?_
        refine WP.cond (!r108) rfl (fun hc => ?_) (fun hc => ?_)
        · skip
          rw [if_pos hc] at hm
          refine WP.seq ?_
          refine WP.region ?_
          refine RW.run ttok 1 rfl ?_
          refine RW.nil ?_
          refine WP.ret ?_
          cases hm
          exact ⟨_, .cons (.tmp rfl) .nil, rfl, (hS114.taken 0)⟩
        · skip
          rw [if_neg (not_t hc)] at hm
          refine WP.skip ?_
          refine WP.seq ?_
          refine WP.seq ?_
          refine WP.drawnM 0 mixed 5 (by kernel_rfl) (by kernel_rfl) [([], 31), ([], 31), ([1], 29), ([0, 2, 2], 26), ([3], 23)] (by kernel_rfl) (fun hsk115 => ?_)
          have hS116 := hS114.step (Ext.draw _)
          refine DM.loadN ttok hsk115 0 1 (by kernel_rfl) (by kernel_rfl) (by kernel_rfl) (by kernel_rfl) rfl (by kernel_rfl) rfl rfl rfl rfl rfl ((hS114.bring 1 rfl).box) rfl rfl rfl ?_
          refine DM.loadN ttok hsk115 1 3 (by kernel_rfl) (by kernel_rfl) (by kernel_rfl) (by kernel_rfl) rfl (by kernel_rfl) rfl rfl rfl rfl rfl ((hS114.bring 7 rfl).box) rfl rfl rfl ?_
          obtain ⟨r117, hx118, hm⟩ := bind_some hm
          refine DM.one hsk115 2 (by kernel_rfl) (LM.call hsk115 7 (by kernel_rfl) (by kernel_rfl) rfl rfl rfl rfl enters18 (laws_toGrid_ok (ty40.ext hS116.ext h1_) hx118) (fun v119 w120 hR121 => ?_))
          obtain ⟨A122, k123, rfl, hR124⟩ := hR121
          refine ⟨hR124.ext, ?_⟩
          have hS125 := hS116.join hR124
          obtain ⟨r126, hx127, hm⟩ := bind_some hm
          refine DM.one hsk115 3 (by kernel_rfl) (LM.call hsk115 15 (by kernel_rfl) (by kernel_rfl) rfl rfl rfl rfl enters20 (laws_eqGrid_ok (ty46_shut r74 ((hS125.bring 3 rfl).own)) (ty46_shut r117 ((hS125.bring 0 rfl).own)) hx127) (fun v128 w129 hR130 => ?_))
          obtain ⟨rfl, hR131⟩ := hR130
          refine ⟨hR131.ext, ?_⟩
          have hS132 := hS125.join hR131
          refine DM.run (fuel := 0) ttok hsk115 [4] 31 (by kernel_rfl) (by kernel_rfl) rfl ?_
          refine DM.weak [(44, .bool (!r126))] ⟨rfl, trivial⟩ ?_
          refine DM.done hsk115 (by kernel_rfl) ?_
          refine WP.cond (!r126) rfl (fun hc => ?_) (fun hc => ?_)
          · skip
            rw [if_pos hc] at hm
            refine WP.seq ?_
            refine WP.region ?_
            refine RW.run ttok 1 rfl ?_
            refine RW.nil ?_
            refine WP.ret ?_
            cases hm
            exact ⟨_, .cons (.tmp rfl) .nil, rfl, (hS132.taken 0)⟩
          · skip
            rw [if_neg (not_t hc)] at hm
            refine WP.skip ?_
            refine WP.seq ?_
            refine WP.region ?_
            refine RW.run ttok 1 rfl ?_
            refine RW.nil ?_
            refine WP.ret ?_
            cases hm
            exact ⟨_, .cons (.tmp rfl) .nil, rfl, (hS132.taken 0)⟩

theorem enters181 : Enters Try.prog 181 := ⟨_, _, Try.func181, rfl, by kernel_rfl⟩
def m_laws_szParcel (fuel : Nat) (x0 : D.Parcel) (x1 : Int) : Option (Int) := ((m_laws_szShardCell fuel x0.Cell x1).bind fun r12 => (if (decide (r12 < 0)) = true then some (-1) else some r12))

set_option maxRecDepth 100000 in
theorem laws_szParcel_ok {w : World} {c0_ : List Value} {x0 : D.Parcel} {x1 : Int} (h0_ : ty276.ro w c0_ x0) {fuel : Nat} {r : Int} (hm : m_laws_szParcel fuel x0 x1 = some r) :
    Calls Try.prog 181 ⟨[.agg ⟨c0_⟩, .int .i64 x1]⟩ w (Ret fun v w8 => v = .int .i64 r ∧ St w w8 []) := by
  obtain ⟨A1, k2, A4, k5, e7, h3, h6⟩ := ty276_open h0_; subst e7
  refine Calls.into Try.func181 rfl 12 rfl rfl _ rfl ?_
  unfold m_laws_szParcel at hm
  have hS := St.start w
  refine WP.seq ?_
  refine WP.region ?_
  refine RW.new ttok hS rfl rfl rfl rfl (fun g8 w9 e10 hS11 => ?_)
  refine RW.run ttok 1 rfl ?_
  refine RW.nil ?_
  refine WP.seq ?_
  refine WP.region ?_
  refine RW.run ttok 1 rfl ?_
  refine RW.loadN ttok rfl rfl rfl rfl rfl (At.sub ((hS11.bring 0 rfl).box) 1 5) rfl rfl rfl ?_
  refine RW.run ttok 1 rfl ?_
  obtain ⟨r12, hx13, hm⟩ := bind_some hm
  refine RW.call rfl rfl rfl enters124 (laws_szShardCell_ok (ty204_shut x0.Cell (ty72.ext hS11.ext h3) (ty202.ext hS11.ext h6)) hx13) (fun v14 w15 hR16 => ?_)
  obtain ⟨rfl, hR17⟩ := hR16
  have hS18 := hS11.join hR17
  refine RW.run ttok 1 rfl ?_
  refine RW.nil ?_
  refine WP.seq ?_
  refine WP.seq ?_
  refine WP.region ?_
  refine RW.run ttok 2 rfl ?_
  refine RW.nil ?_
  refine WP.cond (decide (r12 < 0)) rfl (fun hc => ?_) (fun hc => ?_)
  · skip
    rw [if_pos hc] at hm
    refine WP.seq ?_
    refine WP.region ?_
    refine RW.run ttok 1 rfl ?_
    refine RW.nil ?_
    refine WP.ret ?_
    cases hm
    exact ⟨_, .cons (.tmp rfl) .nil, rfl, (hS18.taken 0)⟩
  · skip
    rw [if_neg (not_t hc)] at hm
    refine WP.skip ?_
    refine WP.seq ?_
    refine WP.region ?_
    refine RW.run ttok 2 rfl ?_
    refine RW.nil ?_
    refine WP.ret ?_
    cases hm
    exact ⟨_, .cons (.tmp rfl) .nil, rfl, (hS18.taken 0)⟩

theorem enters148 : Enters Try.prog 148 := ⟨_, _, Try.func148, rfl, by kernel_rfl⟩
def m_laws_szParcelS_j1 (fuel : Nat) (t2 : Int) : Option Int := some t2
def m_laws_szParcelS_b1 (fuel : Nat) (x0 : (List D.Parcel)) (s1 : Int × Int) : Option (Rd (Int × Int) (Int) (Int)) := (if (decide (s1.2 < (x0.length : Int))) = true then ((idx x0 s1.2).bind fun x17 => ((m_laws_szParcel fuel x17 s1.1).bind fun r30 => (if (decide (r30 < 0)) = true then some (.ret (-1)) else some (.next (r30, w64 (s1.2 + 1)))))) else some (.brk s1.1))
def m_laws_szParcelS (fuel : Nat) (x0 : (List D.Parcel)) (x1 : Int) : Option (Int) := (if (decide ((w64 (x1 - (x0.length : Int))) < 0)) = true then some (-1) else ((iter (m_laws_szParcelS_b1 fuel x0) fuel (w64 (x1 - (x0.length : Int)), 0)).bind fun o => aft o (m_laws_szParcelS_j1 fuel)))

set_option maxRecDepth 100000 in
theorem laws_szParcelS_ok {w : World} {A0_ : Option Addr} {k0_ : Nat} {x0 : (List D.Parcel)} {x1 : Int} (h0_ : ty237.ro w [.slice A0_ x0.length k0_] x0) {fuel : Nat} {r : Int} (hm : m_laws_szParcelS fuel x0 x1 = some r) :
    Calls Try.prog 148 ⟨[.slice A0_ x0.length k0_, .int .i64 x1]⟩ w (Ret fun v w8 => v = .int .i64 r ∧ St w w8 []) := by
  refine Calls.into Try.func148 rfl 27 rfl rfl _ rfl ?_
  unfold m_laws_szParcelS at hm
  have hS := St.start w
  refine WP.seq ?_
  refine WP.region ?_
  refine RW.run ttok 1 rfl ?_
  refine RW.nil ?_
  refine WP.seq ?_
  refine WP.region ?_
  refine RW.run ttok 5 rfl ?_
  refine RW.nil ?_
  refine WP.seq ?_
  refine WP.seq ?_
  refine WP.region ?_
  refine RW.run ttok 2 rfl ?_
  refine RW.nil ?_
  refine WP.cond (decide ((w64 (x1 - (x0.length : Int))) < 0)) rfl (fun hc => ?_) (fun hc => ?_)
  · skip
    rw [if_pos hc] at hm
    refine WP.seq ?_
    refine WP.region ?_
    refine RW.run ttok 1 rfl ?_
    refine RW.nil ?_
    refine WP.ret ?_
    cases hm
    exact ⟨_, .cons (.tmp rfl) .nil, rfl, (hS.taken 0)⟩
  · skip
    rw [if_neg (not_t hc)] at hm
    refine WP.skip ?_
    refine WP.seq ?_
    refine WP.seq ?_
    refine WP.region ?_
    refine RW.run ttok 1 rfl ?_
    refine RW.nil ?_
    obtain ⟨o8, hl9, hm⟩ := bind_some hm
    refine WP.cut (fun (t2 : Int) F w9 => o8 = .inl t2 ∧ Ext w w9 ∧ St w w9 [] ∧ F = [(1, .int .i64 t2)]) ?_ ?_
    · skip
      rintro t2 F w7 ⟨ho11, hE6, hS10, rfl⟩
      subst ho11
      rw [aft_inl] at hm
      unfold m_laws_szParcelS_j1 at hm
      refine WP.seq ?_
      refine WP.region ?_
      refine RW.run ttok 2 rfl ?_
      refine RW.nil ?_
      refine WP.ret ?_
      cases hm
      exact ⟨_, .cons (.tmp rfl) .nil, rfl, (hS10.taken 0)⟩
    · skip
      refine WP.block ?_
      refine WP.weak [(0, .slice A0_ x0.length k0_), (1, .int .i64 (w64 (x1 - (x0.length : Int)))), (5, .int .i64 0)] ⟨rfl, rfl, rfl, trivial⟩ ?_
      refine WP.iter (fun (s1 : Int × Int) F w9 => Ext w w9 ∧ St w w9 [] ∧ F = [(0, .slice A0_ x0.length k0_), (1, .int .i64 s1.1), (5, .int .i64 s1.2)]) _ hl9 ⟨(Ext.refl _), (hS.taken 0), rfl⟩ ?_
      rintro s1 F w16 _ o14 ⟨hE5, hS15, rfl⟩ hb12 ho13
      unfold m_laws_szParcelS_b1 at hb12
      refine WP.seq ?_
      refine WP.seq ?_
      refine WP.region ?_
      refine RW.run ttok 4 rfl ?_
      refine RW.nil ?_
      refine WP.cond (decide (s1.2 < (x0.length : Int))) rfl (fun hc => ?_) (fun hc => ?_)
      · skip
        rw [if_pos hc] at hb12
        refine WP.skip ?_
        refine WP.seq ?_
        refine WP.block ?_
        refine WP.seq ?_
        refine WP.region ?_
        refine RW.run ttok 2 rfl ?_
        obtain ⟨x17, hx18, hb12⟩ := bind_some hb12
        refine RW.idx ttok hS15.ext rfl rfl rfl rfl rfl rfl (by decide) rfl rfl h0_ (idx_some hx18).1 (idx_some hx18).2 rfl rfl (fun p19 es20 ha21 hr22 => ?_)
        obtain ⟨A23, k24, A26, k27, e29, h25, h28⟩ := ty276_open hr22; subst e29
        refine RW.loadN ttok rfl rfl rfl rfl rfl (At.ext hS15.ext ha21) rfl rfl rfl ?_
        refine RW.run ttok 1 rfl ?_
        obtain ⟨r30, hx31, hb12⟩ := bind_some hb12
        refine RW.call rfl rfl rfl enters181 (laws_szParcel_ok (ty276.ext hS15.ext hr22) hx31) (fun v32 w33 hR34 => ?_)
        obtain ⟨rfl, hR35⟩ := hR34
        have hS36 := hS15.join hR35
        refine RW.run ttok 1 rfl ?_
        refine RW.nil ?_
        refine WP.seq ?_
        refine WP.region ?_
        refine RW.run ttok 2 rfl ?_
        refine RW.nil ?_
        refine WP.cond (decide (r30 < 0)) rfl (fun hc => ?_) (fun hc => ?_)
        · skip
          rw [if_pos hc] at hb12
          refine WP.seq ?_
          refine WP.region ?_
          refine RW.run ttok 1 rfl ?_
          refine RW.nil ?_
          refine WP.ret ?_
          cases hb12
          cases ho13
          have hm : some _ = some _ := hm
          cases hm
          exact ⟨_, .cons (.tmp rfl) .nil, rfl, (hS36.taken 0)⟩
        · skip
          rw [if_neg (not_t hc)] at hb12
          refine WP.skip ?_
          refine WP.region ?_
          refine RW.run ttok 3 rfl ?_
          refine RW.nil ?_
          cases hb12
          exact ⟨_, [(0, .slice A0_ x0.length k0_), (1, .int .i64 r30), (5, .int .i64 (w64 (s1.2 + 1)))], ⟨rfl, rfl, rfl, trivial⟩, rfl, (hE5.trans hR35.ext), (hS36.taken 0), rfl⟩
      · skip
        rw [if_neg (not_t hc)] at hb12
        refine WP.exit ?_
        cases hb12
        exact ⟨_, [(1, .int .i64 s1.1)], ⟨rfl, trivial⟩, ho13, hE5, (hS15.taken 0), rfl⟩

theorem enters81 : Enters Try.prog 81 := ⟨_, _, Try.func81, rfl, by kernel_rfl⟩
def m_laws_szParcelSS_j1 (fuel : Nat) (t2 : Int) : Option Int := some t2
def m_laws_szParcelSS_b1 (fuel : Nat) (x0 : (List (List D.Parcel))) (s1 : Int × Int) : Option (Rd (Int × Int) (Int) (Int)) := (if (decide (s1.2 < (x0.length : Int))) = true then ((idx x0 s1.2).bind fun x17 => ((m_laws_szParcelS fuel x17 s1.1).bind fun r26 => (if (decide (r26 < 0)) = true then some (.ret (-1)) else some (.next (r26, w64 (s1.2 + 1)))))) else some (.brk s1.1))
def m_laws_szParcelSS (fuel : Nat) (x0 : (List (List D.Parcel))) (x1 : Int) : Option (Int) := (if (decide ((w64 (x1 - (x0.length : Int))) < 0)) = true then some (-1) else ((iter (m_laws_szParcelSS_b1 fuel x0) fuel (w64 (x1 - (x0.length : Int)), 0)).bind fun o => aft o (m_laws_szParcelSS_j1 fuel)))

set_option maxRecDepth 100000 in
theorem laws_szParcelSS_ok {w : World} {A0_ : Option Addr} {k0_ : Nat} {x0 : (List (List D.Parcel))} {x1 : Int} (h0_ : ty70.ro w [.slice A0_ x0.length k0_] x0) {fuel : Nat} {r : Int} (hm : m_laws_szParcelSS fuel x0 x1 = some r) :
    Calls Try.prog 81 ⟨[.slice A0_ x0.length k0_, .int .i64 x1]⟩ w (Ret fun v w8 => v = .int .i64 r ∧ St w w8 []) := by
  refine Calls.into Try.func81 rfl 27 rfl rfl _ rfl ?_
  unfold m_laws_szParcelSS at hm
  have hS := St.start w
  refine WP.seq ?_
  refine WP.region ?_
  refine RW.run ttok 1 rfl ?_
  refine RW.nil ?_
  refine WP.seq ?_
  refine WP.region ?_
  refine RW.run ttok 5 rfl ?_
  refine RW.nil ?_
  refine WP.seq ?_
  refine WP.seq ?_
  refine WP.region ?_
  refine RW.run ttok 2 rfl ?_
  refine RW.nil ?_
  refine WP.cond (decide ((w64 (x1 - (x0.length : Int))) < 0)) rfl (fun hc => ?_) (fun hc => ?_)
  · skip
    rw [if_pos hc] at hm
    refine WP.seq ?_
    refine WP.region ?_
    refine RW.run ttok 1 rfl ?_
    refine RW.nil ?_
    refine WP.ret ?_
    cases hm
    exact ⟨_, .cons (.tmp rfl) .nil, rfl, (hS.taken 0)⟩
  · skip
    rw [if_neg (not_t hc)] at hm
    refine WP.skip ?_
    refine WP.seq ?_
    refine WP.seq ?_
    refine WP.region ?_
    refine RW.run ttok 1 rfl ?_
    refine RW.nil ?_
    obtain ⟨o8, hl9, hm⟩ := bind_some hm
    refine WP.cut (fun (t2 : Int) F w9 => o8 = .inl t2 ∧ Ext w w9 ∧ St w w9 [] ∧ F = [(1, .int .i64 t2)]) ?_ ?_
    · skip
      rintro t2 F w7 ⟨ho11, hE6, hS10, rfl⟩
      subst ho11
      rw [aft_inl] at hm
      unfold m_laws_szParcelSS_j1 at hm
      refine WP.seq ?_
      refine WP.region ?_
      refine RW.run ttok 2 rfl ?_
      refine RW.nil ?_
      refine WP.ret ?_
      cases hm
      exact ⟨_, .cons (.tmp rfl) .nil, rfl, (hS10.taken 0)⟩
    · skip
      refine WP.block ?_
      refine WP.weak [(0, .slice A0_ x0.length k0_), (1, .int .i64 (w64 (x1 - (x0.length : Int)))), (5, .int .i64 0)] ⟨rfl, rfl, rfl, trivial⟩ ?_
      refine WP.iter (fun (s1 : Int × Int) F w9 => Ext w w9 ∧ St w w9 [] ∧ F = [(0, .slice A0_ x0.length k0_), (1, .int .i64 s1.1), (5, .int .i64 s1.2)]) _ hl9 ⟨(Ext.refl _), (hS.taken 0), rfl⟩ ?_
      rintro s1 F w16 _ o14 ⟨hE5, hS15, rfl⟩ hb12 ho13
      unfold m_laws_szParcelSS_b1 at hb12
      refine WP.seq ?_
      refine WP.seq ?_
      refine WP.region ?_
      refine RW.run ttok 4 rfl ?_
      refine RW.nil ?_
      refine WP.cond (decide (s1.2 < (x0.length : Int))) rfl (fun hc => ?_) (fun hc => ?_)
      · skip
        rw [if_pos hc] at hb12
        refine WP.skip ?_
        refine WP.seq ?_
        refine WP.block ?_
        refine WP.seq ?_
        refine WP.region ?_
        refine RW.run ttok 2 rfl ?_
        obtain ⟨x17, hx18, hb12⟩ := bind_some hb12
        refine RW.idx ttok hS15.ext rfl rfl rfl rfl rfl rfl (by decide) rfl rfl h0_ (idx_some hx18).1 (idx_some hx18).2 rfl rfl (fun p19 es20 ha21 hr22 => ?_)
        obtain ⟨A23, k24, e25⟩ := ty237_form hr22; subst e25
        refine RW.load1 ttok rfl rfl rfl rfl rfl (At.ext hS15.ext ha21) 0 rfl rfl rfl rfl ?_
        refine RW.run ttok 1 rfl ?_
        obtain ⟨r26, hx27, hb12⟩ := bind_some hb12
        refine RW.call rfl rfl rfl enters148 (laws_szParcelS_ok (ty237.ext hS15.ext hr22) hx27) (fun v28 w29 hR30 => ?_)
        obtain ⟨rfl, hR31⟩ := hR30
        have hS32 := hS15.join hR31
        refine RW.run ttok 1 rfl ?_
        refine RW.nil ?_
        refine WP.seq ?_
        refine WP.region ?_
        refine RW.run ttok 2 rfl ?_
        refine RW.nil ?_
        refine WP.cond (decide (r26 < 0)) rfl (fun hc => ?_) (fun hc => ?_)
        · skip
          rw [if_pos hc] at hb12
          refine WP.seq ?_
          refine WP.region ?_
          refine RW.run ttok 1 rfl ?_
          refine RW.nil ?_
          refine WP.ret ?_
          cases hb12
          cases ho13
          have hm : some _ = some _ := hm
          cases hm
          exact ⟨_, .cons (.tmp rfl) .nil, rfl, (hS32.taken 0)⟩
        · skip
          rw [if_neg (not_t hc)] at hb12
          refine WP.skip ?_
          refine WP.region ?_
          refine RW.run ttok 3 rfl ?_
          refine RW.nil ?_
          cases hb12
          exact ⟨_, [(0, .slice A0_ x0.length k0_), (1, .int .i64 r26), (5, .int .i64 (w64 (s1.2 + 1)))], ⟨rfl, rfl, rfl, trivial⟩, rfl, (hE5.trans hR31.ext), (hS32.taken 0), rfl⟩
      · skip
        rw [if_neg (not_t hc)] at hb12
        refine WP.exit ?_
        cases hb12
        exact ⟨_, [(1, .int .i64 s1.1)], ⟨rfl, trivial⟩, ho13, hE5, (hS15.taken 0), rfl⟩

theorem enters82 : Enters Try.prog 82 := ⟨_, _, Try.func82, rfl, by kernel_rfl⟩
def m_laws_szInt64SS_j1 (fuel : Nat) (t2 : Int) : Option Int := some t2
def m_laws_szInt64SS_b1 (fuel : Nat) (x0 : (List (List Int))) (s1 : Int × Int) : Option (Rd (Int × Int) (Int) (Int)) := (if (decide (s1.2 < (x0.length : Int))) = true then ((idx x0 s1.2).bind fun x17 => ((m_laws_szInt64S fuel x17 s1.1).bind fun r26 => (if (decide (r26 < 0)) = true then some (.ret (-1)) else some (.next (r26, w64 (s1.2 + 1)))))) else some (.brk s1.1))
def m_laws_szInt64SS (fuel : Nat) (x0 : (List (List Int))) (x1 : Int) : Option (Int) := (if (decide ((w64 (x1 - (x0.length : Int))) < 0)) = true then some (-1) else ((iter (m_laws_szInt64SS_b1 fuel x0) fuel (w64 (x1 - (x0.length : Int)), 0)).bind fun o => aft o (m_laws_szInt64SS_j1 fuel)))

set_option maxRecDepth 100000 in
theorem laws_szInt64SS_ok {w : World} {A0_ : Option Addr} {k0_ : Nat} {x0 : (List (List Int))} {x1 : Int} (h0_ : ty71.ro w [.slice A0_ x0.length k0_] x0) {fuel : Nat} {r : Int} (hm : m_laws_szInt64SS fuel x0 x1 = some r) :
    Calls Try.prog 82 ⟨[.slice A0_ x0.length k0_, .int .i64 x1]⟩ w (Ret fun v w8 => v = .int .i64 r ∧ St w w8 []) := by
  refine Calls.into Try.func82 rfl 27 rfl rfl _ rfl ?_
  unfold m_laws_szInt64SS at hm
  have hS := St.start w
  refine WP.seq ?_
  refine WP.region ?_
  refine RW.run ttok 1 rfl ?_
  refine RW.nil ?_
  refine WP.seq ?_
  refine WP.region ?_
  refine RW.run ttok 5 rfl ?_
  refine RW.nil ?_
  refine WP.seq ?_
  refine WP.seq ?_
  refine WP.region ?_
  refine RW.run ttok 2 rfl ?_
  refine RW.nil ?_
  refine WP.cond (decide ((w64 (x1 - (x0.length : Int))) < 0)) rfl (fun hc => ?_) (fun hc => ?_)
  · skip
    rw [if_pos hc] at hm
    refine WP.seq ?_
    refine WP.region ?_
    refine RW.run ttok 1 rfl ?_
    refine RW.nil ?_
    refine WP.ret ?_
    cases hm
    exact ⟨_, .cons (.tmp rfl) .nil, rfl, (hS.taken 0)⟩
  · skip
    rw [if_neg (not_t hc)] at hm
    refine WP.skip ?_
    refine WP.seq ?_
    refine WP.seq ?_
    refine WP.region ?_
    refine RW.run ttok 1 rfl ?_
    refine RW.nil ?_
    obtain ⟨o8, hl9, hm⟩ := bind_some hm
    refine WP.cut (fun (t2 : Int) F w9 => o8 = .inl t2 ∧ Ext w w9 ∧ St w w9 [] ∧ F = [(1, .int .i64 t2)]) ?_ ?_
    · skip
      rintro t2 F w7 ⟨ho11, hE6, hS10, rfl⟩
      subst ho11
      rw [aft_inl] at hm
      unfold m_laws_szInt64SS_j1 at hm
      refine WP.seq ?_
      refine WP.region ?_
      refine RW.run ttok 2 rfl ?_
      refine RW.nil ?_
      refine WP.ret ?_
      cases hm
      exact ⟨_, .cons (.tmp rfl) .nil, rfl, (hS10.taken 0)⟩
    · skip
      refine WP.block ?_
      refine WP.weak [(0, .slice A0_ x0.length k0_), (1, .int .i64 (w64 (x1 - (x0.length : Int)))), (5, .int .i64 0)] ⟨rfl, rfl, rfl, trivial⟩ ?_
      refine WP.iter (fun (s1 : Int × Int) F w9 => Ext w w9 ∧ St w w9 [] ∧ F = [(0, .slice A0_ x0.length k0_), (1, .int .i64 s1.1), (5, .int .i64 s1.2)]) _ hl9 ⟨(Ext.refl _), (hS.taken 0), rfl⟩ ?_
      rintro s1 F w16 _ o14 ⟨hE5, hS15, rfl⟩ hb12 ho13
      unfold m_laws_szInt64SS_b1 at hb12
      refine WP.seq ?_
      refine WP.seq ?_
      refine WP.region ?_
      refine RW.run ttok 4 rfl ?_
      refine RW.nil ?_
      refine WP.cond (decide (s1.2 < (x0.length : Int))) rfl (fun hc => ?_) (fun hc => ?_)
      · skip
        rw [if_pos hc] at hb12
        refine WP.skip ?_
        refine WP.seq ?_
        refine WP.block ?_
        refine WP.seq ?_
        refine WP.region ?_
        refine RW.run ttok 2 rfl ?_
        obtain ⟨x17, hx18, hb12⟩ := bind_some hb12
        refine RW.idx ttok hS15.ext rfl rfl rfl rfl rfl rfl (by decide) rfl rfl h0_ (idx_some hx18).1 (idx_some hx18).2 rfl rfl (fun p19 es20 ha21 hr22 => ?_)
        obtain ⟨A23, k24, e25⟩ := ty72_form hr22; subst e25
        refine RW.load1 ttok rfl rfl rfl rfl rfl (At.ext hS15.ext ha21) 0 rfl rfl rfl rfl ?_
        refine RW.run ttok 1 rfl ?_
        obtain ⟨r26, hx27, hb12⟩ := bind_some hb12
        refine RW.call rfl rfl rfl enters83 (laws_szInt64S_ok (ty72.ext hS15.ext hr22) hx27) (fun v28 w29 hR30 => ?_)
        obtain ⟨rfl, hR31⟩ := hR30
        have hS32 := hS15.join hR31
        refine RW.run ttok 1 rfl ?_
        refine RW.nil ?_
        refine WP.seq ?_
        refine WP.region ?_
        refine RW.run ttok 2 rfl ?_
        refine RW.nil ?_
        refine WP.cond (decide (r26 < 0)) rfl (fun hc => ?_) (fun hc => ?_)
        · skip
          rw [if_pos hc] at hb12
          refine WP.seq ?_
          refine WP.region ?_
          refine RW.run ttok 1 rfl ?_
          refine RW.nil ?_
          refine WP.ret ?_
          cases hb12
          cases ho13
          have hm : some _ = some _ := hm
          cases hm
          exact ⟨_, .cons (.tmp rfl) .nil, rfl, (hS32.taken 0)⟩
        · skip
          rw [if_neg (not_t hc)] at hb12
          refine WP.skip ?_
          refine WP.region ?_
          refine RW.run ttok 3 rfl ?_
          refine RW.nil ?_
          cases hb12
          exact ⟨_, [(0, .slice A0_ x0.length k0_), (1, .int .i64 r26), (5, .int .i64 (w64 (s1.2 + 1)))], ⟨rfl, rfl, rfl, trivial⟩, rfl, (hE5.trans hR31.ext), (hS32.taken 0), rfl⟩
      · skip
        rw [if_neg (not_t hc)] at hb12
        refine WP.exit ?_
        cases hb12
        exact ⟨_, [(1, .int .i64 s1.1)], ⟨rfl, trivial⟩, ho13, hE5, (hS15.taken 0), rfl⟩

theorem enters26 : Enters Try.prog 26 := ⟨_, _, Try.func26, rfl, by kernel_rfl⟩
def m_laws_szCluster (fuel : Nat) (x0 : D.Cluster) (x1 : Int) : Option (Int) := ((m_laws_szGrid fuel x0.Grid x1).bind fun r21 => (if (decide (r21 < 0)) = true then some (-1) else ((m_laws_szParcelSS fuel x0.Channels r21).bind fun r28 => (if (decide (r28 < 0)) = true then some (-1) else ((m_laws_szInt64SS fuel x0.Counts r28).bind fun r35 => (if (decide (r35 < 0)) = true then some (-1) else ((m_laws_szInt64S fuel x0.Sent r35).bind fun r42 => (if (decide (r42 < 0)) = true then some (-1) else ((m_laws_szInt64S fuel x0.Got r42).bind fun r49 => (if (decide (r49 < 0)) = true then some (-1) else some r49))))))))))

set_option maxRecDepth 100000 in
theorem laws_szCluster_ok {w : World} {c0_ : List Value} {x0 : D.Cluster} {x1 : Int} (h0_ : ty74.ro w c0_ x0) {fuel : Nat} {r : Int} (hm : m_laws_szCluster fuel x0 x1 = some r) :
    Calls Try.prog 26 ⟨[.agg ⟨c0_⟩, .int .i64 x1]⟩ w (Ret fun v w8 => v = .int .i64 r ∧ St w w8 []) := by
  obtain ⟨A1, k2, A4, k5, A7, k8, A10, k11, A13, k14, e16, h3, h6, h9, h12, h15⟩ := ty74_open h0_; subst e16
  refine Calls.into Try.func26 rfl 36 rfl rfl _ rfl ?_
  unfold m_laws_szCluster at hm
  have hS := St.start w
  refine WP.seq ?_
  refine WP.region ?_
  refine RW.new ttok hS rfl rfl rfl rfl (fun g17 w18 e19 hS20 => ?_)
  refine RW.run ttok 1 rfl ?_
  refine RW.nil ?_
  refine WP.seq ?_
  refine WP.region ?_
  refine RW.run ttok 1 rfl ?_
  refine RW.loadN ttok rfl rfl rfl rfl rfl (At.sub ((hS20.bring 0 rfl).box) 0 4) rfl rfl rfl ?_
  refine RW.run ttok 1 rfl ?_
  obtain ⟨r21, hx22, hm⟩ := bind_some hm
  refine RW.call rfl rfl rfl enters16 (laws_szGrid_ok (ty40_shut x0.Grid (ty36.ext hS20.ext h3)) hx22) (fun v23 w24 hR25 => ?_)
  obtain ⟨rfl, hR26⟩ := hR25
  have hS27 := hS20.join hR26
  refine RW.run ttok 1 rfl ?_
  refine RW.nil ?_
  refine WP.seq ?_
  refine WP.seq ?_
  refine WP.region ?_
  refine RW.run ttok 2 rfl ?_
  refine RW.nil ?_
  refine WP.cond (decide (r21 < 0)) rfl (fun hc => ?_) (fun hc => ?_)
  · skip
    rw [if_pos hc] at hm
    refine WP.seq ?_
    refine WP.region ?_
    refine RW.run ttok 1 rfl ?_
    refine RW.nil ?_
    refine WP.ret ?_
    cases hm
    exact ⟨_, .cons (.tmp rfl) .nil, rfl, (hS27.taken 0)⟩
  · skip
    rw [if_neg (not_t hc)] at hm
    refine WP.skip ?_
    refine WP.seq ?_
    refine WP.region ?_
    refine RW.run ttok 1 rfl ?_
    refine RW.load1 ttok rfl rfl rfl rfl rfl ((hS27.bring 0 rfl).box) 4 rfl rfl rfl rfl ?_
    refine RW.run ttok 1 rfl ?_
    obtain ⟨r28, hx29, hm⟩ := bind_some hm
    refine RW.call rfl rfl rfl enters81 (laws_szParcelSS_ok (ty70.ext hS27.ext h6) hx29) (fun v30 w31 hR32 => ?_)
    obtain ⟨rfl, hR33⟩ := hR32
    have hS34 := hS27.join hR33
    refine RW.run ttok 1 rfl ?_
    refine RW.nil ?_
    refine WP.seq ?_
    refine WP.seq ?_
    refine WP.region ?_
    refine RW.run ttok 2 rfl ?_
    refine RW.nil ?_
    refine WP.cond (decide (r28 < 0)) rfl (fun hc => ?_) (fun hc => ?_)
    · skip
      rw [if_pos hc] at hm
      refine WP.seq ?_
      refine WP.region ?_
      refine RW.run ttok 1 rfl ?_
      refine RW.nil ?_
      refine WP.ret ?_
      cases hm
      exact ⟨_, .cons (.tmp rfl) .nil, rfl, (hS34.taken 0)⟩
    · skip
      rw [if_neg (not_t hc)] at hm
      refine WP.skip ?_
      refine WP.seq ?_
      refine WP.region ?_
      refine RW.run ttok 1 rfl ?_
      refine RW.load1 ttok rfl rfl rfl rfl rfl ((hS34.bring 0 rfl).box) 5 rfl rfl rfl rfl ?_
      refine RW.run ttok 1 rfl ?_
      obtain ⟨r35, hx36, hm⟩ := bind_some hm
      refine RW.call rfl rfl rfl enters82 (laws_szInt64SS_ok (ty71.ext hS34.ext h9) hx36) (fun v37 w38 hR39 => ?_)
      obtain ⟨rfl, hR40⟩ := hR39
      have hS41 := hS34.join hR40
      refine RW.run ttok 1 rfl ?_
      refine RW.nil ?_
      refine WP.seq ?_
      refine WP.seq ?_
      refine WP.region ?_
      refine RW.run ttok 2 rfl ?_
      refine RW.nil ?_
      refine WP.cond (decide (r35 < 0)) rfl (fun hc => ?_) (fun hc => ?_)
      · skip
        rw [if_pos hc] at hm
        refine WP.seq ?_
        refine WP.region ?_
        refine RW.run ttok 1 rfl ?_
        refine RW.nil ?_
        refine WP.ret ?_
        cases hm
        exact ⟨_, .cons (.tmp rfl) .nil, rfl, (hS41.taken 0)⟩
      · skip
        rw [if_neg (not_t hc)] at hm
        refine WP.skip ?_
        refine WP.seq ?_
        refine WP.region ?_
        refine RW.run ttok 1 rfl ?_
        refine RW.load1 ttok rfl rfl rfl rfl rfl ((hS41.bring 0 rfl).box) 6 rfl rfl rfl rfl ?_
        refine RW.run ttok 1 rfl ?_
        obtain ⟨r42, hx43, hm⟩ := bind_some hm
        refine RW.call rfl rfl rfl enters83 (laws_szInt64S_ok (ty72.ext hS41.ext h12) hx43) (fun v44 w45 hR46 => ?_)
        obtain ⟨rfl, hR47⟩ := hR46
        have hS48 := hS41.join hR47
        refine RW.run ttok 1 rfl ?_
        refine RW.nil ?_
        refine WP.seq ?_
        refine WP.seq ?_
        refine WP.region ?_
        refine RW.run ttok 2 rfl ?_
        refine RW.nil ?_
        refine WP.cond (decide (r42 < 0)) rfl (fun hc => ?_) (fun hc => ?_)
        · skip
          rw [if_pos hc] at hm
          refine WP.seq ?_
          refine WP.region ?_
          refine RW.run ttok 1 rfl ?_
          refine RW.nil ?_
          refine WP.ret ?_
          cases hm
          exact ⟨_, .cons (.tmp rfl) .nil, rfl, (hS48.taken 0)⟩
        · skip
          rw [if_neg (not_t hc)] at hm
          refine WP.skip ?_
          refine WP.seq ?_
          refine WP.region ?_
          refine RW.run ttok 1 rfl ?_
          refine RW.load1 ttok rfl rfl rfl rfl rfl ((hS48.bring 0 rfl).box) 7 rfl rfl rfl rfl ?_
          refine RW.run ttok 1 rfl ?_
          obtain ⟨r49, hx50, hm⟩ := bind_some hm
          refine RW.call rfl rfl rfl enters83 (laws_szInt64S_ok (ty72.ext hS48.ext h15) hx50) (fun v51 w52 hR53 => ?_)
          obtain ⟨rfl, hR54⟩ := hR53
          have hS55 := hS48.join hR54
          refine RW.run ttok 1 rfl ?_
          refine RW.nil ?_
          refine WP.seq ?_
          refine WP.seq ?_
          refine WP.region ?_
          refine RW.run ttok 2 rfl ?_
          refine RW.nil ?_
          refine WP.cond (decide (r49 < 0)) rfl (fun hc => ?_) (fun hc => ?_)
          · skip
            rw [if_pos hc] at hm
            refine WP.seq ?_
            refine WP.region ?_
            refine RW.run ttok 1 rfl ?_
            refine RW.nil ?_
            refine WP.ret ?_
            cases hm
            exact ⟨_, .cons (.tmp rfl) .nil, rfl, (hS55.taken 0)⟩
          · skip
            rw [if_neg (not_t hc)] at hm
            refine WP.skip ?_
            refine WP.seq ?_
            refine WP.region ?_
            refine RW.run ttok 2 rfl ?_
            refine RW.nil ?_
            refine WP.ret ?_
            cases hm
            exact ⟨_, .cons (.tmp rfl) .nil, rfl, (hS55.taken 0)⟩

theorem enters182 : Enters Try.prog 182 := ⟨_, _, Try.func182, rfl, by kernel_rfl⟩
def m_laws_toParcel (fuel : Nat) (x0 : D.Parcel) : Option (D.Parcel) := ((m_laws_toShardCell fuel x0.Cell).bind fun r23 => ((m_laws_toAddress fuel x0.A).bind fun r37 => ((m_laws_toAddress fuel x0.B).bind fun r47 => some (⟨x0.Kind, (⟨r23.Kind, r23.Level, r23.Value, r23.Data, r23.Aux⟩ : D.ShardCell), (⟨r37.Machine, r37.Kind, r37.Index⟩ : D.Address), (⟨r47.Machine, r47.Kind, r47.Index⟩ : D.Address)⟩ : D.Parcel))))

set_option maxRecDepth 100000 in
theorem laws_toParcel_ok {w : World} {c0_ : List Value} {x0 : D.Parcel} (h0_ : ty276.ro w c0_ x0) {fuel : Nat} {r : D.Parcel} (hm : m_laws_toParcel fuel x0 = some r) :
    Calls Try.prog 182 ⟨[.agg ⟨c0_⟩]⟩ w (Ret fun v w8 => ∃ A0 k0 A1 k1, v = .agg ⟨[.int .i64 r.Kind, .int .i64 r.Cell.Kind, .int .i64 r.Cell.Level, .int .i64 r.Cell.Value, .slice A0 r.Cell.Data.length k0, .slice A1 r.Cell.Aux.length k1, .int .i64 r.A.Machine, .int .i64 r.A.Kind, .int .i64 r.A.Index, .int .i64 r.B.Machine, .int .i64 r.B.Kind, .int .i64 r.B.Index]⟩ ∧ St w w8 [Own ty72 [.slice A0 r.Cell.Data.length k0] r.Cell.Data, Own ty121 [.slice A1 r.Cell.Aux.length k1] r.Cell.Aux]) := by
  obtain ⟨A1, k2, A4, k5, e7, h3, h6⟩ := ty276_open h0_; subst e7
  refine Calls.into Try.func182 rfl 20 rfl rfl _ rfl ?_
  unfold m_laws_toParcel at hm
  have hS := St.start w
  refine WP.seq ?_
  refine WP.region ?_
  refine RW.new ttok hS rfl rfl rfl rfl (fun g8 w9 e10 hS11 => ?_)
  refine RW.new ttok hS11 rfl rfl rfl rfl (fun g12 w13 e14 hS15 => ?_)
  refine RW.nil ?_
  refine WP.seq ?_
  refine WP.region ?_
  refine RW.new ttok hS15 rfl rfl rfl rfl (fun g16 w17 e18 hS19 => ?_)
  refine RW.nil ?_
  refine WP.seq ?_
  refine WP.region ?_
  refine RW.run ttok 1 rfl ?_
  refine RW.load1 ttok rfl rfl rfl rfl rfl ((hS19.bring 2 rfl).box) 0 rfl rfl rfl rfl ?_
  refine RW.run ttok 1 rfl ?_
  have hS20 := hS19.bring 0 rfl
  refine RW.store ttok (A := []) hS20 rfl rfl rfl rfl rfl 0 rfl rfl rfl rfl rfl (fun w21 hS22 => ?_)
  refine RW.nil ?_
  refine WP.seq ?_
  refine WP.region ?_
  refine RW.run ttok 1 rfl ?_
  refine RW.loadN ttok rfl rfl rfl rfl rfl (At.sub ((hS22.bring 2 rfl).box) 1 5) rfl rfl rfl ?_
  obtain ⟨r23, hx24, hm⟩ := bind_some hm
  refine RW.call rfl rfl rfl enters126 (laws_toShardCell_ok (ty204_shut x0.Cell (ty72.ext hS22.ext h3) (ty202.ext hS22.ext h6)) hx24) (fun v25 w26 hR27 => ?_)
  obtain ⟨A28, k29, A30, k31, rfl, hR32⟩ := hR27
  have hS33 := hS22.join hR32
  refine RW.run ttok 1 rfl ?_
  have hS34 := hS33.bring 2 rfl
  refine RW.store ttok (A := []) hS34 rfl rfl rfl rfl rfl 1 rfl rfl rfl rfl rfl (fun w35 hS36 => ?_)
  refine RW.nil ?_
  refine WP.seq ?_
  refine WP.region ?_
  refine RW.run ttok 1 rfl ?_
  refine RW.loadN ttok rfl rfl rfl rfl rfl (At.sub ((hS36.bring 4 rfl).box) 6 3) rfl rfl rfl ?_
  obtain ⟨r37, hx38, hm⟩ := bind_some hm
  refine RW.call rfl rfl rfl enters64 (laws_toAddress_ok (ty38_shut x0.A) hx38) (fun v39 w40 hR41 => ?_)
  obtain ⟨rfl, hR42⟩ := hR41
  have hS43 := hS36.join hR42
  refine RW.run ttok 1 rfl ?_
  have hS44 := hS43.bring 0 rfl
  refine RW.store ttok (A := []) hS44 rfl rfl rfl rfl rfl 6 rfl rfl rfl rfl rfl (fun w45 hS46 => ?_)
  refine RW.nil ?_
  refine WP.seq ?_
  refine WP.region ?_
  refine RW.run ttok 1 rfl ?_
  refine RW.loadN ttok rfl rfl rfl rfl rfl (At.sub ((hS46.bring 4 rfl).box) 9 3) rfl rfl rfl ?_
  obtain ⟨r47, hx48, hm⟩ := bind_some hm
  refine RW.call rfl rfl rfl enters64 (laws_toAddress_ok (ty38_shut x0.B) hx48) (fun v49 w50 hR51 => ?_)
  obtain ⟨rfl, hR52⟩ := hR51
  have hS53 := hS46.join hR52
  refine RW.run ttok 1 rfl ?_
  have hS54 := hS53.bring 0 rfl
  refine RW.store ttok (A := []) hS54 rfl rfl rfl rfl rfl 9 rfl rfl rfl rfl rfl (fun w55 hS56 => ?_)
  refine RW.nil ?_
  refine WP.seq ?_
  refine WP.region ?_
  refine RW.loadN ttok rfl rfl rfl rfl rfl ((hS56.bring 0 rfl).box) rfl rfl rfl ?_
  have hS57 := hS56.bring 3 rfl
  refine RW.store ttok (A := []) hS57 rfl rfl rfl rfl rfl 0 rfl rfl rfl rfl rfl (fun w58 hS59 => ?_)
  refine RW.nil ?_
  refine WP.ret ?_
  cases hm
  exact ⟨_, .cons (ResIs.agg ttok rfl rfl rfl ((hS59.bring 0 rfl).box) rfl) .nil, A28, k29, A30, k31, rfl, (((hS59.bring 3 rfl).bring 3 rfl).taken 2)⟩

theorem enters150 : Enters Try.prog 150 := ⟨_, _, Try.func150, rfl, by kernel_rfl⟩
def m_laws_toParcelS_j1 (fuel : Nat) (t9 : (List D.Parcel)) : Option (List D.Parcel) := some t9
def m_laws_toParcelS_b1 (fuel : Nat) (x0 : (List D.Parcel)) (s8 : Int × (List D.Parcel)) : Option (Rd (Int × (List D.Parcel)) ((List D.Parcel)) ((List D.Parcel))) := (if (decide (s8.1 < (x0.length : Int))) = true then ((idx x0 s8.1).bind fun x27 => ((m_laws_toParcel fuel x27).bind fun r40 => (if decide (0 ≤ s8.1 ∧ s8.1.toNat < s8.2.length) = true then some (.next (w64 (s8.1 + 1), (s8.2.set s8.1.toNat r40))) else none))) else some (.brk s8.2))
def m_laws_toParcelS (fuel : Nat) (x0 : (List D.Parcel)) : Option ((List D.Parcel)) := (if decide (0 ≤ (x0.length : Int) ∧ (x0.length : Int) ≤ 4294967296) = true then ((iter (m_laws_toParcelS_b1 fuel x0) fuel (0, (List.replicate (x0.length : Int).toNat (⟨(0 : Int), (⟨(0 : Int), (0 : Int), (0 : Int), ([] : (List Int)), ([] : (List D.Address))⟩ : D.ShardCell), (⟨(0 : Int), (0 : Int), (0 : Int)⟩ : D.Address), (⟨(0 : Int), (0 : Int), (0 : Int)⟩ : D.Address)⟩ : D.Parcel)))).bind fun o => aft o (m_laws_toParcelS_j1 fuel)) else none)

set_option maxRecDepth 100000 in
theorem laws_toParcelS_ok {w : World} {A0_ : Option Addr} {k0_ : Nat} {x0 : (List D.Parcel)} (h0_ : ty237.ro w [.slice A0_ x0.length k0_] x0) {fuel : Nat} {r : (List D.Parcel)} (hm : m_laws_toParcelS fuel x0 = some r) :
    Calls Try.prog 150 ⟨[.slice A0_ x0.length k0_]⟩ w (Ret fun v w8 => ∃ A0 k0, v = .slice A0 r.length k0 ∧ St w w8 [Own ty171 [.slice A0 r.length k0] r]) := by
  refine Calls.into Try.func150 rfl 23 rfl rfl _ rfl ?_
  unfold m_laws_toParcelS at hm
  have hS := St.start w
  refine WP.seq ?_
  refine WP.region ?_
  refine RW.run ttok 1 rfl ?_
  refine RW.nil ?_
  refine WP.seq ?_
  refine WP.region ?_
  refine RW.run ttok 2 rfl ?_
  by_cases hk1 : decide (0 ≤ (x0.length : Int) ∧ (x0.length : Int) ≤ 4294967296) = true
  case neg => rw [if_neg hk1] at hm; cases hm
  rw [if_pos hk1] at hm
  have hz7 := of_decide_eq_true hk1
  refine RW.make (U := ty241) ttok (⟨(0 : Int), (⟨(0 : Int), (0 : Int), (0 : Int), ([] : (List Int)), ([] : (List D.Address))⟩ : D.ShardCell), (⟨(0 : Int), (0 : Int), (0 : Int)⟩ : D.Address), (⟨(0 : Int), (0 : Int), (0 : Int)⟩ : D.Address)⟩ : D.Parcel) hS rfl rfl rfl rfl rfl rfl rfl rfl hz7.1 (by have := hz7.2; show _ * (128 : Int) ≤ _; omega) (by have := hz7.2; simp only [maxLen]; omega) (fun _ => (ty241_ownI (c := (⟨(0 : Int), (⟨(0 : Int), (0 : Int), (0 : Int), ([] : (List Int)), ([] : (List D.Address))⟩ : D.ShardCell), (⟨(0 : Int), (0 : Int), (0 : Int)⟩ : D.Address), (⟨(0 : Int), (0 : Int), (0 : Int)⟩ : D.Address)⟩ : D.Parcel)) ⟨[], [], rfl, (slNilOwn tInt 2 _), ⟨[], [], rfl, (slNilOwn ty44 44 _), rfl⟩⟩)) rfl rfl (fun A2 k3 w4 e5 hS6 => ?_)
  refine RW.run ttok 1 rfl ?_
  refine RW.nil ?_
  refine WP.seq ?_
  refine WP.seq ?_
  refine WP.region ?_
  refine RW.run ttok 1 rfl ?_
  refine RW.nil ?_
  obtain ⟨o18, hl19, hm⟩ := bind_some hm
  refine WP.cut (fun (t9 : (List D.Parcel)) F w9 => ∃ A15 k16, o18 = .inl t9 ∧ St w w9 [Own ty171 [.slice A15 t9.length k16] t9] ∧ F = [(3, .slice A15 t9.length k16)]) ?_ ?_
  · skip
    rintro t9 F w17 ⟨A15, k16, ho21, hS20, rfl⟩
    subst ho21
    rw [aft_inl] at hm
    unfold m_laws_toParcelS_j1 at hm
    refine WP.seq ?_
    refine WP.region ?_
    refine RW.run ttok 2 rfl ?_
    refine RW.nil ?_
    refine WP.ret ?_
    cases hm
    exact ⟨_, .cons (.tmp rfl) .nil, A15, k16, rfl, ((hS20.bring 0 rfl).taken 1)⟩
  · skip
    refine WP.block ?_
    refine WP.weak [(0, .slice A0_ x0.length k0_), (3, .slice A2 (List.replicate (x0.length : Int).toNat (⟨(0 : Int), (⟨(0 : Int), (0 : Int), (0 : Int), ([] : (List Int)), ([] : (List D.Address))⟩ : D.ShardCell), (⟨(0 : Int), (0 : Int), (0 : Int)⟩ : D.Address), (⟨(0 : Int), (0 : Int), (0 : Int)⟩ : D.Address)⟩ : D.Parcel)).length k3), (4, .int .i64 0)] ⟨rfl, rfl, rfl, trivial⟩ ?_
    refine WP.iter (fun (s8 : Int × (List D.Parcel)) F w9 => ∃ A13 k14, St w w9 [Own ty171 [.slice A13 s8.2.length k14] s8.2] ∧ F = [(0, .slice A0_ x0.length k0_), (3, .slice A13 s8.2.length k14), (4, .int .i64 s8.1)]) _ hl19 ⟨A2, k3, ((hS6.bring 0 rfl).taken 1), rfl⟩ ?_
    rintro s8 F w26 _ o24 ⟨A13, k14, hS25, rfl⟩ hb22 ho23
    unfold m_laws_toParcelS_b1 at hb22
    refine WP.seq ?_
    refine WP.seq ?_
    refine WP.region ?_
    refine RW.run ttok 4 rfl ?_
    refine RW.nil ?_
    refine WP.cond (decide (s8.1 < (x0.length : Int))) rfl (fun hc => ?_) (fun hc => ?_)
    · skip
      rw [if_pos hc] at hb22
      refine WP.skip ?_
      refine WP.seq ?_
      refine WP.block ?_
      refine WP.region ?_
      refine RW.run ttok 4 rfl ?_
      obtain ⟨x27, hx28, hb22⟩ := bind_some hb22
      refine RW.idx ttok hS25.ext rfl rfl rfl rfl rfl rfl (by decide) rfl rfl h0_ (idx_some hx28).1 (idx_some hx28).2 rfl rfl (fun p29 es30 ha31 hr32 => ?_)
      obtain ⟨A33, k34, A36, k37, e39, h35, h38⟩ := ty276_open hr32; subst e39
      refine RW.loadN ttok rfl rfl rfl rfl rfl (At.ext hS25.ext ha31) rfl rfl rfl ?_
      obtain ⟨r40, hx41, hb22⟩ := bind_some hb22
      refine RW.call rfl rfl rfl enters182 (laws_toParcel_ok (ty276.ext hS25.ext hr32) hx41) (fun v42 w43 hR44 => ?_)
      obtain ⟨A45, k46, A47, k48, rfl, hR49⟩ := hR44
      have hS50 := hS25.join hR49
      have hS51 := hS50.bring 2 rfl
      by_cases hk52 : decide (0 ≤ s8.1 ∧ s8.1.toNat < s8.2.length) = true
      case neg => rw [if_neg hk52] at hb22; cases hb22
      rw [if_pos hk52] at hb22
      have hb53 := of_decide_eq_true hk52
      refine RW.idxOwn ttok hS51 rfl rfl rfl rfl rfl rfl rfl rfl hb53.1 hb53.2 rfl rfl (fun q54 hq55 => ?_)
      have hS56 := hS51.bring 2 rfl
      have hS57 := hS56.bring 2 rfl
      have hS58 := ty241_shutS (c := r40) (B := _) hS57
      have hS59 := hS58.bring 1 rfl
      refine RW.storeEl ttok hS59 rfl rfl rfl rfl rfl rfl hb53.2 hq55 rfl rfl (fun w60 hS61 => ?_)
      refine RW.know (u := .slice A13 (s8.2.set s8.1.toNat r40).length k14) 3 rfl (by simp) ?_
      refine RW.know (u := .slice A13 (s8.2.set s8.1.toNat r40).length k14) 14 rfl (by simp) ?_
      refine RW.nil ?_
      refine WP.region ?_
      refine RW.run ttok 3 rfl ?_
      refine RW.nil ?_
      cases hb22
      exact ⟨_, [(0, .slice A0_ x0.length k0_), (3, .slice A13 (s8.2.set s8.1.toNat r40).length k14), (4, .int .i64 (w64 (s8.1 + 1)))], ⟨rfl, rfl, rfl, trivial⟩, rfl, A13, k14, ((hS61.bring 0 rfl).taken 1), rfl⟩
    · skip
      rw [if_neg (not_t hc)] at hb22
      refine WP.exit ?_
      cases hb22
      exact ⟨_, [(3, .slice A13 s8.2.length k14)], ⟨rfl, trivial⟩, A13, k14, ho23, ((hS25.bring 0 rfl).taken 1), rfl⟩

theorem enters87 : Enters Try.prog 87 := ⟨_, _, Try.func87, rfl, by kernel_rfl⟩
def m_laws_toParcelSS_j1 (fuel : Nat) (t9 : (List (List D.Parcel))) : Option (List (List D.Parcel)) := some t9
def m_laws_toParcelSS_b1 (fuel : Nat) (x0 : (List (List D.Parcel))) (s8 : Int × (List (List D.Parcel))) : Option (Rd (Int × (List (List D.Parcel))) ((List (List D.Parcel))) ((List (List D.Parcel)))) := (if (decide (s8.1 < (x0.length : Int))) = true then ((idx x0 s8.1).bind fun x27 => ((m_laws_toParcelS fuel x27).bind fun r36 => (if decide (0 ≤ s8.1 ∧ s8.1.toNat < s8.2.length) = true then some (.next (w64 (s8.1 + 1), (s8.2.set s8.1.toNat r36))) else none))) else some (.brk s8.2))
def m_laws_toParcelSS (fuel : Nat) (x0 : (List (List D.Parcel))) : Option ((List (List D.Parcel))) := (if decide (0 ≤ (x0.length : Int) ∧ (x0.length : Int) ≤ 4294967296) = true then ((iter (m_laws_toParcelSS_b1 fuel x0) fuel (0, (List.replicate (x0.length : Int).toNat ([] : (List D.Parcel))))).bind fun o => aft o (m_laws_toParcelSS_j1 fuel)) else none)

set_option maxRecDepth 100000 in
theorem laws_toParcelSS_ok {w : World} {A0_ : Option Addr} {k0_ : Nat} {x0 : (List (List D.Parcel))} (h0_ : ty70.ro w [.slice A0_ x0.length k0_] x0) {fuel : Nat} {r : (List (List D.Parcel))} (hm : m_laws_toParcelSS fuel x0 = some r) :
    Calls Try.prog 87 ⟨[.slice A0_ x0.length k0_]⟩ w (Ret fun v w8 => ∃ A0 k0, v = .slice A0 r.length k0 ∧ St w w8 [Own ty77 [.slice A0 r.length k0] r]) := by
  refine Calls.into Try.func87 rfl 23 rfl rfl _ rfl ?_
  unfold m_laws_toParcelSS at hm
  have hS := St.start w
  refine WP.seq ?_
  refine WP.region ?_
  refine RW.run ttok 1 rfl ?_
  refine RW.nil ?_
  refine WP.seq ?_
  refine WP.region ?_
  refine RW.run ttok 2 rfl ?_
  by_cases hk1 : decide (0 ≤ (x0.length : Int) ∧ (x0.length : Int) ≤ 4294967296) = true
  case neg => rw [if_neg hk1] at hm; cases hm
  rw [if_pos hk1] at hm
  have hz7 := of_decide_eq_true hk1
  refine RW.make (U := ty171) ttok ([] : (List D.Parcel)) hS rfl rfl rfl rfl rfl rfl rfl rfl hz7.1 (by have := hz7.2; show _ * (24 : Int) ≤ _; omega) (by have := hz7.2; simp only [maxLen]; omega) (fun _ => (slNilOwn ty241 241 _)) rfl rfl (fun A2 k3 w4 e5 hS6 => ?_)
  refine RW.run ttok 1 rfl ?_
  refine RW.nil ?_
  refine WP.seq ?_
  refine WP.seq ?_
  refine WP.region ?_
  refine RW.run ttok 1 rfl ?_
  refine RW.nil ?_
  obtain ⟨o18, hl19, hm⟩ := bind_some hm
  refine WP.cut (fun (t9 : (List (List D.Parcel))) F w9 => ∃ A15 k16, o18 = .inl t9 ∧ St w w9 [Own ty77 [.slice A15 t9.length k16] t9] ∧ F = [(3, .slice A15 t9.length k16)]) ?_ ?_
  · skip
    rintro t9 F w17 ⟨A15, k16, ho21, hS20, rfl⟩
    subst ho21
    rw [aft_inl] at hm
    unfold m_laws_toParcelSS_j1 at hm
    refine WP.seq ?_
    refine WP.region ?_
    refine RW.run ttok 2 rfl ?_
    refine RW.nil ?_
    refine WP.ret ?_
    cases hm
    exact ⟨_, .cons (.tmp rfl) .nil, A15, k16, rfl, ((hS20.bring 0 rfl).taken 1)⟩
  · skip
    refine WP.block ?_
    refine WP.weak [(0, .slice A0_ x0.length k0_), (3, .slice A2 (List.replicate (x0.length : Int).toNat ([] : (List D.Parcel))).length k3), (4, .int .i64 0)] ⟨rfl, rfl, rfl, trivial⟩ ?_
    refine WP.iter (fun (s8 : Int × (List (List D.Parcel))) F w9 => ∃ A13 k14, St w w9 [Own ty77 [.slice A13 s8.2.length k14] s8.2] ∧ F = [(0, .slice A0_ x0.length k0_), (3, .slice A13 s8.2.length k14), (4, .int .i64 s8.1)]) _ hl19 ⟨A2, k3, ((hS6.bring 0 rfl).taken 1), rfl⟩ ?_
    rintro s8 F w26 _ o24 ⟨A13, k14, hS25, rfl⟩ hb22 ho23
    unfold m_laws_toParcelSS_b1 at hb22
    refine WP.seq ?_
    refine WP.seq ?_
    refine WP.region ?_
    refine RW.run ttok 4 rfl ?_
    refine RW.nil ?_
    refine WP.cond (decide (s8.1 < (x0.length : Int))) rfl (fun hc => ?_) (fun hc => ?_)
    · skip
      rw [if_pos hc] at hb22
      refine WP.skip ?_
      refine WP.seq ?_
      refine WP.block ?_
      refine WP.region ?_
      refine RW.run ttok 4 rfl ?_
      obtain ⟨x27, hx28, hb22⟩ := bind_some hb22
      refine RW.idx ttok hS25.ext rfl rfl rfl rfl rfl rfl (by decide) rfl rfl h0_ (idx_some hx28).1 (idx_some hx28).2 rfl rfl (fun p29 es30 ha31 hr32 => ?_)
      obtain ⟨A33, k34, e35⟩ := ty237_form hr32; subst e35
      refine RW.load1 ttok rfl rfl rfl rfl rfl (At.ext hS25.ext ha31) 0 rfl rfl rfl rfl ?_
      obtain ⟨r36, hx37, hb22⟩ := bind_some hb22
      refine RW.call rfl rfl rfl enters150 (laws_toParcelS_ok (ty237.ext hS25.ext hr32) hx37) (fun v38 w39 hR40 => ?_)
      obtain ⟨A41, k42, rfl, hR43⟩ := hR40
      have hS44 := hS25.join hR43
      have hS45 := hS44.bring 1 rfl
      by_cases hk46 : decide (0 ≤ s8.1 ∧ s8.1.toNat < s8.2.length) = true
      case neg => rw [if_neg hk46] at hb22; cases hb22
      rw [if_pos hk46] at hb22
      have hb47 := of_decide_eq_true hk46
      refine RW.idxOwn ttok hS45 rfl rfl rfl rfl rfl rfl rfl rfl hb47.1 hb47.2 rfl rfl (fun q48 hq49 => ?_)
      have hS50 := hS45.bring 1 rfl
      have hS51 := hS50.bring 1 rfl
      refine RW.storeEl ttok hS51 rfl rfl rfl rfl rfl rfl hb47.2 hq49 rfl rfl (fun w52 hS53 => ?_)
      refine RW.know (u := .slice A13 (s8.2.set s8.1.toNat r36).length k14) 3 rfl (by simp) ?_
      refine RW.know (u := .slice A13 (s8.2.set s8.1.toNat r36).length k14) 14 rfl (by simp) ?_
      refine RW.nil ?_
      refine WP.region ?_
      refine RW.run ttok 3 rfl ?_
      refine RW.nil ?_
      cases hb22
      exact ⟨_, [(0, .slice A0_ x0.length k0_), (3, .slice A13 (s8.2.set s8.1.toNat r36).length k14), (4, .int .i64 (w64 (s8.1 + 1)))], ⟨rfl, rfl, rfl, trivial⟩, rfl, A13, k14, ((hS53.bring 0 rfl).taken 1), rfl⟩
    · skip
      rw [if_neg (not_t hc)] at hb22
      refine WP.exit ?_
      cases hb22
      exact ⟨_, [(3, .slice A13 s8.2.length k14)], ⟨rfl, trivial⟩, A13, k14, ho23, ((hS25.bring 0 rfl).taken 1), rfl⟩

theorem enters88 : Enters Try.prog 88 := ⟨_, _, Try.func88, rfl, by kernel_rfl⟩
def m_laws_toInt64SS_j1 (fuel : Nat) (t9 : (List (List Int))) : Option (List (List Int)) := some t9
def m_laws_toInt64SS_b1 (fuel : Nat) (x0 : (List (List Int))) (s8 : Int × (List (List Int))) : Option (Rd (Int × (List (List Int))) ((List (List Int))) ((List (List Int)))) := (if (decide (s8.1 < (x0.length : Int))) = true then ((idx x0 s8.1).bind fun x27 => ((m_laws_toInt64S fuel x27).bind fun r36 => (if decide (0 ≤ s8.1 ∧ s8.1.toNat < s8.2.length) = true then some (.next (w64 (s8.1 + 1), (s8.2.set s8.1.toNat r36))) else none))) else some (.brk s8.2))
def m_laws_toInt64SS (fuel : Nat) (x0 : (List (List Int))) : Option ((List (List Int))) := (if decide (0 ≤ (x0.length : Int) ∧ (x0.length : Int) ≤ 4294967296) = true then ((iter (m_laws_toInt64SS_b1 fuel x0) fuel (0, (List.replicate (x0.length : Int).toNat ([] : (List Int))))).bind fun o => aft o (m_laws_toInt64SS_j1 fuel)) else none)

set_option maxRecDepth 100000 in
theorem laws_toInt64SS_ok {w : World} {A0_ : Option Addr} {k0_ : Nat} {x0 : (List (List Int))} (h0_ : ty71.ro w [.slice A0_ x0.length k0_] x0) {fuel : Nat} {r : (List (List Int))} (hm : m_laws_toInt64SS fuel x0 = some r) :
    Calls Try.prog 88 ⟨[.slice A0_ x0.length k0_]⟩ w (Ret fun v w8 => ∃ A0 k0, v = .slice A0 r.length k0 ∧ St w w8 [Own ty71 [.slice A0 r.length k0] r]) := by
  refine Calls.into Try.func88 rfl 23 rfl rfl _ rfl ?_
  unfold m_laws_toInt64SS at hm
  have hS := St.start w
  refine WP.seq ?_
  refine WP.region ?_
  refine RW.run ttok 1 rfl ?_
  refine RW.nil ?_
  refine WP.seq ?_
  refine WP.region ?_
  refine RW.run ttok 2 rfl ?_
  by_cases hk1 : decide (0 ≤ (x0.length : Int) ∧ (x0.length : Int) ≤ 4294967296) = true
  case neg => rw [if_neg hk1] at hm; cases hm
  rw [if_pos hk1] at hm
  have hz7 := of_decide_eq_true hk1
  refine RW.make (U := ty72) ttok ([] : (List Int)) hS rfl rfl rfl rfl rfl rfl rfl rfl hz7.1 (by have := hz7.2; show _ * (24 : Int) ≤ _; omega) (by have := hz7.2; simp only [maxLen]; omega) (fun _ => (slNilOwn tInt 2 _)) rfl rfl (fun A2 k3 w4 e5 hS6 => ?_)
  refine RW.run ttok 1 rfl ?_
  refine RW.nil ?_
  refine WP.seq ?_
  refine WP.seq ?_
  refine WP.region ?_
  refine RW.run ttok 1 rfl ?_
  refine RW.nil ?_
  obtain ⟨o18, hl19, hm⟩ := bind_some hm
  refine WP.cut (fun (t9 : (List (List Int))) F w9 => ∃ A15 k16, o18 = .inl t9 ∧ St w w9 [Own ty71 [.slice A15 t9.length k16] t9] ∧ F = [(3, .slice A15 t9.length k16)]) ?_ ?_
  · skip
    rintro t9 F w17 ⟨A15, k16, ho21, hS20, rfl⟩
    subst ho21
    rw [aft_inl] at hm
    unfold m_laws_toInt64SS_j1 at hm
    refine WP.seq ?_
    refine WP.region ?_
    refine RW.run ttok 2 rfl ?_
    refine RW.nil ?_
    refine WP.ret ?_
    cases hm
    exact ⟨_, .cons (.tmp rfl) .nil, A15, k16, rfl, ((hS20.bring 0 rfl).taken 1)⟩
  · skip
    refine WP.block ?_
    refine WP.weak [(0, .slice A0_ x0.length k0_), (3, .slice A2 (List.replicate (x0.length : Int).toNat ([] : (List Int))).length k3), (4, .int .i64 0)] ⟨rfl, rfl, rfl, trivial⟩ ?_
    refine WP.iter (fun (s8 : Int × (List (List Int))) F w9 => ∃ A13 k14, St w w9 [Own ty71 [.slice A13 s8.2.length k14] s8.2] ∧ F = [(0, .slice A0_ x0.length k0_), (3, .slice A13 s8.2.length k14), (4, .int .i64 s8.1)]) _ hl19 ⟨A2, k3, ((hS6.bring 0 rfl).taken 1), rfl⟩ ?_
    rintro s8 F w26 _ o24 ⟨A13, k14, hS25, rfl⟩ hb22 ho23
    unfold m_laws_toInt64SS_b1 at hb22
    refine WP.seq ?_
    refine WP.seq ?_
    refine WP.region ?_
    refine RW.run ttok 4 rfl ?_
    refine RW.nil ?_
    refine WP.cond (decide (s8.1 < (x0.length : Int))) rfl (fun hc => ?_) (fun hc => ?_)
    · skip
      rw [if_pos hc] at hb22
      refine WP.skip ?_
      refine WP.seq ?_
      refine WP.block ?_
      refine WP.region ?_
      refine RW.run ttok 4 rfl ?_
      obtain ⟨x27, hx28, hb22⟩ := bind_some hb22
      refine RW.idx ttok hS25.ext rfl rfl rfl rfl rfl rfl (by decide) rfl rfl h0_ (idx_some hx28).1 (idx_some hx28).2 rfl rfl (fun p29 es30 ha31 hr32 => ?_)
      obtain ⟨A33, k34, e35⟩ := ty72_form hr32; subst e35
      refine RW.load1 ttok rfl rfl rfl rfl rfl (At.ext hS25.ext ha31) 0 rfl rfl rfl rfl ?_
      obtain ⟨r36, hx37, hb22⟩ := bind_some hb22
      refine RW.call rfl rfl rfl enters89 (laws_toInt64S_ok (ty72.ext hS25.ext hr32) hx37) (fun v38 w39 hR40 => ?_)
      obtain ⟨A41, k42, rfl, hR43⟩ := hR40
      have hS44 := hS25.join hR43
      have hS45 := hS44.bring 1 rfl
      by_cases hk46 : decide (0 ≤ s8.1 ∧ s8.1.toNat < s8.2.length) = true
      case neg => rw [if_neg hk46] at hb22; cases hb22
      rw [if_pos hk46] at hb22
      have hb47 := of_decide_eq_true hk46
      refine RW.idxOwn ttok hS45 rfl rfl rfl rfl rfl rfl rfl rfl hb47.1 hb47.2 rfl rfl (fun q48 hq49 => ?_)
      have hS50 := hS45.bring 1 rfl
      have hS51 := hS50.bring 1 rfl
      refine RW.storeEl ttok hS51 rfl rfl rfl rfl rfl rfl hb47.2 hq49 rfl rfl (fun w52 hS53 => ?_)
      refine RW.know (u := .slice A13 (s8.2.set s8.1.toNat r36).length k14) 3 rfl (by simp) ?_
      refine RW.know (u := .slice A13 (s8.2.set s8.1.toNat r36).length k14) 14 rfl (by simp) ?_
      refine RW.nil ?_
      refine WP.region ?_
      refine RW.run ttok 3 rfl ?_
      refine RW.nil ?_
      cases hb22
      exact ⟨_, [(0, .slice A0_ x0.length k0_), (3, .slice A13 (s8.2.set s8.1.toNat r36).length k14), (4, .int .i64 (w64 (s8.1 + 1)))], ⟨rfl, rfl, rfl, trivial⟩, rfl, A13, k14, ((hS53.bring 0 rfl).taken 1), rfl⟩
    · skip
      rw [if_neg (not_t hc)] at hb22
      refine WP.exit ?_
      cases hb22
      exact ⟨_, [(3, .slice A13 s8.2.length k14)], ⟨rfl, trivial⟩, A13, k14, ho23, ((hS25.bring 0 rfl).taken 1), rfl⟩

theorem enters28 : Enters Try.prog 28 := ⟨_, _, Try.func28, rfl, by kernel_rfl⟩
def m_laws_toCluster (fuel : Nat) (x0 : D.Cluster) : Option (D.Cluster) := ((m_laws_toGrid fuel x0.Grid).bind fun r29 => ((m_laws_toParcelSS fuel x0.Channels).bind fun r41 => ((m_laws_toInt64SS fuel x0.Counts).bind fun r53 => ((m_laws_toInt64S fuel x0.Sent).bind fun r65 => ((m_laws_toInt64S fuel x0.Got).bind fun r77 => some (⟨(⟨r29.Shards, (⟨r29.Root.Machine, r29.Root.Kind, r29.Root.Index⟩ : D.Address)⟩ : D.Grid), r41, r53, r65, r77⟩ : D.Cluster))))))

set_option maxRecDepth 100000 in
theorem laws_toCluster_ok {w : World} {c0_ : List Value} {x0 : D.Cluster} (h0_ : ty74.ro w c0_ x0) {fuel : Nat} {r : D.Cluster} (hm : m_laws_toCluster fuel x0 = some r) :
    Calls Try.prog 28 ⟨[.agg ⟨c0_⟩]⟩ w (Ret fun v w8 => ∃ A0 k0 A1 k1 A2 k2 A3 k3 A4 k4, v = .agg ⟨[.slice A0 r.Grid.Shards.length k0, .int .i64 r.Grid.Root.Machine, .int .i64 r.Grid.Root.Kind, .int .i64 r.Grid.Root.Index, .slice A1 r.Channels.length k1, .slice A2 r.Counts.length k2, .slice A3 r.Sent.length k3, .slice A4 r.Got.length k4]⟩ ∧ St w w8 [Own ty43 [.slice A0 r.Grid.Shards.length k0] r.Grid.Shards, Own ty77 [.slice A1 r.Channels.length k1] r.Channels, Own ty71 [.slice A2 r.Counts.length k2] r.Counts, Own ty72 [.slice A3 r.Sent.length k3] r.Sent, Own ty72 [.slice A4 r.Got.length k4] r.Got]) := by
  obtain ⟨A1, k2, A4, k5, A7, k8, A10, k11, A13, k14, e16, h3, h6, h9, h12, h15⟩ := ty74_open h0_; subst e16
  refine Calls.into Try.func28 rfl 25 rfl rfl _ rfl ?_
  unfold m_laws_toCluster at hm
  have hS := St.start w
  refine WP.seq ?_
  refine WP.region ?_
  refine RW.new ttok hS rfl rfl rfl rfl (fun g17 w18 e19 hS20 => ?_)
  refine RW.new ttok hS20 rfl rfl rfl rfl (fun g21 w22 e23 hS24 => ?_)
  refine RW.nil ?_
  refine WP.seq ?_
  refine WP.region ?_
  refine RW.new ttok hS24 rfl rfl rfl rfl (fun g25 w26 e27 hS28 => ?_)
  refine RW.nil ?_
  refine WP.seq ?_
  refine WP.region ?_
  refine RW.run ttok 1 rfl ?_
  refine RW.loadN ttok rfl rfl rfl rfl rfl (At.sub ((hS28.bring 2 rfl).box) 0 4) rfl rfl rfl ?_
  obtain ⟨r29, hx30, hm⟩ := bind_some hm
  refine RW.call rfl rfl rfl enters18 (laws_toGrid_ok (ty40_shut x0.Grid (ty36.ext hS28.ext h3)) hx30) (fun v31 w32 hR33 => ?_)
  obtain ⟨A34, k35, rfl, hR36⟩ := hR33
  have hS37 := hS28.join hR36
  refine RW.run ttok 1 rfl ?_
  have hS38 := hS37.bring 1 rfl
  refine RW.store ttok (A := []) hS38 rfl rfl rfl rfl rfl 0 rfl rfl rfl rfl rfl (fun w39 hS40 => ?_)
  refine RW.nil ?_
  refine WP.seq ?_
  refine WP.region ?_
  refine RW.run ttok 1 rfl ?_
  refine RW.load1 ttok rfl rfl rfl rfl rfl ((hS40.bring 3 rfl).box) 4 rfl rfl rfl rfl ?_
  obtain ⟨r41, hx42, hm⟩ := bind_some hm
  refine RW.call rfl rfl rfl enters87 (laws_toParcelSS_ok (ty70.ext hS40.ext h6) hx42) (fun v43 w44 hR45 => ?_)
  obtain ⟨A46, k47, rfl, hR48⟩ := hR45
  have hS49 := hS40.join hR48
  refine RW.run ttok 1 rfl ?_
  have hS50 := hS49.bring 1 rfl
  refine RW.store ttok (A := []) hS50 rfl rfl rfl rfl rfl 4 rfl rfl rfl rfl rfl (fun w51 hS52 => ?_)
  refine RW.nil ?_
  refine WP.seq ?_
  refine WP.region ?_
  refine RW.run ttok 1 rfl ?_
  refine RW.load1 ttok rfl rfl rfl rfl rfl ((hS52.bring 4 rfl).box) 5 rfl rfl rfl rfl ?_
  obtain ⟨r53, hx54, hm⟩ := bind_some hm
  refine RW.call rfl rfl rfl enters88 (laws_toInt64SS_ok (ty71.ext hS52.ext h9) hx54) (fun v55 w56 hR57 => ?_)
  obtain ⟨A58, k59, rfl, hR60⟩ := hR57
  have hS61 := hS52.join hR60
  refine RW.run ttok 1 rfl ?_
  have hS62 := hS61.bring 1 rfl
  refine RW.store ttok (A := []) hS62 rfl rfl rfl rfl rfl 5 rfl rfl rfl rfl rfl (fun w63 hS64 => ?_)
  refine RW.nil ?_
  refine WP.seq ?_
  refine WP.region ?_
  refine RW.run ttok 1 rfl ?_
  refine RW.load1 ttok rfl rfl rfl rfl rfl ((hS64.bring 5 rfl).box) 6 rfl rfl rfl rfl ?_
  obtain ⟨r65, hx66, hm⟩ := bind_some hm
  refine RW.call rfl rfl rfl enters89 (laws_toInt64S_ok (ty72.ext hS64.ext h12) hx66) (fun v67 w68 hR69 => ?_)
  obtain ⟨A70, k71, rfl, hR72⟩ := hR69
  have hS73 := hS64.join hR72
  refine RW.run ttok 1 rfl ?_
  have hS74 := hS73.bring 1 rfl
  refine RW.store ttok (A := []) hS74 rfl rfl rfl rfl rfl 6 rfl rfl rfl rfl rfl (fun w75 hS76 => ?_)
  refine RW.nil ?_
  refine WP.seq ?_
  refine WP.region ?_
  refine RW.run ttok 1 rfl ?_
  refine RW.load1 ttok rfl rfl rfl rfl rfl ((hS76.bring 6 rfl).box) 7 rfl rfl rfl rfl ?_
  obtain ⟨r77, hx78, hm⟩ := bind_some hm
  refine RW.call rfl rfl rfl enters89 (laws_toInt64S_ok (ty72.ext hS76.ext h15) hx78) (fun v79 w80 hR81 => ?_)
  obtain ⟨A82, k83, rfl, hR84⟩ := hR81
  have hS85 := hS76.join hR84
  refine RW.run ttok 1 rfl ?_
  have hS86 := hS85.bring 1 rfl
  refine RW.store ttok (A := []) hS86 rfl rfl rfl rfl rfl 7 rfl rfl rfl rfl rfl (fun w87 hS88 => ?_)
  refine RW.nil ?_
  refine WP.seq ?_
  refine WP.region ?_
  refine RW.loadN ttok rfl rfl rfl rfl rfl ((hS88.bring 0 rfl).box) rfl rfl rfl ?_
  have hS89 := hS88.bring 6 rfl
  refine RW.store ttok (A := []) hS89 rfl rfl rfl rfl rfl 0 rfl rfl rfl rfl rfl (fun w90 hS91 => ?_)
  refine RW.nil ?_
  refine WP.ret ?_
  cases hm
  exact ⟨_, .cons (ResIs.agg ttok rfl rfl rfl ((hS91.bring 0 rfl).box) rfl) .nil, A34, k35, A46, k47, A58, k59, A70, k71, A82, k83, rfl, ((((((hS91.bring 2 rfl).bring 3 rfl).bring 4 rfl).bring 5 rfl).bring 6 rfl).taken 5)⟩

theorem enters149 : Enters Try.prog 149 := ⟨_, _, Try.func149, rfl, by kernel_rfl⟩
def m_spec_l29SameParcel (fuel : Nat) (x0 : D.Parcel) (x1 : D.Parcel) : Option (Bool) := (if (x0.Kind == x1.Kind) = true then ((m_spec_l27SameCell fuel (⟨x0.Cell.Kind, x0.Cell.Level, x0.Cell.Value, x0.Cell.Data, x0.Cell.Aux⟩ : D.ShardCell) (⟨x1.Cell.Kind, x1.Cell.Level, x1.Cell.Value, x1.Cell.Data, x1.Cell.Aux⟩ : D.ShardCell)).bind fun r18 => (if r18 = true then (if (((x0.A.Machine : Int) == x1.A.Machine) && (((x0.A.Kind : Int) == x1.A.Kind) && (((x0.A.Index : Int) == x1.A.Index) && true))) = true then some (((x0.B.Machine : Int) == x1.B.Machine) && (((x0.B.Kind : Int) == x1.B.Kind) && (((x0.B.Index : Int) == x1.B.Index) && true))) else some false) else some false)) else some false)

set_option maxRecDepth 100000 in
theorem spec_l29SameParcel_ok {w : World} {p0_ : Addr} {c0_ : List Value} {x0 : D.Parcel} {p1_ : Addr} {c1_ : List Value} {x1 : D.Parcel} (h0_ : ty241.ro w c0_ x0) (g0_ : At w p0_ c0_) (h1_ : ty241.ro w c1_ x1) (g1_ : At w p1_ c1_) {fuel : Nat} {r : Bool} (hm : m_spec_l29SameParcel fuel x0 x1 = some r) :
    Calls Try.prog 149 ⟨[.pointer (some p0_), .pointer (some p1_)]⟩ w (Ret fun v w8 => v = .bool r ∧ St w w8 []) := by
  obtain ⟨A1, k2, A4, k5, e7, h3, h6⟩ := ty241_open h0_; subst e7
  obtain ⟨A8, k9, A11, k12, e14, h10, h13⟩ := ty241_open h1_; subst e14
  refine Calls.into Try.func149 rfl 45 rfl rfl _ rfl ?_
  unfold m_spec_l29SameParcel at hm
  have hS := St.start w
  refine WP.seq ?_
  refine WP.region ?_
  refine RW.run ttok 1 rfl ?_
  refine RW.nil ?_
  refine WP.seq ?_
  refine WP.drawnM 0 mixed 41 (by kernel_rfl) (by kernel_rfl) [([], 2199023255551), ([0], 2199023255550), ([1], 2199023255549), ([2], 2199023255547), ([], 2199023255551), ([4], 2199023255535), ([5], 2199023255519), ([6], 2199023255487), ([3, 7], 2199023255415), ([8], 2199023255295), ([9], 2199023255039), ([10, 9], 2199023254015), ([11, 9], 2199023252991), ([9], 2199023255039), ([13, 9], 2199023246847), ([14, 9], 2199023238655), ([12, 15, 9, 9], 2199023218175), ([9, 16], 2199023189503), ([17, 16], 2199023124479), ([18], 2199022993407), ([19, 18], 2199022469119), ([20, 18], 2199021944831), ([21, 18], 2199020896255), ([18], 2199022993407), ([23, 18], 2199014604799), ([24, 18], 2199006216191), ([25, 18], 2198989438975), ([22, 26, 18], 2198951690239), ([18, 27], 2198888775679), ([28, 18], 2198754820095), ([29], 2198486384639), ([30, 29], 2197412642815), ([31, 29], 2196338900991), ([32, 29], 2194191417343), ([29], 2198486384639), ([34, 29], 2181306515455), ([35, 29], 2164126646271), ([36, 29], 2129766907903), ([33, 37, 29], 2052457496575), ([29, 38], 1923608477695), ([39, 29, 0, 1, 2, 3, 4, 5, 6, 7, 8, 9, 10, 11, 12, 13, 14, 15, 16, 17, 18, 19, 20, 21, 22, 23, 24, 25, 26, 27, 28, 29, 30, 31, 32, 33, 34, 35, 36, 37, 38, 39], 1649267441663)] (by kernel_rfl) (fun hsk15 => ?_)
  have hS16 := hS.step (Ext.draw _)
  refine DM.run (fuel := 35) ttok hsk15 [0, 1, 2, 4, 5, 6] 119 (by kernel_rfl) (by kernel_rfl) rfl ?_
  refine DM.load1 ttok hsk15 3 127 (by kernel_rfl) (by kernel_rfl) (by kernel_rfl) (by kernel_rfl) rfl (by kernel_rfl) rfl rfl rfl rfl rfl (At.ext hS.ext g0_) 0 rfl rfl rfl rfl ?_
  refine DM.load1 ttok hsk15 7 255 (by kernel_rfl) (by kernel_rfl) (by kernel_rfl) (by kernel_rfl) rfl (by kernel_rfl) rfl rfl rfl rfl rfl (At.ext hS.ext g1_) 0 rfl rfl rfl rfl ?_
  refine DM.run (fuel := 31) ttok hsk15 [8, 9] 1023 (by kernel_rfl) (by kernel_rfl) rfl ?_
  refine DM.weak [(0, .pointer (some p0_)), (1, .pointer (some p1_)), (4, .bool false), (14, .bool (x0.Kind == x1.Kind))] ⟨rfl, rfl, rfl, rfl, trivial⟩ ?_
  by_cases hg17 : (x0.Kind == x1.Kind) = true
  · skip
    rw [if_pos hg17] at hm
    refine DM.know 14 rfl (congrArg Value.bool hg17) ?_
    refine DM.run (fuel := 25) ttok hsk15 [10, 11, 12, 13, 14, 15] 65535 (by kernel_rfl) (by kernel_rfl) rfl ?_
    obtain ⟨r18, hx19, hm⟩ := bind_some hm
    refine DM.one hsk15 16 (by kernel_rfl) (LM.call hsk15 131071 (by kernel_rfl) (by kernel_rfl) rfl rfl rfl rfl enters51 (spec_l27SameCell_ok (ty123_shut (⟨x0.Cell.Kind, x0.Cell.Level, x0.Cell.Value, x0.Cell.Data, x0.Cell.Aux⟩ : D.ShardCell) (ty72.ext hS16.ext h3) (ty121.ext hS16.ext h6)) (At.sub (At.ext hS16.ext g0_) 1 5) (ty123_shut (⟨x1.Cell.Kind, x1.Cell.Level, x1.Cell.Value, x1.Cell.Data, x1.Cell.Aux⟩ : D.ShardCell) (ty72.ext hS16.ext h10) (ty121.ext hS16.ext h13)) (At.sub (At.ext hS16.ext g1_) 1 5) hx19) (fun v20 w21 hR22 => ?_))
    obtain ⟨rfl, hR23⟩ := hR22
    refine ⟨hR23.ext, ?_⟩
    have hS24 := hS16.join hR23
    refine DM.run (fuel := 22) ttok hsk15 [17, 18] 524287 (by kernel_rfl) (by kernel_rfl) rfl ?_
    refine DM.weak [(0, .pointer (some p0_)), (1, .pointer (some p1_)), (4, .bool false), (23, .bool r18)] ⟨rfl, rfl, rfl, rfl, trivial⟩ ?_
    by_cases hg25 : r18 = true
    · skip
      rw [if_pos hg25] at hm
      refine DM.know 23 rfl (congrArg Value.bool hg25) ?_
      refine DM.run (fuel := 16) ttok hsk15 [19, 20, 21, 23, 24, 25] 62914559 (by kernel_rfl) (by kernel_rfl) rfl ?_
      refine DM.loadN ttok hsk15 22 67108863 (by kernel_rfl) (by kernel_rfl) (by kernel_rfl) (by kernel_rfl) rfl (by kernel_rfl) rfl rfl rfl rfl rfl (At.sub (At.ext hS.ext g0_) 6 3) rfl rfl rfl ?_
      refine DM.loadN ttok hsk15 26 134217727 (by kernel_rfl) (by kernel_rfl) (by kernel_rfl) (by kernel_rfl) rfl (by kernel_rfl) rfl rfl rfl rfl rfl (At.sub (At.ext hS.ext g1_) 6 3) rfl rfl rfl ?_
      refine DM.run (fuel := 11) ttok hsk15 [27, 28, 29] 1073741823 (by kernel_rfl) (by kernel_rfl) rfl ?_
      refine DM.weak [(0, .pointer (some p0_)), (1, .pointer (some p1_)), (4, .bool false), (34, .bool (((x0.A.Machine : Int) == x1.A.Machine) && (((x0.A.Kind : Int) == x1.A.Kind) && (((x0.A.Index : Int) == x1.A.Index) && true))))] ⟨rfl, rfl, rfl, rfl, trivial⟩ ?_
      by_cases hg26 : (((x0.A.Machine : Int) == x1.A.Machine) && (((x0.A.Kind : Int) == x1.A.Kind) && (((x0.A.Index : Int) == x1.A.Index) && true))) = true
      · skip
        rw [if_pos hg26] at hm
        refine DM.know 34 rfl (congrArg Value.bool hg26) ?_
        refine DM.run (fuel := 5) ttok hsk15 [30, 31, 32, 34, 35, 36] 128849018879 (by kernel_rfl) (by kernel_rfl) rfl ?_
        refine DM.weak [(4, .bool false), (34, .bool true), (37, .pointer (some (p0_.add 9))), (41, .pointer (some (p1_.add 9)))] ⟨rfl, rfl, rfl, rfl, trivial⟩ ?_
        refine DM.loadN ttok hsk15 33 137438953471 (by kernel_rfl) (by kernel_rfl) (by kernel_rfl) (by kernel_rfl) rfl (by kernel_rfl) rfl rfl rfl rfl rfl (At.sub (At.ext hS.ext g0_) 9 3) rfl rfl rfl ?_
        refine DM.loadN ttok hsk15 37 274877906943 (by kernel_rfl) (by kernel_rfl) (by kernel_rfl) (by kernel_rfl) rfl (by kernel_rfl) rfl rfl rfl rfl rfl (At.sub (At.ext hS.ext g1_) 9 3) rfl rfl rfl ?_
        refine DM.run (fuel := 0) ttok hsk15 [38, 39, 40] 2199023255551 (by kernel_rfl) (by kernel_rfl) rfl ?_
        refine DM.weak [(4, .bool (((x0.B.Machine : Int) == x1.B.Machine) && (((x0.B.Kind : Int) == x1.B.Kind) && (((x0.B.Index : Int) == x1.B.Index) && true))))] ⟨rfl, trivial⟩ ?_
        refine DM.done hsk15 (by kernel_rfl) ?_
        refine WP.ret ?_
        cases hm
        exact ⟨_, .cons (.tmp rfl) .nil, rfl, (hS24.taken 0)⟩
      · skip
        rw [if_neg hg26] at hm
        refine DM.know 34 rfl (congrArg Value.bool (Bool.eq_false_iff.2 hg26)) ?_
        refine DM.run (fuel := 0) ttok hsk15 [30, 31, 32, 33, 34, 35, 36, 37, 38, 39, 40] 2199023255551 (by kernel_rfl) (by kernel_rfl) rfl ?_
        refine DM.weak [(4, .bool false)] ⟨rfl, trivial⟩ ?_
        refine DM.done hsk15 (by kernel_rfl) ?_
        refine WP.ret ?_
        cases hm
        exact ⟨_, .cons (.tmp rfl) .nil, rfl, (hS24.taken 0)⟩
    · skip
      rw [if_neg hg25] at hm
      refine DM.know 23 rfl (congrArg Value.bool (Bool.eq_false_iff.2 hg25)) ?_
      refine DM.run (fuel := 0) ttok hsk15 [19, 20, 21, 22, 23, 24, 25, 26, 27, 28, 29, 30, 31, 32, 33, 34, 35, 36, 37, 38, 39, 40] 2199023255551 (by kernel_rfl) (by kernel_rfl) rfl ?_
      refine DM.weak [(4, .bool false)] ⟨rfl, trivial⟩ ?_
      refine DM.done hsk15 (by kernel_rfl) ?_
      refine WP.ret ?_
      cases hm
      exact ⟨_, .cons (.tmp rfl) .nil, rfl, (hS24.taken 0)⟩
  · skip
    rw [if_neg hg17] at hm
    refine DM.know 14 rfl (congrArg Value.bool (Bool.eq_false_iff.2 hg17)) ?_
    refine DM.run (fuel := 0) ttok hsk15 [10, 11, 12, 13, 14, 15, 16, 17, 18, 19, 20, 21, 22, 23, 24, 25, 26, 27, 28, 29, 30, 31, 32, 33, 34, 35, 36, 37, 38, 39, 40] 2199023255551 (by kernel_rfl) (by kernel_rfl) rfl ?_
    refine DM.weak [(4, .bool false)] ⟨rfl, trivial⟩ ?_
    refine DM.done hsk15 (by kernel_rfl) ?_
    refine WP.ret ?_
    cases hm
    exact ⟨_, .cons (.tmp rfl) .nil, rfl, (hS16.taken 0)⟩

theorem enters84 : Enters Try.prog 84 := ⟨_, _, Try.func84, rfl, by kernel_rfl⟩
def m_spec_l29SameChannels_j1 (fuel : Nat) (t2 : Unit) : Option Bool := some true
def m_spec_l29SameChannels_j2 (fuel : Nat) (s1 : Int) (t38 : Unit) : Option (Rd (Int) (Unit) (Bool)) := some (.next (w64 (s1 + 1)))
def m_spec_l29SameChannels_b2 (fuel : Nat) (x0 : (List (List D.Parcel))) (x1 : (List (List D.Parcel))) (s1 : Int) (s37 : Int) : Option (Rd (Int) (Unit) (Rd (Int) (Unit) (Bool))) := ((idx x0 s1).bind fun x53 => (if (decide (s37 < (x53.length : Int))) = true then ((idx x0 s1).bind fun x64 => ((idx x64 s37).bind fun x73 => ((idx x1 s1).bind fun x86 => ((idx x86 s37).bind fun x95 => ((m_spec_l29SameParcel fuel x73 x95).bind fun r108 => (if (!r108) = true then some (.ret (.ret false)) else some (.next (w64 (s37 + 1))))))))) else some (.brk ())))
def m_spec_l29SameChannels_b1 (fuel : Nat) (x0 : (List (List D.Parcel))) (x1 : (List (List D.Parcel))) (s1 : Int) : Option (Rd (Int) (Unit) (Bool)) := (if (decide (s1 < (x0.length : Int))) = true then ((idx x0 s1).bind fun x19 => ((idx x1 s1).bind fun x28 => (if ((x19.length : Int) != (x28.length : Int)) = true then some (.ret false) else ((iter (m_spec_l29SameChannels_b2 fuel x0 x1 s1) fuel 0).bind fun o => aft o (m_spec_l29SameChannels_j2 fuel s1))))) else some (.brk ()))
def m_spec_l29SameChannels (fuel : Nat) (x0 : (List (List D.Parcel))) (x1 : (List (List D.Parcel))) : Option (Bool) := (if ((x0.length : Int) != (x1.length : Int)) = true then some false else ((iter (m_spec_l29SameChannels_b1 fuel x0 x1) fuel 0).bind fun o => aft o (m_spec_l29SameChannels_j1 fuel)))

set_option maxRecDepth 100000 in
theorem spec_l29SameChannels_ok {w : World} {A0_ : Option Addr} {k0_ : Nat} {x0 : (List (List D.Parcel))} {A1_ : Option Addr} {k1_ : Nat} {x1 : (List (List D.Parcel))} (h0_ : ty77.ro w [.slice A0_ x0.length k0_] x0) (h1_ : ty77.ro w [.slice A1_ x1.length k1_] x1) {fuel : Nat} {r : Bool} (hm : m_spec_l29SameChannels fuel x0 x1 = some r) :
    Calls Try.prog 84 ⟨[.slice A0_ x0.length k0_, .slice A1_ x1.length k1_]⟩ w (Ret fun v w8 => v = .bool r ∧ St w w8 []) := by
  refine Calls.into Try.func84 rfl 52 rfl rfl _ rfl ?_
  unfold m_spec_l29SameChannels at hm
  have hS := St.start w
  refine WP.seq ?_
  refine WP.region ?_
  refine RW.run ttok 1 rfl ?_
  refine RW.nil ?_
  refine WP.seq ?_
  refine WP.seq ?_
  refine WP.region ?_
  refine RW.run ttok 5 rfl ?_
  refine RW.nil ?_
  refine WP.cond ((x0.length : Int) != (x1.length : Int)) rfl (fun hc => ?_) (fun hc => ?_)
  · skip
    rw [if_pos hc] at hm
    refine WP.seq ?_
    refine WP.region ?_
    refine RW.run ttok 1 rfl ?_
    refine RW.nil ?_
    refine WP.ret ?_
    cases hm
    exact ⟨_, .cons (.tmp rfl) .nil, rfl, (hS.taken 0)⟩
  · skip
    rw [if_neg (not_t hc)] at hm
    refine WP.skip ?_
    refine WP.seq ?_
    refine WP.seq ?_
    refine WP.region ?_
    refine RW.run ttok 1 rfl ?_
    refine RW.nil ?_
    obtain ⟨o8, hl9, hm⟩ := bind_some hm
    refine WP.cut (fun (t2 : Unit) F w9 => o8 = .inl t2 ∧ Ext w w9 ∧ St w w9 [] ∧ F = []) ?_ ?_
    · skip
      rintro t2 F w7 ⟨ho11, hE6, hS10, rfl⟩
      subst ho11
      rw [aft_inl] at hm
      unfold m_spec_l29SameChannels_j1 at hm
      refine WP.seq ?_
      refine WP.region ?_
      refine RW.run ttok 1 rfl ?_
      refine RW.nil ?_
      refine WP.ret ?_
      cases hm
      exact ⟨_, .cons (.tmp rfl) .nil, rfl, (hS10.taken 0)⟩
    · skip
      refine WP.block ?_
      refine WP.weak [(0, .slice A0_ x0.length k0_), (1, .slice A1_ x1.length k1_), (5, .int .i64 0)] ⟨rfl, rfl, rfl, trivial⟩ ?_
      refine WP.iter (fun (s1 : Int) F w9 => Ext w w9 ∧ St w w9 [] ∧ F = [(0, .slice A0_ x0.length k0_), (1, .slice A1_ x1.length k1_), (5, .int .i64 s1)]) _ hl9 ⟨(Ext.refl _), (hS.taken 0), rfl⟩ ?_
      rintro s1 F w16 _ o14 ⟨hE5, hS15, rfl⟩ hb12 ho13
      unfold m_spec_l29SameChannels_b1 at hb12
      refine WP.seq ?_
      refine WP.seq ?_
      refine WP.region ?_
      refine RW.run ttok 4 rfl ?_
      refine RW.nil ?_
      refine WP.cond (decide (s1 < (x0.length : Int))) rfl (fun hc => ?_) (fun hc => ?_)
      · skip
        rw [if_pos hc] at hb12
        refine WP.skip ?_
        refine WP.seq ?_
        refine WP.block ?_
        refine WP.seq ?_
        refine WP.seq ?_
        refine WP.drawnM 0 mixed 11 (by kernel_rfl) (by kernel_rfl) [([], 2047), ([], 2047), ([0, 1], 2044), ([2], 2043), ([3], 2039), ([], 2047), ([], 2047), ([5, 6], 1951), ([7], 1919), ([8], 1791), ([4, 9], 1519)] (by kernel_rfl) (fun hsk17 => ?_)
        have hS18 := hS15.step (Ext.draw _)
        refine DM.run (fuel := 7) ttok hsk17 [0, 1, 5, 6] 99 (by kernel_rfl) (by kernel_rfl) rfl ?_
        obtain ⟨x19, hx20, hb12⟩ := bind_some hb12
        refine DM.idx ttok hS15.ext hsk17 2 103 (by kernel_rfl) (by kernel_rfl) (by kernel_rfl) (by kernel_rfl) rfl (by kernel_rfl) rfl rfl rfl rfl rfl rfl (by decide) rfl rfl h0_ (idx_some hx20).1 (idx_some hx20).2 rfl rfl (fun p21 es22 ha23 hr24 => ?_)
        obtain ⟨A25, k26, e27⟩ := ty171_form hr24; subst e27
        refine DM.load1 ttok hsk17 3 111 (by kernel_rfl) (by kernel_rfl) (by kernel_rfl) (by kernel_rfl) rfl (by kernel_rfl) rfl rfl rfl rfl rfl (At.ext hS15.ext ha23) 0 rfl rfl rfl rfl ?_
        refine DM.run (fuel := 4) ttok hsk17 [4] 127 (by kernel_rfl) (by kernel_rfl) rfl ?_
        refine DM.weak [(0, .slice A0_ x0.length k0_), (1, .slice A1_ x1.length k1_), (5, .int .i64 s1), (22, .int .i64 (x19.length : Int)), (23, .slice A1_ x1.length k1_), (24, .int .i64 s1)] ⟨rfl, rfl, rfl, rfl, rfl, rfl, trivial⟩ ?_
        obtain ⟨x28, hx29, hb12⟩ := bind_some hb12
        refine DM.idx ttok hS15.ext hsk17 7 255 (by kernel_rfl) (by kernel_rfl) (by kernel_rfl) (by kernel_rfl) rfl (by kernel_rfl) rfl rfl rfl rfl rfl rfl (by decide) rfl rfl h1_ (idx_some hx29).1 (idx_some hx29).2 rfl rfl (fun p30 es31 ha32 hr33 => ?_)
        obtain ⟨A34, k35, e36⟩ := ty171_form hr33; subst e36
        refine DM.load1 ttok hsk17 8 511 (by kernel_rfl) (by kernel_rfl) (by kernel_rfl) (by kernel_rfl) rfl (by kernel_rfl) rfl rfl rfl rfl rfl (At.ext hS15.ext ha32) 0 rfl rfl rfl rfl ?_
        refine DM.run (fuel := 0) ttok hsk17 [9, 10] 2047 (by kernel_rfl) (by kernel_rfl) rfl ?_
        refine DM.weak [(0, .slice A0_ x0.length k0_), (1, .slice A1_ x1.length k1_), (5, .int .i64 s1), (28, .bool ((x19.length : Int) != (x28.length : Int)))] ⟨rfl, rfl, rfl, rfl, trivial⟩ ?_
        refine DM.done hsk17 (by kernel_rfl) ?_
        refine WP.cond ((x19.length : Int) != (x28.length : Int)) rfl (fun hc => ?_) (fun hc => ?_)
        · skip
          rw [if_pos hc] at hb12
          refine WP.seq ?_
          refine WP.region ?_
          refine RW.run ttok 1 rfl ?_
          refine RW.nil ?_
          refine WP.ret ?_
          cases hb12
          cases ho13
          have hm : some _ = some _ := hm
          cases hm
          exact ⟨_, .cons (.tmp rfl) .nil, rfl, (hS18.taken 0)⟩
        · skip
          rw [if_neg (not_t hc)] at hb12
          refine WP.skip ?_
          refine WP.seq ?_
          refine WP.region ?_
          refine RW.run ttok 1 rfl ?_
          refine RW.nil ?_
          obtain ⟨o44, hl45, hb12⟩ := bind_some hb12
          refine WP.cut (fun (t38 : Unit) F w9 => o44 = .inl t38 ∧ Ext ({ w16 with drawn := w16.drawn + 1 }) w9 ∧ St w w9 [] ∧ F = [(0, .slice A0_ x0.length k0_), (1, .slice A1_ x1.length k1_), (5, .int .i64 s1)]) ?_ ?_
          · skip
            rintro t38 F w43 ⟨ho47, hE42, hS46, rfl⟩
            subst ho47
            rw [aft_inl] at hb12
            unfold m_spec_l29SameChannels_j2 at hb12
            refine WP.region ?_
            refine RW.run ttok 3 rfl ?_
            refine RW.nil ?_
            cases hb12
            exact ⟨_, [(0, .slice A0_ x0.length k0_), (1, .slice A1_ x1.length k1_), (5, .int .i64 (w64 (s1 + 1)))], ⟨rfl, rfl, rfl, trivial⟩, rfl, ((hE5.trans (Ext.draw _)).trans hE42), (hS46.taken 0), rfl⟩
          · skip
            refine WP.block ?_
            refine WP.weak [(0, .slice A0_ x0.length k0_), (1, .slice A1_ x1.length k1_), (5, .int .i64 s1), (6, .int .i64 0)] ⟨rfl, rfl, rfl, rfl, trivial⟩ ?_
            refine WP.iter (fun (s37 : Int) F w9 => Ext ({ w16 with drawn := w16.drawn + 1 }) w9 ∧ St w w9 [] ∧ F = [(0, .slice A0_ x0.length k0_), (1, .slice A1_ x1.length k1_), (5, .int .i64 s1), (6, .int .i64 s37)]) _ hl45 ⟨(Ext.refl _), (hS18.taken 0), rfl⟩ ?_
            rintro s37 F w52 _ o50 ⟨hE41, hS51, rfl⟩ hb48 ho49
            unfold m_spec_l29SameChannels_b2 at hb48
            refine WP.seq ?_
            refine WP.seq ?_
            refine WP.region ?_
            refine RW.run ttok 3 rfl ?_
            obtain ⟨x53, hx54, hb48⟩ := bind_some hb48
            refine RW.idx ttok hS51.ext rfl rfl rfl rfl rfl rfl (by decide) rfl rfl h0_ (idx_some hx54).1 (idx_some hx54).2 rfl rfl (fun p55 es56 ha57 hr58 => ?_)
            obtain ⟨A59, k60, e61⟩ := ty171_form hr58; subst e61
            refine RW.load1 ttok rfl rfl rfl rfl rfl (At.ext hS51.ext ha57) 0 rfl rfl rfl rfl ?_
            refine RW.run ttok 2 rfl ?_
            refine RW.nil ?_
            refine WP.cond (decide (s37 < (x53.length : Int))) rfl (fun hc => ?_) (fun hc => ?_)
            · skip
              rw [if_pos hc] at hb48
              refine WP.skip ?_
              refine WP.seq ?_
              refine WP.block ?_
              refine WP.seq ?_
              refine WP.drawnM 0 mixed 14 (by kernel_rfl) (by kernel_rfl) [([], 16383), ([], 16383), ([0, 1], 16380), ([2], 16379), ([], 16383), ([3, 4], 16359), ([], 16383), ([], 16383), ([6, 7], 16191), ([8], 16127), ([], 16383), ([9, 10], 14847), ([5, 11], 14303), ([12], 12287)] (by kernel_rfl) (fun hsk62 => ?_)
              have hS63 := hS51.step (Ext.draw _)
              refine DM.run (fuel := 8) ttok hsk62 [0, 1, 4, 6, 7, 10] 1235 (by kernel_rfl) (by kernel_rfl) rfl ?_
              refine DM.weak [(0, .slice A0_ x0.length k0_), (1, .slice A1_ x1.length k1_), (5, .int .i64 s1), (6, .int .i64 s37), (38, .slice A0_ x0.length k0_), (39, .int .i64 s1), (42, .int .i64 s37), (44, .slice A1_ x1.length k1_), (45, .int .i64 s1), (48, .int .i64 s37)] ⟨rfl, rfl, rfl, rfl, rfl, rfl, rfl, rfl, rfl, rfl, trivial⟩ ?_
              obtain ⟨x64, hx65, hb48⟩ := bind_some hb48
              refine DM.idx ttok hS51.ext hsk62 2 1239 (by kernel_rfl) (by kernel_rfl) (by kernel_rfl) (by kernel_rfl) rfl (by kernel_rfl) rfl rfl rfl rfl rfl rfl (by decide) rfl rfl h0_ (idx_some hx65).1 (idx_some hx65).2 rfl rfl (fun p66 es67 ha68 hr69 => ?_)
              obtain ⟨A70, k71, e72⟩ := ty171_form hr69; subst e72
              refine DM.load1 ttok hsk62 3 1247 (by kernel_rfl) (by kernel_rfl) (by kernel_rfl) (by kernel_rfl) rfl (by kernel_rfl) rfl rfl rfl rfl rfl (At.ext hS51.ext ha68) 0 rfl rfl rfl rfl ?_
              obtain ⟨x73, hx74, hb48⟩ := bind_some hb48
              refine DM.idx ttok hS51.ext hsk62 5 1279 (by kernel_rfl) (by kernel_rfl) (by kernel_rfl) (by kernel_rfl) rfl (by kernel_rfl) rfl rfl rfl rfl rfl rfl (by decide) rfl rfl hr69 (idx_some hx74).1 (idx_some hx74).2 rfl rfl (fun p75 es76 ha77 hr78 => ?_)
              obtain ⟨A79, k80, A82, k83, e85, h81, h84⟩ := ty241_open hr78; subst e85
              obtain ⟨x86, hx87, hb48⟩ := bind_some hb48
              refine DM.idx ttok hS51.ext hsk62 8 1535 (by kernel_rfl) (by kernel_rfl) (by kernel_rfl) (by kernel_rfl) rfl (by kernel_rfl) rfl rfl rfl rfl rfl rfl (by decide) rfl rfl h1_ (idx_some hx87).1 (idx_some hx87).2 rfl rfl (fun p88 es89 ha90 hr91 => ?_)
              obtain ⟨A92, k93, e94⟩ := ty171_form hr91; subst e94
              refine DM.load1 ttok hsk62 9 2047 (by kernel_rfl) (by kernel_rfl) (by kernel_rfl) (by kernel_rfl) rfl (by kernel_rfl) rfl rfl rfl rfl rfl (At.ext hS51.ext ha90) 0 rfl rfl rfl rfl ?_
              obtain ⟨x95, hx96, hb48⟩ := bind_some hb48
              refine DM.idx ttok hS51.ext hsk62 11 4095 (by kernel_rfl) (by kernel_rfl) (by kernel_rfl) (by kernel_rfl) rfl (by kernel_rfl) rfl rfl rfl rfl rfl rfl (by decide) rfl rfl hr91 (idx_some hx96).1 (idx_some hx96).2 rfl rfl (fun p97 es98 ha99 hr100 => ?_)
              obtain ⟨A101, k102, A104, k105, e107, h103, h106⟩ := ty241_open hr100; subst e107
              obtain ⟨r108, hx109, hb48⟩ := bind_some hb48
              refine DM.one hsk62 12 (by kernel_rfl) (LM.call hsk62 8191 (by kernel_rfl) (by kernel_rfl) rfl rfl rfl rfl enters149 (spec_l29SameParcel_ok (ty241.ext hS63.ext hr78) (At.ext hS63.ext ha77) (ty241.ext hS63.ext hr100) (At.ext hS63.ext ha99) hx109) (fun v110 w111 hR112 => ?_))
              obtain ⟨rfl, hR113⟩ := hR112
              refine ⟨hR113.ext, ?_⟩
              have hS114 := hS63.join hR113
              refine DM.run (fuel := 0) ttok hsk62 [13] 16383 (by kernel_rfl) (by kernel_rfl) rfl ?_
              refine DM.weak [(0, .slice A0_ x0.length k0_), (1, .slice A1_ x1.length k1_), (5, .int .i64 s1), (6, .int .i64 s37), (51, .bool (!r108))] ⟨rfl, rfl, rfl, rfl, rfl, trivial⟩ ?_
              refine DM.done hsk62 (by kernel_rfl) ?_
              refine WP.cond (!r108) rfl (fun hc => ?_) (fun hc => ?_)
              · skip
                rw [if_pos hc] at hb48
                refine WP.seq ?_
                refine WP.region ?_
                refine RW.run ttok 1 rfl ?_
                refine RW.nil ?_
                refine WP.ret ?_
                cases hb48
                cases ho49
                have hb12 : some _ = some _ := hb12
                cases hb12
                cases ho13
                have hm : some _ = some _ := hm
                cases hm
                exact ⟨_, .cons (.tmp rfl) .nil, rfl, (hS114.taken 0)⟩
              · skip
                rw [if_neg (not_t hc)] at hb48
                refine WP.skip ?_
                refine WP.region ?_
                refine RW.run ttok 3 rfl ?_
                refine RW.nil ?_
                cases hb48
                exact ⟨_, [(0, .slice A0_ x0.length k0_), (1, .slice A1_ x1.length k1_), (5, .int .i64 s1), (6, .int .i64 (w64 (s37 + 1)))], ⟨rfl, rfl, rfl, rfl, trivial⟩, rfl, ((hE41.trans (Ext.draw _)).trans hR113.ext), (hS114.taken 0), rfl⟩
            · skip
              rw [if_neg (not_t hc)] at hb48
              refine WP.exit ?_
              cases hb48
              exact ⟨_, [(0, .slice A0_ x0.length k0_), (1, .slice A1_ x1.length k1_), (5, .int .i64 s1)], ⟨rfl, rfl, rfl, trivial⟩, ho49, hE41, (hS51.taken 0), rfl⟩
      · skip
        rw [if_neg (not_t hc)] at hb12
        refine WP.exit ?_
        cases hb12
        exact ⟨_, [], trivial, ho13, hE5, (hS15.taken 0), rfl⟩

theorem enters85 : Enters Try.prog 85 := ⟨_, _, Try.func85, rfl, by kernel_rfl⟩
def m_spec_l29SameLists_j1 (fuel : Nat) (t2 : Unit) : Option Bool := some true
def m_spec_l29SameLists_b1 (fuel : Nat) (x0 : (List (List Int))) (x1 : (List (List Int))) (s1 : Int) : Option (Rd (Int) (Unit) (Bool)) := (if (decide (s1 < (x0.length : Int))) = true then ((idx x0 s1).bind fun x19 => ((idx x1 s1).bind fun x28 => ((m_spec_l00Same fuel x19 x28).bind fun r37 => (if (!r37) = true then some (.ret false) else some (.next (w64 (s1 + 1))))))) else some (.brk ()))
def m_spec_l29SameLists (fuel : Nat) (x0 : (List (List Int))) (x1 : (List (List Int))) : Option (Bool) := (if ((x0.length : Int) != (x1.length : Int)) = true then some false else ((iter (m_spec_l29SameLists_b1 fuel x0 x1) fuel 0).bind fun o => aft o (m_spec_l29SameLists_j1 fuel)))

set_option maxRecDepth 100000 in
theorem spec_l29SameLists_ok {w : World} {A0_ : Option Addr} {k0_ : Nat} {x0 : (List (List Int))} {A1_ : Option Addr} {k1_ : Nat} {x1 : (List (List Int))} (h0_ : ty71.ro w [.slice A0_ x0.length k0_] x0) (h1_ : ty71.ro w [.slice A1_ x1.length k1_] x1) {fuel : Nat} {r : Bool} (hm : m_spec_l29SameLists fuel x0 x1 = some r) :
    Calls Try.prog 85 ⟨[.slice A0_ x0.length k0_, .slice A1_ x1.length k1_]⟩ w (Ret fun v w8 => v = .bool r ∧ St w w8 []) := by
  refine Calls.into Try.func85 rfl 27 rfl rfl _ rfl ?_
  unfold m_spec_l29SameLists at hm
  have hS := St.start w
  refine WP.seq ?_
  refine WP.region ?_
  refine RW.run ttok 1 rfl ?_
  refine RW.nil ?_
  refine WP.seq ?_
  refine WP.seq ?_
  refine WP.region ?_
  refine RW.run ttok 5 rfl ?_
  refine RW.nil ?_
  refine WP.cond ((x0.length : Int) != (x1.length : Int)) rfl (fun hc => ?_) (fun hc => ?_)
  · skip
    rw [if_pos hc] at hm
    refine WP.seq ?_
    refine WP.region ?_
    refine RW.run ttok 1 rfl ?_
    refine RW.nil ?_
    refine WP.ret ?_
    cases hm
    exact ⟨_, .cons (.tmp rfl) .nil, rfl, (hS.taken 0)⟩
  · skip
    rw [if_neg (not_t hc)] at hm
    refine WP.skip ?_
    refine WP.seq ?_
    refine WP.seq ?_
    refine WP.region ?_
    refine RW.run ttok 1 rfl ?_
    refine RW.nil ?_
    obtain ⟨o8, hl9, hm⟩ := bind_some hm
    refine WP.cut (fun (t2 : Unit) F w9 => o8 = .inl t2 ∧ Ext w w9 ∧ St w w9 [] ∧ F = []) ?_ ?_
    · skip
      rintro t2 F w7 ⟨ho11, hE6, hS10, rfl⟩
      subst ho11
      rw [aft_inl] at hm
      unfold m_spec_l29SameLists_j1 at hm
      refine WP.seq ?_
      refine WP.region ?_
      refine RW.run ttok 1 rfl ?_
      refine RW.nil ?_
      refine WP.ret ?_
      cases hm
      exact ⟨_, .cons (.tmp rfl) .nil, rfl, (hS10.taken 0)⟩
    · skip
      refine WP.block ?_
      refine WP.weak [(0, .slice A0_ x0.length k0_), (1, .slice A1_ x1.length k1_), (5, .int .i64 0)] ⟨rfl, rfl, rfl, trivial⟩ ?_
      refine WP.iter (fun (s1 : Int) F w9 => Ext w w9 ∧ St w w9 [] ∧ F = [(0, .slice A0_ x0.length k0_), (1, .slice A1_ x1.length k1_), (5, .int .i64 s1)]) _ hl9 ⟨(Ext.refl _), (hS.taken 0), rfl⟩ ?_
      rintro s1 F w16 _ o14 ⟨hE5, hS15, rfl⟩ hb12 ho13
      unfold m_spec_l29SameLists_b1 at hb12
      refine WP.seq ?_
      refine WP.seq ?_
      refine WP.region ?_
      refine RW.run ttok 4 rfl ?_
      refine RW.nil ?_
      refine WP.cond (decide (s1 < (x0.length : Int))) rfl (fun hc => ?_) (fun hc => ?_)
      · skip
        rw [if_pos hc] at hb12
        refine WP.skip ?_
        refine WP.seq ?_
        refine WP.block ?_
        refine WP.seq ?_
        refine WP.drawnM 0 mixed 10 (by kernel_rfl) (by kernel_rfl) [([], 1023), ([], 1023), ([0, 1], 1020), ([2], 1019), ([], 1023), ([], 1023), ([4, 5], 975), ([6], 959), ([3, 7], 887), ([8], 767)] (by kernel_rfl) (fun hsk17 => ?_)
        have hS18 := hS15.step (Ext.draw _)
        refine DM.run (fuel := 6) ttok hsk17 [0, 1, 4, 5] 51 (by kernel_rfl) (by kernel_rfl) rfl ?_
        obtain ⟨x19, hx20, hb12⟩ := bind_some hb12
        refine DM.idx ttok hS15.ext hsk17 2 55 (by kernel_rfl) (by kernel_rfl) (by kernel_rfl) (by kernel_rfl) rfl (by kernel_rfl) rfl rfl rfl rfl rfl rfl (by decide) rfl rfl h0_ (idx_some hx20).1 (idx_some hx20).2 rfl rfl (fun p21 es22 ha23 hr24 => ?_)
        obtain ⟨A25, k26, e27⟩ := ty72_form hr24; subst e27
        refine DM.load1 ttok hsk17 3 63 (by kernel_rfl) (by kernel_rfl) (by kernel_rfl) (by kernel_rfl) rfl (by kernel_rfl) rfl rfl rfl rfl rfl (At.ext hS15.ext ha23) 0 rfl rfl rfl rfl ?_
        obtain ⟨x28, hx29, hb12⟩ := bind_some hb12
        refine DM.idx ttok hS15.ext hsk17 6 127 (by kernel_rfl) (by kernel_rfl) (by kernel_rfl) (by kernel_rfl) rfl (by kernel_rfl) rfl rfl rfl rfl rfl rfl (by decide) rfl rfl h1_ (idx_some hx29).1 (idx_some hx29).2 rfl rfl (fun p30 es31 ha32 hr33 => ?_)
        obtain ⟨A34, k35, e36⟩ := ty72_form hr33; subst e36
        refine DM.load1 ttok hsk17 7 255 (by kernel_rfl) (by kernel_rfl) (by kernel_rfl) (by kernel_rfl) rfl (by kernel_rfl) rfl rfl rfl rfl rfl (At.ext hS15.ext ha32) 0 rfl rfl rfl rfl ?_
        obtain ⟨r37, hx38, hb12⟩ := bind_some hb12
        refine DM.one hsk17 8 (by kernel_rfl) (LM.call hsk17 511 (by kernel_rfl) (by kernel_rfl) rfl rfl rfl rfl enters86 (spec_l00Same_ok (ty72.ext hS18.ext hr24) (ty72.ext hS18.ext hr33) hx38) (fun v39 w40 hR41 => ?_))
        obtain ⟨rfl, hR42⟩ := hR41
        refine ⟨hR42.ext, ?_⟩
        have hS43 := hS18.join hR42
        refine DM.run (fuel := 0) ttok hsk17 [9] 1023 (by kernel_rfl) (by kernel_rfl) rfl ?_
        refine DM.weak [(0, .slice A0_ x0.length k0_), (1, .slice A1_ x1.length k1_), (5, .int .i64 s1), (26, .bool (!r37))] ⟨rfl, rfl, rfl, rfl, trivial⟩ ?_
        refine DM.done hsk17 (by kernel_rfl) ?_
        refine WP.cond (!r37) rfl (fun hc => ?_) (fun hc => ?_)
        · skip
          rw [if_pos hc] at hb12
          refine WP.seq ?_
          refine WP.region ?_
          refine RW.run ttok 1 rfl ?_
          refine RW.nil ?_
          refine WP.ret ?_
          cases hb12
          cases ho13
          have hm : some _ = some _ := hm
          cases hm
          exact ⟨_, .cons (.tmp rfl) .nil, rfl, (hS43.taken 0)⟩
        · skip
          rw [if_neg (not_t hc)] at hb12
          refine WP.skip ?_
          refine WP.region ?_
          refine RW.run ttok 3 rfl ?_
          refine RW.nil ?_
          cases hb12
          exact ⟨_, [(0, .slice A0_ x0.length k0_), (1, .slice A1_ x1.length k1_), (5, .int .i64 (w64 (s1 + 1)))], ⟨rfl, rfl, rfl, trivial⟩, rfl, ((hE5.trans (Ext.draw _)).trans hR42.ext), (hS43.taken 0), rfl⟩
      · skip
        rw [if_neg (not_t hc)] at hb12
        refine WP.exit ?_
        cases hb12
        exact ⟨_, [], trivial, ho13, hE5, (hS15.taken 0), rfl⟩

theorem enters27 : Enters Try.prog 27 := ⟨_, _, Try.func27, rfl, by kernel_rfl⟩
def m_spec_SameCluster (fuel : Nat) (x0 : D.Cluster) (x1 : D.Cluster) : Option (Bool) := ((m_spec_SameGrid fuel x0.Grid x1.Grid).bind fun r41 => (if r41 = true then ((m_spec_l29SameChannels fuel x0.Channels x1.Channels).bind fun r49 => (if r49 = true then ((m_spec_l29SameLists fuel x0.Counts x1.Counts).bind fun r57 => (if r57 = true then ((m_spec_l00Same fuel x0.Sent x1.Sent).bind fun r65 => (if r65 = true then ((m_spec_l00Same fuel x0.Got x1.Got).bind fun r73 => some r73) else some false)) else some false)) else some false)) else some false))

set_option maxRecDepth 100000 in
theorem spec_SameCluster_ok {w : World} {c0_ : List Value} {x0 : D.Cluster} {c1_ : List Value} {x1 : D.Cluster} (h0_ : ty79.ro w c0_ x0) (h1_ : ty79.ro w c1_ x1) {fuel : Nat} {r : Bool} (hm : m_spec_SameCluster fuel x0 x1 = some r) :
    Calls Try.prog 27 ⟨[.agg ⟨c0_⟩, .agg ⟨c1_⟩]⟩ w (Ret fun v w8 => v = .bool r ∧ St w w8 []) := by
  obtain ⟨A1, k2, A4, k5, A7, k8, A10, k11, A13, k14, e16, h3, h6, h9, h12, h15⟩ := ty79_open h0_; subst e16
  obtain ⟨A17, k18, A20, k21, A23, k24, A26, k27, A29, k30, e32, h19, h22, h25, h28, h31⟩ := ty79_open h1_; subst e32
  refine Calls.into Try.func27 rfl 38 rfl rfl _ rfl ?_
  unfold m_spec_SameCluster at hm
  have hS := St.start w
  refine WP.seq ?_
  refine WP.region ?_
  refine RW.new ttok hS rfl rfl rfl rfl (fun g33 w34 e35 hS36 => ?_)
  refine RW.new ttok hS36 rfl rfl rfl rfl (fun g37 w38 e39 hS40 => ?_)
  refine RW.run ttok 1 rfl ?_
  refine RW.nil ?_
  refine WP.seq ?_
  refine WP.region ?_
  refine RW.run ttok 1 rfl ?_
  refine RW.loadN ttok rfl rfl rfl rfl rfl (At.sub ((hS40.bring 1 rfl).box) 0 4) rfl rfl rfl ?_
  refine RW.run ttok 1 rfl ?_
  refine RW.loadN ttok rfl rfl rfl rfl rfl (At.sub ((hS40.bring 0 rfl).box) 0 4) rfl rfl rfl ?_
  obtain ⟨r41, hx42, hm⟩ := bind_some hm
  refine RW.call rfl rfl rfl enters17 (spec_SameGrid_ok (ty46_shut x0.Grid (ty43.ext hS40.ext h3)) (ty46_shut x1.Grid (ty43.ext hS40.ext h19)) hx42) (fun v43 w44 hR45 => ?_)
  obtain ⟨rfl, hR46⟩ := hR45
  have hS47 := hS40.join hR46
  refine RW.run ttok 1 rfl ?_
  by_cases hg48 : r41 = true
  · skip
    rw [if_pos hg48] at hm
    refine RW.know 10 rfl (congrArg Value.bool hg48) ?_
    refine RW.run ttok 1 rfl ?_
    refine RW.load1 ttok rfl rfl rfl rfl rfl ((hS47.bring 1 rfl).box) 4 rfl rfl rfl rfl ?_
    refine RW.run ttok 1 rfl ?_
    refine RW.load1 ttok rfl rfl rfl rfl rfl ((hS47.bring 0 rfl).box) 4 rfl rfl rfl rfl ?_
    obtain ⟨r49, hx50, hm⟩ := bind_some hm
    refine RW.call rfl rfl rfl enters84 (spec_l29SameChannels_ok (ty77.ext hS47.ext h6) (ty77.ext hS47.ext h22) hx50) (fun v51 w52 hR53 => ?_)
    obtain ⟨rfl, hR54⟩ := hR53
    have hS55 := hS47.join hR54
    refine RW.run ttok 2 rfl ?_
    by_cases hg56 : r49 = true
    · skip
      rw [if_pos hg56] at hm
      refine RW.know 17 rfl (congrArg Value.bool hg56) ?_
      refine RW.run ttok 1 rfl ?_
      refine RW.load1 ttok rfl rfl rfl rfl rfl ((hS55.bring 1 rfl).box) 5 rfl rfl rfl rfl ?_
      refine RW.run ttok 1 rfl ?_
      refine RW.load1 ttok rfl rfl rfl rfl rfl ((hS55.bring 0 rfl).box) 5 rfl rfl rfl rfl ?_
      obtain ⟨r57, hx58, hm⟩ := bind_some hm
      refine RW.call rfl rfl rfl enters85 (spec_l29SameLists_ok (ty71.ext hS55.ext h9) (ty71.ext hS55.ext h25) hx58) (fun v59 w60 hR61 => ?_)
      obtain ⟨rfl, hR62⟩ := hR61
      have hS63 := hS55.join hR62
      refine RW.run ttok 2 rfl ?_
      by_cases hg64 : r57 = true
      · skip
        rw [if_pos hg64] at hm
        refine RW.know 24 rfl (congrArg Value.bool hg64) ?_
        refine RW.run ttok 1 rfl ?_
        refine RW.load1 ttok rfl rfl rfl rfl rfl ((hS63.bring 1 rfl).box) 6 rfl rfl rfl rfl ?_
        refine RW.run ttok 1 rfl ?_
        refine RW.load1 ttok rfl rfl rfl rfl rfl ((hS63.bring 0 rfl).box) 6 rfl rfl rfl rfl ?_
        obtain ⟨r65, hx66, hm⟩ := bind_some hm
        refine RW.call rfl rfl rfl enters86 (spec_l00Same_ok (ty72.ext hS63.ext h12) (ty72.ext hS63.ext h28) hx66) (fun v67 w68 hR69 => ?_)
        obtain ⟨rfl, hR70⟩ := hR69
        have hS71 := hS63.join hR70
        refine RW.run ttok 2 rfl ?_
        by_cases hg72 : r65 = true
        · skip
          rw [if_pos hg72] at hm
          refine RW.know 31 rfl (congrArg Value.bool hg72) ?_
          refine RW.run ttok 1 rfl ?_
          refine RW.load1 ttok rfl rfl rfl rfl rfl ((hS71.bring 1 rfl).box) 7 rfl rfl rfl rfl ?_
          refine RW.run ttok 1 rfl ?_
          refine RW.load1 ttok rfl rfl rfl rfl rfl ((hS71.bring 0 rfl).box) 7 rfl rfl rfl rfl ?_
          obtain ⟨r73, hx74, hm⟩ := bind_some hm
          refine RW.call rfl rfl rfl enters86 (spec_l00Same_ok (ty72.ext hS71.ext h15) (ty72.ext hS71.ext h31) hx74) (fun v75 w76 hR77 => ?_)
          obtain ⟨rfl, hR78⟩ := hR77
          have hS79 := hS71.join hR78
          refine RW.run ttok 2 rfl ?_
          refine RW.nil ?_
          refine WP.ret ?_
          cases hm
          exact ⟨_, .cons (.tmp rfl) .nil, rfl, (hS79.taken 0)⟩
        · skip
          rw [if_neg hg72] at hm
          refine RW.know 31 rfl (congrArg Value.bool (Bool.eq_false_iff.2 hg72)) ?_
          refine RW.run ttok 7 rfl ?_
          refine RW.nil ?_
          refine WP.ret ?_
          cases hm
          exact ⟨_, .cons (.tmp rfl) .nil, rfl, (hS71.taken 0)⟩
      · skip
        rw [if_neg hg64] at hm
        refine RW.know 24 rfl (congrArg Value.bool (Bool.eq_false_iff.2 hg64)) ?_
        refine RW.run ttok 14 rfl ?_
        refine RW.nil ?_
        refine WP.ret ?_
        cases hm
        exact ⟨_, .cons (.tmp rfl) .nil, rfl, (hS63.taken 0)⟩
    · skip
      rw [if_neg hg56] at hm
      refine RW.know 17 rfl (congrArg Value.bool (Bool.eq_false_iff.2 hg56)) ?_
      refine RW.run ttok 21 rfl ?_
      refine RW.nil ?_
      refine WP.ret ?_
      cases hm
      exact ⟨_, .cons (.tmp rfl) .nil, rfl, (hS55.taken 0)⟩
  · skip
    rw [if_neg hg48] at hm
    refine RW.know 10 rfl (congrArg Value.bool (Bool.eq_false_iff.2 hg48)) ?_
    refine RW.run ttok 28 rfl ?_
    refine RW.nil ?_
    refine WP.ret ?_
    cases hm
    exact ⟨_, .cons (.tmp rfl) .nil, rfl, (hS47.taken 0)⟩

theorem enters90 : Enters Try.prog 90 := ⟨_, _, Try.func90, rfl, by kernel_rfl⟩
def m_slices_EqualFunc_impl_Parcel_impl_Parcel_impl_Parcel_impl_Parcel_j1 (fuel : Nat) (t2 : Unit) : Option Bool := some true
def m_slices_EqualFunc_impl_Parcel_impl_Parcel_impl_Parcel_impl_Parcel_b1 (fuel : Nat) (x0 : (List (List D.Parcel))) (x1 : (List (List D.Parcel))) (x2 : (List D.Parcel) → (List D.Parcel) → Option Bool) (s1 : Int) : Option (Rd (Int) (Unit) (Bool)) := (if (decide (s1 < (x0.length : Int))) = true then ((idx x0 s1).bind fun x17 => ((idx x1 s1).bind fun x26 => ((x2 x17 x26).bind fun r35 => (if (!r35) = true then some (.ret false) else some (.next (w64 (s1 + 1))))))) else some (.brk ()))
def m_slices_EqualFunc_impl_Parcel_impl_Parcel_impl_Parcel_impl_Parcel (fuel : Nat) (x0 : (List (List D.Parcel))) (x1 : (List (List D.Parcel))) (x2 : (List D.Parcel) → (List D.Parcel) → Option Bool) : Option (Bool) := (if ((x0.length : Int) != (x1.length : Int)) = true then some false else ((iter (m_slices_EqualFunc_impl_Parcel_impl_Parcel_impl_Parcel_impl_Parcel_b1 fuel x0 x1 x2) fuel 0).bind fun o => aft o (m_slices_EqualFunc_impl_Parcel_impl_Parcel_impl_Parcel_impl_Parcel_j1 fuel)))

set_option maxRecDepth 100000 in
theorem slices_EqualFunc_impl_Parcel_impl_Parcel_impl_Parcel_impl_Parcel_ok {w : World} {A0_ : Option Addr} {k0_ : Nat} {x0 : (List (List D.Parcel))} {A1_ : Option Addr} {k1_ : Nat} {x1 : (List (List D.Parcel))} {f2_ : Nat} {u2_ : List Value} {x2 : (List D.Parcel) → (List D.Parcel) → Option Bool} (h0_ : ty77.ro w [.slice A0_ x0.length k0_] x0) (h1_ : ty77.ro w [.slice A1_ x1.length k1_] x1) (h2_ : Enters Try.prog f2_ ∧ ∀ {w9 : World}, Ext w w9 → ∀ {Az0 : Option Addr} {kz0 : Nat} {z0 : (List D.Parcel)} {Az1 : Option Addr} {kz1 : Nat} {z1 : (List D.Parcel)} {y9 : Bool}, ty171.ro w9 [.slice Az0 z0.length kz0] z0 → ty171.ro w9 [.slice Az1 z1.length kz1] z1 → x2 z0 z1 = some y9 → Calls Try.prog f2_ ⟨[.slice Az0 z0.length kz0, .slice Az1 z1.length kz1] ++ u2_⟩ w9 (Ret fun v w8 => v = .bool y9 ∧ St w9 w8 [])) {fuel : Nat} {r : Bool} (hm : m_slices_EqualFunc_impl_Parcel_impl_Parcel_impl_Parcel_impl_Parcel fuel x0 x1 x2 = some r) :
    Calls Try.prog 90 ⟨[.slice A0_ x0.length k0_, .slice A1_ x1.length k1_, .func (.func f2_) #[] ⟨u2_⟩]⟩ w (Ret fun v w8 => v = .bool r ∧ St w w8 []) := by
  refine Calls.into Try.func90 rfl 32 rfl rfl _ rfl ?_
  unfold m_slices_EqualFunc_impl_Parcel_impl_Parcel_impl_Parcel_impl_Parcel at hm
  have hS := St.start w
  refine WP.seq ?_
  refine WP.region ?_
  refine RW.run ttok 1 rfl ?_
  refine RW.nil ?_
  refine WP.seq ?_
  refine WP.seq ?_
  refine WP.region ?_
  refine RW.run ttok 5 rfl ?_
  refine RW.nil ?_
  refine WP.cond ((x0.length : Int) != (x1.length : Int)) rfl (fun hc => ?_) (fun hc => ?_)
  · skip
    rw [if_pos hc] at hm
    refine WP.seq ?_
    refine WP.region ?_
    refine RW.run ttok 1 rfl ?_
    refine RW.nil ?_
    refine WP.ret ?_
    cases hm
    exact ⟨_, .cons (.tmp rfl) .nil, rfl, (hS.taken 0)⟩
  · skip
    rw [if_neg (not_t hc)] at hm
    refine WP.skip ?_
    refine WP.seq ?_
    refine WP.seq ?_
    refine WP.region ?_
    refine RW.run ttok 3 rfl ?_
    refine RW.nil ?_
    obtain ⟨o8, hl9, hm⟩ := bind_some hm
    refine WP.cut (fun (t2 : Unit) F w9 => o8 = .inl t2 ∧ Ext w w9 ∧ St w w9 [] ∧ F = []) ?_ ?_
    · skip
      rintro t2 F w7 ⟨ho11, hE6, hS10, rfl⟩
      subst ho11
      rw [aft_inl] at hm
      unfold m_slices_EqualFunc_impl_Parcel_impl_Parcel_impl_Parcel_impl_Parcel_j1 at hm
      refine WP.seq ?_
      refine WP.region ?_
      refine RW.run ttok 1 rfl ?_
      refine RW.nil ?_
      refine WP.ret ?_
      cases hm
      exact ⟨_, .cons (.tmp rfl) .nil, rfl, (hS10.taken 0)⟩
    · skip
      refine WP.block ?_
      refine WP.weak [(1, .slice A1_ x1.length k1_), (2, .func (.func f2_) #[] ⟨u2_⟩), (15, .slice A0_ x0.length k0_), (16, .int .i64 (x0.length : Int)), (17, .int .i64 0)] ⟨rfl, rfl, rfl, rfl, rfl, trivial⟩ ?_
      refine WP.iter (fun (s1 : Int) F w9 => Ext w w9 ∧ St w w9 [] ∧ F = [(1, .slice A1_ x1.length k1_), (2, .func (.func f2_) #[] ⟨u2_⟩), (15, .slice A0_ x0.length k0_), (16, .int .i64 (x0.length : Int)), (17, .int .i64 s1)]) _ hl9 ⟨(Ext.refl _), (hS.taken 0), rfl⟩ ?_
      rintro s1 F w16 _ o14 ⟨hE5, hS15, rfl⟩ hb12 ho13
      unfold m_slices_EqualFunc_impl_Parcel_impl_Parcel_impl_Parcel_impl_Parcel_b1 at hb12
      refine WP.seq ?_
      refine WP.region ?_
      refine RW.run ttok 1 rfl ?_
      refine RW.nil ?_
      refine WP.seq ?_
      refine WP.cond (decide (s1 < (x0.length : Int))) rfl (fun hc => ?_) (fun hc => ?_)
      · skip
        rw [if_pos hc] at hb12
        refine WP.skip ?_
        refine WP.seq ?_
        refine WP.block ?_
        refine WP.seq ?_
        refine WP.region ?_
        refine RW.run ttok 1 rfl ?_
        obtain ⟨x17, hx18, hb12⟩ := bind_some hb12
        refine RW.idx ttok hS15.ext rfl rfl rfl rfl rfl rfl (by decide) rfl rfl h0_ (idx_some hx18).1 (idx_some hx18).2 rfl rfl (fun p19 es20 ha21 hr22 => ?_)
        obtain ⟨A23, k24, e25⟩ := ty171_form hr22; subst e25
        refine RW.load1 ttok rfl rfl rfl rfl rfl (At.ext hS15.ext ha21) 0 rfl rfl rfl rfl ?_
        refine RW.run ttok 2 rfl ?_
        refine RW.nil ?_
        refine WP.seq ?_
        refine WP.region ?_
        refine RW.run ttok 2 rfl ?_
        obtain ⟨x26, hx27, hb12⟩ := bind_some hb12
        refine RW.idx ttok hS15.ext rfl rfl rfl rfl rfl rfl (by decide) rfl rfl h1_ (idx_some hx27).1 (idx_some hx27).2 rfl rfl (fun p28 es29 ha30 hr31 => ?_)
        obtain ⟨A32, k33, e34⟩ := ty171_form hr31; subst e34
        refine RW.load1 ttok rfl rfl rfl rfl rfl (At.ext hS15.ext ha30) 0 rfl rfl rfl rfl ?_
        refine RW.run ttok 1 rfl ?_
        refine RW.nil ?_
        refine WP.seq ?_
        refine WP.region ?_
        refine RW.run ttok 3 rfl ?_
        obtain ⟨r35, hx36, hb12⟩ := bind_some hb12
        refine RW.call rfl rfl rfl h2_.1 (h2_.2 hS15.ext (ty171.ext hS15.ext hr22) (ty171.ext hS15.ext hr31) hx36) (fun v37 w38 hR39 => ?_)
        obtain ⟨rfl, hR40⟩ := hR39
        have hS41 := hS15.join hR40
        refine RW.run ttok 1 rfl ?_
        refine RW.nil ?_
        refine WP.cond (!r35) rfl (fun hc => ?_) (fun hc => ?_)
        · skip
          rw [if_pos hc] at hb12
          refine WP.seq ?_
          refine WP.region ?_
          refine RW.run ttok 1 rfl ?_
          refine RW.nil ?_
          refine WP.ret ?_
          cases hb12
          cases ho13
          have hm : some _ = some _ := hm
          cases hm
          exact ⟨_, .cons (.tmp rfl) .nil, rfl, (hS41.taken 0)⟩
        · skip
          rw [if_neg (not_t hc)] at hb12
          refine WP.skip ?_
          refine WP.region ?_
          refine RW.run ttok 2 rfl ?_
          refine RW.nil ?_
          cases hb12
          exact ⟨_, [(1, .slice A1_ x1.length k1_), (2, .func (.func f2_) #[] ⟨u2_⟩), (15, .slice A0_ x0.length k0_), (16, .int .i64 (x0.length : Int)), (17, .int .i64 (w64 (s1 + 1)))], ⟨rfl, rfl, rfl, rfl, rfl, trivial⟩, rfl, (hE5.trans hR40.ext), (hS41.taken 0), rfl⟩
      · skip
        rw [if_neg (not_t hc)] at hb12
        refine WP.exit ?_
        cases hb12
        exact ⟨_, [], trivial, ho13, hE5, (hS15.taken 0), rfl⟩

theorem enters151 : Enters Try.prog 151 := ⟨_, _, Try.func151, rfl, by kernel_rfl⟩
def m_slices_EqualFunc_impl_Parcel_impl_Parcel_impl_Parcel_impl_Parcel_n151_j1 (fuel : Nat) (t2 : Unit) : Option Bool := some true
def m_slices_EqualFunc_impl_Parcel_impl_Parcel_impl_Parcel_impl_Parcel_n151_b1 (fuel : Nat) (x0 : (List D.Parcel)) (x1 : (List D.Parcel)) (x2 : D.Parcel → D.Parcel → Option Bool) (s1 : Int) : Option (Rd (Int) (Unit) (Bool)) := (if (decide (s1 < (x0.length : Int))) = true then ((idx x0 s1).bind fun x14 => ((idx x1 s1).bind fun x34 => ((x2 x14 x34).bind fun r54 => (if (!r54) = true then some (.ret false) else some (.next (w64 (s1 + 1))))))) else some (.brk ()))
def m_slices_EqualFunc_impl_Parcel_impl_Parcel_impl_Parcel_impl_Parcel_n151 (fuel : Nat) (x0 : (List D.Parcel)) (x1 : (List D.Parcel)) (x2 : D.Parcel → D.Parcel → Option Bool) : Option (Bool) := (if ((x0.length : Int) != (x1.length : Int)) = true then some false else ((iter (m_slices_EqualFunc_impl_Parcel_impl_Parcel_impl_Parcel_impl_Parcel_n151_b1 fuel x0 x1 x2) fuel 0).bind fun o => aft o (m_slices_EqualFunc_impl_Parcel_impl_Parcel_impl_Parcel_impl_Parcel_n151_j1 fuel)))

set_option maxRecDepth 100000 in
theorem slices_EqualFunc_impl_Parcel_impl_Parcel_impl_Parcel_impl_Parcel_n151_ok {w : World} {A0_ : Option Addr} {k0_ : Nat} {x0 : (List D.Parcel)} {A1_ : Option Addr} {k1_ : Nat} {x1 : (List D.Parcel)} {f2_ : Nat} {u2_ : List Value} {x2 : D.Parcel → D.Parcel → Option Bool} (h0_ : ty171.ro w [.slice A0_ x0.length k0_] x0) (h1_ : ty171.ro w [.slice A1_ x1.length k1_] x1) (h2_ : Enters Try.prog f2_ ∧ ∀ {w9 : World}, Ext w w9 → ∀ {cz0 : List Value} {z0 : D.Parcel} {cz1 : List Value} {z1 : D.Parcel} {y9 : Bool}, ty241.ro w9 cz0 z0 → ty241.ro w9 cz1 z1 → x2 z0 z1 = some y9 → Calls Try.prog f2_ ⟨[.agg ⟨cz0⟩, .agg ⟨cz1⟩] ++ u2_⟩ w9 (Ret fun v w8 => v = .bool y9 ∧ St w9 w8 [])) {fuel : Nat} {r : Bool} (hm : m_slices_EqualFunc_impl_Parcel_impl_Parcel_impl_Parcel_impl_Parcel_n151 fuel x0 x1 x2 = some r) :
    Calls Try.prog 151 ⟨[.slice A0_ x0.length k0_, .slice A1_ x1.length k1_, .func (.func f2_) #[] ⟨u2_⟩]⟩ w (Ret fun v w8 => v = .bool r ∧ St w w8 []) := by
  refine Calls.into Try.func151 rfl 32 rfl rfl _ rfl ?_
  unfold m_slices_EqualFunc_impl_Parcel_impl_Parcel_impl_Parcel_impl_Parcel_n151 at hm
  have hS := St.start w
  refine WP.seq ?_
  refine WP.region ?_
  refine RW.run ttok 1 rfl ?_
  refine RW.nil ?_
  refine WP.seq ?_
  refine WP.seq ?_
  refine WP.region ?_
  refine RW.run ttok 5 rfl ?_
  refine RW.nil ?_
  refine WP.cond ((x0.length : Int) != (x1.length : Int)) rfl (fun hc => ?_) (fun hc => ?_)
  · skip
    rw [if_pos hc] at hm
    refine WP.seq ?_
    refine WP.region ?_
    refine RW.run ttok 1 rfl ?_
    refine RW.nil ?_
    refine WP.ret ?_
    cases hm
    exact ⟨_, .cons (.tmp rfl) .nil, rfl, (hS.taken 0)⟩
  · skip
    rw [if_neg (not_t hc)] at hm
    refine WP.skip ?_
    refine WP.seq ?_
    refine WP.seq ?_
    refine WP.region ?_
    refine RW.run ttok 3 rfl ?_
    refine RW.nil ?_
    obtain ⟨o5, hl6, hm⟩ := bind_some hm
    refine WP.cut (fun (t2 : Unit) F w9 => o5 = .inl t2 ∧ St w w9 [] ∧ F = []) ?_ ?_
    · skip
      rintro t2 F w4 ⟨ho8, hS7, rfl⟩
      subst ho8
      rw [aft_inl] at hm
      unfold m_slices_EqualFunc_impl_Parcel_impl_Parcel_impl_Parcel_impl_Parcel_n151_j1 at hm
      refine WP.seq ?_
      refine WP.region ?_
      refine RW.run ttok 1 rfl ?_
      refine RW.nil ?_
      refine WP.ret ?_
      cases hm
      exact ⟨_, .cons (.tmp rfl) .nil, rfl, (hS7.taken 0)⟩
    · skip
      refine WP.block ?_
      refine WP.weak [(1, .slice A1_ x1.length k1_), (2, .func (.func f2_) #[] ⟨u2_⟩), (15, .slice A0_ x0.length k0_), (16, .int .i64 (x0.length : Int)), (17, .int .i64 0)] ⟨rfl, rfl, rfl, rfl, rfl, trivial⟩ ?_
      refine WP.iter (fun (s1 : Int) F w9 => St w w9 [] ∧ F = [(1, .slice A1_ x1.length k1_), (2, .func (.func f2_) #[] ⟨u2_⟩), (15, .slice A0_ x0.length k0_), (16, .int .i64 (x0.length : Int)), (17, .int .i64 s1)]) _ hl6 ⟨(hS.taken 0), rfl⟩ ?_
      rintro s1 F w13 _ o11 ⟨hS12, rfl⟩ hb9 ho10
      unfold m_slices_EqualFunc_impl_Parcel_impl_Parcel_impl_Parcel_impl_Parcel_n151_b1 at hb9
      refine WP.seq ?_
      refine WP.region ?_
      refine RW.run ttok 1 rfl ?_
      refine RW.nil ?_
      refine WP.seq ?_
      refine WP.cond (decide (s1 < (x0.length : Int))) rfl (fun hc => ?_) (fun hc => ?_)
      · skip
        rw [if_pos hc] at hb9
        refine WP.skip ?_
        refine WP.seq ?_
        refine WP.block ?_
        refine WP.seq ?_
        refine WP.region ?_
        refine RW.run ttok 1 rfl ?_
        obtain ⟨x14, hx15, hb9⟩ := bind_some hb9
        refine RW.idx ttok hS12.ext rfl rfl rfl rfl rfl rfl (by decide) rfl rfl h0_ (idx_some hx15).1 (idx_some hx15).2 rfl rfl (fun p16 es17 ha18 hr19 => ?_)
        obtain ⟨A20, k21, A23, k24, e26, h22, h25⟩ := ty241_open hr19; subst e26
        refine RW.loadN ttok rfl rfl rfl rfl rfl (At.ext hS12.ext ha18) rfl rfl rfl ?_
        refine RW.new ttok hS12 rfl rfl rfl rfl (fun g27 w28 e29 hS30 => ?_)
        refine RW.run ttok 1 rfl ?_
        have hS31 := hS30.bring 0 rfl
        refine RW.store ttok (A := []) hS31 rfl rfl rfl rfl rfl 0 rfl rfl rfl rfl rfl (fun w32 hS33 => ?_)
        refine RW.nil ?_
        refine WP.seq ?_
        refine WP.region ?_
        refine RW.run ttok 2 rfl ?_
        obtain ⟨x34, hx35, hb9⟩ := bind_some hb9
        refine RW.idx ttok hS33.ext rfl rfl rfl rfl rfl rfl (by decide) rfl rfl h1_ (idx_some hx35).1 (idx_some hx35).2 rfl rfl (fun p36 es37 ha38 hr39 => ?_)
        obtain ⟨A40, k41, A43, k44, e46, h42, h45⟩ := ty241_open hr39; subst e46
        refine RW.loadN ttok rfl rfl rfl rfl rfl (At.ext hS33.ext ha38) rfl rfl rfl ?_
        refine RW.new ttok hS33 rfl rfl rfl rfl (fun g47 w48 e49 hS50 => ?_)
        have hS51 := hS50.bring 0 rfl
        refine RW.store ttok (A := []) hS51 rfl rfl rfl rfl rfl 0 rfl rfl rfl rfl rfl (fun w52 hS53 => ?_)
        refine RW.nil ?_
        refine WP.seq ?_
        refine WP.region ?_
        refine RW.run ttok 1 rfl ?_
        refine RW.loadN ttok rfl rfl rfl rfl rfl ((hS53.bring 1 rfl).box) rfl rfl rfl ?_
        refine RW.loadN ttok rfl rfl rfl rfl rfl ((hS53.bring 0 rfl).box) rfl rfl rfl ?_
        obtain ⟨r54, hx55, hb9⟩ := bind_some hb9
        refine RW.call rfl rfl rfl h2_.1 (h2_.2 hS53.ext (ty241_shut x14 (ty72.ext hS53.ext h22) (ty121.ext hS53.ext h25)) (ty241_shut x34 (ty72.ext hS53.ext h42) (ty121.ext hS53.ext h45)) hx55) (fun v56 w57 hR58 => ?_)
        obtain ⟨rfl, hR59⟩ := hR58
        have hS60 := hS53.join hR59
        refine RW.run ttok 1 rfl ?_
        refine RW.nil ?_
        refine WP.cond (!r54) rfl (fun hc => ?_) (fun hc => ?_)
        · skip
          rw [if_pos hc] at hb9
          refine WP.seq ?_
          refine WP.region ?_
          refine RW.run ttok 1 rfl ?_
          refine RW.nil ?_
          refine WP.ret ?_
          cases hb9
          cases ho10
          have hm : some _ = some _ := hm
          cases hm
          exact ⟨_, .cons (.tmp rfl) .nil, rfl, (hS60.taken 0)⟩
        · skip
          rw [if_neg (not_t hc)] at hb9
          refine WP.skip ?_
          refine WP.region ?_
          refine RW.run ttok 2 rfl ?_
          refine RW.nil ?_
          cases hb9
          exact ⟨_, [(1, .slice A1_ x1.length k1_), (2, .func (.func f2_) #[] ⟨u2_⟩), (15, .slice A0_ x0.length k0_), (16, .int .i64 (x0.length : Int)), (17, .int .i64 (w64 (s1 + 1)))], ⟨rfl, rfl, rfl, rfl, rfl, trivial⟩, rfl, (hS60.taken 0), rfl⟩
      · skip
        rw [if_neg (not_t hc)] at hb9
        refine WP.exit ?_
        cases hb9
        exact ⟨_, [], trivial, ho10, (hS12.taken 0), rfl⟩

theorem enters152 : Enters Try.prog 152 := ⟨_, _, Try.func152, rfl, by kernel_rfl⟩
def m_impl_sameParcel (fuel : Nat) (x0 : D.Parcel) (x1 : D.Parcel) : Option (Bool) := (if (x0.Kind == x1.Kind) = true then (if (((x0.A.Machine : Int) == x1.A.Machine) && (((x0.A.Kind : Int) == x1.A.Kind) && (((x0.A.Index : Int) == x1.A.Index) && true))) = true then (if (((x0.B.Machine : Int) == x1.B.Machine) && (((x0.B.Kind : Int) == x1.B.Kind) && (((x0.B.Index : Int) == x1.B.Index) && true))) = true then ((m_impl_sameShardCell fuel x0.Cell x1.Cell).bind fun r26 => some r26) else some false) else some false) else some false)

set_option maxRecDepth 100000 in
theorem impl_sameParcel_ok {w : World} {c0_ : List Value} {x0 : D.Parcel} {c1_ : List Value} {x1 : D.Parcel} (h0_ : ty241.ro w c0_ x0) (h1_ : ty241.ro w c1_ x1) {fuel : Nat} {r : Bool} (hm : m_impl_sameParcel fuel x0 x1 = some r) :
    Calls Try.prog 152 ⟨[.agg ⟨c0_⟩, .agg ⟨c1_⟩]⟩ w (Ret fun v w8 => v = .bool r ∧ St w w8 []) := by
  obtain ⟨A1, k2, A4, k5, e7, h3, h6⟩ := ty241_open h0_; subst e7
  obtain ⟨A8, k9, A11, k12, e14, h10, h13⟩ := ty241_open h1_; subst e14
  refine Calls.into Try.func152 rfl 31 rfl rfl _ rfl ?_
  unfold m_impl_sameParcel at hm
  have hS := St.start w
  refine WP.seq ?_
  refine WP.region ?_
  refine RW.new ttok hS rfl rfl rfl rfl (fun g15 w16 e17 hS18 => ?_)
  refine RW.new ttok hS18 rfl rfl rfl rfl (fun g19 w20 e21 hS22 => ?_)
  refine RW.run ttok 1 rfl ?_
  refine RW.nil ?_
  refine WP.seq ?_
  refine WP.region ?_
  refine RW.run ttok 1 rfl ?_
  refine RW.load1 ttok rfl rfl rfl rfl rfl ((hS22.bring 1 rfl).box) 0 rfl rfl rfl rfl ?_
  refine RW.run ttok 1 rfl ?_
  refine RW.load1 ttok rfl rfl rfl rfl rfl ((hS22.bring 0 rfl).box) 0 rfl rfl rfl rfl ?_
  refine RW.run ttok 2 rfl ?_
  by_cases hg23 : (x0.Kind == x1.Kind) = true
  · skip
    rw [if_pos hg23] at hm
    refine RW.know 10 rfl (congrArg Value.bool hg23) ?_
    refine RW.run ttok 1 rfl ?_
    refine RW.loadN ttok rfl rfl rfl rfl rfl (At.sub ((hS22.bring 1 rfl).box) 6 3) rfl rfl rfl ?_
    refine RW.run ttok 1 rfl ?_
    refine RW.loadN ttok rfl rfl rfl rfl rfl (At.sub ((hS22.bring 0 rfl).box) 6 3) rfl rfl rfl ?_
    refine RW.run ttok 3 rfl ?_
    by_cases hg24 : (((x0.A.Machine : Int) == x1.A.Machine) && (((x0.A.Kind : Int) == x1.A.Kind) && (((x0.A.Index : Int) == x1.A.Index) && true))) = true
    · skip
      rw [if_pos hg24] at hm
      refine RW.know 17 rfl (congrArg Value.bool hg24) ?_
      refine RW.run ttok 1 rfl ?_
      refine RW.loadN ttok rfl rfl rfl rfl rfl (At.sub ((hS22.bring 1 rfl).box) 9 3) rfl rfl rfl ?_
      refine RW.run ttok 1 rfl ?_
      refine RW.loadN ttok rfl rfl rfl rfl rfl (At.sub ((hS22.bring 0 rfl).box) 9 3) rfl rfl rfl ?_
      refine RW.run ttok 3 rfl ?_
      by_cases hg25 : (((x0.B.Machine : Int) == x1.B.Machine) && (((x0.B.Kind : Int) == x1.B.Kind) && (((x0.B.Index : Int) == x1.B.Index) && true))) = true
      · skip
        rw [if_pos hg25] at hm
        refine RW.know 24 rfl (congrArg Value.bool hg25) ?_
        refine RW.run ttok 1 rfl ?_
        refine RW.loadN ttok rfl rfl rfl rfl rfl (At.sub ((hS22.bring 1 rfl).box) 1 5) rfl rfl rfl ?_
        refine RW.run ttok 1 rfl ?_
        refine RW.loadN ttok rfl rfl rfl rfl rfl (At.sub ((hS22.bring 0 rfl).box) 1 5) rfl rfl rfl ?_
        obtain ⟨r26, hx27, hm⟩ := bind_some hm
        refine RW.call rfl rfl rfl enters56 (impl_sameShardCell_ok (ty123_shut x0.Cell (ty72.ext hS22.ext h3) (ty121.ext hS22.ext h6)) (ty123_shut x1.Cell (ty72.ext hS22.ext h10) (ty121.ext hS22.ext h13)) hx27) (fun v28 w29 hR30 => ?_)
        obtain ⟨rfl, hR31⟩ := hR30
        have hS32 := hS22.join hR31
        refine RW.run ttok 2 rfl ?_
        refine RW.nil ?_
        refine WP.ret ?_
        cases hm
        exact ⟨_, .cons (.tmp rfl) .nil, rfl, (hS32.taken 0)⟩
      · skip
        rw [if_neg hg25] at hm
        refine RW.know 24 rfl (congrArg Value.bool (Bool.eq_false_iff.2 hg25)) ?_
        refine RW.run ttok 7 rfl ?_
        refine RW.nil ?_
        refine WP.ret ?_
        cases hm
        exact ⟨_, .cons (.tmp rfl) .nil, rfl, (hS22.taken 0)⟩
    · skip
      rw [if_neg hg24] at hm
      refine RW.know 17 rfl (congrArg Value.bool (Bool.eq_false_iff.2 hg24)) ?_
      refine RW.run ttok 14 rfl ?_
      refine RW.nil ?_
      refine WP.ret ?_
      cases hm
      exact ⟨_, .cons (.tmp rfl) .nil, rfl, (hS22.taken 0)⟩
  · skip
    rw [if_neg hg23] at hm
    refine RW.know 10 rfl (congrArg Value.bool (Bool.eq_false_iff.2 hg23)) ?_
    refine RW.run ttok 21 rfl ?_
    refine RW.nil ?_
    refine WP.ret ?_
    cases hm
    exact ⟨_, .cons (.tmp rfl) .nil, rfl, (hS22.taken 0)⟩

theorem enters91 : Enters Try.prog 91 := ⟨_, _, Try.func91, rfl, by kernel_rfl⟩
def m_impl_sameParcels (fuel : Nat) (x0 : (List D.Parcel)) (x1 : (List D.Parcel)) : Option (Bool) := ((m_slices_EqualFunc_impl_Parcel_impl_Parcel_impl_Parcel_impl_Parcel_n151 fuel x0 x1 (fun y0 y1 => m_impl_sameParcel fuel y0 y1)).bind fun r1 => some r1)

set_option maxRecDepth 100000 in
theorem impl_sameParcels_ok {w : World} {A0_ : Option Addr} {k0_ : Nat} {x0 : (List D.Parcel)} {A1_ : Option Addr} {k1_ : Nat} {x1 : (List D.Parcel)} (h0_ : ty171.ro w [.slice A0_ x0.length k0_] x0) (h1_ : ty171.ro w [.slice A1_ x1.length k1_] x1) {fuel : Nat} {r : Bool} (hm : m_impl_sameParcels fuel x0 x1 = some r) :
    Calls Try.prog 91 ⟨[.slice A0_ x0.length k0_, .slice A1_ x1.length k1_]⟩ w (Ret fun v w8 => v = .bool r ∧ St w w8 []) := by
  refine Calls.into Try.func91 rfl 8 rfl rfl _ rfl ?_
  unfold m_impl_sameParcels at hm
  have hS := St.start w
  refine WP.seq ?_
  refine WP.region ?_
  refine RW.run ttok 1 rfl ?_
  refine RW.nil ?_
  refine WP.seq ?_
  refine WP.region ?_
  refine RW.run ttok 2 rfl ?_
  obtain ⟨r1, hx2, hm⟩ := bind_some hm
  refine RW.call rfl rfl rfl enters151 (slices_EqualFunc_impl_Parcel_impl_Parcel_impl_Parcel_impl_Parcel_n151_ok (ty171.ext hS.ext h0_) (ty171.ext hS.ext h1_) ⟨enters152, fun e9 => (fun a0_0 a1_0 hx9 => impl_sameParcel_ok a0_0 a1_0 hx9)⟩ hx2) (fun v3 w4 hR5 => ?_)
  obtain ⟨rfl, hR6⟩ := hR5
  have hS7 := hS.join hR6
  refine RW.run ttok 1 rfl ?_
  refine RW.nil ?_
  refine WP.ret ?_
  cases hm
  exact ⟨_, .cons (.tmp rfl) .nil, rfl, (hS7.taken 0)⟩

theorem enters92 : Enters Try.prog 92 := ⟨_, _, Try.func92, rfl, by kernel_rfl⟩
def m_slices_EqualFunc_int64_int64_int64_int64_j1 (fuel : Nat) (t2 : Unit) : Option Bool := some true
def m_slices_EqualFunc_int64_int64_int64_int64_b1 (fuel : Nat) (x0 : (List (List Int))) (x1 : (List (List Int))) (x2 : (List Int) → (List Int) → Option Bool) (s1 : Int) : Option (Rd (Int) (Unit) (Bool)) := (if (decide (s1 < (x0.length : Int))) = true then ((idx x0 s1).bind fun x17 => ((idx x1 s1).bind fun x26 => ((x2 x17 x26).bind fun r35 => (if (!r35) = true then some (.ret false) else some (.next (w64 (s1 + 1))))))) else some (.brk ()))
def m_slices_EqualFunc_int64_int64_int64_int64 (fuel : Nat) (x0 : (List (List Int))) (x1 : (List (List Int))) (x2 : (List Int) → (List Int) → Option Bool) : Option (Bool) := (if ((x0.length : Int) != (x1.length : Int)) = true then some false else ((iter (m_slices_EqualFunc_int64_int64_int64_int64_b1 fuel x0 x1 x2) fuel 0).bind fun o => aft o (m_slices_EqualFunc_int64_int64_int64_int64_j1 fuel)))

set_option maxRecDepth 100000 in
theorem slices_EqualFunc_int64_int64_int64_int64_ok {w : World} {A0_ : Option Addr} {k0_ : Nat} {x0 : (List (List Int))} {A1_ : Option Addr} {k1_ : Nat} {x1 : (List (List Int))} {f2_ : Nat} {u2_ : List Value} {x2 : (List Int) → (List Int) → Option Bool} (h0_ : ty71.ro w [.slice A0_ x0.length k0_] x0) (h1_ : ty71.ro w [.slice A1_ x1.length k1_] x1) (h2_ : Enters Try.prog f2_ ∧ ∀ {w9 : World}, Ext w w9 → ∀ {Az0 : Option Addr} {kz0 : Nat} {z0 : (List Int)} {Az1 : Option Addr} {kz1 : Nat} {z1 : (List Int)} {y9 : Bool}, ty72.ro w9 [.slice Az0 z0.length kz0] z0 → ty72.ro w9 [.slice Az1 z1.length kz1] z1 → x2 z0 z1 = some y9 → Calls Try.prog f2_ ⟨[.slice Az0 z0.length kz0, .slice Az1 z1.length kz1] ++ u2_⟩ w9 (Ret fun v w8 => v = .bool y9 ∧ St w9 w8 [])) {fuel : Nat} {r : Bool} (hm : m_slices_EqualFunc_int64_int64_int64_int64 fuel x0 x1 x2 = some r) :
    Calls Try.prog 92 ⟨[.slice A0_ x0.length k0_, .slice A1_ x1.length k1_, .func (.func f2_) #[] ⟨u2_⟩]⟩ w (Ret fun v w8 => v = .bool r ∧ St w w8 []) := by
  refine Calls.into Try.func92 rfl 32 rfl rfl _ rfl ?_
  unfold m_slices_EqualFunc_int64_int64_int64_int64 at hm
  have hS := St.start w
  refine WP.seq ?_
  refine WP.region ?_
  refine RW.run ttok 1 rfl ?_
  refine RW.nil ?_
  refine WP.seq ?_
  refine WP.seq ?_
  refine WP.region ?_
  refine RW.run ttok 5 rfl ?_
  refine RW.nil ?_
  refine WP.cond ((x0.length : Int) != (x1.length : Int)) rfl (fun hc => ?_) (fun hc => ?_)
  · skip
    rw [if_pos hc] at hm
    refine WP.seq ?_
    refine WP.region ?_
    refine RW.run ttok 1 rfl ?_
    refine RW.nil ?_
    refine WP.ret ?_
    cases hm
    exact ⟨_, .cons (.tmp rfl) .nil, rfl, (hS.taken 0)⟩
  · skip
    rw [if_neg (not_t hc)] at hm
    refine WP.skip ?_
    refine WP.seq ?_
    refine WP.seq ?_
    refine WP.region ?_
    refine RW.run ttok 3 rfl ?_
    refine RW.nil ?_
    obtain ⟨o8, hl9, hm⟩ := bind_some hm
    refine WP.cut (fun (t2 : Unit) F w9 => o8 = .inl t2 ∧ Ext w w9 ∧ St w w9 [] ∧ F = []) ?_ ?_
    · skip
      rintro t2 F w7 ⟨ho11, hE6, hS10, rfl⟩
      subst ho11
      rw [aft_inl] at hm
      unfold m_slices_EqualFunc_int64_int64_int64_int64_j1 at hm
      refine WP.seq ?_
      refine WP.region ?_
      refine RW.run ttok 1 rfl ?_
      refine RW.nil ?_
      refine WP.ret ?_
      cases hm
      exact ⟨_, .cons (.tmp rfl) .nil, rfl, (hS10.taken 0)⟩
    · skip
      refine WP.block ?_
      refine WP.weak [(1, .slice A1_ x1.length k1_), (2, .func (.func f2_) #[] ⟨u2_⟩), (15, .slice A0_ x0.length k0_), (16, .int .i64 (x0.length : Int)), (17, .int .i64 0)] ⟨rfl, rfl, rfl, rfl, rfl, trivial⟩ ?_
      refine WP.iter (fun (s1 : Int) F w9 => Ext w w9 ∧ St w w9 [] ∧ F = [(1, .slice A1_ x1.length k1_), (2, .func (.func f2_) #[] ⟨u2_⟩), (15, .slice A0_ x0.length k0_), (16, .int .i64 (x0.length : Int)), (17, .int .i64 s1)]) _ hl9 ⟨(Ext.refl _), (hS.taken 0), rfl⟩ ?_
      rintro s1 F w16 _ o14 ⟨hE5, hS15, rfl⟩ hb12 ho13
      unfold m_slices_EqualFunc_int64_int64_int64_int64_b1 at hb12
      refine WP.seq ?_
      refine WP.region ?_
      refine RW.run ttok 1 rfl ?_
      refine RW.nil ?_
      refine WP.seq ?_
      refine WP.cond (decide (s1 < (x0.length : Int))) rfl (fun hc => ?_) (fun hc => ?_)
      · skip
        rw [if_pos hc] at hb12
        refine WP.skip ?_
        refine WP.seq ?_
        refine WP.block ?_
        refine WP.seq ?_
        refine WP.region ?_
        refine RW.run ttok 1 rfl ?_
        obtain ⟨x17, hx18, hb12⟩ := bind_some hb12
        refine RW.idx ttok hS15.ext rfl rfl rfl rfl rfl rfl (by decide) rfl rfl h0_ (idx_some hx18).1 (idx_some hx18).2 rfl rfl (fun p19 es20 ha21 hr22 => ?_)
        obtain ⟨A23, k24, e25⟩ := ty72_form hr22; subst e25
        refine RW.load1 ttok rfl rfl rfl rfl rfl (At.ext hS15.ext ha21) 0 rfl rfl rfl rfl ?_
        refine RW.run ttok 2 rfl ?_
        refine RW.nil ?_
        refine WP.seq ?_
        refine WP.region ?_
        refine RW.run ttok 2 rfl ?_
        obtain ⟨x26, hx27, hb12⟩ := bind_some hb12
        refine RW.idx ttok hS15.ext rfl rfl rfl rfl rfl rfl (by decide) rfl rfl h1_ (idx_some hx27).1 (idx_some hx27).2 rfl rfl (fun p28 es29 ha30 hr31 => ?_)
        obtain ⟨A32, k33, e34⟩ := ty72_form hr31; subst e34
        refine RW.load1 ttok rfl rfl rfl rfl rfl (At.ext hS15.ext ha30) 0 rfl rfl rfl rfl ?_
        refine RW.run ttok 1 rfl ?_
        refine RW.nil ?_
        refine WP.seq ?_
        refine WP.region ?_
        refine RW.run ttok 3 rfl ?_
        obtain ⟨r35, hx36, hb12⟩ := bind_some hb12
        refine RW.call rfl rfl rfl h2_.1 (h2_.2 hS15.ext (ty72.ext hS15.ext hr22) (ty72.ext hS15.ext hr31) hx36) (fun v37 w38 hR39 => ?_)
        obtain ⟨rfl, hR40⟩ := hR39
        have hS41 := hS15.join hR40
        refine RW.run ttok 1 rfl ?_
        refine RW.nil ?_
        refine WP.cond (!r35) rfl (fun hc => ?_) (fun hc => ?_)
        · skip
          rw [if_pos hc] at hb12
          refine WP.seq ?_
          refine WP.region ?_
          refine RW.run ttok 1 rfl ?_
          refine RW.nil ?_
          refine WP.ret ?_
          cases hb12
          cases ho13
          have hm : some _ = some _ := hm
          cases hm
          exact ⟨_, .cons (.tmp rfl) .nil, rfl, (hS41.taken 0)⟩
        · skip
          rw [if_neg (not_t hc)] at hb12
          refine WP.skip ?_
          refine WP.region ?_
          refine RW.run ttok 2 rfl ?_
          refine RW.nil ?_
          cases hb12
          exact ⟨_, [(1, .slice A1_ x1.length k1_), (2, .func (.func f2_) #[] ⟨u2_⟩), (15, .slice A0_ x0.length k0_), (16, .int .i64 (x0.length : Int)), (17, .int .i64 (w64 (s1 + 1)))], ⟨rfl, rfl, rfl, rfl, rfl, trivial⟩, rfl, (hE5.trans hR40.ext), (hS41.taken 0), rfl⟩
      · skip
        rw [if_neg (not_t hc)] at hb12
        refine WP.exit ?_
        cases hb12
        exact ⟨_, [], trivial, ho13, hE5, (hS15.taken 0), rfl⟩

theorem enters29 : Enters Try.prog 29 := ⟨_, _, Try.func29, rfl, by kernel_rfl⟩
def m_impl_SameCluster (fuel : Nat) (x0 : D.Cluster) (x1 : D.Cluster) : Option (Bool) := ((m_impl_SameGrid fuel x0.Grid x1.Grid).bind fun r41 => (if r41 = true then ((m_slices_EqualFunc_impl_Parcel_impl_Parcel_impl_Parcel_impl_Parcel fuel x0.Channels x1.Channels (fun y0 y1 => m_impl_sameParcels fuel y0 y1)).bind fun r49 => (if r49 = true then ((m_slices_EqualFunc_int64_int64_int64_int64 fuel x0.Counts x1.Counts (fun y0 y1 => m_slices_Equal_int64_int64 fuel y0 y1)).bind fun r57 => (if r57 = true then ((m_slices_Equal_int64_int64 fuel x0.Sent x1.Sent).bind fun r65 => (if r65 = true then ((m_slices_Equal_int64_int64 fuel x0.Got x1.Got).bind fun r73 => some r73) else some false)) else some false)) else some false)) else some false))

set_option maxRecDepth 100000 in
theorem impl_SameCluster_ok {w : World} {c0_ : List Value} {x0 : D.Cluster} {c1_ : List Value} {x1 : D.Cluster} (h0_ : ty79.ro w c0_ x0) (h1_ : ty79.ro w c1_ x1) {fuel : Nat} {r : Bool} (hm : m_impl_SameCluster fuel x0 x1 = some r) :
    Calls Try.prog 29 ⟨[.agg ⟨c0_⟩, .agg ⟨c1_⟩]⟩ w (Ret fun v w8 => v = .bool r ∧ St w w8 []) := by
  obtain ⟨A1, k2, A4, k5, A7, k8, A10, k11, A13, k14, e16, h3, h6, h9, h12, h15⟩ := ty79_open h0_; subst e16
  obtain ⟨A17, k18, A20, k21, A23, k24, A26, k27, A29, k30, e32, h19, h22, h25, h28, h31⟩ := ty79_open h1_; subst e32
  refine Calls.into Try.func29 rfl 38 rfl rfl _ rfl ?_
  unfold m_impl_SameCluster at hm
  have hS := St.start w
  refine WP.seq ?_
  refine WP.region ?_
  refine RW.new ttok hS rfl rfl rfl rfl (fun g33 w34 e35 hS36 => ?_)
  refine RW.new ttok hS36 rfl rfl rfl rfl (fun g37 w38 e39 hS40 => ?_)
  refine RW.run ttok 1 rfl ?_
  refine RW.nil ?_
  refine WP.seq ?_
  refine WP.region ?_
  refine RW.run ttok 1 rfl ?_
  refine RW.loadN ttok rfl rfl rfl rfl rfl (At.sub ((hS40.bring 1 rfl).box) 0 4) rfl rfl rfl ?_
  refine RW.run ttok 1 rfl ?_
  refine RW.loadN ttok rfl rfl rfl rfl rfl (At.sub ((hS40.bring 0 rfl).box) 0 4) rfl rfl rfl ?_
  obtain ⟨r41, hx42, hm⟩ := bind_some hm
  refine RW.call rfl rfl rfl enters19 (impl_SameGrid_ok (ty46_shut x0.Grid (ty43.ext hS40.ext h3)) (ty46_shut x1.Grid (ty43.ext hS40.ext h19)) hx42) (fun v43 w44 hR45 => ?_)
  obtain ⟨rfl, hR46⟩ := hR45
  have hS47 := hS40.join hR46
  refine RW.run ttok 1 rfl ?_
  by_cases hg48 : r41 = true
  · skip
    rw [if_pos hg48] at hm
    refine RW.know 10 rfl (congrArg Value.bool hg48) ?_
    refine RW.run ttok 1 rfl ?_
    refine RW.load1 ttok rfl rfl rfl rfl rfl ((hS47.bring 1 rfl).box) 4 rfl rfl rfl rfl ?_
    refine RW.run ttok 1 rfl ?_
    refine RW.load1 ttok rfl rfl rfl rfl rfl ((hS47.bring 0 rfl).box) 4 rfl rfl rfl rfl ?_
    obtain ⟨r49, hx50, hm⟩ := bind_some hm
    refine RW.call rfl rfl rfl enters90 (slices_EqualFunc_impl_Parcel_impl_Parcel_impl_Parcel_impl_Parcel_ok (ty77.ext hS47.ext h6) (ty77.ext hS47.ext h22) ⟨enters91, fun e9 => (fun a0_0 a1_0 hx9 => impl_sameParcels_ok a0_0 a1_0 hx9)⟩ hx50) (fun v51 w52 hR53 => ?_)
    obtain ⟨rfl, hR54⟩ := hR53
    have hS55 := hS47.join hR54
    refine RW.run ttok 2 rfl ?_
    by_cases hg56 : r49 = true
    · skip
      rw [if_pos hg56] at hm
      refine RW.know 17 rfl (congrArg Value.bool hg56) ?_
      refine RW.run ttok 1 rfl ?_
      refine RW.load1 ttok rfl rfl rfl rfl rfl ((hS55.bring 1 rfl).box) 5 rfl rfl rfl rfl ?_
      refine RW.run ttok 1 rfl ?_
      refine RW.load1 ttok rfl rfl rfl rfl rfl ((hS55.bring 0 rfl).box) 5 rfl rfl rfl rfl ?_
      obtain ⟨r57, hx58, hm⟩ := bind_some hm
      refine RW.call rfl rfl rfl enters92 (slices_EqualFunc_int64_int64_int64_int64_ok (ty71.ext hS55.ext h9) (ty71.ext hS55.ext h25) ⟨enters78, fun e9 => (fun a0_0 a1_0 hx9 => slices_Equal_int64_int64_ok a0_0 a1_0 hx9)⟩ hx58) (fun v59 w60 hR61 => ?_)
      obtain ⟨rfl, hR62⟩ := hR61
      have hS63 := hS55.join hR62
      refine RW.run ttok 2 rfl ?_
      by_cases hg64 : r57 = true
      · skip
        rw [if_pos hg64] at hm
        refine RW.know 24 rfl (congrArg Value.bool hg64) ?_
        refine RW.run ttok 1 rfl ?_
        refine RW.load1 ttok rfl rfl rfl rfl rfl ((hS63.bring 1 rfl).box) 6 rfl rfl rfl rfl ?_
        refine RW.run ttok 1 rfl ?_
        refine RW.load1 ttok rfl rfl rfl rfl rfl ((hS63.bring 0 rfl).box) 6 rfl rfl rfl rfl ?_
        obtain ⟨r65, hx66, hm⟩ := bind_some hm
        refine RW.call rfl rfl rfl enters78 (slices_Equal_int64_int64_ok (ty72.ext hS63.ext h12) (ty72.ext hS63.ext h28) hx66) (fun v67 w68 hR69 => ?_)
        obtain ⟨rfl, hR70⟩ := hR69
        have hS71 := hS63.join hR70
        refine RW.run ttok 2 rfl ?_
        by_cases hg72 : r65 = true
        · skip
          rw [if_pos hg72] at hm
          refine RW.know 31 rfl (congrArg Value.bool hg72) ?_
          refine RW.run ttok 1 rfl ?_
          refine RW.load1 ttok rfl rfl rfl rfl rfl ((hS71.bring 1 rfl).box) 7 rfl rfl rfl rfl ?_
          refine RW.run ttok 1 rfl ?_
          refine RW.load1 ttok rfl rfl rfl rfl rfl ((hS71.bring 0 rfl).box) 7 rfl rfl rfl rfl ?_
          obtain ⟨r73, hx74, hm⟩ := bind_some hm
          refine RW.call rfl rfl rfl enters78 (slices_Equal_int64_int64_ok (ty72.ext hS71.ext h15) (ty72.ext hS71.ext h31) hx74) (fun v75 w76 hR77 => ?_)
          obtain ⟨rfl, hR78⟩ := hR77
          have hS79 := hS71.join hR78
          refine RW.run ttok 2 rfl ?_
          refine RW.nil ?_
          refine WP.ret ?_
          cases hm
          exact ⟨_, .cons (.tmp rfl) .nil, rfl, (hS79.taken 0)⟩
        · skip
          rw [if_neg hg72] at hm
          refine RW.know 31 rfl (congrArg Value.bool (Bool.eq_false_iff.2 hg72)) ?_
          refine RW.run ttok 7 rfl ?_
          refine RW.nil ?_
          refine WP.ret ?_
          cases hm
          exact ⟨_, .cons (.tmp rfl) .nil, rfl, (hS71.taken 0)⟩
      · skip
        rw [if_neg hg64] at hm
        refine RW.know 24 rfl (congrArg Value.bool (Bool.eq_false_iff.2 hg64)) ?_
        refine RW.run ttok 14 rfl ?_
        refine RW.nil ?_
        refine WP.ret ?_
        cases hm
        exact ⟨_, .cons (.tmp rfl) .nil, rfl, (hS63.taken 0)⟩
    · skip
      rw [if_neg hg56] at hm
      refine RW.know 17 rfl (congrArg Value.bool (Bool.eq_false_iff.2 hg56)) ?_
      refine RW.run ttok 21 rfl ?_
      refine RW.nil ?_
      refine WP.ret ?_
      cases hm
      exact ⟨_, .cons (.tmp rfl) .nil, rfl, (hS55.taken 0)⟩
  · skip
    rw [if_neg hg48] at hm
    refine RW.know 10 rfl (congrArg Value.bool (Bool.eq_false_iff.2 hg48)) ?_
    refine RW.run ttok 28 rfl ?_
    refine RW.nil ?_
    refine WP.ret ?_
    cases hm
    exact ⟨_, .cons (.tmp rfl) .nil, rfl, (hS47.taken 0)⟩

theorem enters183 : Enters Try.prog 183 := ⟨_, _, Try.func183, rfl, by kernel_rfl⟩
def m_laws_eqParcel (fuel : Nat) (x0 : D.Parcel) (x1 : D.Parcel) : Option (Bool) := (if (x0.Kind != x1.Kind) = true then some false else ((m_laws_eqShardCell fuel x0.Cell x1.Cell).bind fun r23 => (if (!r23) = true then some false else ((m_laws_eqAddress fuel x0.A x1.A).bind fun r30 => (if (!r30) = true then some false else ((m_laws_eqAddress fuel x0.B x1.B).bind fun r37 => (if (!r37) = true then some false else some true)))))))

set_option maxRecDepth 100000 in
theorem laws_eqParcel_ok {w : World} {c0_ : List Value} {x0 : D.Parcel} {c1_ : List Value} {x1 : D.Parcel} (h0_ : ty241.ro w c0_ x0) (h1_ : ty241.ro w c1_ x1) {fuel : Nat} {r : Bool} (hm : m_laws_eqParcel fuel x0 x1 = some r) :
    Calls Try.prog 183 ⟨[.agg ⟨c0_⟩, .agg ⟨c1_⟩]⟩ w (Ret fun v w8 => v = .bool r ∧ St w w8 []) := by
  obtain ⟨A1, k2, A4, k5, e7, h3, h6⟩ := ty241_open h0_; subst e7
  obtain ⟨A8, k9, A11, k12, e14, h10, h13⟩ := ty241_open h1_; subst e14
  refine Calls.into Try.func183 rfl 28 rfl rfl _ rfl ?_
  unfold m_laws_eqParcel at hm
  have hS := St.start w
  refine WP.seq ?_
  refine WP.region ?_
  refine RW.new ttok hS rfl rfl rfl rfl (fun g15 w16 e17 hS18 => ?_)
  refine RW.new ttok hS18 rfl rfl rfl rfl (fun g19 w20 e21 hS22 => ?_)
  refine RW.run ttok 1 rfl ?_
  refine RW.nil ?_
  refine WP.seq ?_
  refine WP.seq ?_
  refine WP.region ?_
  refine RW.run ttok 1 rfl ?_
  refine RW.load1 ttok rfl rfl rfl rfl rfl ((hS22.bring 1 rfl).box) 0 rfl rfl rfl rfl ?_
  refine RW.run ttok 1 rfl ?_
  refine RW.load1 ttok rfl rfl rfl rfl rfl ((hS22.bring 0 rfl).box) 0 rfl rfl rfl rfl ?_
  refine RW.run ttok 1 rfl ?_
  refine RW.nil ?_
  refine WP.cond (x0.Kind != x1.Kind) rfl (fun hc => ?_) (fun hc => ?_)
  · skip
    rw [if_pos hc] at hm
    refine WP.seq ?_
    refine WP.region ?_
    refine RW.run ttok 1 rfl ?_
    refine RW.nil ?_
    refine WP.ret ?_
    cases hm
    exact ⟨_, .cons (.tmp rfl) .nil, rfl, (hS22.taken 0)⟩
  · skip
    rw [if_neg (not_t hc)] at hm
    refine WP.skip ?_
    refine WP.seq ?_
    refine WP.seq ?_
    refine WP.region ?_
    refine RW.run ttok 1 rfl ?_
    refine RW.loadN ttok rfl rfl rfl rfl rfl (At.sub ((hS22.bring 1 rfl).box) 1 5) rfl rfl rfl ?_
    refine RW.run ttok 1 rfl ?_
    refine RW.loadN ttok rfl rfl rfl rfl rfl (At.sub ((hS22.bring 0 rfl).box) 1 5) rfl rfl rfl ?_
    obtain ⟨r23, hx24, hm⟩ := bind_some hm
    refine RW.call rfl rfl rfl enters130 (laws_eqShardCell_ok (ty123_shut x0.Cell (ty72.ext hS22.ext h3) (ty121.ext hS22.ext h6)) (ty123_shut x1.Cell (ty72.ext hS22.ext h10) (ty121.ext hS22.ext h13)) hx24) (fun v25 w26 hR27 => ?_)
    obtain ⟨rfl, hR28⟩ := hR27
    have hS29 := hS22.join hR28
    refine RW.run ttok 1 rfl ?_
    refine RW.nil ?_
    refine WP.cond (!r23) rfl (fun hc => ?_) (fun hc => ?_)
    · skip
      rw [if_pos hc] at hm
      refine WP.seq ?_
      refine WP.region ?_
      refine RW.run ttok 1 rfl ?_
      refine RW.nil ?_
      refine WP.ret ?_
      cases hm
      exact ⟨_, .cons (.tmp rfl) .nil, rfl, (hS29.taken 0)⟩
    · skip
      rw [if_neg (not_t hc)] at hm
      refine WP.skip ?_
      refine WP.seq ?_
      refine WP.seq ?_
      refine WP.region ?_
      refine RW.run ttok 1 rfl ?_
      refine RW.loadN ttok rfl rfl rfl rfl rfl (At.sub ((hS29.bring 1 rfl).box) 6 3) rfl rfl rfl ?_
      refine RW.run ttok 1 rfl ?_
      refine RW.loadN ttok rfl rfl rfl rfl rfl (At.sub ((hS29.bring 0 rfl).box) 6 3) rfl rfl rfl ?_
      obtain ⟨r30, hx31, hm⟩ := bind_some hm
      refine RW.call rfl rfl rfl enters67 (laws_eqAddress_ok (ty44_shut x0.A) (ty44_shut x1.A) hx31) (fun v32 w33 hR34 => ?_)
      obtain ⟨rfl, hR35⟩ := hR34
      have hS36 := hS29.join hR35
      refine RW.run ttok 1 rfl ?_
      refine RW.nil ?_
      refine WP.cond (!r30) rfl (fun hc => ?_) (fun hc => ?_)
      · skip
        rw [if_pos hc] at hm
        refine WP.seq ?_
        refine WP.region ?_
        refine RW.run ttok 1 rfl ?_
        refine RW.nil ?_
        refine WP.ret ?_
        cases hm
        exact ⟨_, .cons (.tmp rfl) .nil, rfl, (hS36.taken 0)⟩
      · skip
        rw [if_neg (not_t hc)] at hm
        refine WP.skip ?_
        refine WP.seq ?_
        refine WP.seq ?_
        refine WP.region ?_
        refine RW.run ttok 1 rfl ?_
        refine RW.loadN ttok rfl rfl rfl rfl rfl (At.sub ((hS36.bring 1 rfl).box) 9 3) rfl rfl rfl ?_
        refine RW.run ttok 1 rfl ?_
        refine RW.loadN ttok rfl rfl rfl rfl rfl (At.sub ((hS36.bring 0 rfl).box) 9 3) rfl rfl rfl ?_
        obtain ⟨r37, hx38, hm⟩ := bind_some hm
        refine RW.call rfl rfl rfl enters67 (laws_eqAddress_ok (ty44_shut x0.B) (ty44_shut x1.B) hx38) (fun v39 w40 hR41 => ?_)
        obtain ⟨rfl, hR42⟩ := hR41
        have hS43 := hS36.join hR42
        refine RW.run ttok 1 rfl ?_
        refine RW.nil ?_
        refine WP.cond (!r37) rfl (fun hc => ?_) (fun hc => ?_)
        · skip
          rw [if_pos hc] at hm
          refine WP.seq ?_
          refine WP.region ?_
          refine RW.run ttok 1 rfl ?_
          refine RW.nil ?_
          refine WP.ret ?_
          cases hm
          exact ⟨_, .cons (.tmp rfl) .nil, rfl, (hS43.taken 0)⟩
        · skip
          rw [if_neg (not_t hc)] at hm
          refine WP.skip ?_
          refine WP.seq ?_
          refine WP.region ?_
          refine RW.run ttok 1 rfl ?_
          refine RW.nil ?_
          refine WP.ret ?_
          cases hm
          exact ⟨_, .cons (.tmp rfl) .nil, rfl, (hS43.taken 0)⟩

theorem enters153 : Enters Try.prog 153 := ⟨_, _, Try.func153, rfl, by kernel_rfl⟩
def m_laws_eqParcelS_j1 (fuel : Nat) (t2 : Unit) : Option Bool := some true
def m_laws_eqParcelS_b1 (fuel : Nat) (x0 : (List D.Parcel)) (x1 : (List D.Parcel)) (s1 : Int) : Option (Rd (Int) (Unit) (Bool)) := (if (decide (s1 < (x0.length : Int))) = true then ((idx x0 s1).bind fun x19 => ((idx x1 s1).bind fun x32 => ((m_laws_eqParcel fuel x19 x32).bind fun r45 => (if (!r45) = true then some (.ret false) else some (.next (w64 (s1 + 1))))))) else some (.brk ()))
def m_laws_eqParcelS (fuel : Nat) (x0 : (List D.Parcel)) (x1 : (List D.Parcel)) : Option (Bool) := (if ((x0.length : Int) != (x1.length : Int)) = true then some false else ((iter (m_laws_eqParcelS_b1 fuel x0 x1) fuel 0).bind fun o => aft o (m_laws_eqParcelS_j1 fuel)))

set_option maxRecDepth 100000 in
theorem laws_eqParcelS_ok {w : World} {A0_ : Option Addr} {k0_ : Nat} {x0 : (List D.Parcel)} {A1_ : Option Addr} {k1_ : Nat} {x1 : (List D.Parcel)} (h0_ : ty171.ro w [.slice A0_ x0.length k0_] x0) (h1_ : ty171.ro w [.slice A1_ x1.length k1_] x1) {fuel : Nat} {r : Bool} (hm : m_laws_eqParcelS fuel x0 x1 = some r) :
    Calls Try.prog 153 ⟨[.slice A0_ x0.length k0_, .slice A1_ x1.length k1_]⟩ w (Ret fun v w8 => v = .bool r ∧ St w w8 []) := by
  refine Calls.into Try.func153 rfl 27 rfl rfl _ rfl ?_
  unfold m_laws_eqParcelS at hm
  have hS := St.start w
  refine WP.seq ?_
  refine WP.region ?_
  refine RW.run ttok 1 rfl ?_
  refine RW.nil ?_
  refine WP.seq ?_
  refine WP.seq ?_
  refine WP.region ?_
  refine RW.run ttok 5 rfl ?_
  refine RW.nil ?_
  refine WP.cond ((x0.length : Int) != (x1.length : Int)) rfl (fun hc => ?_) (fun hc => ?_)
  · skip
    rw [if_pos hc] at hm
    refine WP.seq ?_
    refine WP.region ?_
    refine RW.run ttok 1 rfl ?_
    refine RW.nil ?_
    refine WP.ret ?_
    cases hm
    exact ⟨_, .cons (.tmp rfl) .nil, rfl, (hS.taken 0)⟩
  · skip
    rw [if_neg (not_t hc)] at hm
    refine WP.skip ?_
    refine WP.seq ?_
    refine WP.seq ?_
    refine WP.region ?_
    refine RW.run ttok 1 rfl ?_
    refine RW.nil ?_
    obtain ⟨o8, hl9, hm⟩ := bind_some hm
    refine WP.cut (fun (t2 : Unit) F w9 => o8 = .inl t2 ∧ Ext w w9 ∧ St w w9 [] ∧ F = []) ?_ ?_
    · skip
      rintro t2 F w7 ⟨ho11, hE6, hS10, rfl⟩
      subst ho11
      rw [aft_inl] at hm
      unfold m_laws_eqParcelS_j1 at hm
      refine WP.seq ?_
      refine WP.region ?_
      refine RW.run ttok 1 rfl ?_
      refine RW.nil ?_
      refine WP.ret ?_
      cases hm
      exact ⟨_, .cons (.tmp rfl) .nil, rfl, (hS10.taken 0)⟩
    · skip
      refine WP.block ?_
      refine WP.weak [(0, .slice A0_ x0.length k0_), (1, .slice A1_ x1.length k1_), (5, .int .i64 0)] ⟨rfl, rfl, rfl, trivial⟩ ?_
      refine WP.iter (fun (s1 : Int) F w9 => Ext w w9 ∧ St w w9 [] ∧ F = [(0, .slice A0_ x0.length k0_), (1, .slice A1_ x1.length k1_), (5, .int .i64 s1)]) _ hl9 ⟨(Ext.refl _), (hS.taken 0), rfl⟩ ?_
      rintro s1 F w16 _ o14 ⟨hE5, hS15, rfl⟩ hb12 ho13
      unfold m_laws_eqParcelS_b1 at hb12
      refine WP.seq ?_
      refine WP.seq ?_
      refine WP.region ?_
      refine RW.run ttok 4 rfl ?_
      refine RW.nil ?_
      refine WP.cond (decide (s1 < (x0.length : Int))) rfl (fun hc => ?_) (fun hc => ?_)
      · skip
        rw [if_pos hc] at hb12
        refine WP.skip ?_
        refine WP.seq ?_
        refine WP.block ?_
        refine WP.seq ?_
        refine WP.drawnM 0 mixed 10 (by kernel_rfl) (by kernel_rfl) [([], 1023), ([], 1023), ([0, 1], 1020), ([2], 1019), ([], 1023), ([], 1023), ([4, 5], 975), ([6], 959), ([3, 7], 887), ([8], 767)] (by kernel_rfl) (fun hsk17 => ?_)
        have hS18 := hS15.step (Ext.draw _)
        refine DM.run (fuel := 6) ttok hsk17 [0, 1, 4, 5] 51 (by kernel_rfl) (by kernel_rfl) rfl ?_
        obtain ⟨x19, hx20, hb12⟩ := bind_some hb12
        refine DM.idx ttok hS15.ext hsk17 2 55 (by kernel_rfl) (by kernel_rfl) (by kernel_rfl) (by kernel_rfl) rfl (by kernel_rfl) rfl rfl rfl rfl rfl rfl (by decide) rfl rfl h0_ (idx_some hx20).1 (idx_some hx20).2 rfl rfl (fun p21 es22 ha23 hr24 => ?_)
        obtain ⟨A25, k26, A28, k29, e31, h27, h30⟩ := ty241_open hr24; subst e31
        refine DM.loadN ttok hsk17 3 63 (by kernel_rfl) (by kernel_rfl) (by kernel_rfl) (by kernel_rfl) rfl (by kernel_rfl) rfl rfl rfl rfl rfl (At.ext hS15.ext ha23) rfl rfl rfl ?_
        obtain ⟨x32, hx33, hb12⟩ := bind_some hb12
        refine DM.idx ttok hS15.ext hsk17 6 127 (by kernel_rfl) (by kernel_rfl) (by kernel_rfl) (by kernel_rfl) rfl (by kernel_rfl) rfl rfl rfl rfl rfl rfl (by decide) rfl rfl h1_ (idx_some hx33).1 (idx_some hx33).2 rfl rfl (fun p34 es35 ha36 hr37 => ?_)
        obtain ⟨A38, k39, A41, k42, e44, h40, h43⟩ := ty241_open hr37; subst e44
        refine DM.loadN ttok hsk17 7 255 (by kernel_rfl) (by kernel_rfl) (by kernel_rfl) (by kernel_rfl) rfl (by kernel_rfl) rfl rfl rfl rfl rfl (At.ext hS15.ext ha36) rfl rfl rfl ?_
        obtain ⟨r45, hx46, hb12⟩ := bind_some hb12
        refine DM.one hsk17 8 (by kernel_rfl) (LM.call hsk17 511 (by kernel_rfl) (by kernel_rfl) rfl rfl rfl rfl enters183 (laws_eqParcel_ok (ty241.ext hS18.ext hr24) (ty241.ext hS18.ext hr37) hx46) (fun v47 w48 hR49 => ?_))
        obtain ⟨rfl, hR50⟩ := hR49
        refine ⟨hR50.ext, ?_⟩
        have hS51 := hS18.join hR50
        refine DM.run (fuel := 0) ttok hsk17 [9] 1023 (by kernel_rfl) (by kernel_rfl) rfl ?_
        refine DM.weak [(0, .slice A0_ x0.length k0_), (1, .slice A1_ x1.length k1_), (5, .int .i64 s1), (26, .bool (!r45))] ⟨rfl, rfl, rfl, rfl, trivial⟩ ?_
        refine DM.done hsk17 (by kernel_rfl) ?_
        refine WP.cond (!r45) rfl (fun hc => ?_) (fun hc => ?_)
        · skip
          rw [if_pos hc] at hb12
          refine WP.seq ?_
          refine WP.region ?_
          refine RW.run ttok 1 rfl ?_
          refine RW.nil ?_
          refine WP.ret ?_
          cases hb12
          cases ho13
          have hm : some _ = some _ := hm
          cases hm
          exact ⟨_, .cons (.tmp rfl) .nil, rfl, (hS51.taken 0)⟩
        · skip
          rw [if_neg (not_t hc)] at hb12
          refine WP.skip ?_
          refine WP.region ?_
          refine RW.run ttok 3 rfl ?_
          refine RW.nil ?_
          cases hb12
          exact ⟨_, [(0, .slice A0_ x0.length k0_), (1, .slice A1_ x1.length k1_), (5, .int .i64 (w64 (s1 + 1)))], ⟨rfl, rfl, rfl, trivial⟩, rfl, ((hE5.trans (Ext.draw _)).trans hR50.ext), (hS51.taken 0), rfl⟩
      · skip
        rw [if_neg (not_t hc)] at hb12
        refine WP.exit ?_
        cases hb12
        exact ⟨_, [], trivial, ho13, hE5, (hS15.taken 0), rfl⟩

theorem enters93 : Enters Try.prog 93 := ⟨_, _, Try.func93, rfl, by kernel_rfl⟩
def m_laws_eqParcelSS_j1 (fuel : Nat) (t2 : Unit) : Option Bool := some true
def m_laws_eqParcelSS_b1 (fuel : Nat) (x0 : (List (List D.Parcel))) (x1 : (List (List D.Parcel))) (s1 : Int) : Option (Rd (Int) (Unit) (Bool)) := (if (decide (s1 < (x0.length : Int))) = true then ((idx x0 s1).bind fun x19 => ((idx x1 s1).bind fun x28 => ((m_laws_eqParcelS fuel x19 x28).bind fun r37 => (if (!r37) = true then some (.ret false) else some (.next (w64 (s1 + 1))))))) else some (.brk ()))
def m_laws_eqParcelSS (fuel : Nat) (x0 : (List (List D.Parcel))) (x1 : (List (List D.Parcel))) : Option (Bool) := (if ((x0.length : Int) != (x1.length : Int)) = true then some false else ((iter (m_laws_eqParcelSS_b1 fuel x0 x1) fuel 0).bind fun o => aft o (m_laws_eqParcelSS_j1 fuel)))

set_option maxRecDepth 100000 in
theorem laws_eqParcelSS_ok {w : World} {A0_ : Option Addr} {k0_ : Nat} {x0 : (List (List D.Parcel))} {A1_ : Option Addr} {k1_ : Nat} {x1 : (List (List D.Parcel))} (h0_ : ty77.ro w [.slice A0_ x0.length k0_] x0) (h1_ : ty77.ro w [.slice A1_ x1.length k1_] x1) {fuel : Nat} {r : Bool} (hm : m_laws_eqParcelSS fuel x0 x1 = some r) :
    Calls Try.prog 93 ⟨[.slice A0_ x0.length k0_, .slice A1_ x1.length k1_]⟩ w (Ret fun v w8 => v = .bool r ∧ St w w8 []) := by
  refine Calls.into Try.func93 rfl 27 rfl rfl _ rfl ?_
  unfold m_laws_eqParcelSS at hm
  have hS := St.start w
  refine WP.seq ?_
  refine WP.region ?_
  refine RW.run ttok 1 rfl ?_
  refine RW.nil ?_
  refine WP.seq ?_
  refine WP.seq ?_
  refine WP.region ?_
  refine RW.run ttok 5 rfl ?_
  refine RW.nil ?_
  refine WP.cond ((x0.length : Int) != (x1.length : Int)) rfl (fun hc => ?_) (fun hc => ?_)
  · skip
    rw [if_pos hc] at hm
    refine WP.seq ?_
    refine WP.region ?_
    refine RW.run ttok 1 rfl ?_
    refine RW.nil ?_
    refine WP.ret ?_
    cases hm
    exact ⟨_, .cons (.tmp rfl) .nil, rfl, (hS.taken 0)⟩
  · skip
    rw [if_neg (not_t hc)] at hm
    refine WP.skip ?_
    refine WP.seq ?_
    refine WP.seq ?_
    refine WP.region ?_
    refine RW.run ttok 1 rfl ?_
    refine RW.nil ?_
    obtain ⟨o8, hl9, hm⟩ := bind_some hm
    refine WP.cut (fun (t2 : Unit) F w9 => o8 = .inl t2 ∧ Ext w w9 ∧ St w w9 [] ∧ F = []) ?_ ?_
    · skip
      rintro t2 F w7 ⟨ho11, hE6, hS10, rfl⟩
      subst ho11
      rw [aft_inl] at hm
      unfold m_laws_eqParcelSS_j1 at hm
      refine WP.seq ?_
      refine WP.region ?_
      refine RW.run ttok 1 rfl ?_
      refine RW.nil ?_
      refine WP.ret ?_
      cases hm
      exact ⟨_, .cons (.tmp rfl) .nil, rfl, (hS10.taken 0)⟩
    · skip
      refine WP.block ?_
      refine WP.weak [(0, .slice A0_ x0.length k0_), (1, .slice A1_ x1.length k1_), (5, .int .i64 0)] ⟨rfl, rfl, rfl, trivial⟩ ?_
      refine WP.iter (fun (s1 : Int) F w9 => Ext w w9 ∧ St w w9 [] ∧ F = [(0, .slice A0_ x0.length k0_), (1, .slice A1_ x1.length k1_), (5, .int .i64 s1)]) _ hl9 ⟨(Ext.refl _), (hS.taken 0), rfl⟩ ?_
      rintro s1 F w16 _ o14 ⟨hE5, hS15, rfl⟩ hb12 ho13
      unfold m_laws_eqParcelSS_b1 at hb12
      refine WP.seq ?_
      refine WP.seq ?_
      refine WP.region ?_
      refine RW.run ttok 4 rfl ?_
      refine RW.nil ?_
      refine WP.cond (decide (s1 < (x0.length : Int))) rfl (fun hc => ?_) (fun hc => ?_)
      · skip
        rw [if_pos hc] at hb12
        refine WP.skip ?_
        refine WP.seq ?_
        refine WP.block ?_
        refine WP.seq ?_
        refine WP.drawnM 0 mixed 10 (by kernel_rfl) (by kernel_rfl) [([], 1023), ([], 1023), ([0, 1], 1020), ([2], 1019), ([], 1023), ([], 1023), ([4, 5], 975), ([6], 959), ([3, 7], 887), ([8], 767)] (by kernel_rfl) (fun hsk17 => ?_)
        have hS18 := hS15.step (Ext.draw _)
        refine DM.run (fuel := 6) ttok hsk17 [0, 1, 4, 5] 51 (by kernel_rfl) (by kernel_rfl) rfl ?_
        obtain ⟨x19, hx20, hb12⟩ := bind_some hb12
        refine DM.idx ttok hS15.ext hsk17 2 55 (by kernel_rfl) (by kernel_rfl) (by kernel_rfl) (by kernel_rfl) rfl (by kernel_rfl) rfl rfl rfl rfl rfl rfl (by decide) rfl rfl h0_ (idx_some hx20).1 (idx_some hx20).2 rfl rfl (fun p21 es22 ha23 hr24 => ?_)
        obtain ⟨A25, k26, e27⟩ := ty171_form hr24; subst e27
        refine DM.load1 ttok hsk17 3 63 (by kernel_rfl) (by kernel_rfl) (by kernel_rfl) (by kernel_rfl) rfl (by kernel_rfl) rfl rfl rfl rfl rfl (At.ext hS15.ext ha23) 0 rfl rfl rfl rfl ?_
        obtain ⟨x28, hx29, hb12⟩ := bind_some hb12
        refine DM.idx ttok hS15.ext hsk17 6 127 (by kernel_rfl) (by kernel_rfl) (by kernel_rfl) (by kernel_rfl) rfl (by kernel_rfl) rfl rfl rfl rfl rfl rfl (by decide) rfl rfl h1_ (idx_some hx29).1 (idx_some hx29).2 rfl rfl (fun p30 es31 ha32 hr33 => ?_)
        obtain ⟨A34, k35, e36⟩ := ty171_form hr33; subst e36
        refine DM.load1 ttok hsk17 7 255 (by kernel_rfl) (by kernel_rfl) (by kernel_rfl) (by kernel_rfl) rfl (by kernel_rfl) rfl rfl rfl rfl rfl (At.ext hS15.ext ha32) 0 rfl rfl rfl rfl ?_
        obtain ⟨r37, hx38, hb12⟩ := bind_some hb12
        refine DM.one hsk17 8 (by kernel_rfl) (LM.call hsk17 511 (by kernel_rfl) (by kernel_rfl) rfl rfl rfl rfl enters153 (laws_eqParcelS_ok (ty171.ext hS18.ext hr24) (ty171.ext hS18.ext hr33) hx38) (fun v39 w40 hR41 => ?_))
        obtain ⟨rfl, hR42⟩ := hR41
        refine ⟨hR42.ext, ?_⟩
        have hS43 := hS18.join hR42
        refine DM.run (fuel := 0) ttok hsk17 [9] 1023 (by kernel_rfl) (by kernel_rfl) rfl ?_
        refine DM.weak [(0, .slice A0_ x0.length k0_), (1, .slice A1_ x1.length k1_), (5, .int .i64 s1), (26, .bool (!r37))] ⟨rfl, rfl, rfl, rfl, trivial⟩ ?_
        refine DM.done hsk17 (by kernel_rfl) ?_
        refine WP.cond (!r37) rfl (fun hc => ?_) (fun hc => ?_)
        · skip
          rw [if_pos hc] at hb12
          refine WP.seq ?_
          refine WP.region ?_
          refine RW.run ttok 1 rfl ?_
          refine RW.nil ?_
          refine WP.ret ?_
          cases hb12
          cases ho13
          have hm : some _ = some _ := hm
          cases hm
          exact ⟨_, .cons (.tmp rfl) .nil, rfl, (hS43.taken 0)⟩
        · skip
          rw [if_neg (not_t hc)] at hb12
          refine WP.skip ?_
          refine WP.region ?_
          refine RW.run ttok 3 rfl ?_
          refine RW.nil ?_
          cases hb12
          exact ⟨_, [(0, .slice A0_ x0.length k0_), (1, .slice A1_ x1.length k1_), (5, .int .i64 (w64 (s1 + 1)))], ⟨rfl, rfl, rfl, trivial⟩, rfl, ((hE5.trans (Ext.draw _)).trans hR42.ext), (hS43.taken 0), rfl⟩
      · skip
        rw [if_neg (not_t hc)] at hb12
        refine WP.exit ?_
        cases hb12
        exact ⟨_, [], trivial, ho13, hE5, (hS15.taken 0), rfl⟩

theorem enters94 : Enters Try.prog 94 := ⟨_, _, Try.func94, rfl, by kernel_rfl⟩
def m_laws_eqInt64SS_j1 (fuel : Nat) (t2 : Unit) : Option Bool := some true
def m_laws_eqInt64SS_b1 (fuel : Nat) (x0 : (List (List Int))) (x1 : (List (List Int))) (s1 : Int) : Option (Rd (Int) (Unit) (Bool)) := (if (decide (s1 < (x0.length : Int))) = true then ((idx x0 s1).bind fun x19 => ((idx x1 s1).bind fun x28 => ((m_laws_eqInt64S fuel x19 x28).bind fun r37 => (if (!r37) = true then some (.ret false) else some (.next (w64 (s1 + 1))))))) else some (.brk ()))
def m_laws_eqInt64SS (fuel : Nat) (x0 : (List (List Int))) (x1 : (List (List Int))) : Option (Bool) := (if ((x0.length : Int) != (x1.length : Int)) = true then some false else ((iter (m_laws_eqInt64SS_b1 fuel x0 x1) fuel 0).bind fun o => aft o (m_laws_eqInt64SS_j1 fuel)))

set_option maxRecDepth 100000 in
theorem laws_eqInt64SS_ok {w : World} {A0_ : Option Addr} {k0_ : Nat} {x0 : (List (List Int))} {A1_ : Option Addr} {k1_ : Nat} {x1 : (List (List Int))} (h0_ : ty71.ro w [.slice A0_ x0.length k0_] x0) (h1_ : ty71.ro w [.slice A1_ x1.length k1_] x1) {fuel : Nat} {r : Bool} (hm : m_laws_eqInt64SS fuel x0 x1 = some r) :
    Calls Try.prog 94 ⟨[.slice A0_ x0.length k0_, .slice A1_ x1.length k1_]⟩ w (Ret fun v w8 => v = .bool r ∧ St w w8 []) := by
  refine Calls.into Try.func94 rfl 27 rfl rfl _ rfl ?_
  unfold m_laws_eqInt64SS at hm
  have hS := St.start w
  refine WP.seq ?_
  refine WP.region ?_
  refine RW.run ttok 1 rfl ?_
  refine RW.nil ?_
  refine WP.seq ?_
  refine WP.seq ?_
  refine WP.region ?_
  refine RW.run ttok 5 rfl ?_
  refine RW.nil ?_
  refine WP.cond ((x0.length : Int) != (x1.length : Int)) rfl (fun hc => ?_) (fun hc => ?_)
  · skip
    rw [if_pos hc] at hm
    refine WP.seq ?_
    refine WP.region ?_
    refine RW.run ttok 1 rfl ?_
    refine RW.nil ?_
    refine WP.ret ?_
    cases hm
    exact ⟨_, .cons (.tmp rfl) .nil, rfl, (hS.taken 0)⟩
  · skip
    rw [if_neg (not_t hc)] at hm
    refine WP.skip ?_
    refine WP.seq ?_
    refine WP.seq ?_
    refine WP.region ?_
    refine RW.run ttok 1 rfl ?_
    refine RW.nil ?_
    obtain ⟨o8, hl9, hm⟩ := bind_some hm
    refine WP.cut (fun (t2 : Unit) F w9 => o8 = .inl t2 ∧ Ext w w9 ∧ St w w9 [] ∧ F = []) ?_ ?_
    · skip
      rintro t2 F w7 ⟨ho11, hE6, hS10, rfl⟩
      subst ho11
      rw [aft_inl] at hm
      unfold m_laws_eqInt64SS_j1 at hm
      refine WP.seq ?_
      refine WP.region ?_
      refine RW.run ttok 1 rfl ?_
      refine RW.nil ?_
      refine WP.ret ?_
      cases hm
      exact ⟨_, .cons (.tmp rfl) .nil, rfl, (hS10.taken 0)⟩
    · skip
      refine WP.block ?_
      refine WP.weak [(0, .slice A0_ x0.length k0_), (1, .slice A1_ x1.length k1_), (5, .int .i64 0)] ⟨rfl, rfl, rfl, trivial⟩ ?_
      refine WP.iter (fun (s1 : Int) F w9 => Ext w w9 ∧ St w w9 [] ∧ F = [(0, .slice A0_ x0.length k0_), (1, .slice A1_ x1.length k1_), (5, .int .i64 s1)]) _ hl9 ⟨(Ext.refl _), (hS.taken 0), rfl⟩ ?_
      rintro s1 F w16 _ o14 ⟨hE5, hS15, rfl⟩ hb12 ho13
      unfold m_laws_eqInt64SS_b1 at hb12
      refine WP.seq ?_
      refine WP.seq ?_
      refine WP.region ?_
      refine RW.run ttok 4 rfl ?_
      refine RW.nil ?_
      refine WP.cond (decide (s1 < (x0.length : Int))) rfl (fun hc => ?_) (fun hc => ?_)
      · skip
        rw [if_pos hc] at hb12
        refine WP.skip ?_
        refine WP.seq ?_
        refine WP.block ?_
        refine WP.seq ?_
        refine WP.drawnM 0 mixed 10 (by kernel_rfl) (by kernel_rfl) [([], 1023), ([], 1023), ([0, 1], 1020), ([2], 1019), ([], 1023), ([], 1023), ([4, 5], 975), ([6], 959), ([3, 7], 887), ([8], 767)] (by kernel_rfl) (fun hsk17 => ?_)
        have hS18 := hS15.step (Ext.draw _)
        refine DM.run (fuel := 6) ttok hsk17 [0, 1, 4, 5] 51 (by kernel_rfl) (by kernel_rfl) rfl ?_
        obtain ⟨x19, hx20, hb12⟩ := bind_some hb12
        refine DM.idx ttok hS15.ext hsk17 2 55 (by kernel_rfl) (by kernel_rfl) (by kernel_rfl) (by kernel_rfl) rfl (by kernel_rfl) rfl rfl rfl rfl rfl rfl (by decide) rfl rfl h0_ (idx_some hx20).1 (idx_some hx20).2 rfl rfl (fun p21 es22 ha23 hr24 => ?_)
        obtain ⟨A25, k26, e27⟩ := ty72_form hr24; subst e27
        refine DM.load1 ttok hsk17 3 63 (by kernel_rfl) (by kernel_rfl) (by kernel_rfl) (by kernel_rfl) rfl (by kernel_rfl) rfl rfl rfl rfl rfl (At.ext hS15.ext ha23) 0 rfl rfl rfl rfl ?_
        obtain ⟨x28, hx29, hb12⟩ := bind_some hb12
        refine DM.idx ttok hS15.ext hsk17 6 127 (by kernel_rfl) (by kernel_rfl) (by kernel_rfl) (by kernel_rfl) rfl (by kernel_rfl) rfl rfl rfl rfl rfl rfl (by decide) rfl rfl h1_ (idx_some hx29).1 (idx_some hx29).2 rfl rfl (fun p30 es31 ha32 hr33 => ?_)
        obtain ⟨A34, k35, e36⟩ := ty72_form hr33; subst e36
        refine DM.load1 ttok hsk17 7 255 (by kernel_rfl) (by kernel_rfl) (by kernel_rfl) (by kernel_rfl) rfl (by kernel_rfl) rfl rfl rfl rfl rfl (At.ext hS15.ext ha32) 0 rfl rfl rfl rfl ?_
        obtain ⟨r37, hx38, hb12⟩ := bind_some hb12
        refine DM.one hsk17 8 (by kernel_rfl) (LM.call hsk17 511 (by kernel_rfl) (by kernel_rfl) rfl rfl rfl rfl enters95 (laws_eqInt64S_ok (ty72.ext hS18.ext hr24) (ty72.ext hS18.ext hr33) hx38) (fun v39 w40 hR41 => ?_))
        obtain ⟨rfl, hR42⟩ := hR41
        refine ⟨hR42.ext, ?_⟩
        have hS43 := hS18.join hR42
        refine DM.run (fuel := 0) ttok hsk17 [9] 1023 (by kernel_rfl) (by kernel_rfl) rfl ?_
        refine DM.weak [(0, .slice A0_ x0.length k0_), (1, .slice A1_ x1.length k1_), (5, .int .i64 s1), (26, .bool (!r37))] ⟨rfl, rfl, rfl, rfl, trivial⟩ ?_
        refine DM.done hsk17 (by kernel_rfl) ?_
        refine WP.cond (!r37) rfl (fun hc => ?_) (fun hc => ?_)
        · skip
          rw [if_pos hc] at hb12
          refine WP.seq ?_
          refine WP.region ?_
          refine RW.run ttok 1 rfl ?_
          refine RW.nil ?_
          refine WP.ret ?_
          cases hb12
          cases ho13
          have hm : some _ = some _ := hm
          cases hm
          exact ⟨_, .cons (.tmp rfl) .nil, rfl, (hS43.taken 0)⟩
        · skip
          rw [if_neg (not_t hc)] at hb12
          refine WP.skip ?_
          refine WP.region ?_
          refine RW.run ttok 3 rfl ?_
          refine RW.nil ?_
          cases hb12
          exact ⟨_, [(0, .slice A0_ x0.length k0_), (1, .slice A1_ x1.length k1_), (5, .int .i64 (w64 (s1 + 1)))], ⟨rfl, rfl, rfl, trivial⟩, rfl, ((hE5.trans (Ext.draw _)).trans hR42.ext), (hS43.taken 0), rfl⟩
      · skip
        rw [if_neg (not_t hc)] at hb12
        refine WP.exit ?_
        cases hb12
        exact ⟨_, [], trivial, ho13, hE5, (hS15.taken 0), rfl⟩

theorem enters30 : Enters Try.prog 30 := ⟨_, _, Try.func30, rfl, by kernel_rfl⟩
def m_laws_eqCluster (fuel : Nat) (x0 : D.Cluster) (x1 : D.Cluster) : Option (Bool) := ((m_laws_eqGrid fuel x0.Grid x1.Grid).bind fun r41 => (if (!r41) = true then some false else ((m_laws_eqParcelSS fuel x0.Channels x1.Channels).bind fun r48 => (if (!r48) = true then some false else ((m_laws_eqInt64SS fuel x0.Counts x1.Counts).bind fun r55 => (if (!r55) = true then some false else ((m_laws_eqInt64S fuel x0.Sent x1.Sent).bind fun r62 => (if (!r62) = true then some false else ((m_laws_eqInt64S fuel x0.Got x1.Got).bind fun r69 => (if (!r69) = true then some false else some true))))))))))

set_option maxRecDepth 100000 in
theorem laws_eqCluster_ok {w : World} {c0_ : List Value} {x0 : D.Cluster} {c1_ : List Value} {x1 : D.Cluster} (h0_ : ty79.ro w c0_ x0) (h1_ : ty79.ro w c1_ x1) {fuel : Nat} {r : Bool} (hm : m_laws_eqCluster fuel x0 x1 = some r) :
    Calls Try.prog 30 ⟨[.agg ⟨c0_⟩, .agg ⟨c1_⟩]⟩ w (Ret fun v w8 => v = .bool r ∧ St w w8 []) := by
  obtain ⟨A1, k2, A4, k5, A7, k8, A10, k11, A13, k14, e16, h3, h6, h9, h12, h15⟩ := ty79_open h0_; subst e16
  obtain ⟨A17, k18, A20, k21, A23, k24, A26, k27, A29, k30, e32, h19, h22, h25, h28, h31⟩ := ty79_open h1_; subst e32
  refine Calls.into Try.func30 rfl 35 rfl rfl _ rfl ?_
  unfold m_laws_eqCluster at hm
  have hS := St.start w
  refine WP.seq ?_
  refine WP.region ?_
  refine RW.new ttok hS rfl rfl rfl rfl (fun g33 w34 e35 hS36 => ?_)
  refine RW.new ttok hS36 rfl rfl rfl rfl (fun g37 w38 e39 hS40 => ?_)
  refine RW.run ttok 1 rfl ?_
  refine RW.nil ?_
  refine WP.seq ?_
  refine WP.seq ?_
  refine WP.region ?_
  refine RW.run ttok 1 rfl ?_
  refine RW.loadN ttok rfl rfl rfl rfl rfl (At.sub ((hS40.bring 1 rfl).box) 0 4) rfl rfl rfl ?_
  refine RW.run ttok 1 rfl ?_
  refine RW.loadN ttok rfl rfl rfl rfl rfl (At.sub ((hS40.bring 0 rfl).box) 0 4) rfl rfl rfl ?_
  obtain ⟨r41, hx42, hm⟩ := bind_some hm
  refine RW.call rfl rfl rfl enters20 (laws_eqGrid_ok (ty46_shut x0.Grid (ty43.ext hS40.ext h3)) (ty46_shut x1.Grid (ty43.ext hS40.ext h19)) hx42) (fun v43 w44 hR45 => ?_)
  obtain ⟨rfl, hR46⟩ := hR45
  have hS47 := hS40.join hR46
  refine RW.run ttok 1 rfl ?_
  refine RW.nil ?_
  refine WP.cond (!r41) rfl (fun hc => ?_) (fun hc => ?_)
  · skip
    rw [if_pos hc] at hm
    refine WP.seq ?_
    refine WP.region ?_
    refine RW.run ttok 1 rfl ?_
    refine RW.nil ?_
    refine WP.ret ?_
    cases hm
    exact ⟨_, .cons (.tmp rfl) .nil, rfl, (hS47.taken 0)⟩
  · skip
    rw [if_neg (not_t hc)] at hm
    refine WP.skip ?_
    refine WP.seq ?_
    refine WP.seq ?_
    refine WP.region ?_
    refine RW.run ttok 1 rfl ?_
    refine RW.load1 ttok rfl rfl rfl rfl rfl ((hS47.bring 1 rfl).box) 4 rfl rfl rfl rfl ?_
    refine RW.run ttok 1 rfl ?_
    refine RW.load1 ttok rfl rfl rfl rfl rfl ((hS47.bring 0 rfl).box) 4 rfl rfl rfl rfl ?_
    obtain ⟨r48, hx49, hm⟩ := bind_some hm
    refine RW.call rfl rfl rfl enters93 (laws_eqParcelSS_ok (ty77.ext hS47.ext h6) (ty77.ext hS47.ext h22) hx49) (fun v50 w51 hR52 => ?_)
    obtain ⟨rfl, hR53⟩ := hR52
    have hS54 := hS47.join hR53
    refine RW.run ttok 1 rfl ?_
    refine RW.nil ?_
    refine WP.cond (!r48) rfl (fun hc => ?_) (fun hc => ?_)
    · skip
      rw [if_pos hc] at hm
      refine WP.seq ?_
      refine WP.region ?_
      refine RW.run ttok 1 rfl ?_
      refine RW.nil ?_
      refine WP.ret ?_
      cases hm
      exact ⟨_, .cons (.tmp rfl) .nil, rfl, (hS54.taken 0)⟩
    · skip
      rw [if_neg (not_t hc)] at hm
      refine WP.skip ?_
      refine WP.seq ?_
      refine WP.seq ?_
      refine WP.region ?_
      refine RW.run ttok 1 rfl ?_
      refine RW.load1 ttok rfl rfl rfl rfl rfl ((hS54.bring 1 rfl).box) 5 rfl rfl rfl rfl ?_
      refine RW.run ttok 1 rfl ?_
      refine RW.load1 ttok rfl rfl rfl rfl rfl ((hS54.bring 0 rfl).box) 5 rfl rfl rfl rfl ?_
      obtain ⟨r55, hx56, hm⟩ := bind_some hm
      refine RW.call rfl rfl rfl enters94 (laws_eqInt64SS_ok (ty71.ext hS54.ext h9) (ty71.ext hS54.ext h25) hx56) (fun v57 w58 hR59 => ?_)
      obtain ⟨rfl, hR60⟩ := hR59
      have hS61 := hS54.join hR60
      refine RW.run ttok 1 rfl ?_
      refine RW.nil ?_
      refine WP.cond (!r55) rfl (fun hc => ?_) (fun hc => ?_)
      · skip
        rw [if_pos hc] at hm
        refine WP.seq ?_
        refine WP.region ?_
        refine RW.run ttok 1 rfl ?_
        refine RW.nil ?_
        refine WP.ret ?_
        cases hm
        exact ⟨_, .cons (.tmp rfl) .nil, rfl, (hS61.taken 0)⟩
      · skip
        rw [if_neg (not_t hc)] at hm
        refine WP.skip ?_
        refine WP.seq ?_
        refine WP.seq ?_
        refine WP.region ?_
        refine RW.run ttok 1 rfl ?_
        refine RW.load1 ttok rfl rfl rfl rfl rfl ((hS61.bring 1 rfl).box) 6 rfl rfl rfl rfl ?_
        refine RW.run ttok 1 rfl ?_
        refine RW.load1 ttok rfl rfl rfl rfl rfl ((hS61.bring 0 rfl).box) 6 rfl rfl rfl rfl ?_
        obtain ⟨r62, hx63, hm⟩ := bind_some hm
        refine RW.call rfl rfl rfl enters95 (laws_eqInt64S_ok (ty72.ext hS61.ext h12) (ty72.ext hS61.ext h28) hx63) (fun v64 w65 hR66 => ?_)
        obtain ⟨rfl, hR67⟩ := hR66
        have hS68 := hS61.join hR67
        refine RW.run ttok 1 rfl ?_
        refine RW.nil ?_
        refine WP.cond (!r62) rfl (fun hc => ?_) (fun hc => ?_)
        · skip
          rw [if_pos hc] at hm
          refine WP.seq ?_
          refine WP.region ?_
          refine RW.run ttok 1 rfl ?_
          refine RW.nil ?_
          refine WP.ret ?_
          cases hm
          exact ⟨_, .cons (.tmp rfl) .nil, rfl, (hS68.taken 0)⟩
        · skip
          rw [if_neg (not_t hc)] at hm
          refine WP.skip ?_
          refine WP.seq ?_
          refine WP.seq ?_
          refine WP.region ?_
          refine RW.run ttok 1 rfl ?_
          refine RW.load1 ttok rfl rfl rfl rfl rfl ((hS68.bring 1 rfl).box) 7 rfl rfl rfl rfl ?_
          refine RW.run ttok 1 rfl ?_
          refine RW.load1 ttok rfl rfl rfl rfl rfl ((hS68.bring 0 rfl).box) 7 rfl rfl rfl rfl ?_
          obtain ⟨r69, hx70, hm⟩ := bind_some hm
          refine RW.call rfl rfl rfl enters95 (laws_eqInt64S_ok (ty72.ext hS68.ext h15) (ty72.ext hS68.ext h31) hx70) (fun v71 w72 hR73 => ?_)
          obtain ⟨rfl, hR74⟩ := hR73
          have hS75 := hS68.join hR74
          refine RW.run ttok 1 rfl ?_
          refine RW.nil ?_
          refine WP.cond (!r69) rfl (fun hc => ?_) (fun hc => ?_)
          · skip
            rw [if_pos hc] at hm
            refine WP.seq ?_
            refine WP.region ?_
            refine RW.run ttok 1 rfl ?_
            refine RW.nil ?_
            refine WP.ret ?_
            cases hm
            exact ⟨_, .cons (.tmp rfl) .nil, rfl, (hS75.taken 0)⟩
          · skip
            rw [if_neg (not_t hc)] at hm
            refine WP.skip ?_
            refine WP.seq ?_
            refine WP.region ?_
            refine RW.run ttok 1 rfl ?_
            refine RW.nil ?_
            refine WP.ret ?_
            cases hm
            exact ⟨_, .cons (.tmp rfl) .nil, rfl, (hS75.taken 0)⟩

theorem enters6 : Enters Try.prog 6 := ⟨_, _, Try.func6, rfl, by kernel_rfl⟩
def m_laws_FnExactSameCluster (fuel : Nat) (x0 : D.Cluster) (x1 : D.Cluster) : Option (Bool) := ((m_laws_szCluster fuel x0 1048576).bind fun r41 => (if (decide (r41 < 0)) = true then some true else ((m_laws_szCluster fuel x1 r41).bind fun r48 => (if (decide (r48 < 0)) = true then some true else ((m_laws_toCluster fuel x0).bind fun r57 => ((m_laws_toCluster fuel x1).bind fun r74 => ((m_spec_SameCluster fuel r57 r74).bind fun r91 => ((m_laws_toCluster fuel x0).bind fun r98 => ((m_laws_toCluster fuel x1).bind fun r122 => ((m_impl_SameCluster fuel r98 r122).bind fun r146 => (if (!(r146 == r91)) = true then some false else ((m_laws_toCluster fuel x0).bind fun r155 => ((m_laws_eqCluster fuel r98 r155).bind fun r172 => (if (!r172) = true then some false else ((m_laws_toCluster fuel x1).bind fun r181 => ((m_laws_eqCluster fuel r122 r181).bind fun r198 => (if (!r198) = true then some false else some true)))))))))))))))))

set_option maxRecDepth 100000 in
theorem laws_FnExactSameCluster_ok {w : World} {c0_ : List Value} {x0 : D.Cluster} {c1_ : List Value} {x1 : D.Cluster} (h0_ : ty74.ro w c0_ x0) (h1_ : ty74.ro w c1_ x1) {fuel : Nat} {r : Bool} (hm : m_laws_FnExactSameCluster fuel x0 x1 = some r) :
    Calls Try.prog 6 ⟨[.agg ⟨c0_⟩, .agg ⟨c1_⟩]⟩ w (Ret fun v w8 => v = .bool r ∧ St w w8 []) := by
  obtain ⟨A1, k2, A4, k5, A7, k8, A10, k11, A13, k14, e16, h3, h6, h9, h12, h15⟩ := ty74_open h0_; subst e16
  obtain ⟨A17, k18, A20, k21, A23, k24, A26, k27, A29, k30, e32, h19, h22, h25, h28, h31⟩ := ty74_open h1_; subst e32
  refine Calls.into Try.func6 rfl 45 rfl rfl _ rfl ?_
  unfold m_laws_FnExactSameCluster at hm
  have hS := St.start w
  refine WP.seq ?_
  refine WP.region ?_
  refine RW.new ttok hS rfl rfl rfl rfl (fun g33 w34 e35 hS36 => ?_)
  refine RW.new ttok hS36 rfl rfl rfl rfl (fun g37 w38 e39 hS40 => ?_)
  refine RW.run ttok 1 rfl ?_
  refine RW.nil ?_
  refine WP.seq ?_
  refine WP.region ?_
  refine RW.run ttok 1 rfl ?_
  refine RW.nil ?_
  refine WP.seq ?_
  refine WP.region ?_
  refine RW.loadN ttok rfl rfl rfl rfl rfl ((hS40.bring 1 rfl).box) rfl rfl rfl ?_
  refine RW.run ttok 1 rfl ?_
  obtain ⟨r41, hx42, hm⟩ := bind_some hm
  refine RW.call rfl rfl rfl enters26 (laws_szCluster_ok (ty74.ext hS40.ext h0_) hx42) (fun v43 w44 hR45 => ?_)
  obtain ⟨rfl, hR46⟩ := hR45
  have hS47 := hS40.join hR46
  refine RW.run ttok 1 rfl ?_
  refine RW.nil ?_
  refine WP.seq ?_
  refine WP.seq ?_
  refine WP.region ?_
  refine RW.run ttok 2 rfl ?_
  refine RW.nil ?_
  refine WP.cond (decide (r41 < 0)) rfl (fun hc => ?_) (fun hc => ?_)
  · skip
    rw [if_pos hc] at hm
    refine WP.seq ?_
    refine WP.region ?_
    refine RW.run ttok 1 rfl ?_
    refine RW.nil ?_
    refine WP.ret ?_
    cases hm
    exact ⟨_, .cons (.tmp rfl) .nil, rfl, (hS47.taken 0)⟩
  · skip
    rw [if_neg (not_t hc)] at hm
    refine WP.skip ?_
    refine WP.seq ?_
    refine WP.region ?_
    refine RW.loadN ttok rfl rfl rfl rfl rfl ((hS47.bring 0 rfl).box) rfl rfl rfl ?_
    refine RW.run ttok 1 rfl ?_
    obtain ⟨r48, hx49, hm⟩ := bind_some hm
    refine RW.call rfl rfl rfl enters26 (laws_szCluster_ok (ty74.ext hS47.ext h1_) hx49) (fun v50 w51 hR52 => ?_)
    obtain ⟨rfl, hR53⟩ := hR52
    have hS54 := hS47.join hR53
    refine RW.run ttok 1 rfl ?_
    refine RW.nil ?_
    refine WP.seq ?_
    refine WP.seq ?_
    refine WP.region ?_
    refine RW.run ttok 2 rfl ?_
    refine RW.nil ?_
    refine WP.cond (decide (r48 < 0)) rfl (fun hc => ?_) (fun hc => ?_)
    · skip
      rw [if_pos hc] at hm
      refine WP.seq ?_
      refine WP.region ?_
      refine RW.run ttok 1 rfl ?_
      refine RW.nil ?_
      refine WP.ret ?_
      cases hm
      exact ⟨_, .cons (.tmp rfl) .nil, rfl, (hS54.taken 0)⟩
    · skip
      rw [if_neg (not_t hc)] at hm
      refine WP.skip ?_
      refine WP.seq ?_
      refine WP.drawnM 0 mixed 6 (by kernel_rfl) (by kernel_rfl) [([], 63), ([0], 62), ([], 63), ([2, 1], 59), ([1, 3, 3], 53), ([4, 4, 0, 1, 2, 3, 4], 47)] (by kernel_rfl) (fun hsk55 => ?_)
      have hS56 := hS54.step (Ext.draw _)
      refine DM.loadN ttok hsk55 0 1 (by kernel_rfl) (by kernel_rfl) (by kernel_rfl) (by kernel_rfl) rfl (by kernel_rfl) rfl rfl rfl rfl rfl ((hS54.bring 1 rfl).box) rfl rfl rfl ?_
      refine DM.loadN ttok hsk55 2 5 (by kernel_rfl) (by kernel_rfl) (by kernel_rfl) (by kernel_rfl) rfl (by kernel_rfl) rfl rfl rfl rfl rfl ((hS54.bring 0 rfl).box) rfl rfl rfl ?_
      obtain ⟨r57, hx58, hm⟩ := bind_some hm
      refine DM.one hsk55 1 (by kernel_rfl) (LM.call hsk55 7 (by kernel_rfl) (by kernel_rfl) rfl rfl rfl rfl enters28 (laws_toCluster_ok (ty74.ext hS56.ext h0_) hx58) (fun v59 w60 hR61 => ?_))
      obtain ⟨A62, k63, A64, k65, A66, k67, A68, k69, A70, k71, rfl, hR72⟩ := hR61
      refine ⟨hR72.ext, ?_⟩
      have hS73 := hS56.join hR72
      obtain ⟨r74, hx75, hm⟩ := bind_some hm
      refine DM.one hsk55 3 (by kernel_rfl) (LM.call hsk55 15 (by kernel_rfl) (by kernel_rfl) rfl rfl rfl rfl enters28 (laws_toCluster_ok (ty74.ext hS73.ext h1_) hx75) (fun v76 w77 hR78 => ?_))
      obtain ⟨A79, k80, A81, k82, A83, k84, A85, k86, A87, k88, rfl, hR89⟩ := hR78
      refine ⟨hR89.ext, ?_⟩
      have hS90 := hS73.join hR89
      obtain ⟨r91, hx92, hm⟩ := bind_some hm
      refine DM.one hsk55 4 (by kernel_rfl) (LM.call hsk55 31 (by kernel_rfl) (by kernel_rfl) rfl rfl rfl rfl enters27 (spec_SameCluster_ok (ty79_shut r57 ((hS90.bring 5 rfl).own) ((hS90.bring 6 rfl).own) ((hS90.bring 7 rfl).own) ((hS90.bring 8 rfl).own) ((hS90.bring 9 rfl).own)) (ty79_shut r74 ((hS90.bring 0 rfl).own) ((hS90.bring 1 rfl).own) ((hS90.bring 2 rfl).own) ((hS90.bring 3 rfl).own) ((hS90.bring 4 rfl).own)) hx92) (fun v93 w94 hR95 => ?_))
      obtain ⟨rfl, hR96⟩ := hR95
      refine ⟨hR96.ext, ?_⟩
      have hS97 := hS90.join hR96
      refine DM.run (fuel := 0) ttok hsk55 [5] 63 (by kernel_rfl) (by kernel_rfl) rfl ?_
      refine DM.weak [(2, .pointer (some ⟨g33, 0, none⟩)), (3, .pointer (some ⟨g37, 0, none⟩)), (6, .bool r91)] ⟨rfl, rfl, rfl, trivial⟩ ?_
      refine DM.done hsk55 (by kernel_rfl) ?_
      refine WP.seq ?_
      refine WP.region ?_
      refine RW.loadN ttok rfl rfl rfl rfl rfl ((hS97.bring 11 rfl).box) rfl rfl rfl ?_
      obtain ⟨r98, hx99, hm⟩ := bind_some hm
      refine RW.call rfl rfl rfl enters28 (laws_toCluster_ok (ty74.ext hS97.ext h0_) hx99) (fun v100 w101 hR102 => ?_)
      obtain ⟨A103, k104, A105, k106, A107, k108, A109, k110, A111, k112, rfl, hR113⟩ := hR102
      have hS114 := hS97.join hR113
      refine RW.new ttok hS114 rfl rfl rfl rfl (fun g115 w116 e117 hS118 => ?_)
      have hS119 := hS118.bring 0 rfl
      refine RW.store ttok (A := []) hS119 rfl rfl rfl rfl rfl 0 rfl rfl rfl rfl rfl (fun w120 hS121 => ?_)
      refine RW.nil ?_
      refine WP.seq ?_
      refine WP.region ?_
      refine RW.loadN ttok rfl rfl rfl rfl rfl ((hS121.bring 16 rfl).box) rfl rfl rfl ?_
      obtain ⟨r122, hx123, hm⟩ := bind_some hm
      refine RW.call rfl rfl rfl enters28 (laws_toCluster_ok (ty74.ext hS121.ext h1_) hx123) (fun v124 w125 hR126 => ?_)
      obtain ⟨A127, k128, A129, k130, A131, k132, A133, k134, A135, k136, rfl, hR137⟩ := hR126
      have hS138 := hS121.join hR137
      refine RW.new ttok hS138 rfl rfl rfl rfl (fun g139 w140 e141 hS142 => ?_)
      have hS143 := hS142.bring 0 rfl
      refine RW.store ttok (A := []) hS143 rfl rfl rfl rfl rfl 0 rfl rfl rfl rfl rfl (fun w144 hS145 => ?_)
      refine RW.nil ?_
      refine WP.seq ?_
      refine WP.region ?_
      refine RW.loadN ttok rfl rfl rfl rfl rfl ((hS145.bring 6 rfl).box) rfl rfl rfl ?_
      refine RW.loadN ttok rfl rfl rfl rfl rfl ((hS145.bring 0 rfl).box) rfl rfl rfl ?_
      obtain ⟨r146, hx147, hm⟩ := bind_some hm
      refine RW.call rfl rfl rfl enters29 (impl_SameCluster_ok (ty79_shut r98 ((hS145.bring 7 rfl).own) ((hS145.bring 8 rfl).own) ((hS145.bring 9 rfl).own) ((hS145.bring 10 rfl).own) ((hS145.bring 11 rfl).own)) (ty79_shut r122 ((hS145.bring 1 rfl).own) ((hS145.bring 2 rfl).own) ((hS145.bring 3 rfl).own) ((hS145.bring 4 rfl).own) ((hS145.bring 5 rfl).own)) hx147) (fun v148 w149 hR150 => ?_)
      obtain ⟨rfl, hR151⟩ := hR150
      have hS152 := hS145.join hR151
      refine RW.run ttok 1 rfl ?_
      refine RW.nil ?_
      refine WP.seq ?_
      refine WP.seq ?_
      refine WP.region ?_
      refine RW.run ttok 3 rfl ?_
      refine RW.nil ?_
      refine WP.cond (!(r146 == r91)) rfl (fun hc => ?_) (fun hc => ?_)
      · skip
        rw [if_pos hc] at hm
        refine WP.seq ?_
        refine WP.region ?_
        refine RW.run ttok 1 rfl ?_
        refine RW.nil ?_
        refine WP.ret ?_
        cases hm
        exact ⟨_, .cons (.tmp rfl) .nil, rfl, (hS152.taken 0)⟩
      · skip
        rw [if_neg (not_t hc)] at hm
        refine WP.skip ?_
        refine WP.seq ?_
        refine WP.seq ?_
        refine WP.drawnM 0 mixed 5 (by kernel_rfl) (by kernel_rfl) [([], 31), ([], 31), ([1], 29), ([0, 2, 2], 26), ([3], 23)] (by kernel_rfl) (fun hsk153 => ?_)
        have hS154 := hS152.step (Ext.draw _)
        refine DM.loadN ttok hsk153 0 1 (by kernel_rfl) (by kernel_rfl) (by kernel_rfl) (by kernel_rfl) rfl (by kernel_rfl) rfl rfl rfl rfl rfl ((hS152.bring 6 rfl).box) rfl rfl rfl ?_
        refine DM.loadN ttok hsk153 1 3 (by kernel_rfl) (by kernel_rfl) (by kernel_rfl) (by kernel_rfl) rfl (by kernel_rfl) rfl rfl rfl rfl rfl ((hS152.bring 23 rfl).box) rfl rfl rfl ?_
        obtain ⟨r155, hx156, hm⟩ := bind_some hm
        refine DM.one hsk153 2 (by kernel_rfl) (LM.call hsk153 7 (by kernel_rfl) (by kernel_rfl) rfl rfl rfl rfl enters28 (laws_toCluster_ok (ty74.ext hS154.ext h0_) hx156) (fun v157 w158 hR159 => ?_))
        obtain ⟨A160, k161, A162, k163, A164, k165, A166, k167, A168, k169, rfl, hR170⟩ := hR159
        refine ⟨hR170.ext, ?_⟩
        have hS171 := hS154.join hR170
        obtain ⟨r172, hx173, hm⟩ := bind_some hm
        refine DM.one hsk153 3 (by kernel_rfl) (LM.call hsk153 15 (by kernel_rfl) (by kernel_rfl) rfl rfl rfl rfl enters30 (laws_eqCluster_ok (ty79_shut r98 ((hS171.bring 12 rfl).own) ((hS171.bring 13 rfl).own) ((hS171.bring 14 rfl).own) ((hS171.bring 15 rfl).own) ((hS171.bring 16 rfl).own)) (ty79_shut r155 ((hS171.bring 0 rfl).own) ((hS171.bring 1 rfl).own) ((hS171.bring 2 rfl).own) ((hS171.bring 3 rfl).own) ((hS171.bring 4 rfl).own)) hx173) (fun v174 w175 hR176 => ?_))
        obtain ⟨rfl, hR177⟩ := hR176
        refine ⟨hR177.ext, ?_⟩
        have hS178 := hS171.join hR177
        refine DM.run (fuel := 0) ttok hsk153 [4] 31 (by kernel_rfl) (by kernel_rfl) rfl ?_
        refine DM.weak [(3, .pointer (some ⟨g37, 0, none⟩)), (8, .pointer (some ⟨g139, 0, none⟩)), (39, .bool (!r172))] ⟨rfl, rfl, rfl, trivial⟩ ?_
        refine DM.done hsk153 (by kernel_rfl) ?_
        refine WP.cond (!r172) rfl (fun hc => ?_) (fun hc => ?_)
        · skip
          rw [if_pos hc] at hm
          refine WP.seq ?_
          refine WP.region ?_
          refine RW.run ttok 1 rfl ?_
          refine RW.nil ?_
          refine WP.ret ?_
          cases hm
          exact ⟨_, .cons (.tmp rfl) .nil, rfl, (hS178.taken 0)⟩
        · skip
          rw [if_neg (not_t hc)] at hm
          refine WP.skip ?_
          refine WP.seq ?_
          refine WP.seq ?_
          refine WP.drawnM 0 mixed 5 (by kernel_rfl) (by kernel_rfl) [([], 31), ([], 31), ([1], 29), ([0, 2, 2], 26), ([3], 23)] (by kernel_rfl) (fun hsk179 => ?_)
          have hS180 := hS178.step (Ext.draw _)
          refine DM.loadN ttok hsk179 0 1 (by kernel_rfl) (by kernel_rfl) (by kernel_rfl) (by kernel_rfl) rfl (by kernel_rfl) rfl rfl rfl rfl rfl ((hS178.bring 5 rfl).box) rfl rfl rfl ?_
          refine DM.loadN ttok hsk179 1 3 (by kernel_rfl) (by kernel_rfl) (by kernel_rfl) (by kernel_rfl) rfl (by kernel_rfl) rfl rfl rfl rfl rfl ((hS178.bring 27 rfl).box) rfl rfl rfl ?_
          obtain ⟨r181, hx182, hm⟩ := bind_some hm
          refine DM.one hsk179 2 (by kernel_rfl) (LM.call hsk179 7 (by kernel_rfl) (by kernel_rfl) rfl rfl rfl rfl enters28 (laws_toCluster_ok (ty74.ext hS180.ext h1_) hx182) (fun v183 w184 hR185 => ?_))
          obtain ⟨A186, k187, A188, k189, A190, k191, A192, k193, A194, k195, rfl, hR196⟩ := hR185
          refine ⟨hR196.ext, ?_⟩
          have hS197 := hS180.join hR196
          obtain ⟨r198, hx199, hm⟩ := bind_some hm
          refine DM.one hsk179 3 (by kernel_rfl) (LM.call hsk179 15 (by kernel_rfl) (by kernel_rfl) rfl rfl rfl rfl enters30 (laws_eqCluster_ok (ty79_shut r122 ((hS197.bring 11 rfl).own) ((hS197.bring 12 rfl).own) ((hS197.bring 13 rfl).own) ((hS197.bring 14 rfl).own) ((hS197.bring 15 rfl).own)) (ty79_shut r181 ((hS197.bring 0 rfl).own) ((hS197.bring 1 rfl).own) ((hS197.bring 2 rfl).own) ((hS197.bring 3 rfl).own) ((hS197.bring 4 rfl).own)) hx199) (fun v200 w201 hR202 => ?_))
          obtain ⟨rfl, hR203⟩ := hR202
          refine ⟨hR203.ext, ?_⟩
          have hS204 := hS197.join hR203
          refine DM.run (fuel := 0) ttok hsk179 [4] 31 (by kernel_rfl) (by kernel_rfl) rfl ?_
          refine DM.weak [(44, .bool (!r198))] ⟨rfl, trivial⟩ ?_
          refine DM.done hsk179 (by kernel_rfl) ?_
          refine WP.cond (!r198) rfl (fun hc => ?_) (fun hc => ?_)
          · skip
            rw [if_pos hc] at hm
            refine WP.seq ?_
            refine WP.region ?_
            refine RW.run ttok 1 rfl ?_
            refine RW.nil ?_
            refine WP.ret ?_
            cases hm
            exact ⟨_, .cons (.tmp rfl) .nil, rfl, (hS204.taken 0)⟩
          · skip
            rw [if_neg (not_t hc)] at hm
            refine WP.skip ?_
            refine WP.seq ?_
            refine WP.region ?_
            refine RW.run ttok 1 rfl ?_
            refine RW.nil ?_
            refine WP.ret ?_
            cases hm
            exact ⟨_, .cons (.tmp rfl) .nil, rfl, (hS204.taken 0)⟩

theorem enters96 : Enters Try.prog 96 := ⟨_, _, Try.func96, rfl, by kernel_rfl⟩
def m_laws_szBoolS (fuel : Nat) (x0 : (List Bool)) (x1 : Int) : Option (Int) := (if (decide ((w64 (x1 - (x0.length : Int))) < 0)) = true then some (-1) else some (w64 (x1 - (x0.length : Int))))

set_option maxRecDepth 100000 in
theorem laws_szBoolS_ok {w : World} {A0_ : Option Addr} {k0_ : Nat} {x0 : (List Bool)} {x1 : Int} (h0_ : ty82.ro w [.slice A0_ x0.length k0_] x0) {fuel : Nat} {r : Int} (hm : m_laws_szBoolS fuel x0 x1 = some r) :
    Calls Try.prog 96 ⟨[.slice A0_ x0.length k0_, .int .i64 x1]⟩ w (Ret fun v w8 => v = .int .i64 r ∧ St w w8 []) := by
  refine Calls.into Try.func96 rfl 12 rfl rfl _ rfl ?_
  unfold m_laws_szBoolS at hm
  have hS := St.start w
  refine WP.seq ?_
  refine WP.region ?_
  refine RW.run ttok 1 rfl ?_
  refine RW.nil ?_
  refine WP.seq ?_
  refine WP.region ?_
  refine RW.run ttok 5 rfl ?_
  refine RW.nil ?_
  refine WP.seq ?_
  refine WP.seq ?_
  refine WP.region ?_
  refine RW.run ttok 2 rfl ?_
  refine RW.nil ?_
  refine WP.cond (decide ((w64 (x1 - (x0.length : Int))) < 0)) rfl (fun hc => ?_) (fun hc => ?_)
  · skip
    rw [if_pos hc] at hm
    refine WP.seq ?_
    refine WP.region ?_
    refine RW.run ttok 1 rfl ?_
    refine RW.nil ?_
    refine WP.ret ?_
    cases hm
    exact ⟨_, .cons (.tmp rfl) .nil, rfl, (hS.taken 0)⟩
  · skip
    rw [if_neg (not_t hc)] at hm
    refine WP.skip ?_
    refine WP.seq ?_
    refine WP.region ?_
    refine RW.run ttok 2 rfl ?_
    refine RW.nil ?_
    refine WP.ret ?_
    cases hm
    exact ⟨_, .cons (.tmp rfl) .nil, rfl, (hS.taken 0)⟩

theorem enters31 : Enters Try.prog 31 := ⟨_, _, Try.func31, rfl, by kernel_rfl⟩
def m_laws_szDetector (fuel : Nat) (x0 : D.Detector) (x1 : Int) : Option (Int) := ((m_laws_szCluster fuel x0.Cluster x1).bind fun r24 => (if (decide (r24 < 0)) = true then some (-1) else ((m_laws_szBoolS fuel x0.Stained r24).bind fun r31 => (if (decide (r31 < 0)) = true then some (-1) else some r31))))

set_option maxRecDepth 100000 in
theorem laws_szDetector_ok {w : World} {c0_ : List Value} {x0 : D.Detector} {x1 : Int} (h0_ : ty84.ro w c0_ x0) {fuel : Nat} {r : Int} (hm : m_laws_szDetector fuel x0 x1 = some r) :
    Calls Try.prog 31 ⟨[.agg ⟨c0_⟩, .int .i64 x1]⟩ w (Ret fun v w8 => v = .int .i64 r ∧ St w w8 []) := by
  obtain ⟨A1, k2, A4, k5, A7, k8, A10, k11, A13, k14, A16, k17, e19, h3, h6, h9, h12, h15, h18⟩ := ty84_open h0_; subst e19
  refine Calls.into Try.func31 rfl 18 rfl rfl _ rfl ?_
  unfold m_laws_szDetector at hm
  have hS := St.start w
  refine WP.seq ?_
  refine WP.region ?_
  refine RW.new ttok hS rfl rfl rfl rfl (fun g20 w21 e22 hS23 => ?_)
  refine RW.run ttok 1 rfl ?_
  refine RW.nil ?_
  refine WP.seq ?_
  refine WP.region ?_
  refine RW.run ttok 1 rfl ?_
  refine RW.loadN ttok rfl rfl rfl rfl rfl (At.sub ((hS23.bring 0 rfl).box) 0 8) rfl rfl rfl ?_
  refine RW.run ttok 1 rfl ?_
  obtain ⟨r24, hx25, hm⟩ := bind_some hm
  refine RW.call rfl rfl rfl enters26 (laws_szCluster_ok (ty74_shut x0.Cluster (ty36.ext hS23.ext h3) (ty70.ext hS23.ext h6) (ty71.ext hS23.ext h9) (ty72.ext hS23.ext h12) (ty72.ext hS23.ext h15)) hx25) (fun v26 w27 hR28 => ?_)
  obtain ⟨rfl, hR29⟩ := hR28
  have hS30 := hS23.join hR29
  refine RW.run ttok 1 rfl ?_
  refine RW.nil ?_
  refine WP.seq ?_
  refine WP.seq ?_
  refine WP.region ?_
  refine RW.run ttok 2 rfl ?_
  refine RW.nil ?_
  refine WP.cond (decide (r24 < 0)) rfl (fun hc => ?_) (fun hc => ?_)
  · skip
    rw [if_pos hc] at hm
    refine WP.seq ?_
    refine WP.region ?_
    refine RW.run ttok 1 rfl ?_
    refine RW.nil ?_
    refine WP.ret ?_
    cases hm
    exact ⟨_, .cons (.tmp rfl) .nil, rfl, (hS30.taken 0)⟩
  · skip
    rw [if_neg (not_t hc)] at hm
    refine WP.skip ?_
    refine WP.seq ?_
    refine WP.region ?_
    refine RW.run ttok 1 rfl ?_
    refine RW.load1 ttok rfl rfl rfl rfl rfl ((hS30.bring 0 rfl).box) 11 rfl rfl rfl rfl ?_
    refine RW.run ttok 1 rfl ?_
    obtain ⟨r31, hx32, hm⟩ := bind_some hm
    refine RW.call rfl rfl rfl enters96 (laws_szBoolS_ok (ty82.ext hS30.ext h18) hx32) (fun v33 w34 hR35 => ?_)
    obtain ⟨rfl, hR36⟩ := hR35
    have hS37 := hS30.join hR36
    refine RW.run ttok 1 rfl ?_
    refine RW.nil ?_
    refine WP.seq ?_
    refine WP.seq ?_
    refine WP.region ?_
    refine RW.run ttok 2 rfl ?_
    refine RW.nil ?_
    refine WP.cond (decide (r31 < 0)) rfl (fun hc => ?_) (fun hc => ?_)
    · skip
      rw [if_pos hc] at hm
      refine WP.seq ?_
      refine WP.region ?_
      refine RW.run ttok 1 rfl ?_
      refine RW.nil ?_
      refine WP.ret ?_
      cases hm
      exact ⟨_, .cons (.tmp rfl) .nil, rfl, (hS37.taken 0)⟩
    · skip
      rw [if_neg (not_t hc)] at hm
      refine WP.skip ?_
      refine WP.seq ?_
      refine WP.region ?_
      refine RW.run ttok 2 rfl ?_
      refine RW.nil ?_
      refine WP.ret ?_
      cases hm
      exact ⟨_, .cons (.tmp rfl) .nil, rfl, (hS37.taken 0)⟩

theorem enters98 : Enters Try.prog 98 := ⟨_, _, Try.func98, rfl, by kernel_rfl⟩
def m_laws_toBoolS_j1 (fuel : Nat) (t9 : (List Bool)) : Option (List Bool) := some t9
def m_laws_toBoolS_b1 (fuel : Nat) (x0 : (List Bool)) (s8 : Int × (List Bool)) : Option (Rd (Int × (List Bool)) ((List Bool)) ((List Bool))) := (if (decide (s8.1 < (x0.length : Int))) = true then ((idx x0 s8.1).bind fun x27 => (if decide (0 ≤ s8.1 ∧ s8.1.toNat < s8.2.length) = true then some (.next (w64 (s8.1 + 1), (s8.2.set s8.1.toNat x27))) else none)) else some (.brk s8.2))
def m_laws_toBoolS (fuel : Nat) (x0 : (List Bool)) : Option ((List Bool)) := (if decide (0 ≤ (x0.length : Int) ∧ (x0.length : Int) ≤ 4294967296) = true then ((iter (m_laws_toBoolS_b1 fuel x0) fuel (0, (List.replicate (x0.length : Int).toNat false))).bind fun o => aft o (m_laws_toBoolS_j1 fuel)) else none)

set_option maxRecDepth 100000 in
theorem laws_toBoolS_ok {w : World} {A0_ : Option Addr} {k0_ : Nat} {x0 : (List Bool)} (h0_ : ty82.ro w [.slice A0_ x0.length k0_] x0) {fuel : Nat} {r : (List Bool)} (hm : m_laws_toBoolS fuel x0 = some r) :
    Calls Try.prog 98 ⟨[.slice A0_ x0.length k0_]⟩ w (Ret fun v w8 => ∃ A0 k0, v = .slice A0 r.length k0 ∧ St w w8 [Own ty82 [.slice A0 r.length k0] r]) := by
  refine Calls.into Try.func98 rfl 22 rfl rfl _ rfl ?_
  unfold m_laws_toBoolS at hm
  have hS := St.start w
  refine WP.seq ?_
  refine WP.region ?_
  refine RW.run ttok 1 rfl ?_
  refine RW.nil ?_
  refine WP.seq ?_
  refine WP.region ?_
  refine RW.run ttok 2 rfl ?_
  by_cases hk1 : decide (0 ≤ (x0.length : Int) ∧ (x0.length : Int) ≤ 4294967296) = true
  case neg => rw [if_neg hk1] at hm; cases hm
  rw [if_pos hk1] at hm
  have hz7 := of_decide_eq_true hk1
  refine RW.make (U := tBool) ttok false hS rfl rfl rfl rfl rfl rfl rfl rfl hz7.1 (by have := hz7.2; show _ * (1 : Int) ≤ _; omega) (by have := hz7.2; simp only [maxLen]; omega) (fun _ => ⟨rfl, rfl⟩) rfl rfl (fun A2 k3 w4 e5 hS6 => ?_)
  refine RW.run ttok 1 rfl ?_
  refine RW.nil ?_
  refine WP.seq ?_
  refine WP.seq ?_
  refine WP.region ?_
  refine RW.run ttok 1 rfl ?_
  refine RW.nil ?_
  obtain ⟨o18, hl19, hm⟩ := bind_some hm
  refine WP.cut (fun (t9 : (List Bool)) F w9 => ∃ A15 k16, o18 = .inl t9 ∧ St w w9 [Own ty82 [.slice A15 t9.length k16] t9] ∧ F = [(3, .slice A15 t9.length k16)]) ?_ ?_
  · skip
    rintro t9 F w17 ⟨A15, k16, ho21, hS20, rfl⟩
    subst ho21
    rw [aft_inl] at hm
    unfold m_laws_toBoolS_j1 at hm
    refine WP.seq ?_
    refine WP.region ?_
    refine RW.run ttok 2 rfl ?_
    refine RW.nil ?_
    refine WP.ret ?_
    cases hm
    exact ⟨_, .cons (.tmp rfl) .nil, A15, k16, rfl, ((hS20.bring 0 rfl).taken 1)⟩
  · skip
    refine WP.block ?_
    refine WP.weak [(0, .slice A0_ x0.length k0_), (3, .slice A2 (List.replicate (x0.length : Int).toNat false).length k3), (4, .int .i64 0)] ⟨rfl, rfl, rfl, trivial⟩ ?_
    refine WP.iter (fun (s8 : Int × (List Bool)) F w9 => ∃ A13 k14, St w w9 [Own ty82 [.slice A13 s8.2.length k14] s8.2] ∧ F = [(0, .slice A0_ x0.length k0_), (3, .slice A13 s8.2.length k14), (4, .int .i64 s8.1)]) _ hl19 ⟨A2, k3, ((hS6.bring 0 rfl).taken 1), rfl⟩ ?_
    rintro s8 F w26 _ o24 ⟨A13, k14, hS25, rfl⟩ hb22 ho23
    unfold m_laws_toBoolS_b1 at hb22
    refine WP.seq ?_
    refine WP.seq ?_
    refine WP.region ?_
    refine RW.run ttok 4 rfl ?_
    refine RW.nil ?_
    refine WP.cond (decide (s8.1 < (x0.length : Int))) rfl (fun hc => ?_) (fun hc => ?_)
    · skip
      rw [if_pos hc] at hb22
      refine WP.skip ?_
      refine WP.seq ?_
      refine WP.block ?_
      refine WP.region ?_
      refine RW.run ttok 4 rfl ?_
      obtain ⟨x27, hx28, hb22⟩ := bind_some hb22
      refine RW.idx ttok hS25.ext rfl rfl rfl rfl rfl rfl (by decide) rfl rfl h0_ (idx_some hx28).1 (idx_some hx28).2 rfl rfl (fun p29 es30 ha31 hr32 => ?_)
      cases hr32
      refine RW.load1 ttok rfl rfl rfl rfl rfl (At.ext hS25.ext ha31) 0 rfl rfl rfl rfl ?_
      have hS33 := hS25.bring 0 rfl
      by_cases hk34 : decide (0 ≤ s8.1 ∧ s8.1.toNat < s8.2.length) = true
      case neg => rw [if_neg hk34] at hb22; cases hb22
      rw [if_pos hk34] at hb22
      have hb35 := of_decide_eq_true hk34
      refine RW.idxOwn ttok hS33 rfl rfl rfl rfl rfl rfl rfl rfl hb35.1 hb35.2 rfl rfl (fun q36 hq37 => ?_)
      have hS38 := hS33.flat (T := tBool) (cs := [.bool x27]) (x := x27) ⟨rfl, rfl⟩
      have hS39 := hS38.bring 1 rfl
      refine RW.storeEl ttok hS39 rfl rfl rfl rfl rfl rfl hb35.2 hq37 rfl rfl (fun w40 hS41 => ?_)
      refine RW.know (u := .slice A13 (s8.2.set s8.1.toNat x27).length k14) 3 rfl (by simp) ?_
      refine RW.know (u := .slice A13 (s8.2.set s8.1.toNat x27).length k14) 14 rfl (by simp) ?_
      refine RW.nil ?_
      refine WP.region ?_
      refine RW.run ttok 3 rfl ?_
      refine RW.nil ?_
      cases hb22
      exact ⟨_, [(0, .slice A0_ x0.length k0_), (3, .slice A13 (s8.2.set s8.1.toNat x27).length k14), (4, .int .i64 (w64 (s8.1 + 1)))], ⟨rfl, rfl, rfl, trivial⟩, rfl, A13, k14, ((hS41.bring 0 rfl).taken 1), rfl⟩
    · skip
      rw [if_neg (not_t hc)] at hb22
      refine WP.exit ?_
      cases hb22
      exact ⟨_, [(3, .slice A13 s8.2.length k14)], ⟨rfl, trivial⟩, A13, k14, ho23, ((hS25.bring 0 rfl).taken 1), rfl⟩

end Go.E
