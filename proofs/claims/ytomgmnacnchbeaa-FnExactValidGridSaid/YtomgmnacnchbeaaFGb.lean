/- Models of functions and proofs that the code runs as they say (written by program). Conditions: the model gives a value. -/
import Derived.Test.YtomgmnacnchbeaaFG
namespace Go.E
open Go.RowKit Go.Proofs
set_option linter.unusedVariables false
set_option linter.unusedSimpArgs false
set_option maxHeartbeats 2000000

theorem enters189 : Enters Try.prog 189 := ⟨_, _, Try.func189, rfl, by kernel_rfl⟩
def m_spec_l27Links_state_j1 (fuel : Nat) (x0 : D.l27Links) (x1 : Int) (x2 : Int) (t26 : (List (List Int))) : Option D.l27Links := ((idx t26 x2).bind fun x33 => (if decide ((x33.length : Int) + (([(x0.pairs.length : Int)] : (List Int)).length : Int) ≤ 4294967296) = true then some (⟨x0.agents, x0.ports, x0.cells, x0.vars, (t26.set x2.toNat (x33 ++ ([(x0.pairs.length : Int)] : (List Int)))), (x0.pairs ++ ([([x1, x2] : (List Int))] : (List (List Int))))⟩ : D.l27Links) else none))
def m_spec_l27Links_state (fuel : Nat) (x0 : D.l27Links) (x1 : Int) (x2 : Int) : Option (D.l27Links) := (if decide ((x0.pairs.length : Int) + (([([x1, x2] : (List Int))] : (List (List Int))).length : Int) ≤ 4294967296) = true then ((idx x0.ends x1).bind fun x303 => (if decide ((x303.length : Int) + (([(x0.pairs.length : Int)] : (List Int)).length : Int) ≤ 4294967296) = true then m_spec_l27Links_state_j1 fuel x0 x1 x2 (x0.ends.set x1.toNat (x303 ++ ([(x0.pairs.length : Int)] : (List Int)))) else none)) else none)

set_option maxRecDepth 100000 in
theorem spec_l27Links_state_ok {W w : World} {RR : List Res} {g0_ : Nat} {x0 : D.l27Links} {A0_0 : Option Addr} {k0_0 : Nat} {A0_1 : Option Addr} {k0_1 : Nat} {A0_2 : Option Addr} {k0_2 : Nat} {A0_3 : Option Addr} {k0_3 : Nat} {A0_4 : Option Addr} {k0_4 : Nat} {A0_5 : Option Addr} {k0_5 : Nat} {x1 : Int} {x2 : Int} (hS : St W w (Box g0_ [.slice A0_0 x0.agents.length k0_0, .slice A0_1 x0.ports.length k0_1, .slice A0_2 x0.cells.length k0_2, .slice A0_3 x0.vars.length k0_3, .slice A0_4 x0.ends.length k0_4, .slice A0_5 x0.pairs.length k0_5] 253 :: Own ty28 [.slice A0_0 x0.agents.length k0_0] x0.agents :: Own ty110 [.slice A0_1 x0.ports.length k0_1] x0.ports :: Own ty251 [.slice A0_2 x0.cells.length k0_2] x0.cells :: Own ty251 [.slice A0_3 x0.vars.length k0_3] x0.vars :: Own ty251 [.slice A0_4 x0.ends.length k0_4] x0.ends :: Own ty251 [.slice A0_5 x0.pairs.length k0_5] x0.pairs :: RR)) {fuel : Nat} {r : D.l27Links} (hm : m_spec_l27Links_state fuel x0 x1 x2 = some r) :
    Calls Try.prog 189 ⟨[.pointer (some ⟨g0_, 0, none⟩), .int .i64 x1, .int .i64 x2]⟩ w (Ret fun v w8 => ∃ A0 k0 A1 k1 A2 k2 A3 k3 A4 k4 A5 k5, v = .tuple ⟨[]⟩ ∧ St W w8 (Box g0_ [.slice A0 r.agents.length k0, .slice A1 r.ports.length k1, .slice A2 r.cells.length k2, .slice A3 r.vars.length k3, .slice A4 r.ends.length k4, .slice A5 r.pairs.length k5] 253 :: Own ty28 [.slice A0 r.agents.length k0] r.agents :: Own ty110 [.slice A1 r.ports.length k1] r.ports :: Own ty251 [.slice A2 r.cells.length k2] r.cells :: Own ty251 [.slice A3 r.vars.length k3] r.vars :: Own ty251 [.slice A4 r.ends.length k4] r.ends :: Own ty251 [.slice A5 r.pairs.length k5] r.pairs :: RR)) := by
  refine Calls.into Try.func189 rfl 56 rfl rfl _ rfl ?_
  unfold m_spec_l27Links_state at hm
  refine WP.seq ?_
  refine WP.region ?_
  refine RW.run ttok 3 rfl ?_
  refine RW.load1 ttok rfl rfl rfl rfl rfl ((hS.bring 0 rfl).box) 5 rfl rfl rfl rfl ?_
  refine RW.run ttok 2 rfl ?_
  refine RW.nil ?_
  refine WP.seq ?_
  refine WP.region ?_
  refine RW.run ttok 4 rfl ?_
  refine RW.load1 ttok rfl rfl rfl rfl rfl ((hS.bring 0 rfl).box) 5 rfl rfl rfl rfl ?_
  refine RW.run ttok 2 rfl ?_
  refine RW.newSlice (U := tInt) (els := [.int .i64 x1, .int .i64 x2]) (ys := [x1, x2]) ttok (hS.flatEls (U := tInt) (els := [.int .i64 x1, .int .i64 x2]) (ys := [x1, x2]) ⟨[.int .i64 x1], _, [], [], rfl, rfl, ⟨rfl, rfl⟩, ⟨[.int .i64 x2], _, [], [], rfl, rfl, ⟨rfl, rfl⟩, ⟨rfl, rfl⟩⟩⟩) rfl rfl rfl rfl rfl rfl rfl rfl rfl rfl rfl rfl (fun A1 k2 w3 e4 hS5 => ?_)
  have hS6 := St.noEl ty103 hS5
  have hS7 := hS6.bring 1 rfl
  have hS10 := St.consEl hS7
  refine RW.newSlice (U := ty103) (els := [.slice A1 ([x1, x2] : (List Int)).length k2]) (ys := [([x1, x2] : (List Int))]) ttok hS10 rfl rfl rfl rfl rfl rfl rfl rfl rfl rfl rfl rfl (fun A11 k12 w13 e14 hS15 => ?_)
  have hS16 := hS15.bring 7 rfl
  have hS17 := hS16.bring 1 rfl
  by_cases hk18 : decide ((x0.pairs.length : Int) + (([([x1, x2] : (List Int))] : (List (List Int))).length : Int) ≤ 4294967296) = true
  case neg => rw [if_neg hk18] at hm; cases hm
  rw [if_pos hk18] at hm
  refine RW.appendOwn ttok hS17 rfl rfl rfl rfl rfl rfl (by decide) rfl rfl (of_decide_eq_true hk18) (by decide) rfl rfl (fun A19 k20 w21 hS22 => ?_)
  refine RW.run ttok 2 rfl ?_
  have hS23 := hS22.bring 1 rfl
  refine RW.store ttok (A := []) hS23 rfl rfl rfl rfl rfl 5 rfl rfl rfl rfl rfl (fun w24 hS25 => ?_)
  refine RW.nil ?_
  refine WP.seq ?_
  refine WP.cut (fun (t26 : (List (List Int))) F w9 => m_spec_l27Links_state_j1 fuel x0 x1 x2 t26 = some r ∧ St W w9 (Box g0_ [.slice A0_0 x0.agents.length k0_0, .slice A0_1 x0.ports.length k0_1, .slice A0_2 x0.cells.length k0_2, .slice A0_3 x0.vars.length k0_3, .slice A0_4 x0.ends.length k0_4, .slice A19 (x0.pairs ++ ([([x1, x2] : (List Int))] : (List (List Int)))).length k20] 253 :: Own ty251 [.slice A19 (x0.pairs ++ ([([x1, x2] : (List Int))] : (List (List Int)))).length k20] (x0.pairs ++ ([([x1, x2] : (List Int))] : (List (List Int)))) :: Own ty28 [.slice A0_0 x0.agents.length k0_0] x0.agents :: Own ty110 [.slice A0_1 x0.ports.length k0_1] x0.ports :: Own ty251 [.slice A0_2 x0.cells.length k0_2] x0.cells :: Own ty251 [.slice A0_3 x0.vars.length k0_3] x0.vars :: Own ty251 [.slice A0_4 x0.ends.length k0_4] t26 :: RR) ∧ F = [(0, .pointer (some ⟨g0_, 0, none⟩)), (2, .int .i64 x2), (6, .int .i64 (x0.pairs.length : Int))]) ?_ ?_
  · skip
    rintro t26 F w28 ⟨hm, hS27, rfl⟩
    unfold m_spec_l27Links_state_j1 at hm
    refine WP.drawnM 81920 mixed 17 (by kernel_rfl) (by kernel_rfl) [([], 131071), ([0], 131070), ([1], 131069), ([2], 131067), ([], 131071), ([], 131071), ([5], 131039), ([6], 131007), ([7], 130943), ([], 131071), ([8, 9], 130303), ([10], 130047), ([], 131071), ([12], 126975), ([11, 13], 120831), ([3, 4, 0, 1, 2, 3, 4, 5, 6, 7, 8, 9, 10, 11, 12, 13, 14], 131047), ([15, 14, 14, 0, 1, 2, 3, 4, 5, 6, 7, 8, 9, 10, 11, 12, 13, 14], 81919)] (by kernel_rfl) hS27.ext (fun hsk30 => ?_)
    have hS31 := hS27.step (Ext.draw _)
    refine DM.run (fuel := 8) ttok hsk30 [0, 1, 2, 4, 5, 6, 7, 9, 12] 4855 (by kernel_rfl) (by kernel_rfl) rfl ?_
    refine DM.weak [(42, .pointer (some ⟨g0_, 4, none⟩)), (44, .int .i64 x2), (47, .pointer (some ⟨g0_, 4, none⟩)), (49, .int .i64 x2), (52, .int .i64 (x0.pairs.length : Int))] ⟨rfl, rfl, rfl, rfl, rfl, trivial⟩ ?_
    obtain ⟨x33, hx34, hm⟩ := bind_some hm
    by_cases hk50 : decide ((x33.length : Int) + (([(x0.pairs.length : Int)] : (List Int)).length : Int) ≤ 4294967296) = true
    case neg => rw [if_neg hk50] at hm; cases hm
    rw [if_pos hk50] at hm
    refine DM.all hsk30 [3, 8, 13] (by kernel_rfl) (by simp) ?_
    intro i60 hi61
    simp only [List.mem_cons, List.not_mem_nil, or_false] at hi61
    rcases hi61 with rfl | rfl | rfl
    · skip
      refine LM.quietL hsk30 4863 (by kernel_rfl) (by kernel_rfl) rfl rfl (Quiet.load1 ttok rfl rfl rfl rfl ((hS31.bring 0 rfl).box) 4 rfl rfl) rfl rfl ?_
      refine DM.all hsk30 [8, 13] (by kernel_rfl) (by simp) ?_
      intro i62 hi63
      simp only [List.mem_cons, List.not_mem_nil, or_false] at hi63
      rcases hi63 with rfl | rfl
      · skip
        refine LM.quietL hsk30 5119 (by kernel_rfl) (by kernel_rfl) rfl rfl (Quiet.load1 ttok rfl rfl rfl rfl ((hS31.bring 0 rfl).box) 4 rfl rfl) rfl rfl ?_
        have hS65 := hS27.bring 6 rfl
        refine DM.focus ttok hS65 hsk30 10 6143 (by kernel_rfl) (by kernel_rfl) rfl (by kernel_rfl) rfl rfl rfl rfl rfl rfl rfl rfl (idx_some hx34).1 (idx_some hx34).2 rfl rfl (fun q66 es67 hq68 hS69 => ?_)
        obtain ⟨A72, k73, e71, hS70⟩ := (hS69.bring 1 rfl).openSl; subst e71
        have hS74 := hS70.step (Ext.draw _)
        refine DM.load1 ttok hsk30 11 8191 (by kernel_rfl) (by kernel_rfl) (by kernel_rfl) (by kernel_rfl) rfl (by kernel_rfl) rfl rfl rfl rfl rfl ((hS70.bring 1 rfl).hole_atN hq68) 0 rfl rfl rfl rfl ?_
        refine DM.one hsk30 13 (by kernel_rfl) (LM.newSlice (U := tInt) (els := [.int .i64 (x0.pairs.length : Int)]) (ys := [(x0.pairs.length : Int)]) ttok (hS74.flatEls (U := tInt) (els := [.int .i64 (x0.pairs.length : Int)]) (ys := [(x0.pairs.length : Int)]) ⟨[.int .i64 (x0.pairs.length : Int)], _, [], [], rfl, rfl, ⟨rfl, rfl⟩, ⟨rfl, rfl⟩⟩) hsk30 16383 (by kernel_rfl) (by kernel_rfl) rfl rfl rfl rfl rfl rfl rfl rfl rfl rfl rfl rfl rfl (fun A75 k76 w77 e78 hS79 => ?_))
        have hS80 := hS79.bring 1 rfl
        refine DM.one hsk30 14 (by kernel_rfl) (LM.appendRo ttok Flat.int hS80 hsk30 32767 (by kernel_rfl) (by kernel_rfl) rfl rfl rfl rfl rfl rfl rfl (by decide) rfl rfl ((hS80.bring 1 rfl).own) (of_decide_eq_true hk50) (by decide) rfl rfl (fun A81 k82 w83 hS84 => ?_))
        refine DM.idxAgain ttok (hS84.bring 2 rfl) hsk30 15 65535 (by kernel_rfl) (by kernel_rfl) rfl (by kernel_rfl) rfl rfl rfl rfl rfl rfl rfl rfl (idx_some hx34).1 rfl rfl (fun q85 hq86 => ?_)
        have hS87 := hS84.bring 2 rfl
        refine DM.one hsk30 16 (by kernel_rfl) (LM.storeHoleN ttok hS87 hq86 hsk30 131071 (by kernel_rfl) (by kernel_rfl) rfl rfl rfl rfl rfl rfl 0 rfl rfl rfl rfl rfl (fun w88 hS89 => ?_))
        refine DM.done hsk30 (by kernel_rfl) ?_
        have h90 := (show ty103.ro _ [.slice A81 (x33 ++ ([(x0.pairs.length : Int)] : (List Int))).length k82] (x33 ++ ([(x0.pairs.length : Int)] : (List Int))) from ((hS89.bring 1 rfl).own))
        have hS91 := hS89.bring 1 rfl
        have hS92 := hS91.bring 1 rfl
        have hS93 := St.unfocusN hS92
        cases hm
        have hn94 := (hS93.bring 0 rfl).lenEq
        have hS95 := (hS93.bring 0 rfl).reLen hn94
        have hS96 := (hS95.bring 2 rfl).reBox (cs' := [.slice A0_0 x0.agents.length k0_0, .slice A0_1 x0.ports.length k0_1, .slice A0_2 x0.cells.length k0_2, .slice A0_3 x0.vars.length k0_3, .slice A0_4 (t26.set x2.toNat (x33 ++ ([(x0.pairs.length : Int)] : (List Int)))).length k0_4, .slice A19 (x0.pairs ++ ([([x1, x2] : (List Int))] : (List (List Int)))).length k20]) (by show ([.slice A0_0 x0.agents.length k0_0, .slice A0_1 x0.ports.length k0_1, .slice A0_2 x0.cells.length k0_2, .slice A0_3 x0.vars.length k0_3, .slice A0_4 x0.ends.length k0_4, .slice A19 (x0.pairs ++ ([([x1, x2] : (List Int))] : (List (List Int)))).length k20] : List Value) = [.slice A0_0 x0.agents.length k0_0, .slice A0_1 x0.ports.length k0_1, .slice A0_2 x0.cells.length k0_2, .slice A0_3 x0.vars.length k0_3, .slice A0_4 (t26.set x2.toNat (x33 ++ ([(x0.pairs.length : Int)] : (List Int)))).length k0_4, .slice A19 (x0.pairs ++ ([([x1, x2] : (List Int))] : (List (List Int)))).length k20]; first | (simp only [hn94]; done) | (simp only [hn94]; rfl))
        exact ⟨_, .nil, A0_0, k0_0, A0_1, k0_1, A0_2, k0_2, A0_3, k0_3, A0_4, k0_4, A19, k20, rfl, ((((((((hS96.bring 2 rfl).drop.bring 2 rfl).bring 2 rfl).bring 6 rfl).bring 6 rfl).bring 6 rfl).bring 6 rfl).bring 6 rfl)⟩
      · skip
        refine LM.newSlice (U := tInt) (els := [.int .i64 (x0.pairs.length : Int)]) (ys := [(x0.pairs.length : Int)]) ttok (hS31.flatEls (U := tInt) (els := [.int .i64 (x0.pairs.length : Int)]) (ys := [(x0.pairs.length : Int)]) ⟨[.int .i64 (x0.pairs.length : Int)], _, [], [], rfl, rfl, ⟨rfl, rfl⟩, ⟨rfl, rfl⟩⟩) hsk30 13055 (by kernel_rfl) (by kernel_rfl) rfl rfl rfl rfl rfl rfl rfl rfl rfl rfl rfl rfl rfl (fun A97 k98 w99 e100 hS101 => ?_)
        refine DM.one hsk30 8 (by kernel_rfl) (LM.quietL hsk30 13311 (by kernel_rfl) (by kernel_rfl) rfl rfl (Quiet.load1 ttok rfl rfl rfl rfl ((hS101.bring 1 rfl).box) 4 rfl rfl) rfl rfl ?_)
        have hS102 := hS101.bring 7 rfl
        refine DM.focus ttok hS102 hsk30 10 14335 (by kernel_rfl) (by kernel_rfl) rfl (by kernel_rfl) rfl rfl rfl rfl rfl rfl rfl rfl (idx_some hx34).1 (idx_some hx34).2 rfl rfl (fun q103 es104 hq105 hS106 => ?_)
        obtain ⟨A109, k110, e108, hS107⟩ := (hS106.bring 1 rfl).openSl; subst e108
        refine DM.one hsk30 11 (by kernel_rfl) (LM.quietL hsk30 16383 (by kernel_rfl) (by kernel_rfl) rfl rfl (Quiet.load1 ttok rfl rfl rfl rfl ((hS107.bring 1 rfl).hole_atN hq105) 0 rfl rfl) rfl rfl ?_)
        have hS111 := hS107.bring 0 rfl
        refine DM.one hsk30 14 (by kernel_rfl) (LM.appendRo ttok Flat.int hS111 hsk30 32767 (by kernel_rfl) (by kernel_rfl) rfl rfl rfl rfl rfl rfl rfl (by decide) rfl rfl ((hS111.bring 2 rfl).own) (of_decide_eq_true hk50) (by decide) rfl rfl (fun A112 k113 w114 hS115 => ?_))
        refine DM.idxAgain ttok (hS115.bring 1 rfl) hsk30 15 65535 (by kernel_rfl) (by kernel_rfl) rfl (by kernel_rfl) rfl rfl rfl rfl rfl rfl rfl rfl (idx_some hx34).1 rfl rfl (fun q116 hq117 => ?_)
        have hS118 := hS115.bring 1 rfl
        refine DM.one hsk30 16 (by kernel_rfl) (LM.storeHoleN ttok hS118 hq117 hsk30 131071 (by kernel_rfl) (by kernel_rfl) rfl rfl rfl rfl rfl rfl 0 rfl rfl rfl rfl rfl (fun w119 hS120 => ?_))
        refine DM.done hsk30 (by kernel_rfl) ?_
        have h121 := (show ty103.ro _ [.slice A112 (x33 ++ ([(x0.pairs.length : Int)] : (List Int))).length k113] (x33 ++ ([(x0.pairs.length : Int)] : (List Int))) from ((hS120.bring 1 rfl).own))
        have hS122 := hS120.bring 1 rfl
        have hS123 := hS122.bring 1 rfl
        have hS124 := St.unfocusN hS123
        cases hm
        have hn125 := (hS124.bring 0 rfl).lenEq
        have hS126 := (hS124.bring 0 rfl).reLen hn125
        have hS127 := (hS126.bring 2 rfl).reBox (cs' := [.slice A0_0 x0.agents.length k0_0, .slice A0_1 x0.ports.length k0_1, .slice A0_2 x0.cells.length k0_2, .slice A0_3 x0.vars.length k0_3, .slice A0_4 (t26.set x2.toNat (x33 ++ ([(x0.pairs.length : Int)] : (List Int)))).length k0_4, .slice A19 (x0.pairs ++ ([([x1, x2] : (List Int))] : (List (List Int)))).length k20]) (by show ([.slice A0_0 x0.agents.length k0_0, .slice A0_1 x0.ports.length k0_1, .slice A0_2 x0.cells.length k0_2, .slice A0_3 x0.vars.length k0_3, .slice A0_4 x0.ends.length k0_4, .slice A19 (x0.pairs ++ ([([x1, x2] : (List Int))] : (List (List Int)))).length k20] : List Value) = [.slice A0_0 x0.agents.length k0_0, .slice A0_1 x0.ports.length k0_1, .slice A0_2 x0.cells.length k0_2, .slice A0_3 x0.vars.length k0_3, .slice A0_4 (t26.set x2.toNat (x33 ++ ([(x0.pairs.length : Int)] : (List Int)))).length k0_4, .slice A19 (x0.pairs ++ ([([x1, x2] : (List Int))] : (List (List Int)))).length k20]; first | (simp only [hn125]; done) | (simp only [hn125]; rfl))
        exact ⟨_, .nil, A0_0, k0_0, A0_1, k0_1, A0_2, k0_2, A0_3, k0_3, A0_4, k0_4, A19, k20, rfl, ((((((((hS127.bring 2 rfl).drop.bring 2 rfl).bring 2 rfl).bring 6 rfl).bring 6 rfl).bring 6 rfl).bring 6 rfl).bring 6 rfl)⟩
    · skip
      refine LM.quietL hsk30 5111 (by kernel_rfl) (by kernel_rfl) rfl rfl (Quiet.load1 ttok rfl rfl rfl rfl ((hS31.bring 0 rfl).box) 4 rfl rfl) rfl rfl ?_
      have hS128 := hS27.bring 6 rfl
      refine DM.focus ttok hS128 hsk30 10 6135 (by kernel_rfl) (by kernel_rfl) rfl (by kernel_rfl) rfl rfl rfl rfl rfl rfl rfl rfl (idx_some hx34).1 (idx_some hx34).2 rfl rfl (fun q129 es130 hq131 hS132 => ?_)
      obtain ⟨A135, k136, e134, hS133⟩ := (hS132.bring 1 rfl).openSl; subst e134
      have hS137 := hS133.step (Ext.draw _)
      refine DM.load1 ttok hsk30 11 8183 (by kernel_rfl) (by kernel_rfl) (by kernel_rfl) (by kernel_rfl) rfl (by kernel_rfl) rfl rfl rfl rfl rfl ((hS133.bring 1 rfl).hole_atN hq131) 0 rfl rfl rfl rfl ?_
      refine DM.all hsk30 [3, 13] (by kernel_rfl) (by simp) ?_
      intro i138 hi139
      simp only [List.mem_cons, List.not_mem_nil, or_false] at hi139
      rcases hi139 with rfl | rfl
      · skip
        refine LM.quietL hsk30 8191 (by kernel_rfl) (by kernel_rfl) rfl rfl (Quiet.load1 ttok rfl rfl rfl rfl ((hS137.bring 2 rfl).box) 4 rfl rfl) rfl rfl ?_
        refine DM.one hsk30 13 (by kernel_rfl) (LM.newSlice (U := tInt) (els := [.int .i64 (x0.pairs.length : Int)]) (ys := [(x0.pairs.length : Int)]) ttok (hS137.flatEls (U := tInt) (els := [.int .i64 (x0.pairs.length : Int)]) (ys := [(x0.pairs.length : Int)]) ⟨[.int .i64 (x0.pairs.length : Int)], _, [], [], rfl, rfl, ⟨rfl, rfl⟩, ⟨rfl, rfl⟩⟩) hsk30 16383 (by kernel_rfl) (by kernel_rfl) rfl rfl rfl rfl rfl rfl rfl rfl rfl rfl rfl rfl rfl (fun A140 k141 w142 e143 hS144 => ?_))
        have hS145 := hS144.bring 1 rfl
        refine DM.one hsk30 14 (by kernel_rfl) (LM.appendRo ttok Flat.int hS145 hsk30 32767 (by kernel_rfl) (by kernel_rfl) rfl rfl rfl rfl rfl rfl rfl (by decide) rfl rfl ((hS145.bring 1 rfl).own) (of_decide_eq_true hk50) (by decide) rfl rfl (fun A146 k147 w148 hS149 => ?_))
        refine DM.idxAgain ttok (hS149.bring 2 rfl) hsk30 15 65535 (by kernel_rfl) (by kernel_rfl) rfl (by kernel_rfl) rfl rfl rfl rfl rfl rfl rfl rfl (idx_some hx34).1 rfl rfl (fun q150 hq151 => ?_)
        have hS152 := hS149.bring 2 rfl
        refine DM.one hsk30 16 (by kernel_rfl) (LM.storeHoleN ttok hS152 hq151 hsk30 131071 (by kernel_rfl) (by kernel_rfl) rfl rfl rfl rfl rfl rfl 0 rfl rfl rfl rfl rfl (fun w153 hS154 => ?_))
        refine DM.done hsk30 (by kernel_rfl) ?_
        have h155 := (show ty103.ro _ [.slice A146 (x33 ++ ([(x0.pairs.length : Int)] : (List Int))).length k147] (x33 ++ ([(x0.pairs.length : Int)] : (List Int))) from ((hS154.bring 1 rfl).own))
        have hS156 := hS154.bring 1 rfl
        have hS157 := hS156.bring 1 rfl
        have hS158 := St.unfocusN hS157
        cases hm
        have hn159 := (hS158.bring 0 rfl).lenEq
        have hS160 := (hS158.bring 0 rfl).reLen hn159
        have hS161 := (hS160.bring 2 rfl).reBox (cs' := [.slice A0_0 x0.agents.length k0_0, .slice A0_1 x0.ports.length k0_1, .slice A0_2 x0.cells.length k0_2, .slice A0_3 x0.vars.length k0_3, .slice A0_4 (t26.set x2.toNat (x33 ++ ([(x0.pairs.length : Int)] : (List Int)))).length k0_4, .slice A19 (x0.pairs ++ ([([x1, x2] : (List Int))] : (List (List Int)))).length k20]) (by show ([.slice A0_0 x0.agents.length k0_0, .slice A0_1 x0.ports.length k0_1, .slice A0_2 x0.cells.length k0_2, .slice A0_3 x0.vars.length k0_3, .slice A0_4 x0.ends.length k0_4, .slice A19 (x0.pairs ++ ([([x1, x2] : (List Int))] : (List (List Int)))).length k20] : List Value) = [.slice A0_0 x0.agents.length k0_0, .slice A0_1 x0.ports.length k0_1, .slice A0_2 x0.cells.length k0_2, .slice A0_3 x0.vars.length k0_3, .slice A0_4 (t26.set x2.toNat (x33 ++ ([(x0.pairs.length : Int)] : (List Int)))).length k0_4, .slice A19 (x0.pairs ++ ([([x1, x2] : (List Int))] : (List (List Int)))).length k20]; first | (simp only [hn159]; done) | (simp only [hn159]; rfl))
        exact ⟨_, .nil, A0_0, k0_0, A0_1, k0_1, A0_2, k0_2, A0_3, k0_3, A0_4, k0_4, A19, k20, rfl, ((((((((hS161.bring 2 rfl).drop.bring 2 rfl).bring 2 rfl).bring 6 rfl).bring 6 rfl).bring 6 rfl).bring 6 rfl).bring 6 rfl)⟩
      · skip
        refine LM.newSlice (U := tInt) (els := [.int .i64 (x0.pairs.length : Int)]) (ys := [(x0.pairs.length : Int)]) ttok (hS137.flatEls (U := tInt) (els := [.int .i64 (x0.pairs.length : Int)]) (ys := [(x0.pairs.length : Int)]) ⟨[.int .i64 (x0.pairs.length : Int)], _, [], [], rfl, rfl, ⟨rfl, rfl⟩, ⟨rfl, rfl⟩⟩) hsk30 16375 (by kernel_rfl) (by kernel_rfl) rfl rfl rfl rfl rfl rfl rfl rfl rfl rfl rfl rfl rfl (fun A162 k163 w164 e165 hS166 => ?_)
        refine DM.all hsk30 [3, 14] (by kernel_rfl) (by simp) ?_
        intro i167 hi168
        simp only [List.mem_cons, List.not_mem_nil, or_false] at hi168
        rcases hi168 with rfl | rfl
        · skip
          refine LM.quietL hsk30 16383 (by kernel_rfl) (by kernel_rfl) rfl rfl (Quiet.load1 ttok rfl rfl rfl rfl ((hS166.bring 3 rfl).box) 4 rfl rfl) rfl rfl ?_
          have hS169 := hS166.bring 1 rfl
          refine DM.one hsk30 14 (by kernel_rfl) (LM.appendRo ttok Flat.int hS169 hsk30 32767 (by kernel_rfl) (by kernel_rfl) rfl rfl rfl rfl rfl rfl rfl (by decide) rfl rfl ((hS169.bring 1 rfl).own) (of_decide_eq_true hk50) (by decide) rfl rfl (fun A170 k171 w172 hS173 => ?_))
          refine DM.idxAgain ttok (hS173.bring 2 rfl) hsk30 15 65535 (by kernel_rfl) (by kernel_rfl) rfl (by kernel_rfl) rfl rfl rfl rfl rfl rfl rfl rfl (idx_some hx34).1 rfl rfl (fun q174 hq175 => ?_)
          have hS176 := hS173.bring 2 rfl
          refine DM.one hsk30 16 (by kernel_rfl) (LM.storeHoleN ttok hS176 hq175 hsk30 131071 (by kernel_rfl) (by kernel_rfl) rfl rfl rfl rfl rfl rfl 0 rfl rfl rfl rfl rfl (fun w177 hS178 => ?_))
          refine DM.done hsk30 (by kernel_rfl) ?_
          have h179 := (show ty103.ro _ [.slice A170 (x33 ++ ([(x0.pairs.length : Int)] : (List Int))).length k171] (x33 ++ ([(x0.pairs.length : Int)] : (List Int))) from ((hS178.bring 1 rfl).own))
          have hS180 := hS178.bring 1 rfl
          have hS181 := hS180.bring 1 rfl
          have hS182 := St.unfocusN hS181
          cases hm
          have hn183 := (hS182.bring 0 rfl).lenEq
          have hS184 := (hS182.bring 0 rfl).reLen hn183
          have hS185 := (hS184.bring 2 rfl).reBox (cs' := [.slice A0_0 x0.agents.length k0_0, .slice A0_1 x0.ports.length k0_1, .slice A0_2 x0.cells.length k0_2, .slice A0_3 x0.vars.length k0_3, .slice A0_4 (t26.set x2.toNat (x33 ++ ([(x0.pairs.length : Int)] : (List Int)))).length k0_4, .slice A19 (x0.pairs ++ ([([x1, x2] : (List Int))] : (List (List Int)))).length k20]) (by show ([.slice A0_0 x0.agents.length k0_0, .slice A0_1 x0.ports.length k0_1, .slice A0_2 x0.cells.length k0_2, .slice A0_3 x0.vars.length k0_3, .slice A0_4 x0.ends.length k0_4, .slice A19 (x0.pairs ++ ([([x1, x2] : (List Int))] : (List (List Int)))).length k20] : List Value) = [.slice A0_0 x0.agents.length k0_0, .slice A0_1 x0.ports.length k0_1, .slice A0_2 x0.cells.length k0_2, .slice A0_3 x0.vars.length k0_3, .slice A0_4 (t26.set x2.toNat (x33 ++ ([(x0.pairs.length : Int)] : (List Int)))).length k0_4, .slice A19 (x0.pairs ++ ([([x1, x2] : (List Int))] : (List (List Int)))).length k20]; first | (simp only [hn183]; done) | (simp only [hn183]; rfl))
          exact ⟨_, .nil, A0_0, k0_0, A0_1, k0_1, A0_2, k0_2, A0_3, k0_3, A0_4, k0_4, A19, k20, rfl, ((((((((hS185.bring 2 rfl).drop.bring 2 rfl).bring 2 rfl).bring 6 rfl).bring 6 rfl).bring 6 rfl).bring 6 rfl).bring 6 rfl)⟩
        · skip
          have hS186 := hS166.bring 1 rfl
          refine LM.appendRo ttok Flat.int hS186 hsk30 32759 (by kernel_rfl) (by kernel_rfl) rfl rfl rfl rfl rfl rfl rfl (by decide) rfl rfl ((hS186.bring 1 rfl).own) (of_decide_eq_true hk50) (by decide) rfl rfl (fun A187 k188 w189 hS190 => ?_)
          refine DM.one hsk30 3 (by kernel_rfl) (LM.quietL hsk30 32767 (by kernel_rfl) (by kernel_rfl) rfl rfl (Quiet.load1 ttok rfl rfl rfl rfl ((hS190.bring 3 rfl).box) 4 rfl rfl) rfl rfl ?_)
          refine DM.idxAgain ttok (hS190.bring 2 rfl) hsk30 15 65535 (by kernel_rfl) (by kernel_rfl) rfl (by kernel_rfl) rfl rfl rfl rfl rfl rfl rfl rfl (idx_some hx34).1 rfl rfl (fun q191 hq192 => ?_)
          have hS193 := hS190.bring 2 rfl
          refine DM.one hsk30 16 (by kernel_rfl) (LM.storeHoleN ttok hS193 hq192 hsk30 131071 (by kernel_rfl) (by kernel_rfl) rfl rfl rfl rfl rfl rfl 0 rfl rfl rfl rfl rfl (fun w194 hS195 => ?_))
          refine DM.done hsk30 (by kernel_rfl) ?_
          have h196 := (show ty103.ro _ [.slice A187 (x33 ++ ([(x0.pairs.length : Int)] : (List Int))).length k188] (x33 ++ ([(x0.pairs.length : Int)] : (List Int))) from ((hS195.bring 1 rfl).own))
          have hS197 := hS195.bring 1 rfl
          have hS198 := hS197.bring 1 rfl
          have hS199 := St.unfocusN hS198
          cases hm
          have hn200 := (hS199.bring 0 rfl).lenEq
          have hS201 := (hS199.bring 0 rfl).reLen hn200
          have hS202 := (hS201.bring 2 rfl).reBox (cs' := [.slice A0_0 x0.agents.length k0_0, .slice A0_1 x0.ports.length k0_1, .slice A0_2 x0.cells.length k0_2, .slice A0_3 x0.vars.length k0_3, .slice A0_4 (t26.set x2.toNat (x33 ++ ([(x0.pairs.length : Int)] : (List Int)))).length k0_4, .slice A19 (x0.pairs ++ ([([x1, x2] : (List Int))] : (List (List Int)))).length k20]) (by show ([.slice A0_0 x0.agents.length k0_0, .slice A0_1 x0.ports.length k0_1, .slice A0_2 x0.cells.length k0_2, .slice A0_3 x0.vars.length k0_3, .slice A0_4 x0.ends.length k0_4, .slice A19 (x0.pairs ++ ([([x1, x2] : (List Int))] : (List (List Int)))).length k20] : List Value) = [.slice A0_0 x0.agents.length k0_0, .slice A0_1 x0.ports.length k0_1, .slice A0_2 x0.cells.length k0_2, .slice A0_3 x0.vars.length k0_3, .slice A0_4 (t26.set x2.toNat (x33 ++ ([(x0.pairs.length : Int)] : (List Int)))).length k0_4, .slice A19 (x0.pairs ++ ([([x1, x2] : (List Int))] : (List (List Int)))).length k20]; first | (simp only [hn200]; done) | (simp only [hn200]; rfl))
          exact ⟨_, .nil, A0_0, k0_0, A0_1, k0_1, A0_2, k0_2, A0_3, k0_3, A0_4, k0_4, A19, k20, rfl, ((((((((hS202.bring 2 rfl).drop.bring 2 rfl).bring 2 rfl).bring 6 rfl).bring 6 rfl).bring 6 rfl).bring 6 rfl).bring 6 rfl)⟩
    · skip
      refine LM.newSlice (U := tInt) (els := [.int .i64 (x0.pairs.length : Int)]) (ys := [(x0.pairs.length : Int)]) ttok (hS31.flatEls (U := tInt) (els := [.int .i64 (x0.pairs.length : Int)]) (ys := [(x0.pairs.length : Int)]) ⟨[.int .i64 (x0.pairs.length : Int)], _, [], [], rfl, rfl, ⟨rfl, rfl⟩, ⟨rfl, rfl⟩⟩) hsk30 13047 (by kernel_rfl) (by kernel_rfl) rfl rfl rfl rfl rfl rfl rfl rfl rfl rfl rfl rfl rfl (fun A203 k204 w205 e206 hS207 => ?_)
      refine DM.all hsk30 [3, 8] (by kernel_rfl) (by simp) ?_
      intro i208 hi209
      simp only [List.mem_cons, List.not_mem_nil, or_false] at hi209
      rcases hi209 with rfl | rfl
      · skip
        refine LM.quietL hsk30 13055 (by kernel_rfl) (by kernel_rfl) rfl rfl (Quiet.load1 ttok rfl rfl rfl rfl ((hS207.bring 1 rfl).box) 4 rfl rfl) rfl rfl ?_
        refine DM.one hsk30 8 (by kernel_rfl) (LM.quietL hsk30 13311 (by kernel_rfl) (by kernel_rfl) rfl rfl (Quiet.load1 ttok rfl rfl rfl rfl ((hS207.bring 1 rfl).box) 4 rfl rfl) rfl rfl ?_)
        have hS210 := hS207.bring 7 rfl
        refine DM.focus ttok hS210 hsk30 10 14335 (by kernel_rfl) (by kernel_rfl) rfl (by kernel_rfl) rfl rfl rfl rfl rfl rfl rfl rfl (idx_some hx34).1 (idx_some hx34).2 rfl rfl (fun q211 es212 hq213 hS214 => ?_)
        obtain ⟨A217, k218, e216, hS215⟩ := (hS214.bring 1 rfl).openSl; subst e216
        refine DM.one hsk30 11 (by kernel_rfl) (LM.quietL hsk30 16383 (by kernel_rfl) (by kernel_rfl) rfl rfl (Quiet.load1 ttok rfl rfl rfl rfl ((hS215.bring 1 rfl).hole_atN hq213) 0 rfl rfl) rfl rfl ?_)
        have hS219 := hS215.bring 0 rfl
        refine DM.one hsk30 14 (by kernel_rfl) (LM.appendRo ttok Flat.int hS219 hsk30 32767 (by kernel_rfl) (by kernel_rfl) rfl rfl rfl rfl rfl rfl rfl (by decide) rfl rfl ((hS219.bring 2 rfl).own) (of_decide_eq_true hk50) (by decide) rfl rfl (fun A220 k221 w222 hS223 => ?_))
        refine DM.idxAgain ttok (hS223.bring 1 rfl) hsk30 15 65535 (by kernel_rfl) (by kernel_rfl) rfl (by kernel_rfl) rfl rfl rfl rfl rfl rfl rfl rfl (idx_some hx34).1 rfl rfl (fun q224 hq225 => ?_)
        have hS226 := hS223.bring 1 rfl
        refine DM.one hsk30 16 (by kernel_rfl) (LM.storeHoleN ttok hS226 hq225 hsk30 131071 (by kernel_rfl) (by kernel_rfl) rfl rfl rfl rfl rfl rfl 0 rfl rfl rfl rfl rfl (fun w227 hS228 => ?_))
        refine DM.done hsk30 (by kernel_rfl) ?_
        have h229 := (show ty103.ro _ [.slice A220 (x33 ++ ([(x0.pairs.length : Int)] : (List Int))).length k221] (x33 ++ ([(x0.pairs.length : Int)] : (List Int))) from ((hS228.bring 1 rfl).own))
        have hS230 := hS228.bring 1 rfl
        have hS231 := hS230.bring 1 rfl
        have hS232 := St.unfocusN hS231
        cases hm
        have hn233 := (hS232.bring 0 rfl).lenEq
        have hS234 := (hS232.bring 0 rfl).reLen hn233
        have hS235 := (hS234.bring 2 rfl).reBox (cs' := [.slice A0_0 x0.agents.length k0_0, .slice A0_1 x0.ports.length k0_1, .slice A0_2 x0.cells.length k0_2, .slice A0_3 x0.vars.length k0_3, .slice A0_4 (t26.set x2.toNat (x33 ++ ([(x0.pairs.length : Int)] : (List Int)))).length k0_4, .slice A19 (x0.pairs ++ ([([x1, x2] : (List Int))] : (List (List Int)))).length k20]) (by show ([.slice A0_0 x0.agents.length k0_0, .slice A0_1 x0.ports.length k0_1, .slice A0_2 x0.cells.length k0_2, .slice A0_3 x0.vars.length k0_3, .slice A0_4 x0.ends.length k0_4, .slice A19 (x0.pairs ++ ([([x1, x2] : (List Int))] : (List (List Int)))).length k20] : List Value) = [.slice A0_0 x0.agents.length k0_0, .slice A0_1 x0.ports.length k0_1, .slice A0_2 x0.cells.length k0_2, .slice A0_3 x0.vars.length k0_3, .slice A0_4 (t26.set x2.toNat (x33 ++ ([(x0.pairs.length : Int)] : (List Int)))).length k0_4, .slice A19 (x0.pairs ++ ([([x1, x2] : (List Int))] : (List (List Int)))).length k20]; first | (simp only [hn233]; done) | (simp only [hn233]; rfl))
        exact ⟨_, .nil, A0_0, k0_0, A0_1, k0_1, A0_2, k0_2, A0_3, k0_3, A0_4, k0_4, A19, k20, rfl, ((((((((hS235.bring 2 rfl).drop.bring 2 rfl).bring 2 rfl).bring 6 rfl).bring 6 rfl).bring 6 rfl).bring 6 rfl).bring 6 rfl)⟩
      · skip
        refine LM.quietL hsk30 13303 (by kernel_rfl) (by kernel_rfl) rfl rfl (Quiet.load1 ttok rfl rfl rfl rfl ((hS207.bring 1 rfl).box) 4 rfl rfl) rfl rfl ?_
        have hS236 := hS207.bring 7 rfl
        refine DM.focus ttok hS236 hsk30 10 14327 (by kernel_rfl) (by kernel_rfl) rfl (by kernel_rfl) rfl rfl rfl rfl rfl rfl rfl rfl (idx_some hx34).1 (idx_some hx34).2 rfl rfl (fun q237 es238 hq239 hS240 => ?_)
        obtain ⟨A243, k244, e242, hS241⟩ := (hS240.bring 1 rfl).openSl; subst e242
        refine DM.all hsk30 [3, 11] (by kernel_rfl) (by simp) ?_
        intro i245 hi246
        simp only [List.mem_cons, List.not_mem_nil, or_false] at hi246
        rcases hi246 with rfl | rfl
        · skip
          refine LM.quietL hsk30 14335 (by kernel_rfl) (by kernel_rfl) rfl rfl (Quiet.load1 ttok rfl rfl rfl rfl ((hS241.bring 3 rfl).box) 4 rfl rfl) rfl rfl ?_
          refine DM.one hsk30 11 (by kernel_rfl) (LM.quietL hsk30 16383 (by kernel_rfl) (by kernel_rfl) rfl rfl (Quiet.load1 ttok rfl rfl rfl rfl ((hS241.bring 1 rfl).hole_atN hq239) 0 rfl rfl) rfl rfl ?_)
          have hS247 := hS241.bring 0 rfl
          refine DM.one hsk30 14 (by kernel_rfl) (LM.appendRo ttok Flat.int hS247 hsk30 32767 (by kernel_rfl) (by kernel_rfl) rfl rfl rfl rfl rfl rfl rfl (by decide) rfl rfl ((hS247.bring 2 rfl).own) (of_decide_eq_true hk50) (by decide) rfl rfl (fun A248 k249 w250 hS251 => ?_))
          refine DM.idxAgain ttok (hS251.bring 1 rfl) hsk30 15 65535 (by kernel_rfl) (by kernel_rfl) rfl (by kernel_rfl) rfl rfl rfl rfl rfl rfl rfl rfl (idx_some hx34).1 rfl rfl (fun q252 hq253 => ?_)
          have hS254 := hS251.bring 1 rfl
          refine DM.one hsk30 16 (by kernel_rfl) (LM.storeHoleN ttok hS254 hq253 hsk30 131071 (by kernel_rfl) (by kernel_rfl) rfl rfl rfl rfl rfl rfl 0 rfl rfl rfl rfl rfl (fun w255 hS256 => ?_))
          refine DM.done hsk30 (by kernel_rfl) ?_
          have h257 := (show ty103.ro _ [.slice A248 (x33 ++ ([(x0.pairs.length : Int)] : (List Int))).length k249] (x33 ++ ([(x0.pairs.length : Int)] : (List Int))) from ((hS256.bring 1 rfl).own))
          have hS258 := hS256.bring 1 rfl
          have hS259 := hS258.bring 1 rfl
          have hS260 := St.unfocusN hS259
          cases hm
          have hn261 := (hS260.bring 0 rfl).lenEq
          have hS262 := (hS260.bring 0 rfl).reLen hn261
          have hS263 := (hS262.bring 2 rfl).reBox (cs' := [.slice A0_0 x0.agents.length k0_0, .slice A0_1 x0.ports.length k0_1, .slice A0_2 x0.cells.length k0_2, .slice A0_3 x0.vars.length k0_3, .slice A0_4 (t26.set x2.toNat (x33 ++ ([(x0.pairs.length : Int)] : (List Int)))).length k0_4, .slice A19 (x0.pairs ++ ([([x1, x2] : (List Int))] : (List (List Int)))).length k20]) (by show ([.slice A0_0 x0.agents.length k0_0, .slice A0_1 x0.ports.length k0_1, .slice A0_2 x0.cells.length k0_2, .slice A0_3 x0.vars.length k0_3, .slice A0_4 x0.ends.length k0_4, .slice A19 (x0.pairs ++ ([([x1, x2] : (List Int))] : (List (List Int)))).length k20] : List Value) = [.slice A0_0 x0.agents.length k0_0, .slice A0_1 x0.ports.length k0_1, .slice A0_2 x0.cells.length k0_2, .slice A0_3 x0.vars.length k0_3, .slice A0_4 (t26.set x2.toNat (x33 ++ ([(x0.pairs.length : Int)] : (List Int)))).length k0_4, .slice A19 (x0.pairs ++ ([([x1, x2] : (List Int))] : (List (List Int)))).length k20]; first | (simp only [hn261]; done) | (simp only [hn261]; rfl))
          exact ⟨_, .nil, A0_0, k0_0, A0_1, k0_1, A0_2, k0_2, A0_3, k0_3, A0_4, k0_4, A19, k20, rfl, ((((((((hS263.bring 2 rfl).drop.bring 2 rfl).bring 2 rfl).bring 6 rfl).bring 6 rfl).bring 6 rfl).bring 6 rfl).bring 6 rfl)⟩
        · skip
          refine LM.quietL hsk30 16375 (by kernel_rfl) (by kernel_rfl) rfl rfl (Quiet.load1 ttok rfl rfl rfl rfl ((hS241.bring 1 rfl).hole_atN hq239) 0 rfl rfl) rfl rfl ?_
          refine DM.all hsk30 [3, 14] (by kernel_rfl) (by simp) ?_
          intro i264 hi265
          simp only [List.mem_cons, List.not_mem_nil, or_false] at hi265
          rcases hi265 with rfl | rfl
          · skip
            refine LM.quietL hsk30 16383 (by kernel_rfl) (by kernel_rfl) rfl rfl (Quiet.load1 ttok rfl rfl rfl rfl ((hS241.bring 3 rfl).box) 4 rfl rfl) rfl rfl ?_
            have hS266 := hS241.bring 0 rfl
            refine DM.one hsk30 14 (by kernel_rfl) (LM.appendRo ttok Flat.int hS266 hsk30 32767 (by kernel_rfl) (by kernel_rfl) rfl rfl rfl rfl rfl rfl rfl (by decide) rfl rfl ((hS266.bring 2 rfl).own) (of_decide_eq_true hk50) (by decide) rfl rfl (fun A267 k268 w269 hS270 => ?_))
            refine DM.idxAgain ttok (hS270.bring 1 rfl) hsk30 15 65535 (by kernel_rfl) (by kernel_rfl) rfl (by kernel_rfl) rfl rfl rfl rfl rfl rfl rfl rfl (idx_some hx34).1 rfl rfl (fun q271 hq272 => ?_)
            have hS273 := hS270.bring 1 rfl
            refine DM.one hsk30 16 (by kernel_rfl) (LM.storeHoleN ttok hS273 hq272 hsk30 131071 (by kernel_rfl) (by kernel_rfl) rfl rfl rfl rfl rfl rfl 0 rfl rfl rfl rfl rfl (fun w274 hS275 => ?_))
            refine DM.done hsk30 (by kernel_rfl) ?_
            have h276 := (show ty103.ro _ [.slice A267 (x33 ++ ([(x0.pairs.length : Int)] : (List Int))).length k268] (x33 ++ ([(x0.pairs.length : Int)] : (List Int))) from ((hS275.bring 1 rfl).own))
            have hS277 := hS275.bring 1 rfl
            have hS278 := hS277.bring 1 rfl
            have hS279 := St.unfocusN hS278
            cases hm
            have hn280 := (hS279.bring 0 rfl).lenEq
            have hS281 := (hS279.bring 0 rfl).reLen hn280
            have hS282 := (hS281.bring 2 rfl).reBox (cs' := [.slice A0_0 x0.agents.length k0_0, .slice A0_1 x0.ports.length k0_1, .slice A0_2 x0.cells.length k0_2, .slice A0_3 x0.vars.length k0_3, .slice A0_4 (t26.set x2.toNat (x33 ++ ([(x0.pairs.length : Int)] : (List Int)))).length k0_4, .slice A19 (x0.pairs ++ ([([x1, x2] : (List Int))] : (List (List Int)))).length k20]) (by show ([.slice A0_0 x0.agents.length k0_0, .slice A0_1 x0.ports.length k0_1, .slice A0_2 x0.cells.length k0_2, .slice A0_3 x0.vars.length k0_3, .slice A0_4 x0.ends.length k0_4, .slice A19 (x0.pairs ++ ([([x1, x2] : (List Int))] : (List (List Int)))).length k20] : List Value) = [.slice A0_0 x0.agents.length k0_0, .slice A0_1 x0.ports.length k0_1, .slice A0_2 x0.cells.length k0_2, .slice A0_3 x0.vars.length k0_3, .slice A0_4 (t26.set x2.toNat (x33 ++ ([(x0.pairs.length : Int)] : (List Int)))).length k0_4, .slice A19 (x0.pairs ++ ([([x1, x2] : (List Int))] : (List (List Int)))).length k20]; first | (simp only [hn280]; done) | (simp only [hn280]; rfl))
            exact ⟨_, .nil, A0_0, k0_0, A0_1, k0_1, A0_2, k0_2, A0_3, k0_3, A0_4, k0_4, A19, k20, rfl, ((((((((hS282.bring 2 rfl).drop.bring 2 rfl).bring 2 rfl).bring 6 rfl).bring 6 rfl).bring 6 rfl).bring 6 rfl).bring 6 rfl)⟩
          · skip
            have hS283 := hS241.bring 0 rfl
            refine LM.appendRo ttok Flat.int hS283 hsk30 32759 (by kernel_rfl) (by kernel_rfl) rfl rfl rfl rfl rfl rfl rfl (by decide) rfl rfl ((hS283.bring 2 rfl).own) (of_decide_eq_true hk50) (by decide) rfl rfl (fun A284 k285 w286 hS287 => ?_)
            refine DM.one hsk30 3 (by kernel_rfl) (LM.quietL hsk30 32767 (by kernel_rfl) (by kernel_rfl) rfl rfl (Quiet.load1 ttok rfl rfl rfl rfl ((hS287.bring 3 rfl).box) 4 rfl rfl) rfl rfl ?_)
            refine DM.idxAgain ttok (hS287.bring 1 rfl) hsk30 15 65535 (by kernel_rfl) (by kernel_rfl) rfl (by kernel_rfl) rfl rfl rfl rfl rfl rfl rfl rfl (idx_some hx34).1 rfl rfl (fun q288 hq289 => ?_)
            have hS290 := hS287.bring 1 rfl
            refine DM.one hsk30 16 (by kernel_rfl) (LM.storeHoleN ttok hS290 hq289 hsk30 131071 (by kernel_rfl) (by kernel_rfl) rfl rfl rfl rfl rfl rfl 0 rfl rfl rfl rfl rfl (fun w291 hS292 => ?_))
            refine DM.done hsk30 (by kernel_rfl) ?_
            have h293 := (show ty103.ro _ [.slice A284 (x33 ++ ([(x0.pairs.length : Int)] : (List Int))).length k285] (x33 ++ ([(x0.pairs.length : Int)] : (List Int))) from ((hS292.bring 1 rfl).own))
            have hS294 := hS292.bring 1 rfl
            have hS295 := hS294.bring 1 rfl
            have hS296 := St.unfocusN hS295
            cases hm
            have hn297 := (hS296.bring 0 rfl).lenEq
            have hS298 := (hS296.bring 0 rfl).reLen hn297
            have hS299 := (hS298.bring 2 rfl).reBox (cs' := [.slice A0_0 x0.agents.length k0_0, .slice A0_1 x0.ports.length k0_1, .slice A0_2 x0.cells.length k0_2, .slice A0_3 x0.vars.length k0_3, .slice A0_4 (t26.set x2.toNat (x33 ++ ([(x0.pairs.length : Int)] : (List Int)))).length k0_4, .slice A19 (x0.pairs ++ ([([x1, x2] : (List Int))] : (List (List Int)))).length k20]) (by show ([.slice A0_0 x0.agents.length k0_0, .slice A0_1 x0.ports.length k0_1, .slice A0_2 x0.cells.length k0_2, .slice A0_3 x0.vars.length k0_3, .slice A0_4 x0.ends.length k0_4, .slice A19 (x0.pairs ++ ([([x1, x2] : (List Int))] : (List (List Int)))).length k20] : List Value) = [.slice A0_0 x0.agents.length k0_0, .slice A0_1 x0.ports.length k0_1, .slice A0_2 x0.cells.length k0_2, .slice A0_3 x0.vars.length k0_3, .slice A0_4 (t26.set x2.toNat (x33 ++ ([(x0.pairs.length : Int)] : (List Int)))).length k0_4, .slice A19 (x0.pairs ++ ([([x1, x2] : (List Int))] : (List (List Int)))).length k20]; first | (simp only [hn297]; done) | (simp only [hn297]; rfl))
            exact ⟨_, .nil, A0_0, k0_0, A0_1, k0_1, A0_2, k0_2, A0_3, k0_3, A0_4, k0_4, A19, k20, rfl, ((((((((hS299.bring 2 rfl).drop.bring 2 rfl).bring 2 rfl).bring 6 rfl).bring 6 rfl).bring 6 rfl).bring 6 rfl).bring 6 rfl)⟩
  · skip
    refine WP.drawnM 81920 mixed 17 (by kernel_rfl) (by kernel_rfl) [([], 131071), ([0], 131070), ([1], 131069), ([2], 131067), ([], 131071), ([], 131071), ([5], 131039), ([6], 131007), ([7], 130943), ([], 131071), ([8, 9], 130303), ([10], 130047), ([], 131071), ([12], 126975), ([11, 13], 120831), ([3, 4, 0, 1, 2, 3, 4, 5, 6, 7, 8, 9, 10, 11, 12, 13, 14], 131047), ([15, 14, 14, 0, 1, 2, 3, 4, 5, 6, 7, 8, 9, 10, 11, 12, 13, 14], 81919)] (by kernel_rfl) hS25.ext (fun hsk300 => ?_)
    have hS301 := hS25.step (Ext.draw _)
    refine DM.run (fuel := 8) ttok hsk300 [0, 1, 2, 4, 5, 6, 7, 9, 12] 4855 (by kernel_rfl) (by kernel_rfl) rfl ?_
    refine DM.weak [(0, .pointer (some ⟨g0_, 0, none⟩)), (2, .int .i64 x2), (6, .int .i64 (x0.pairs.length : Int)), (26, .pointer (some ⟨g0_, 4, none⟩)), (28, .int .i64 x1), (31, .pointer (some ⟨g0_, 4, none⟩)), (33, .int .i64 x1), (36, .int .i64 (x0.pairs.length : Int))] ⟨rfl, rfl, rfl, rfl, rfl, rfl, rfl, rfl, trivial⟩ ?_
    obtain ⟨x303, hx304, hm⟩ := bind_some hm
    by_cases hk320 : decide ((x303.length : Int) + (([(x0.pairs.length : Int)] : (List Int)).length : Int) ≤ 4294967296) = true
    case neg => rw [if_neg hk320] at hm; cases hm
    rw [if_pos hk320] at hm
    refine DM.all hsk300 [3, 8, 13] (by kernel_rfl) (by simp) ?_
    intro i330 hi331
    simp only [List.mem_cons, List.not_mem_nil, or_false] at hi331
    rcases hi331 with rfl | rfl | rfl
    · skip
      refine LM.quietL hsk300 4863 (by kernel_rfl) (by kernel_rfl) rfl rfl (Quiet.load1 ttok rfl rfl rfl rfl ((hS301.bring 0 rfl).box) 4 rfl rfl) rfl rfl ?_
      refine DM.all hsk300 [8, 13] (by kernel_rfl) (by simp) ?_
      intro i332 hi333
      simp only [List.mem_cons, List.not_mem_nil, or_false] at hi333
      rcases hi333 with rfl | rfl
      · skip
        refine LM.quietL hsk300 5119 (by kernel_rfl) (by kernel_rfl) rfl rfl (Quiet.load1 ttok rfl rfl rfl rfl ((hS301.bring 0 rfl).box) 4 rfl rfl) rfl rfl ?_
        have hS334 := hS25.bring 6 rfl
        refine DM.focus ttok hS334 hsk300 10 6143 (by kernel_rfl) (by kernel_rfl) rfl (by kernel_rfl) rfl rfl rfl rfl rfl rfl rfl rfl (idx_some hx304).1 (idx_some hx304).2 rfl rfl (fun q335 es336 hq337 hS338 => ?_)
        obtain ⟨A341, k342, e340, hS339⟩ := (hS338.bring 1 rfl).openSl; subst e340
        have hS343 := hS339.step (Ext.draw _)
        refine DM.load1 ttok hsk300 11 8191 (by kernel_rfl) (by kernel_rfl) (by kernel_rfl) (by kernel_rfl) rfl (by kernel_rfl) rfl rfl rfl rfl rfl ((hS339.bring 1 rfl).hole_atN hq337) 0 rfl rfl rfl rfl ?_
        refine DM.one hsk300 13 (by kernel_rfl) (LM.newSlice (U := tInt) (els := [.int .i64 (x0.pairs.length : Int)]) (ys := [(x0.pairs.length : Int)]) ttok (hS343.flatEls (U := tInt) (els := [.int .i64 (x0.pairs.length : Int)]) (ys := [(x0.pairs.length : Int)]) ⟨[.int .i64 (x0.pairs.length : Int)], _, [], [], rfl, rfl, ⟨rfl, rfl⟩, ⟨rfl, rfl⟩⟩) hsk300 16383 (by kernel_rfl) (by kernel_rfl) rfl rfl rfl rfl rfl rfl rfl rfl rfl rfl rfl rfl rfl (fun A344 k345 w346 e347 hS348 => ?_))
        have hS349 := hS348.bring 1 rfl
        refine DM.one hsk300 14 (by kernel_rfl) (LM.appendRo ttok Flat.int hS349 hsk300 32767 (by kernel_rfl) (by kernel_rfl) rfl rfl rfl rfl rfl rfl rfl (by decide) rfl rfl ((hS349.bring 1 rfl).own) (of_decide_eq_true hk320) (by decide) rfl rfl (fun A350 k351 w352 hS353 => ?_))
        refine DM.idxAgain ttok (hS353.bring 2 rfl) hsk300 15 65535 (by kernel_rfl) (by kernel_rfl) rfl (by kernel_rfl) rfl rfl rfl rfl rfl rfl rfl rfl (idx_some hx304).1 rfl rfl (fun q354 hq355 => ?_)
        have hS356 := hS353.bring 2 rfl
        refine DM.one hsk300 16 (by kernel_rfl) (LM.storeHoleN ttok hS356 hq355 hsk300 131071 (by kernel_rfl) (by kernel_rfl) rfl rfl rfl rfl rfl rfl 0 rfl rfl rfl rfl rfl (fun w357 hS358 => ?_))
        refine DM.done hsk300 (by kernel_rfl) ?_
        have h359 := (show ty103.ro _ [.slice A350 (x303 ++ ([(x0.pairs.length : Int)] : (List Int))).length k351] (x303 ++ ([(x0.pairs.length : Int)] : (List Int))) from ((hS358.bring 1 rfl).own))
        have hS360 := hS358.bring 1 rfl
        have hS361 := hS360.bring 1 rfl
        have hS362 := St.unfocusN hS361
        exact ⟨(x0.ends.set x1.toNat (x303 ++ ([(x0.pairs.length : Int)] : (List Int)))), [(0, .pointer (some ⟨g0_, 0, none⟩)), (2, .int .i64 x2), (6, .int .i64 (x0.pairs.length : Int))], ⟨rfl, rfl, rfl, trivial⟩, hm, ((((((((hS362.bring 1 rfl).drop.bring 0 rfl).bring 6 rfl).bring 6 rfl).bring 6 rfl).bring 6 rfl).bring 6 rfl).bring 6 rfl), rfl⟩
      · skip
        refine LM.newSlice (U := tInt) (els := [.int .i64 (x0.pairs.length : Int)]) (ys := [(x0.pairs.length : Int)]) ttok (hS301.flatEls (U := tInt) (els := [.int .i64 (x0.pairs.length : Int)]) (ys := [(x0.pairs.length : Int)]) ⟨[.int .i64 (x0.pairs.length : Int)], _, [], [], rfl, rfl, ⟨rfl, rfl⟩, ⟨rfl, rfl⟩⟩) hsk300 13055 (by kernel_rfl) (by kernel_rfl) rfl rfl rfl rfl rfl rfl rfl rfl rfl rfl rfl rfl rfl (fun A363 k364 w365 e366 hS367 => ?_)
        refine DM.one hsk300 8 (by kernel_rfl) (LM.quietL hsk300 13311 (by kernel_rfl) (by kernel_rfl) rfl rfl (Quiet.load1 ttok rfl rfl rfl rfl ((hS367.bring 1 rfl).box) 4 rfl rfl) rfl rfl ?_)
        have hS368 := hS367.bring 7 rfl
        refine DM.focus ttok hS368 hsk300 10 14335 (by kernel_rfl) (by kernel_rfl) rfl (by kernel_rfl) rfl rfl rfl rfl rfl rfl rfl rfl (idx_some hx304).1 (idx_some hx304).2 rfl rfl (fun q369 es370 hq371 hS372 => ?_)
        obtain ⟨A375, k376, e374, hS373⟩ := (hS372.bring 1 rfl).openSl; subst e374
        refine DM.one hsk300 11 (by kernel_rfl) (LM.quietL hsk300 16383 (by kernel_rfl) (by kernel_rfl) rfl rfl (Quiet.load1 ttok rfl rfl rfl rfl ((hS373.bring 1 rfl).hole_atN hq371) 0 rfl rfl) rfl rfl ?_)
        have hS377 := hS373.bring 0 rfl
        refine DM.one hsk300 14 (by kernel_rfl) (LM.appendRo ttok Flat.int hS377 hsk300 32767 (by kernel_rfl) (by kernel_rfl) rfl rfl rfl rfl rfl rfl rfl (by decide) rfl rfl ((hS377.bring 2 rfl).own) (of_decide_eq_true hk320) (by decide) rfl rfl (fun A378 k379 w380 hS381 => ?_))
        refine DM.idxAgain ttok (hS381.bring 1 rfl) hsk300 15 65535 (by kernel_rfl) (by kernel_rfl) rfl (by kernel_rfl) rfl rfl rfl rfl rfl rfl rfl rfl (idx_some hx304).1 rfl rfl (fun q382 hq383 => ?_)
        have hS384 := hS381.bring 1 rfl
        refine DM.one hsk300 16 (by kernel_rfl) (LM.storeHoleN ttok hS384 hq383 hsk300 131071 (by kernel_rfl) (by kernel_rfl) rfl rfl rfl rfl rfl rfl 0 rfl rfl rfl rfl rfl (fun w385 hS386 => ?_))
        refine DM.done hsk300 (by kernel_rfl) ?_
        have h387 := (show ty103.ro _ [.slice A378 (x303 ++ ([(x0.pairs.length : Int)] : (List Int))).length k379] (x303 ++ ([(x0.pairs.length : Int)] : (List Int))) from ((hS386.bring 1 rfl).own))
        have hS388 := hS386.bring 1 rfl
        have hS389 := hS388.bring 1 rfl
        have hS390 := St.unfocusN hS389
        exact ⟨(x0.ends.set x1.toNat (x303 ++ ([(x0.pairs.length : Int)] : (List Int)))), [(0, .pointer (some ⟨g0_, 0, none⟩)), (2, .int .i64 x2), (6, .int .i64 (x0.pairs.length : Int))], ⟨rfl, rfl, rfl, trivial⟩, hm, ((((((((hS390.bring 1 rfl).drop.bring 0 rfl).bring 6 rfl).bring 6 rfl).bring 6 rfl).bring 6 rfl).bring 6 rfl).bring 6 rfl), rfl⟩
    · skip
      refine LM.quietL hsk300 5111 (by kernel_rfl) (by kernel_rfl) rfl rfl (Quiet.load1 ttok rfl rfl rfl rfl ((hS301.bring 0 rfl).box) 4 rfl rfl) rfl rfl ?_
      have hS391 := hS25.bring 6 rfl
      refine DM.focus ttok hS391 hsk300 10 6135 (by kernel_rfl) (by kernel_rfl) rfl (by kernel_rfl) rfl rfl rfl rfl rfl rfl rfl rfl (idx_some hx304).1 (idx_some hx304).2 rfl rfl (fun q392 es393 hq394 hS395 => ?_)
      obtain ⟨A398, k399, e397, hS396⟩ := (hS395.bring 1 rfl).openSl; subst e397
      have hS400 := hS396.step (Ext.draw _)
      refine DM.load1 ttok hsk300 11 8183 (by kernel_rfl) (by kernel_rfl) (by kernel_rfl) (by kernel_rfl) rfl (by kernel_rfl) rfl rfl rfl rfl rfl ((hS396.bring 1 rfl).hole_atN hq394) 0 rfl rfl rfl rfl ?_
      refine DM.all hsk300 [3, 13] (by kernel_rfl) (by simp) ?_
      intro i401 hi402
      simp only [List.mem_cons, List.not_mem_nil, or_false] at hi402
      rcases hi402 with rfl | rfl
      · skip
        refine LM.quietL hsk300 8191 (by kernel_rfl) (by kernel_rfl) rfl rfl (Quiet.load1 ttok rfl rfl rfl rfl ((hS400.bring 2 rfl).box) 4 rfl rfl) rfl rfl ?_
        refine DM.one hsk300 13 (by kernel_rfl) (LM.newSlice (U := tInt) (els := [.int .i64 (x0.pairs.length : Int)]) (ys := [(x0.pairs.length : Int)]) ttok (hS400.flatEls (U := tInt) (els := [.int .i64 (x0.pairs.length : Int)]) (ys := [(x0.pairs.length : Int)]) ⟨[.int .i64 (x0.pairs.length : Int)], _, [], [], rfl, rfl, ⟨rfl, rfl⟩, ⟨rfl, rfl⟩⟩) hsk300 16383 (by kernel_rfl) (by kernel_rfl) rfl rfl rfl rfl rfl rfl rfl rfl rfl rfl rfl rfl rfl (fun A403 k404 w405 e406 hS407 => ?_))
        have hS408 := hS407.bring 1 rfl
        refine DM.one hsk300 14 (by kernel_rfl) (LM.appendRo ttok Flat.int hS408 hsk300 32767 (by kernel_rfl) (by kernel_rfl) rfl rfl rfl rfl rfl rfl rfl (by decide) rfl rfl ((hS408.bring 1 rfl).own) (of_decide_eq_true hk320) (by decide) rfl rfl (fun A409 k410 w411 hS412 => ?_))
        refine DM.idxAgain ttok (hS412.bring 2 rfl) hsk300 15 65535 (by kernel_rfl) (by kernel_rfl) rfl (by kernel_rfl) rfl rfl rfl rfl rfl rfl rfl rfl (idx_some hx304).1 rfl rfl (fun q413 hq414 => ?_)
        have hS415 := hS412.bring 2 rfl
        refine DM.one hsk300 16 (by kernel_rfl) (LM.storeHoleN ttok hS415 hq414 hsk300 131071 (by kernel_rfl) (by kernel_rfl) rfl rfl rfl rfl rfl rfl 0 rfl rfl rfl rfl rfl (fun w416 hS417 => ?_))
        refine DM.done hsk300 (by kernel_rfl) ?_
        have h418 := (show ty103.ro _ [.slice A409 (x303 ++ ([(x0.pairs.length : Int)] : (List Int))).length k410] (x303 ++ ([(x0.pairs.length : Int)] : (List Int))) from ((hS417.bring 1 rfl).own))
        have hS419 := hS417.bring 1 rfl
        have hS420 := hS419.bring 1 rfl
        have hS421 := St.unfocusN hS420
        exact ⟨(x0.ends.set x1.toNat (x303 ++ ([(x0.pairs.length : Int)] : (List Int)))), [(0, .pointer (some ⟨g0_, 0, none⟩)), (2, .int .i64 x2), (6, .int .i64 (x0.pairs.length : Int))], ⟨rfl, rfl, rfl, trivial⟩, hm, ((((((((hS421.bring 1 rfl).drop.bring 0 rfl).bring 6 rfl).bring 6 rfl).bring 6 rfl).bring 6 rfl).bring 6 rfl).bring 6 rfl), rfl⟩
      · skip
        refine LM.newSlice (U := tInt) (els := [.int .i64 (x0.pairs.length : Int)]) (ys := [(x0.pairs.length : Int)]) ttok (hS400.flatEls (U := tInt) (els := [.int .i64 (x0.pairs.length : Int)]) (ys := [(x0.pairs.length : Int)]) ⟨[.int .i64 (x0.pairs.length : Int)], _, [], [], rfl, rfl, ⟨rfl, rfl⟩, ⟨rfl, rfl⟩⟩) hsk300 16375 (by kernel_rfl) (by kernel_rfl) rfl rfl rfl rfl rfl rfl rfl rfl rfl rfl rfl rfl rfl (fun A422 k423 w424 e425 hS426 => ?_)
        refine DM.all hsk300 [3, 14] (by kernel_rfl) (by simp) ?_
        intro i427 hi428
        simp only [List.mem_cons, List.not_mem_nil, or_false] at hi428
        rcases hi428 with rfl | rfl
        · skip
          refine LM.quietL hsk300 16383 (by kernel_rfl) (by kernel_rfl) rfl rfl (Quiet.load1 ttok rfl rfl rfl rfl ((hS426.bring 3 rfl).box) 4 rfl rfl) rfl rfl ?_
          have hS429 := hS426.bring 1 rfl
          refine DM.one hsk300 14 (by kernel_rfl) (LM.appendRo ttok Flat.int hS429 hsk300 32767 (by kernel_rfl) (by kernel_rfl) rfl rfl rfl rfl rfl rfl rfl (by decide) rfl rfl ((hS429.bring 1 rfl).own) (of_decide_eq_true hk320) (by decide) rfl rfl (fun A430 k431 w432 hS433 => ?_))
          refine DM.idxAgain ttok (hS433.bring 2 rfl) hsk300 15 65535 (by kernel_rfl) (by kernel_rfl) rfl (by kernel_rfl) rfl rfl rfl rfl rfl rfl rfl rfl (idx_some hx304).1 rfl rfl (fun q434 hq435 => ?_)
          have hS436 := hS433.bring 2 rfl
          refine DM.one hsk300 16 (by kernel_rfl) (LM.storeHoleN ttok hS436 hq435 hsk300 131071 (by kernel_rfl) (by kernel_rfl) rfl rfl rfl rfl rfl rfl 0 rfl rfl rfl rfl rfl (fun w437 hS438 => ?_))
          refine DM.done hsk300 (by kernel_rfl) ?_
          have h439 := (show ty103.ro _ [.slice A430 (x303 ++ ([(x0.pairs.length : Int)] : (List Int))).length k431] (x303 ++ ([(x0.pairs.length : Int)] : (List Int))) from ((hS438.bring 1 rfl).own))
          have hS440 := hS438.bring 1 rfl
          have hS441 := hS440.bring 1 rfl
          have hS442 := St.unfocusN hS441
          exact ⟨(x0.ends.set x1.toNat (x303 ++ ([(x0.pairs.length : Int)] : (List Int)))), [(0, .pointer (some ⟨g0_, 0, none⟩)), (2, .int .i64 x2), (6, .int .i64 (x0.pairs.length : Int))], ⟨rfl, rfl, rfl, trivial⟩, hm, ((((((((hS442.bring 1 rfl).drop.bring 0 rfl).bring 6 rfl).bring 6 rfl).bring 6 rfl).bring 6 rfl).bring 6 rfl).bring 6 rfl), rfl⟩
        · skip
          have hS443 := hS426.bring 1 rfl
          refine LM.appendRo ttok Flat.int hS443 hsk300 32759 (by kernel_rfl) (by kernel_rfl) rfl rfl rfl rfl rfl rfl rfl (by decide) rfl rfl ((hS443.bring 1 rfl).own) (of_decide_eq_true hk320) (by decide) rfl rfl (fun A444 k445 w446 hS447 => ?_)
          refine DM.one hsk300 3 (by kernel_rfl) (LM.quietL hsk300 32767 (by kernel_rfl) (by kernel_rfl) rfl rfl (Quiet.load1 ttok rfl rfl rfl rfl ((hS447.bring 3 rfl).box) 4 rfl rfl) rfl rfl ?_)
          refine DM.idxAgain ttok (hS447.bring 2 rfl) hsk300 15 65535 (by kernel_rfl) (by kernel_rfl) rfl (by kernel_rfl) rfl rfl rfl rfl rfl rfl rfl rfl (idx_some hx304).1 rfl rfl (fun q448 hq449 => ?_)
          have hS450 := hS447.bring 2 rfl
          refine DM.one hsk300 16 (by kernel_rfl) (LM.storeHoleN ttok hS450 hq449 hsk300 131071 (by kernel_rfl) (by kernel_rfl) rfl rfl rfl rfl rfl rfl 0 rfl rfl rfl rfl rfl (fun w451 hS452 => ?_))
          refine DM.done hsk300 (by kernel_rfl) ?_
          have h453 := (show ty103.ro _ [.slice A444 (x303 ++ ([(x0.pairs.length : Int)] : (List Int))).length k445] (x303 ++ ([(x0.pairs.length : Int)] : (List Int))) from ((hS452.bring 1 rfl).own))
          have hS454 := hS452.bring 1 rfl
          have hS455 := hS454.bring 1 rfl
          have hS456 := St.unfocusN hS455
          exact ⟨(x0.ends.set x1.toNat (x303 ++ ([(x0.pairs.length : Int)] : (List Int)))), [(0, .pointer (some ⟨g0_, 0, none⟩)), (2, .int .i64 x2), (6, .int .i64 (x0.pairs.length : Int))], ⟨rfl, rfl, rfl, trivial⟩, hm, ((((((((hS456.bring 1 rfl).drop.bring 0 rfl).bring 6 rfl).bring 6 rfl).bring 6 rfl).bring 6 rfl).bring 6 rfl).bring 6 rfl), rfl⟩
    · skip
      refine LM.newSlice (U := tInt) (els := [.int .i64 (x0.pairs.length : Int)]) (ys := [(x0.pairs.length : Int)]) ttok (hS301.flatEls (U := tInt) (els := [.int .i64 (x0.pairs.length : Int)]) (ys := [(x0.pairs.length : Int)]) ⟨[.int .i64 (x0.pairs.length : Int)], _, [], [], rfl, rfl, ⟨rfl, rfl⟩, ⟨rfl, rfl⟩⟩) hsk300 13047 (by kernel_rfl) (by kernel_rfl) rfl rfl rfl rfl rfl rfl rfl rfl rfl rfl rfl rfl rfl (fun A457 k458 w459 e460 hS461 => ?_)
      refine DM.all hsk300 [3, 8] (by kernel_rfl) (by simp) ?_
      intro i462 hi463
      simp only [List.mem_cons, List.not_mem_nil, or_false] at hi463
      rcases hi463 with rfl | rfl
      · skip
        refine LM.quietL hsk300 13055 (by kernel_rfl) (by kernel_rfl) rfl rfl (Quiet.load1 ttok rfl rfl rfl rfl ((hS461.bring 1 rfl).box) 4 rfl rfl) rfl rfl ?_
        refine DM.one hsk300 8 (by kernel_rfl) (LM.quietL hsk300 13311 (by kernel_rfl) (by kernel_rfl) rfl rfl (Quiet.load1 ttok rfl rfl rfl rfl ((hS461.bring 1 rfl).box) 4 rfl rfl) rfl rfl ?_)
        have hS464 := hS461.bring 7 rfl
        refine DM.focus ttok hS464 hsk300 10 14335 (by kernel_rfl) (by kernel_rfl) rfl (by kernel_rfl) rfl rfl rfl rfl rfl rfl rfl rfl (idx_some hx304).1 (idx_some hx304).2 rfl rfl (fun q465 es466 hq467 hS468 => ?_)
        obtain ⟨A471, k472, e470, hS469⟩ := (hS468.bring 1 rfl).openSl; subst e470
        refine DM.one hsk300 11 (by kernel_rfl) (LM.quietL hsk300 16383 (by kernel_rfl) (by kernel_rfl) rfl rfl (Quiet.load1 ttok rfl rfl rfl rfl ((hS469.bring 1 rfl).hole_atN hq467) 0 rfl rfl) rfl rfl ?_)
        have hS473 := hS469.bring 0 rfl
        refine DM.one hsk300 14 (by kernel_rfl) (LM.appendRo ttok Flat.int hS473 hsk300 32767 (by kernel_rfl) (by kernel_rfl) rfl rfl rfl rfl rfl rfl rfl (by decide) rfl rfl ((hS473.bring 2 rfl).own) (of_decide_eq_true hk320) (by decide) rfl rfl (fun A474 k475 w476 hS477 => ?_))
        refine DM.idxAgain ttok (hS477.bring 1 rfl) hsk300 15 65535 (by kernel_rfl) (by kernel_rfl) rfl (by kernel_rfl) rfl rfl rfl rfl rfl rfl rfl rfl (idx_some hx304).1 rfl rfl (fun q478 hq479 => ?_)
        have hS480 := hS477.bring 1 rfl
        refine DM.one hsk300 16 (by kernel_rfl) (LM.storeHoleN ttok hS480 hq479 hsk300 131071 (by kernel_rfl) (by kernel_rfl) rfl rfl rfl rfl rfl rfl 0 rfl rfl rfl rfl rfl (fun w481 hS482 => ?_))
        refine DM.done hsk300 (by kernel_rfl) ?_
        have h483 := (show ty103.ro _ [.slice A474 (x303 ++ ([(x0.pairs.length : Int)] : (List Int))).length k475] (x303 ++ ([(x0.pairs.length : Int)] : (List Int))) from ((hS482.bring 1 rfl).own))
        have hS484 := hS482.bring 1 rfl
        have hS485 := hS484.bring 1 rfl
        have hS486 := St.unfocusN hS485
        exact ⟨(x0.ends.set x1.toNat (x303 ++ ([(x0.pairs.length : Int)] : (List Int)))), [(0, .pointer (some ⟨g0_, 0, none⟩)), (2, .int .i64 x2), (6, .int .i64 (x0.pairs.length : Int))], ⟨rfl, rfl, rfl, trivial⟩, hm, ((((((((hS486.bring 1 rfl).drop.bring 0 rfl).bring 6 rfl).bring 6 rfl).bring 6 rfl).bring 6 rfl).bring 6 rfl).bring 6 rfl), rfl⟩
      · skip
        refine LM.quietL hsk300 13303 (by kernel_rfl) (by kernel_rfl) rfl rfl (Quiet.load1 ttok rfl rfl rfl rfl ((hS461.bring 1 rfl).box) 4 rfl rfl) rfl rfl ?_
        have hS487 := hS461.bring 7 rfl
        refine DM.focus ttok hS487 hsk300 10 14327 (by kernel_rfl) (by kernel_rfl) rfl (by kernel_rfl) rfl rfl rfl rfl rfl rfl rfl rfl (idx_some hx304).1 (idx_some hx304).2 rfl rfl (fun q488 es489 hq490 hS491 => ?_)
        obtain ⟨A494, k495, e493, hS492⟩ := (hS491.bring 1 rfl).openSl; subst e493
        refine DM.all hsk300 [3, 11] (by kernel_rfl) (by simp) ?_
        intro i496 hi497
        simp only [List.mem_cons, List.not_mem_nil, or_false] at hi497
        rcases hi497 with rfl | rfl
        · skip
          refine LM.quietL hsk300 14335 (by kernel_rfl) (by kernel_rfl) rfl rfl (Quiet.load1 ttok rfl rfl rfl rfl ((hS492.bring 3 rfl).box) 4 rfl rfl) rfl rfl ?_
          refine DM.one hsk300 11 (by kernel_rfl) (LM.quietL hsk300 16383 (by kernel_rfl) (by kernel_rfl) rfl rfl (Quiet.load1 ttok rfl rfl rfl rfl ((hS492.bring 1 rfl).hole_atN hq490) 0 rfl rfl) rfl rfl ?_)
          have hS498 := hS492.bring 0 rfl
          refine DM.one hsk300 14 (by kernel_rfl) (LM.appendRo ttok Flat.int hS498 hsk300 32767 (by kernel_rfl) (by kernel_rfl) rfl rfl rfl rfl rfl rfl rfl (by decide) rfl rfl ((hS498.bring 2 rfl).own) (of_decide_eq_true hk320) (by decide) rfl rfl (fun A499 k500 w501 hS502 => ?_))
          refine DM.idxAgain ttok (hS502.bring 1 rfl) hsk300 15 65535 (by kernel_rfl) (by kernel_rfl) rfl (by kernel_rfl) rfl rfl rfl rfl rfl rfl rfl rfl (idx_some hx304).1 rfl rfl (fun q503 hq504 => ?_)
          have hS505 := hS502.bring 1 rfl
          refine DM.one hsk300 16 (by kernel_rfl) (LM.storeHoleN ttok hS505 hq504 hsk300 131071 (by kernel_rfl) (by kernel_rfl) rfl rfl rfl rfl rfl rfl 0 rfl rfl rfl rfl rfl (fun w506 hS507 => ?_))
          refine DM.done hsk300 (by kernel_rfl) ?_
          have h508 := (show ty103.ro _ [.slice A499 (x303 ++ ([(x0.pairs.length : Int)] : (List Int))).length k500] (x303 ++ ([(x0.pairs.length : Int)] : (List Int))) from ((hS507.bring 1 rfl).own))
          have hS509 := hS507.bring 1 rfl
          have hS510 := hS509.bring 1 rfl
          have hS511 := St.unfocusN hS510
          exact ⟨(x0.ends.set x1.toNat (x303 ++ ([(x0.pairs.length : Int)] : (List Int)))), [(0, .pointer (some ⟨g0_, 0, none⟩)), (2, .int .i64 x2), (6, .int .i64 (x0.pairs.length : Int))], ⟨rfl, rfl, rfl, trivial⟩, hm, ((((((((hS511.bring 1 rfl).drop.bring 0 rfl).bring 6 rfl).bring 6 rfl).bring 6 rfl).bring 6 rfl).bring 6 rfl).bring 6 rfl), rfl⟩
        · skip
          refine LM.quietL hsk300 16375 (by kernel_rfl) (by kernel_rfl) rfl rfl (Quiet.load1 ttok rfl rfl rfl rfl ((hS492.bring 1 rfl).hole_atN hq490) 0 rfl rfl) rfl rfl ?_
          refine DM.all hsk300 [3, 14] (by kernel_rfl) (by simp) ?_
          intro i512 hi513
          simp only [List.mem_cons, List.not_mem_nil, or_false] at hi513
          rcases hi513 with rfl | rfl
          · skip
            refine LM.quietL hsk300 16383 (by kernel_rfl) (by kernel_rfl) rfl rfl (Quiet.load1 ttok rfl rfl rfl rfl ((hS492.bring 3 rfl).box) 4 rfl rfl) rfl rfl ?_
            have hS514 := hS492.bring 0 rfl
            refine DM.one hsk300 14 (by kernel_rfl) (LM.appendRo ttok Flat.int hS514 hsk300 32767 (by kernel_rfl) (by kernel_rfl) rfl rfl rfl rfl rfl rfl rfl (by decide) rfl rfl ((hS514.bring 2 rfl).own) (of_decide_eq_true hk320) (by decide) rfl rfl (fun A515 k516 w517 hS518 => ?_))
            refine DM.idxAgain ttok (hS518.bring 1 rfl) hsk300 15 65535 (by kernel_rfl) (by kernel_rfl) rfl (by kernel_rfl) rfl rfl rfl rfl rfl rfl rfl rfl (idx_some hx304).1 rfl rfl (fun q519 hq520 => ?_)
            have hS521 := hS518.bring 1 rfl
            refine DM.one hsk300 16 (by kernel_rfl) (LM.storeHoleN ttok hS521 hq520 hsk300 131071 (by kernel_rfl) (by kernel_rfl) rfl rfl rfl rfl rfl rfl 0 rfl rfl rfl rfl rfl (fun w522 hS523 => ?_))
            refine DM.done hsk300 (by kernel_rfl) ?_
            have h524 := (show ty103.ro _ [.slice A515 (x303 ++ ([(x0.pairs.length : Int)] : (List Int))).length k516] (x303 ++ ([(x0.pairs.length : Int)] : (List Int))) from ((hS523.bring 1 rfl).own))
            have hS525 := hS523.bring 1 rfl
            have hS526 := hS525.bring 1 rfl
            have hS527 := St.unfocusN hS526
            exact ⟨(x0.ends.set x1.toNat (x303 ++ ([(x0.pairs.length : Int)] : (List Int)))), [(0, .pointer (some ⟨g0_, 0, none⟩)), (2, .int .i64 x2), (6, .int .i64 (x0.pairs.length : Int))], ⟨rfl, rfl, rfl, trivial⟩, hm, ((((((((hS527.bring 1 rfl).drop.bring 0 rfl).bring 6 rfl).bring 6 rfl).bring 6 rfl).bring 6 rfl).bring 6 rfl).bring 6 rfl), rfl⟩
          · skip
            have hS528 := hS492.bring 0 rfl
            refine LM.appendRo ttok Flat.int hS528 hsk300 32759 (by kernel_rfl) (by kernel_rfl) rfl rfl rfl rfl rfl rfl rfl (by decide) rfl rfl ((hS528.bring 2 rfl).own) (of_decide_eq_true hk320) (by decide) rfl rfl (fun A529 k530 w531 hS532 => ?_)
            refine DM.one hsk300 3 (by kernel_rfl) (LM.quietL hsk300 32767 (by kernel_rfl) (by kernel_rfl) rfl rfl (Quiet.load1 ttok rfl rfl rfl rfl ((hS532.bring 3 rfl).box) 4 rfl rfl) rfl rfl ?_)
            refine DM.idxAgain ttok (hS532.bring 1 rfl) hsk300 15 65535 (by kernel_rfl) (by kernel_rfl) rfl (by kernel_rfl) rfl rfl rfl rfl rfl rfl rfl rfl (idx_some hx304).1 rfl rfl (fun q533 hq534 => ?_)
            have hS535 := hS532.bring 1 rfl
            refine DM.one hsk300 16 (by kernel_rfl) (LM.storeHoleN ttok hS535 hq534 hsk300 131071 (by kernel_rfl) (by kernel_rfl) rfl rfl rfl rfl rfl rfl 0 rfl rfl rfl rfl rfl (fun w536 hS537 => ?_))
            refine DM.done hsk300 (by kernel_rfl) ?_
            have h538 := (show ty103.ro _ [.slice A529 (x303 ++ ([(x0.pairs.length : Int)] : (List Int))).length k530] (x303 ++ ([(x0.pairs.length : Int)] : (List Int))) from ((hS537.bring 1 rfl).own))
            have hS539 := hS537.bring 1 rfl
            have hS540 := hS539.bring 1 rfl
            have hS541 := St.unfocusN hS540
            exact ⟨(x0.ends.set x1.toNat (x303 ++ ([(x0.pairs.length : Int)] : (List Int)))), [(0, .pointer (some ⟨g0_, 0, none⟩)), (2, .int .i64 x2), (6, .int .i64 (x0.pairs.length : Int))], ⟨rfl, rfl, rfl, trivial⟩, hm, ((((((((hS541.bring 1 rfl).drop.bring 0 rfl).bring 6 rfl).bring 6 rfl).bring 6 rfl).bring 6 rfl).bring 6 rfl).bring 6 rfl), rfl⟩

theorem enters191 : Enters Try.prog 191 := ⟨_, _, Try.func191, rfl, by kernel_rfl⟩
def m_spec_l27Links_aux_j1 (fuel : Nat) (t15 : (List D.Agent) × (List D.Port) × (List (List Int)) × (List (List Int)) × (List (List Int)) × (List (List Int))) : Option (Bool × D.l27Links) := some (true, (⟨t15.1, t15.2.1, t15.2.2.1, t15.2.2.2.1, t15.2.2.2.2.1, t15.2.2.2.2.2⟩ : D.l27Links))
def m_spec_l27Links_aux_b1 (fuel : Nat) (x1 : D.Grid) (x2 : D.ShardCell) (x3 : Int) (s14 : Int × (List D.Agent) × (List D.Port) × (List (List Int)) × (List (List Int)) × (List (List Int)) × (List (List Int))) : Option (Rd (Int × (List D.Agent) × (List D.Port) × (List (List Int)) × (List (List Int)) × (List (List Int)) × (List (List Int))) ((List D.Agent) × (List D.Port) × (List (List Int)) × (List (List Int)) × (List (List Int)) × (List (List Int))) (Bool × D.l27Links)) := (if (decide (s14.1 < (x2.Aux.length : Int))) = true then ((idx x2.Aux s14.1).bind fun x63 => ((m_spec_l27Alive fuel x1 x63).bind fun r71 => (if (!r71) = true then some (.ret (false, (⟨s14.2.1, s14.2.2.1, s14.2.2.2.1, s14.2.2.2.2.1, s14.2.2.2.2.2.1, s14.2.2.2.2.2.2⟩ : D.l27Links))) else ((idx x2.Aux s14.1).bind fun x78 => ((m_spec_l27Links_item fuel (⟨s14.2.1, s14.2.2.1, s14.2.2.2.1, s14.2.2.2.2.1, s14.2.2.2.2.2.1, s14.2.2.2.2.2.2⟩ : D.l27Links) x78).bind fun r85 => ((m_spec_l27Links_state fuel (⟨s14.2.1, s14.2.2.1, s14.2.2.2.1, s14.2.2.2.2.1, s14.2.2.2.2.2.1, s14.2.2.2.2.2.2⟩ : D.l27Links) (w64 ((w64 (x3 + s14.1)) + 1)) r85).bind fun r92 => some (.next (w64 (s14.1 + 1), r92.agents, r92.ports, r92.cells, r92.vars, r92.ends, r92.pairs)))))))) else some (.brk (s14.2.1, s14.2.2.1, s14.2.2.2.1, s14.2.2.2.2.1, s14.2.2.2.2.2.1, s14.2.2.2.2.2.2)))
def m_spec_l27Links_aux (fuel : Nat) (x0 : D.l27Links) (x1 : D.Grid) (x2 : D.ShardCell) (x3 : Int) : Option (Bool × D.l27Links) := ((iter (m_spec_l27Links_aux_b1 fuel x1 x2 x3) fuel (0, x0.agents, x0.ports, x0.cells, x0.vars, x0.ends, x0.pairs)).bind fun o => aft o (m_spec_l27Links_aux_j1 fuel))

set_option maxRecDepth 100000 in
theorem spec_l27Links_aux_ok {W w : World} {RR : List Res} {g0_ : Nat} {x0 : D.l27Links} {A0_0 : Option Addr} {k0_0 : Nat} {A0_1 : Option Addr} {k0_1 : Nat} {A0_2 : Option Addr} {k0_2 : Nat} {A0_3 : Option Addr} {k0_3 : Nat} {A0_4 : Option Addr} {k0_4 : Nat} {A0_5 : Option Addr} {k0_5 : Nat} {p1_ : Addr} {c1_ : List Value} {x1 : D.Grid} {p2_ : Addr} {c2_ : List Value} {x2 : D.ShardCell} {x3 : Int} (hS : St W w (Box g0_ [.slice A0_0 x0.agents.length k0_0, .slice A0_1 x0.ports.length k0_1, .slice A0_2 x0.cells.length k0_2, .slice A0_3 x0.vars.length k0_3, .slice A0_4 x0.ends.length k0_4, .slice A0_5 x0.pairs.length k0_5] 253 :: Own ty28 [.slice A0_0 x0.agents.length k0_0] x0.agents :: Own ty110 [.slice A0_1 x0.ports.length k0_1] x0.ports :: Own ty251 [.slice A0_2 x0.cells.length k0_2] x0.cells :: Own ty251 [.slice A0_3 x0.vars.length k0_3] x0.vars :: Own ty251 [.slice A0_4 x0.ends.length k0_4] x0.ends :: Own ty251 [.slice A0_5 x0.pairs.length k0_5] x0.pairs :: RR)) (h1_ : ty64.ro W c1_ x1) (g1_ : At W p1_ c1_) (h2_ : ty248.ro W c2_ x2) (g2_ : At W p2_ c2_) {fuel : Nat} {r : Bool × D.l27Links} (hm : m_spec_l27Links_aux fuel x0 x1 x2 x3 = some r) :
    Calls Try.prog 191 ⟨[.pointer (some ⟨g0_, 0, none⟩), .pointer (some p1_), .pointer (some p2_), .int .i64 x3]⟩ w (Ret fun v w8 => ∃ A0 k0 A1 k1 A2 k2 A3 k3 A4 k4 A5 k5, v = .bool r.1 ∧ St W w8 (Box g0_ [.slice A0 r.2.agents.length k0, .slice A1 r.2.ports.length k1, .slice A2 r.2.cells.length k2, .slice A3 r.2.vars.length k3, .slice A4 r.2.ends.length k4, .slice A5 r.2.pairs.length k5] 253 :: Own ty28 [.slice A0 r.2.agents.length k0] r.2.agents :: Own ty110 [.slice A1 r.2.ports.length k1] r.2.ports :: Own ty251 [.slice A2 r.2.cells.length k2] r.2.cells :: Own ty251 [.slice A3 r.2.vars.length k3] r.2.vars :: Own ty251 [.slice A4 r.2.ends.length k4] r.2.ends :: Own ty251 [.slice A5 r.2.pairs.length k5] r.2.pairs :: RR)) := by
  obtain ⟨A1, k2, e4, h3⟩ := ty64_open h1_; subst e4
  obtain ⟨A5, k6, A10, k11, e13, h7, h12⟩ := ty248_open h2_; subst e13
  refine Calls.into Try.func191 rfl 44 rfl rfl _ rfl ?_
  unfold m_spec_l27Links_aux at hm
  refine WP.seq ?_
  refine WP.region ?_
  refine RW.run ttok 1 rfl ?_
  refine RW.nil ?_
  refine WP.seq ?_
  refine WP.seq ?_
  refine WP.region ?_
  refine RW.run ttok 1 rfl ?_
  refine RW.nil ?_
  obtain ⟨o54, hl55, hm⟩ := bind_some hm
  refine WP.cut (fun (t15 : (List D.Agent) × (List D.Port) × (List (List Int)) × (List (List Int)) × (List (List Int)) × (List (List Int))) F w9 => ∃ A41 k42 A43 k44 A45 k46 A47 k48 A49 k50 A51 k52, o54 = .inl t15 ∧ St W w9 (Box g0_ [.slice A41 t15.1.length k42, .slice A43 t15.2.1.length k44, .slice A45 t15.2.2.1.length k46, .slice A47 t15.2.2.2.1.length k48, .slice A49 t15.2.2.2.2.1.length k50, .slice A51 t15.2.2.2.2.2.length k52] 253 :: Own ty28 [.slice A41 t15.1.length k42] t15.1 :: Own ty110 [.slice A43 t15.2.1.length k44] t15.2.1 :: Own ty251 [.slice A45 t15.2.2.1.length k46] t15.2.2.1 :: Own ty251 [.slice A47 t15.2.2.2.1.length k48] t15.2.2.2.1 :: Own ty251 [.slice A49 t15.2.2.2.2.1.length k50] t15.2.2.2.2.1 :: Own ty251 [.slice A51 t15.2.2.2.2.2.length k52] t15.2.2.2.2.2 :: RR) ∧ F = []) ?_ ?_
  · skip
    rintro t15 F w53 ⟨A41, k42, A43, k44, A45, k46, A47, k48, A49, k50, A51, k52, ho57, hS56, rfl⟩
    subst ho57
    rw [aft_inl] at hm
    unfold m_spec_l27Links_aux_j1 at hm
    refine WP.seq ?_
    refine WP.region ?_
    refine RW.run ttok 1 rfl ?_
    refine RW.nil ?_
    refine WP.ret ?_
    cases hm
    exact ⟨_, .cons (.tmp rfl) .nil, A41, k42, A43, k44, A45, k46, A47, k48, A49, k50, A51, k52, rfl, hS56⟩
  · skip
    refine WP.block ?_
    refine WP.weak [(0, .pointer (some ⟨g0_, 0, none⟩)), (1, .pointer (some p1_)), (2, .pointer (some p2_)), (3, .int .i64 x3), (9, .int .i64 0)] ⟨rfl, rfl, rfl, rfl, rfl, trivial⟩ ?_
    refine WP.iter (fun (s14 : Int × (List D.Agent) × (List D.Port) × (List (List Int)) × (List (List Int)) × (List (List Int)) × (List (List Int))) F w9 => ∃ A29 k30 A31 k32 A33 k34 A35 k36 A37 k38 A39 k40, St W w9 (Box g0_ [.slice A29 s14.2.1.length k30, .slice A31 s14.2.2.1.length k32, .slice A33 s14.2.2.2.1.length k34, .slice A35 s14.2.2.2.2.1.length k36, .slice A37 s14.2.2.2.2.2.1.length k38, .slice A39 s14.2.2.2.2.2.2.length k40] 253 :: Own ty28 [.slice A29 s14.2.1.length k30] s14.2.1 :: Own ty110 [.slice A31 s14.2.2.1.length k32] s14.2.2.1 :: Own ty251 [.slice A33 s14.2.2.2.1.length k34] s14.2.2.2.1 :: Own ty251 [.slice A35 s14.2.2.2.2.1.length k36] s14.2.2.2.2.1 :: Own ty251 [.slice A37 s14.2.2.2.2.2.1.length k38] s14.2.2.2.2.2.1 :: Own ty251 [.slice A39 s14.2.2.2.2.2.2.length k40] s14.2.2.2.2.2.2 :: RR) ∧ F = [(0, .pointer (some ⟨g0_, 0, none⟩)), (1, .pointer (some p1_)), (2, .pointer (some p2_)), (3, .int .i64 x3), (9, .int .i64 s14.1)]) _ hl55 ⟨A0_0, k0_0, A0_1, k0_1, A0_2, k0_2, A0_3, k0_3, A0_4, k0_4, A0_5, k0_5, hS, rfl⟩ ?_
    rintro s14 F w62 _ o60 ⟨A29, k30, A31, k32, A33, k34, A35, k36, A37, k38, A39, k40, hS61, rfl⟩ hb58 ho59
    unfold m_spec_l27Links_aux_b1 at hb58
    refine WP.seq ?_
    refine WP.seq ?_
    refine WP.region ?_
    refine RW.run ttok 4 rfl ?_
    refine RW.load1 ttok rfl rfl rfl rfl rfl (At.ext hS61.ext g2_) 4 rfl rfl rfl rfl ?_
    refine RW.run ttok 2 rfl ?_
    refine RW.nil ?_
    refine WP.cond (decide (s14.1 < (x2.Aux.length : Int))) rfl (fun hc => ?_) (fun hc => ?_)
    · skip
      rw [if_pos hc] at hb58
      refine WP.skip ?_
      refine WP.seq ?_
      refine WP.block ?_
      refine WP.seq ?_
      refine WP.seq ?_
      refine WP.region ?_
      refine RW.run ttok 4 rfl ?_
      refine RW.load1 ttok rfl rfl rfl rfl rfl (At.ext hS61.ext g2_) 4 rfl rfl rfl rfl ?_
      refine RW.run ttok 1 rfl ?_
      obtain ⟨x63, hx65, hb58⟩ := bind_some hb58
      refine RW.idx ttok hS61.ext rfl rfl rfl rfl rfl rfl (by decide) rfl rfl h12 (idx_some hx65).1 (idx_some hx65).2 rfl rfl (fun p66 es67 ha68 hr69 => ?_)
      have e70 := ty62_open hr69; subst e70
      refine RW.loadN ttok rfl rfl rfl rfl rfl (At.ext hS61.ext ha68) rfl rfl rfl ?_
      obtain ⟨r71, hx72, hb58⟩ := bind_some hb58
      refine RW.call rfl rfl rfl enters188 (spec_l27Alive_ok hS61.ext h1_ g1_ hr69 hx72) (fun v73 w74 hR75 => ?_)
      obtain ⟨rfl, hR76⟩ := hR75
      have hS77 := hS61.join hR76
      refine RW.run ttok 1 rfl ?_
      refine RW.nil ?_
      refine WP.cond (!r71) rfl (fun hc => ?_) (fun hc => ?_)
      · skip
        rw [if_pos hc] at hb58
        refine WP.seq ?_
        refine WP.region ?_
        refine RW.run ttok 1 rfl ?_
        refine RW.nil ?_
        refine WP.ret ?_
        cases hb58
        cases ho59
        have hm : some _ = some _ := hm
        cases hm
        exact ⟨_, .cons (.tmp rfl) .nil, A29, k30, A31, k32, A33, k34, A35, k36, A37, k38, A39, k40, rfl, hS77⟩
      · skip
        rw [if_neg (not_t hc)] at hb58
        refine WP.skip ?_
        refine WP.region ?_
        refine RW.run ttok 9 rfl ?_
        refine RW.load1 ttok rfl rfl rfl rfl rfl (At.ext hS77.ext g2_) 4 rfl rfl rfl rfl ?_
        refine RW.run ttok 1 rfl ?_
        obtain ⟨x78, hx79, hb58⟩ := bind_some hb58
        refine RW.idx ttok hS77.ext rfl rfl rfl rfl rfl rfl (by decide) rfl rfl h12 (idx_some hx79).1 (idx_some hx79).2 rfl rfl (fun p80 es81 ha82 hr83 => ?_)
        have e84 := ty62_open hr83; subst e84
        refine RW.loadN ttok rfl rfl rfl rfl rfl (At.ext hS77.ext ha82) rfl rfl rfl ?_
        obtain ⟨r85, hx86, hb58⟩ := bind_some hb58
        refine RW.call rfl rfl rfl enters190 (spec_l27Links_item_ok (Ext.refl _) (ty253_shut (⟨s14.2.1, s14.2.2.1, s14.2.2.2.1, s14.2.2.2.2.1, s14.2.2.2.2.2.1, s14.2.2.2.2.2.2⟩ : D.l27Links) ((hS77.bring 1 rfl).own) ((hS77.bring 2 rfl).own) ((hS77.bring 3 rfl).own) ((hS77.bring 4 rfl).own) ((hS77.bring 5 rfl).own) ((hS77.bring 6 rfl).own)) ((hS77.bring 0 rfl).box) (ty62.ext hS77.ext hr83) hx86) (fun v87 w88 hR89 => ?_)
        obtain ⟨rfl, hR90⟩ := hR89
        have hS91 := hS77.join hR90
        obtain ⟨r92, hx93, hb58⟩ := bind_some hb58
        refine RW.call rfl rfl rfl enters189 (spec_l27Links_state_ok (W := W) (RR := _) (x0 := (⟨s14.2.1, s14.2.2.1, s14.2.2.2.1, s14.2.2.2.2.1, s14.2.2.2.2.2.1, s14.2.2.2.2.2.2⟩ : D.l27Links)) (x1 := w64 ((w64 (x3 + s14.1)) + 1)) (x2 := r85) hS91  hx93) (fun v94 w95 hR96 => ?_)
        obtain ⟨A97, k98, A99, k100, A101, k102, A103, k104, A105, k106, A107, k108, rfl, hS109⟩ := hR96
        refine RW.nil ?_
        refine WP.region ?_
        refine RW.run ttok 3 rfl ?_
        refine RW.nil ?_
        cases hb58
        exact ⟨_, [(0, .pointer (some ⟨g0_, 0, none⟩)), (1, .pointer (some p1_)), (2, .pointer (some p2_)), (3, .int .i64 x3), (9, .int .i64 (w64 (s14.1 + 1)))], ⟨rfl, rfl, rfl, rfl, rfl, trivial⟩, rfl, A97, k98, A99, k100, A101, k102, A103, k104, A105, k106, A107, k108, hS109, rfl⟩
    · skip
      rw [if_neg (not_t hc)] at hb58
      refine WP.exit ?_
      cases hb58
      exact ⟨_, [], trivial, A29, k30, A31, k32, A33, k34, A35, k36, A37, k38, A39, k40, ho59, hS61, rfl⟩

theorem enters192 : Enters Try.prog 192 := ⟨_, _, Try.func192, rfl, by kernel_rfl⟩
def m_spec_l27Links_pair_j1 (fuel : Nat) (x0 : D.l27Links) (x2 : D.Address) (x3 : D.Address) (t17 : Bool) : Option (Bool × D.l27Links) := (if t17 = true then some (false, x0) else ((m_spec_l27Links_item fuel x0 x2).bind fun r24 => ((m_spec_l27Links_item fuel x0 x3).bind fun r31 => ((m_spec_l27Links_state fuel x0 r24 r31).bind fun r38 => some (true, (⟨r38.agents, r38.ports, r38.cells, r38.vars, r38.ends, r38.pairs⟩ : D.l27Links))))))
def m_spec_l27Links_pair (fuel : Nat) (x0 : D.l27Links) (x1 : D.Grid) (x2 : D.Address) (x3 : D.Address) : Option (Bool × D.l27Links) := ((m_spec_l27Alive fuel x1 x2).bind fun r139 => (if (!r139) = true then m_spec_l27Links_pair_j1 fuel x0 x2 x3 true else ((m_spec_l27Alive fuel x1 x3).bind fun r147 => m_spec_l27Links_pair_j1 fuel x0 x2 x3 (!r147))))

set_option maxRecDepth 100000 in
theorem spec_l27Links_pair_ok {W w : World} {RR : List Res} {g0_ : Nat} {x0 : D.l27Links} {A0_0 : Option Addr} {k0_0 : Nat} {A0_1 : Option Addr} {k0_1 : Nat} {A0_2 : Option Addr} {k0_2 : Nat} {A0_3 : Option Addr} {k0_3 : Nat} {A0_4 : Option Addr} {k0_4 : Nat} {A0_5 : Option Addr} {k0_5 : Nat} {p1_ : Addr} {c1_ : List Value} {x1 : D.Grid} {c2_ : List Value} {x2 : D.Address} {c3_ : List Value} {x3 : D.Address} (hS : St W w (Box g0_ [.slice A0_0 x0.agents.length k0_0, .slice A0_1 x0.ports.length k0_1, .slice A0_2 x0.cells.length k0_2, .slice A0_3 x0.vars.length k0_3, .slice A0_4 x0.ends.length k0_4, .slice A0_5 x0.pairs.length k0_5] 253 :: Own ty28 [.slice A0_0 x0.agents.length k0_0] x0.agents :: Own ty110 [.slice A0_1 x0.ports.length k0_1] x0.ports :: Own ty251 [.slice A0_2 x0.cells.length k0_2] x0.cells :: Own ty251 [.slice A0_3 x0.vars.length k0_3] x0.vars :: Own ty251 [.slice A0_4 x0.ends.length k0_4] x0.ends :: Own ty251 [.slice A0_5 x0.pairs.length k0_5] x0.pairs :: RR)) (h1_ : ty64.ro W c1_ x1) (g1_ : At W p1_ c1_) (h2_ : ty62.ro W c2_ x2) (h3_ : ty62.ro W c3_ x3) {fuel : Nat} {r : Bool × D.l27Links} (hm : m_spec_l27Links_pair fuel x0 x1 x2 x3 = some r) :
    Calls Try.prog 192 ⟨[.pointer (some ⟨g0_, 0, none⟩), .pointer (some p1_), .agg ⟨c2_⟩, .agg ⟨c3_⟩]⟩ w (Ret fun v w8 => ∃ A0 k0 A1 k1 A2 k2 A3 k3 A4 k4 A5 k5, v = .bool r.1 ∧ St W w8 (Box g0_ [.slice A0 r.2.agents.length k0, .slice A1 r.2.ports.length k1, .slice A2 r.2.cells.length k2, .slice A3 r.2.vars.length k3, .slice A4 r.2.ends.length k4, .slice A5 r.2.pairs.length k5] 253 :: Own ty28 [.slice A0 r.2.agents.length k0] r.2.agents :: Own ty110 [.slice A1 r.2.ports.length k1] r.2.ports :: Own ty251 [.slice A2 r.2.cells.length k2] r.2.cells :: Own ty251 [.slice A3 r.2.vars.length k3] r.2.vars :: Own ty251 [.slice A4 r.2.ends.length k4] r.2.ends :: Own ty251 [.slice A5 r.2.pairs.length k5] r.2.pairs :: RR)) := by
  obtain ⟨A1, k2, e4, h3⟩ := ty64_open h1_; subst e4
  have e5 := ty62_open h2_; subst e5
  have e6 := ty62_open h3_; subst e6
  refine Calls.into Try.func192 rfl 27 rfl rfl _ rfl ?_
  unfold m_spec_l27Links_pair at hm
  refine WP.seq ?_
  refine WP.region ?_
  refine RW.new ttok hS rfl rfl rfl rfl (fun g7 w10 e11 hS12 => ?_)
  refine RW.new ttok hS12 rfl rfl rfl rfl (fun g13 w14 e15 hS16 => ?_)
  refine RW.run ttok 1 rfl ?_
  refine RW.nil ?_
  refine WP.seq ?_
  refine WP.seq ?_
  refine WP.cut (fun (t17 : Bool) F w9 => m_spec_l27Links_pair_j1 fuel x0 x2 x3 t17 = some r ∧ Ext w14 w9 ∧ St W w9 (Box g13 [.int .i64 x3.Machine, .int .i64 x3.Kind, .int .i64 x3.Index] 62 :: Box g7 [.int .i64 x2.Machine, .int .i64 x2.Kind, .int .i64 x2.Index] 62 :: Box g0_ [.slice A0_0 x0.agents.length k0_0, .slice A0_1 x0.ports.length k0_1, .slice A0_2 x0.cells.length k0_2, .slice A0_3 x0.vars.length k0_3, .slice A0_4 x0.ends.length k0_4, .slice A0_5 x0.pairs.length k0_5] 253 :: Own ty28 [.slice A0_0 x0.agents.length k0_0] x0.agents :: Own ty110 [.slice A0_1 x0.ports.length k0_1] x0.ports :: Own ty251 [.slice A0_2 x0.cells.length k0_2] x0.cells :: Own ty251 [.slice A0_3 x0.vars.length k0_3] x0.vars :: Own ty251 [.slice A0_4 x0.ends.length k0_4] x0.ends :: Own ty251 [.slice A0_5 x0.pairs.length k0_5] x0.pairs :: RR) ∧ F = [(0, .pointer (some ⟨g0_, 0, none⟩)), (6, .pointer (some ⟨g7, 0, none⟩)), (7, .pointer (some ⟨g13, 0, none⟩)), (18, .bool t17)]) ?_ ?_
  · skip
    rintro t17 F w20 ⟨hm, hE18, hS19, rfl⟩
    unfold m_spec_l27Links_pair_j1 at hm
    refine WP.cond t17 rfl (fun hc => ?_) (fun hc => ?_)
    · skip
      rw [if_pos hc] at hm
      refine WP.seq ?_
      refine WP.region ?_
      refine RW.run ttok 1 rfl ?_
      refine RW.nil ?_
      refine WP.ret ?_
      cases hm
      exact ⟨_, .cons (.tmp rfl) .nil, A0_0, k0_0, A0_1, k0_1, A0_2, k0_2, A0_3, k0_3, A0_4, k0_4, A0_5, k0_5, rfl, ((hS19.bring 0 rfl).drop.bring 0 rfl).drop⟩
    · skip
      rw [if_neg (not_t hc)] at hm
      refine WP.skip ?_
      refine WP.seq ?_
      refine WP.drawnM 128 mixed 8 (by kernel_rfl) (by kernel_rfl) [([], 255), ([], 255), ([], 255), ([1, 2], 249), ([], 255), ([], 255), ([4, 5, 3], 207), ([0, 3, 6, 6], 182)] (by kernel_rfl) hS19.ext (fun hsk22 => ?_)
      have hS23 := hS19.step (Ext.draw _)
      refine DM.run (fuel := 5) ttok hsk22 [0, 1, 4] 19 (by kernel_rfl) (by kernel_rfl) rfl ?_
      obtain ⟨r24, hx25, hm⟩ := bind_some hm
      obtain ⟨r31, hx32, hm⟩ := bind_some hm
      obtain ⟨r38, hx39, hm⟩ := bind_some hm
      refine DM.all hsk22 [2, 5] (by kernel_rfl) (by simp) ?_
      intro i56 hi57
      simp only [List.mem_cons, List.not_mem_nil, or_false] at hi57
      rcases hi57 with rfl | rfl
      · skip
        refine LM.quietL hsk22 23 (by kernel_rfl) (by kernel_rfl) rfl rfl (Quiet.loadN ttok rfl rfl rfl rfl ((hS23.bring 1 rfl).box) rfl) rfl rfl ?_
        refine DM.all hsk22 [3, 5] (by kernel_rfl) (by simp) ?_
        intro i58 hi59
        simp only [List.mem_cons, List.not_mem_nil, or_false] at hi59
        rcases hi59 with rfl | rfl
        · skip
          refine LM.call hsk22 31 (by kernel_rfl) (by kernel_rfl) rfl rfl rfl rfl enters190 (spec_l27Links_item_ok (Ext.refl _) (ty253_shut x0 ((hS23.bring 3 rfl).own) ((hS23.bring 4 rfl).own) ((hS23.bring 5 rfl).own) ((hS23.bring 6 rfl).own) ((hS23.bring 7 rfl).own) ((hS23.bring 8 rfl).own)) ((hS23.bring 2 rfl).box) (ty62.ext hS23.ext h2_) hx25) (fun v60 w61 hR62 => ?_)
          obtain ⟨rfl, hR63⟩ := hR62
          refine ⟨hR63.ext, ?_⟩
          have hS65 := hS23.join hR63
          refine DM.one hsk22 5 (by kernel_rfl) (LM.quietL hsk22 63 (by kernel_rfl) (by kernel_rfl) rfl rfl (Quiet.loadN ttok rfl rfl rfl rfl ((hS65.bring 0 rfl).box) rfl) rfl rfl ?_)
          refine DM.one hsk22 6 (by kernel_rfl) (LM.call hsk22 127 (by kernel_rfl) (by kernel_rfl) rfl rfl rfl rfl enters190 (spec_l27Links_item_ok (Ext.refl _) (ty253_shut x0 ((hS65.bring 3 rfl).own) ((hS65.bring 4 rfl).own) ((hS65.bring 5 rfl).own) ((hS65.bring 6 rfl).own) ((hS65.bring 7 rfl).own) ((hS65.bring 8 rfl).own)) ((hS65.bring 2 rfl).box) (ty62.ext hS65.ext h3_) hx32) (fun v66 w67 hR68 => ?_))
          obtain ⟨rfl, hR69⟩ := hR68
          refine ⟨hR69.ext, ?_⟩
          have hS70 := hS65.join hR69
          refine DM.one hsk22 7 (by kernel_rfl) (LM.callW hsk22 255 (by kernel_rfl) (by kernel_rfl) rfl rfl rfl rfl enters189 (spec_l27Links_state_ok (W := W) (RR := _) (x0 := x0) (x1 := r24) (x2 := r31) (((((((hS70.bring 8 rfl).bring 8 rfl).bring 8 rfl).bring 8 rfl).bring 8 rfl).bring 8 rfl).bring 8 rfl)  hx39) (fun v71 w72 hR73 => ?_))
          obtain ⟨A74, k75, A76, k77, A78, k79, A80, k81, A82, k83, A84, k85, rfl, hS86⟩ := hR73
          refine ⟨hS86.ext, ?_⟩
          refine DM.done hsk22 (by kernel_rfl) ?_
          refine WP.seq ?_
          refine WP.region ?_
          refine RW.run ttok 1 rfl ?_
          refine RW.nil ?_
          refine WP.ret ?_
          cases hm
          exact ⟨_, .cons (.tmp rfl) .nil, A74, k75, A76, k77, A78, k79, A80, k81, A82, k83, A84, k85, rfl, ((hS86.bring 7 rfl).drop.bring 7 rfl).drop⟩
        · skip
          refine LM.quietL hsk22 55 (by kernel_rfl) (by kernel_rfl) rfl rfl (Quiet.loadN ttok rfl rfl rfl rfl ((hS23.bring 0 rfl).box) rfl) rfl rfl ?_
          refine DM.one hsk22 3 (by kernel_rfl) (LM.call hsk22 63 (by kernel_rfl) (by kernel_rfl) rfl rfl rfl rfl enters190 (spec_l27Links_item_ok (Ext.refl _) (ty253_shut x0 ((hS23.bring 3 rfl).own) ((hS23.bring 4 rfl).own) ((hS23.bring 5 rfl).own) ((hS23.bring 6 rfl).own) ((hS23.bring 7 rfl).own) ((hS23.bring 8 rfl).own)) ((hS23.bring 2 rfl).box) (ty62.ext hS23.ext h2_) hx25) (fun v87 w88 hR89 => ?_))
          obtain ⟨rfl, hR90⟩ := hR89
          refine ⟨hR90.ext, ?_⟩
          have hS91 := hS23.join hR90
          refine DM.one hsk22 6 (by kernel_rfl) (LM.call hsk22 127 (by kernel_rfl) (by kernel_rfl) rfl rfl rfl rfl enters190 (spec_l27Links_item_ok (Ext.refl _) (ty253_shut x0 ((hS91.bring 3 rfl).own) ((hS91.bring 4 rfl).own) ((hS91.bring 5 rfl).own) ((hS91.bring 6 rfl).own) ((hS91.bring 7 rfl).own) ((hS91.bring 8 rfl).own)) ((hS91.bring 2 rfl).box) (ty62.ext hS91.ext h3_) hx32) (fun v92 w93 hR94 => ?_))
          obtain ⟨rfl, hR95⟩ := hR94
          refine ⟨hR95.ext, ?_⟩
          have hS96 := hS91.join hR95
          refine DM.one hsk22 7 (by kernel_rfl) (LM.callW hsk22 255 (by kernel_rfl) (by kernel_rfl) rfl rfl rfl rfl enters189 (spec_l27Links_state_ok (W := W) (RR := _) (x0 := x0) (x1 := r24) (x2 := r31) (((((((hS96.bring 8 rfl).bring 8 rfl).bring 8 rfl).bring 8 rfl).bring 8 rfl).bring 8 rfl).bring 8 rfl)  hx39) (fun v97 w98 hR99 => ?_))
          obtain ⟨A100, k101, A102, k103, A104, k105, A106, k107, A108, k109, A110, k111, rfl, hS112⟩ := hR99
          refine ⟨hS112.ext, ?_⟩
          refine DM.done hsk22 (by kernel_rfl) ?_
          refine WP.seq ?_
          refine WP.region ?_
          refine RW.run ttok 1 rfl ?_
          refine RW.nil ?_
          refine WP.ret ?_
          cases hm
          exact ⟨_, .cons (.tmp rfl) .nil, A100, k101, A102, k103, A104, k105, A106, k107, A108, k109, A110, k111, rfl, ((hS112.bring 7 rfl).drop.bring 7 rfl).drop⟩
      · skip
        refine LM.quietL hsk22 51 (by kernel_rfl) (by kernel_rfl) rfl rfl (Quiet.loadN ttok rfl rfl rfl rfl ((hS23.bring 0 rfl).box) rfl) rfl rfl ?_
        refine DM.one hsk22 2 (by kernel_rfl) (LM.quietL hsk22 55 (by kernel_rfl) (by kernel_rfl) rfl rfl (Quiet.loadN ttok rfl rfl rfl rfl ((hS23.bring 1 rfl).box) rfl) rfl rfl ?_)
        refine DM.one hsk22 3 (by kernel_rfl) (LM.call hsk22 63 (by kernel_rfl) (by kernel_rfl) rfl rfl rfl rfl enters190 (spec_l27Links_item_ok (Ext.refl _) (ty253_shut x0 ((hS23.bring 3 rfl).own) ((hS23.bring 4 rfl).own) ((hS23.bring 5 rfl).own) ((hS23.bring 6 rfl).own) ((hS23.bring 7 rfl).own) ((hS23.bring 8 rfl).own)) ((hS23.bring 2 rfl).box) (ty62.ext hS23.ext h2_) hx25) (fun v113 w114 hR115 => ?_))
        obtain ⟨rfl, hR116⟩ := hR115
        refine ⟨hR116.ext, ?_⟩
        have hS117 := hS23.join hR116
        refine DM.one hsk22 6 (by kernel_rfl) (LM.call hsk22 127 (by kernel_rfl) (by kernel_rfl) rfl rfl rfl rfl enters190 (spec_l27Links_item_ok (Ext.refl _) (ty253_shut x0 ((hS117.bring 3 rfl).own) ((hS117.bring 4 rfl).own) ((hS117.bring 5 rfl).own) ((hS117.bring 6 rfl).own) ((hS117.bring 7 rfl).own) ((hS117.bring 8 rfl).own)) ((hS117.bring 2 rfl).box) (ty62.ext hS117.ext h3_) hx32) (fun v118 w119 hR120 => ?_))
        obtain ⟨rfl, hR121⟩ := hR120
        refine ⟨hR121.ext, ?_⟩
        have hS122 := hS117.join hR121
        refine DM.one hsk22 7 (by kernel_rfl) (LM.callW hsk22 255 (by kernel_rfl) (by kernel_rfl) rfl rfl rfl rfl enters189 (spec_l27Links_state_ok (W := W) (RR := _) (x0 := x0) (x1 := r24) (x2 := r31) (((((((hS122.bring 8 rfl).bring 8 rfl).bring 8 rfl).bring 8 rfl).bring 8 rfl).bring 8 rfl).bring 8 rfl)  hx39) (fun v123 w124 hR125 => ?_))
        obtain ⟨A126, k127, A128, k129, A130, k131, A132, k133, A134, k135, A136, k137, rfl, hS138⟩ := hR125
        refine ⟨hS138.ext, ?_⟩
        refine DM.done hsk22 (by kernel_rfl) ?_
        refine WP.seq ?_
        refine WP.region ?_
        refine RW.run ttok 1 rfl ?_
        refine RW.nil ?_
        refine WP.ret ?_
        cases hm
        exact ⟨_, .cons (.tmp rfl) .nil, A126, k127, A128, k129, A130, k131, A132, k133, A134, k135, A136, k137, rfl, ((hS138.bring 7 rfl).drop.bring 7 rfl).drop⟩
  · skip
    refine WP.region ?_
    refine RW.run ttok 1 rfl ?_
    refine RW.loadN ttok rfl rfl rfl rfl rfl ((hS16.bring 1 rfl).box) rfl rfl rfl ?_
    obtain ⟨r139, hx140, hm⟩ := bind_some hm
    refine RW.call rfl rfl rfl enters188 (spec_l27Alive_ok hS16.ext h1_ g1_ h2_ hx140) (fun v141 w142 hR143 => ?_)
    obtain ⟨rfl, hR144⟩ := hR143
    have hS145 := hS16.join hR144
    refine RW.run ttok 2 rfl ?_
    by_cases hg146 : (!r139) = true
    · skip
      rw [if_pos hg146] at hm
      refine RW.know 13 rfl (congrArg Value.bool hg146) ?_
      refine RW.run ttok 5 rfl ?_
      refine RW.nil ?_
      exact ⟨true, [(0, .pointer (some ⟨g0_, 0, none⟩)), (6, .pointer (some ⟨g7, 0, none⟩)), (7, .pointer (some ⟨g13, 0, none⟩)), (18, .bool true)], ⟨rfl, rfl, rfl, rfl, trivial⟩, hm, hR144.ext, hS145, rfl⟩
    · skip
      rw [if_neg hg146] at hm
      refine RW.know 13 rfl (congrArg Value.bool (Bool.eq_false_iff.2 hg146)) ?_
      refine RW.run ttok 1 rfl ?_
      refine RW.loadN ttok rfl rfl rfl rfl rfl ((hS145.bring 0 rfl).box) rfl rfl rfl ?_
      obtain ⟨r147, hx148, hm⟩ := bind_some hm
      refine RW.call rfl rfl rfl enters188 (spec_l27Alive_ok hS145.ext h1_ g1_ h3_ hx148) (fun v149 w150 hR151 => ?_)
      obtain ⟨rfl, hR152⟩ := hR151
      have hS153 := hS145.join hR152
      refine RW.run ttok 2 rfl ?_
      refine RW.nil ?_
      exact ⟨!r147, [(0, .pointer (some ⟨g0_, 0, none⟩)), (6, .pointer (some ⟨g7, 0, none⟩)), (7, .pointer (some ⟨g13, 0, none⟩)), (18, .bool (!r147))], ⟨rfl, rfl, rfl, rfl, trivial⟩, hm, (hR144.ext.trans hR152.ext), hS153, rfl⟩

theorem enters133 : Enters Try.prog 133 := ⟨_, _, Try.func133, rfl, by kernel_rfl⟩
def m_spec_l27All_j1 (fuel : Nat) (t40 : (List D.Agent) × (List D.Port) × (List (List Int)) × (List (List Int)) × (List (List Int)) × (List (List Int))) : Option (Bool × D.l27Links) := some (true, (⟨t40.1, t40.2.1, t40.2.2.1, t40.2.2.2.1, t40.2.2.2.2.1, t40.2.2.2.2.2⟩ : D.l27Links))
def m_spec_l27All_j4 (fuel : Nat) (s39 : Int × (List D.Agent) × (List D.Port) × (List (List Int)) × (List (List Int)) × (List (List Int)) × (List (List Int))) (t194 : (List D.Agent) × (List D.Port) × (List (List Int)) × (List (List Int)) × (List (List Int)) × (List (List Int))) : Option (Rd (Int × (List D.Agent) × (List D.Port) × (List (List Int)) × (List (List Int)) × (List (List Int)) × (List (List Int))) ((List D.Agent) × (List D.Port) × (List (List Int)) × (List (List Int)) × (List (List Int)) × (List (List Int))) (Bool × D.l27Links)) := some (.next (w64 (s39.1 + 1), t194.1, t194.2.1, t194.2.2.1, t194.2.2.2.1, t194.2.2.2.2.1, t194.2.2.2.2.2))
def m_spec_l27All_j5 (fuel : Nat) (s193 : Int × (List D.Agent) × (List D.Port) × (List (List Int)) × (List (List Int)) × (List (List Int)) × (List (List Int))) (t242 : Bool × (List D.Agent) × (List D.Port) × (List (List Int)) × (List (List Int)) × (List (List Int)) × (List (List Int))) : Option (Rd (Int × (List D.Agent) × (List D.Port) × (List (List Int)) × (List (List Int)) × (List (List Int)) × (List (List Int))) ((List D.Agent) × (List D.Port) × (List (List Int)) × (List (List Int)) × (List (List Int)) × (List (List Int))) (Rd (Int × (List D.Agent) × (List D.Port) × (List (List Int)) × (List (List Int)) × (List (List Int)) × (List (List Int))) ((List D.Agent) × (List D.Port) × (List (List Int)) × (List (List Int)) × (List (List Int)) × (List (List Int))) (Bool × D.l27Links))) := (if t242.1 = true then some (.ret (.ret (false, (⟨t242.2.1, t242.2.2.1, t242.2.2.2.1, t242.2.2.2.2.1, t242.2.2.2.2.2.1, t242.2.2.2.2.2.2⟩ : D.l27Links)))) else some (.next (w64 (s193.1 + 1), t242.2.1, t242.2.2.1, t242.2.2.2.1, t242.2.2.2.2.1, t242.2.2.2.2.2.1, t242.2.2.2.2.2.2)))
def m_spec_l27All_b4 (fuel : Nat) (x0 : D.Grid) (s39 : Int × (List D.Agent) × (List D.Port) × (List (List Int)) × (List (List Int)) × (List (List Int)) × (List (List Int))) (x89 : D.Shard) (s193 : Int × (List D.Agent) × (List D.Port) × (List (List Int)) × (List (List Int)) × (List (List Int)) × (List (List Int))) : Option (Rd (Int × (List D.Agent) × (List D.Port) × (List (List Int)) × (List (List Int)) × (List (List Int)) × (List (List Int))) ((List D.Agent) × (List D.Port) × (List (List Int)) × (List (List Int)) × (List (List Int)) × (List (List Int))) (Rd (Int × (List D.Agent) × (List D.Port) × (List (List Int)) × (List (List Int)) × (List (List Int)) × (List (List Int))) ((List D.Agent) × (List D.Port) × (List (List Int)) × (List (List Int)) × (List (List Int)) × (List (List Int))) (Bool × D.l27Links))) := (if (decide (s193.1 < (x89.Vars.length : Int))) = true then ((idx x89.Vars s193.1).bind fun x258 => (if x258.Full = true then ((idx x89.Vars s193.1).bind fun x266 => ((m_spec_l27Links_pair fuel (⟨s193.2.1, s193.2.2.1, s193.2.2.2.1, s193.2.2.2.2.1, s193.2.2.2.2.2.1, s193.2.2.2.2.2.2⟩ : D.l27Links) x0 (⟨s39.1, 2, s193.1⟩ : D.Address) x266.Held).bind fun r273 => m_spec_l27All_j5 fuel s193 (!r273.1, r273.2.agents, r273.2.ports, r273.2.cells, r273.2.vars, r273.2.ends, r273.2.pairs))) else m_spec_l27All_j5 fuel s193 (false, s193.2.1, s193.2.2.1, s193.2.2.2.1, s193.2.2.2.2.1, s193.2.2.2.2.2.1, s193.2.2.2.2.2.2))) else some (.brk (s193.2.1, s193.2.2.1, s193.2.2.2.1, s193.2.2.2.2.1, s193.2.2.2.2.2.1, s193.2.2.2.2.2.2)))
def m_spec_l27All_j3 (fuel : Nat) (x0 : D.Grid) (s39 : Int × (List D.Agent) × (List D.Port) × (List (List Int)) × (List (List Int)) × (List (List Int)) × (List (List Int))) (x89 : D.Shard) (t150 : (List D.Agent) × (List D.Port) × (List (List Int)) × (List (List Int)) × (List (List Int)) × (List (List Int))) : Option (Rd (Int × (List D.Agent) × (List D.Port) × (List (List Int)) × (List (List Int)) × (List (List Int)) × (List (List Int))) ((List D.Agent) × (List D.Port) × (List (List Int)) × (List (List Int)) × (List (List Int)) × (List (List Int))) (Bool × D.l27Links)) := ((iter (m_spec_l27All_b4 fuel x0 s39 x89) fuel (0, t150.1, t150.2.1, t150.2.2.1, t150.2.2.2.1, t150.2.2.2.2.1, t150.2.2.2.2.2)).bind fun o => aft o (m_spec_l27All_j4 fuel s39))
def m_spec_l27All_b3 (fuel : Nat) (x0 : D.Grid) (x89 : D.Shard) (s149 : Int × (List D.Agent) × (List D.Port) × (List (List Int)) × (List (List Int)) × (List (List Int)) × (List (List Int))) : Option (Rd (Int × (List D.Agent) × (List D.Port) × (List (List Int)) × (List (List Int)) × (List (List Int)) × (List (List Int))) ((List D.Agent) × (List D.Port) × (List (List Int)) × (List (List Int)) × (List (List Int)) × (List (List Int))) (Rd (Int × (List D.Agent) × (List D.Port) × (List (List Int)) × (List (List Int)) × (List (List Int)) × (List (List Int))) ((List D.Agent) × (List D.Port) × (List (List Int)) × (List (List Int)) × (List (List Int)) × (List (List Int))) (Bool × D.l27Links))) := (if (decide (s149.1 < (x89.Redexes.length : Int))) = true then ((idx x89.Redexes s149.1).bind fun x298 => ((idx x89.Redexes s149.1).bind fun x305 => ((m_spec_l27Links_pair fuel (⟨s149.2.1, s149.2.2.1, s149.2.2.2.1, s149.2.2.2.2.1, s149.2.2.2.2.2.1, s149.2.2.2.2.2.2⟩ : D.l27Links) x0 x298.A x305.B).bind fun r312 => (if (!r312.1) = true then some (.ret (.ret (false, (⟨r312.2.agents, r312.2.ports, r312.2.cells, r312.2.vars, r312.2.ends, r312.2.pairs⟩ : D.l27Links)))) else some (.next (w64 (s149.1 + 1), r312.2.agents, r312.2.ports, r312.2.cells, r312.2.vars, r312.2.ends, r312.2.pairs)))))) else some (.brk (s149.2.1, s149.2.2.1, s149.2.2.2.1, s149.2.2.2.2.1, s149.2.2.2.2.2.1, s149.2.2.2.2.2.2)))
def m_spec_l27All_j2 (fuel : Nat) (x0 : D.Grid) (s39 : Int × (List D.Agent) × (List D.Port) × (List (List Int)) × (List (List Int)) × (List (List Int)) × (List (List Int))) (x89 : D.Shard) (t106 : (List D.Agent) × (List D.Port) × (List (List Int)) × (List (List Int)) × (List (List Int)) × (List (List Int))) : Option (Rd (Int × (List D.Agent) × (List D.Port) × (List (List Int)) × (List (List Int)) × (List (List Int)) × (List (List Int))) ((List D.Agent) × (List D.Port) × (List (List Int)) × (List (List Int)) × (List (List Int)) × (List (List Int))) (Bool × D.l27Links)) := ((iter (m_spec_l27All_b3 fuel x0 x89) fuel (0, t106.1, t106.2.1, t106.2.2.1, t106.2.2.2.1, t106.2.2.2.2.1, t106.2.2.2.2.2)).bind fun o => aft o (m_spec_l27All_j3 fuel x0 s39 x89))
def m_spec_l27All_b2 (fuel : Nat) (x0 : D.Grid) (s39 : Int × (List D.Agent) × (List D.Port) × (List (List Int)) × (List (List Int)) × (List (List Int)) × (List (List Int))) (x89 : D.Shard) (s105 : Int × (List D.Agent) × (List D.Port) × (List (List Int)) × (List (List Int)) × (List (List Int)) × (List (List Int))) : Option (Rd (Int × (List D.Agent) × (List D.Port) × (List (List Int)) × (List (List Int)) × (List (List Int)) × (List (List Int))) ((List D.Agent) × (List D.Port) × (List (List Int)) × (List (List Int)) × (List (List Int)) × (List (List Int))) (Rd (Int × (List D.Agent) × (List D.Port) × (List (List Int)) × (List (List Int)) × (List (List Int)) × (List (List Int))) ((List D.Agent) × (List D.Port) × (List (List Int)) × (List (List Int)) × (List (List Int)) × (List (List Int))) (Bool × D.l27Links))) := (if (decide (s105.1 < (x89.Cells.length : Int))) = true then ((idx x89.Cells s105.1).bind fun x337 => ((idx s105.2.2.2.1 s39.1).bind fun x350 => ((idx x350 s105.1).bind fun x359 => ((m_spec_l27Links_aux fuel (⟨s105.2.1, s105.2.2.1, s105.2.2.2.1, s105.2.2.2.2.1, s105.2.2.2.2.2.1, s105.2.2.2.2.2.2⟩ : D.l27Links) x0 x337 x359).bind fun r365 => (if (!r365.1) = true then some (.ret (.ret (false, (⟨r365.2.agents, r365.2.ports, r365.2.cells, r365.2.vars, r365.2.ends, r365.2.pairs⟩ : D.l27Links)))) else some (.next (w64 (s105.1 + 1), r365.2.agents, r365.2.ports, r365.2.cells, r365.2.vars, r365.2.ends, r365.2.pairs))))))) else some (.brk (s105.2.1, s105.2.2.1, s105.2.2.2.1, s105.2.2.2.2.1, s105.2.2.2.2.2.1, s105.2.2.2.2.2.2)))
def m_spec_l27All_b1 (fuel : Nat) (x0 : D.Grid) (s39 : Int × (List D.Agent) × (List D.Port) × (List (List Int)) × (List (List Int)) × (List (List Int)) × (List (List Int))) : Option (Rd (Int × (List D.Agent) × (List D.Port) × (List (List Int)) × (List (List Int)) × (List (List Int)) × (List (List Int))) ((List D.Agent) × (List D.Port) × (List (List Int)) × (List (List Int)) × (List (List Int)) × (List (List Int))) (Bool × D.l27Links)) := (if (decide (s39.1 < (x0.Shards.length : Int))) = true then ((idx x0.Shards s39.1).bind fun x89 => ((iter (m_spec_l27All_b2 fuel x0 s39 x89) fuel (0, s39.2.1, s39.2.2.1, s39.2.2.2.1, s39.2.2.2.2.1, s39.2.2.2.2.2.1, s39.2.2.2.2.2.2)).bind fun o => aft o (m_spec_l27All_j2 fuel x0 s39 x89))) else some (.brk (s39.2.1, s39.2.2.1, s39.2.2.2.1, s39.2.2.2.2.1, s39.2.2.2.2.2.1, s39.2.2.2.2.2.2)))
def m_spec_l27All (fuel : Nat) (x0 : D.Grid) (x1 : D.l27Links) : Option (Bool × D.l27Links) := ((m_spec_l27Alive fuel x0 x0.Root).bind fun r5 => (if (!r5) = true then some (false, x1) else ((m_spec_l27Links_item fuel x1 x0.Root).bind fun r14 => ((m_spec_l27Links_state fuel x1 0 r14).bind fun r21 => ((iter (m_spec_l27All_b1 fuel x0) fuel (0, r21.agents, r21.ports, r21.cells, r21.vars, r21.ends, r21.pairs)).bind fun o => aft o (m_spec_l27All_j1 fuel))))))

set_option maxRecDepth 100000 in
theorem spec_l27All_ok {W w : World} {RR : List Res} {p0_ : Addr} {c0_ : List Value} {x0 : D.Grid} {g1_ : Nat} {x1 : D.l27Links} {A1_0 : Option Addr} {k1_0 : Nat} {A1_1 : Option Addr} {k1_1 : Nat} {A1_2 : Option Addr} {k1_2 : Nat} {A1_3 : Option Addr} {k1_3 : Nat} {A1_4 : Option Addr} {k1_4 : Nat} {A1_5 : Option Addr} {k1_5 : Nat} (hS : St W w (Box g1_ [.slice A1_0 x1.agents.length k1_0, .slice A1_1 x1.ports.length k1_1, .slice A1_2 x1.cells.length k1_2, .slice A1_3 x1.vars.length k1_3, .slice A1_4 x1.ends.length k1_4, .slice A1_5 x1.pairs.length k1_5] 253 :: Own ty28 [.slice A1_0 x1.agents.length k1_0] x1.agents :: Own ty110 [.slice A1_1 x1.ports.length k1_1] x1.ports :: Own ty251 [.slice A1_2 x1.cells.length k1_2] x1.cells :: Own ty251 [.slice A1_3 x1.vars.length k1_3] x1.vars :: Own ty251 [.slice A1_4 x1.ends.length k1_4] x1.ends :: Own ty251 [.slice A1_5 x1.pairs.length k1_5] x1.pairs :: RR)) (h0_ : ty64.ro W c0_ x0) (g0_ : At W p0_ c0_) {fuel : Nat} {r : Bool × D.l27Links} (hm : m_spec_l27All fuel x0 x1 = some r) :
    Calls Try.prog 133 ⟨[.pointer (some p0_), .pointer (some ⟨g1_, 0, none⟩)]⟩ w (Ret fun v w8 => ∃ A0 k0 A1 k1 A2 k2 A3 k3 A4 k4 A5 k5, v = .bool r.1 ∧ St W w8 (Box g1_ [.slice A0 r.2.agents.length k0, .slice A1 r.2.ports.length k1, .slice A2 r.2.cells.length k2, .slice A3 r.2.vars.length k3, .slice A4 r.2.ends.length k4, .slice A5 r.2.pairs.length k5] 253 :: Own ty28 [.slice A0 r.2.agents.length k0] r.2.agents :: Own ty110 [.slice A1 r.2.ports.length k1] r.2.ports :: Own ty251 [.slice A2 r.2.cells.length k2] r.2.cells :: Own ty251 [.slice A3 r.2.vars.length k3] r.2.vars :: Own ty251 [.slice A4 r.2.ends.length k4] r.2.ends :: Own ty251 [.slice A5 r.2.pairs.length k5] r.2.pairs :: RR)) := by
  obtain ⟨A1, k2, e4, h3⟩ := ty64_open h0_; subst e4
  refine Calls.into Try.func133 rfl 132 rfl rfl _ rfl ?_
  unfold m_spec_l27All at hm
  refine WP.seq ?_
  refine WP.region ?_
  refine RW.run ttok 1 rfl ?_
  refine RW.nil ?_
  refine WP.seq ?_
  refine WP.seq ?_
  refine WP.region ?_
  refine RW.run ttok 4 rfl ?_
  refine RW.loadN ttok rfl rfl rfl rfl rfl (At.sub (At.ext hS.ext g0_) 1 3) rfl rfl rfl ?_
  obtain ⟨r5, hx6, hm⟩ := bind_some hm
  refine RW.call rfl rfl rfl enters188 (spec_l27Alive_ok hS.ext h0_ g0_ (ty62_shut x0.Root) hx6) (fun v7 w10 hR11 => ?_)
  obtain ⟨rfl, hR12⟩ := hR11
  have hS13 := hS.join hR12
  refine RW.run ttok 1 rfl ?_
  refine RW.nil ?_
  refine WP.cond (!r5) rfl (fun hc => ?_) (fun hc => ?_)
  · skip
    rw [if_pos hc] at hm
    refine WP.seq ?_
    refine WP.region ?_
    refine RW.run ttok 1 rfl ?_
    refine RW.nil ?_
    refine WP.ret ?_
    cases hm
    exact ⟨_, .cons (.tmp rfl) .nil, A1_0, k1_0, A1_1, k1_1, A1_2, k1_2, A1_3, k1_3, A1_4, k1_4, A1_5, k1_5, rfl, hS13⟩
  · skip
    rw [if_neg (not_t hc)] at hm
    refine WP.skip ?_
    refine WP.seq ?_
    refine WP.region ?_
    refine RW.run ttok 5 rfl ?_
    refine RW.loadN ttok rfl rfl rfl rfl rfl (At.sub (At.ext hS13.ext g0_) 1 3) rfl rfl rfl ?_
    obtain ⟨r14, hx15, hm⟩ := bind_some hm
    refine RW.call rfl rfl rfl enters190 (spec_l27Links_item_ok (Ext.refl _) (ty253_shut x1 ((hS13.bring 1 rfl).own) ((hS13.bring 2 rfl).own) ((hS13.bring 3 rfl).own) ((hS13.bring 4 rfl).own) ((hS13.bring 5 rfl).own) ((hS13.bring 6 rfl).own)) ((hS13.bring 0 rfl).box) (ty62_shut x0.Root) hx15) (fun v16 w17 hR18 => ?_)
    obtain ⟨rfl, hR19⟩ := hR18
    have hS20 := hS13.join hR19
    obtain ⟨r21, hx22, hm⟩ := bind_some hm
    refine RW.call rfl rfl rfl enters189 (spec_l27Links_state_ok (W := W) (RR := _) (x0 := x1) (x1 := 0) (x2 := r14) hS20  hx22) (fun v23 w24 hR25 => ?_)
    obtain ⟨A26, k27, A28, k29, A30, k31, A32, k33, A34, k35, A36, k37, rfl, hS38⟩ := hR25
    refine RW.nil ?_
    refine WP.seq ?_
    refine WP.seq ?_
    refine WP.region ?_
    refine RW.run ttok 1 rfl ?_
    refine RW.nil ?_
    obtain ⟨o80, hl81, hm⟩ := bind_some hm
    refine WP.cut (fun (t40 : (List D.Agent) × (List D.Port) × (List (List Int)) × (List (List Int)) × (List (List Int)) × (List (List Int))) F w9 => ∃ A67 k68 A69 k70 A71 k72 A73 k74 A75 k76 A77 k78, o80 = .inl t40 ∧ St W w9 (Box g1_ [.slice A67 t40.1.length k68, .slice A69 t40.2.1.length k70, .slice A71 t40.2.2.1.length k72, .slice A73 t40.2.2.2.1.length k74, .slice A75 t40.2.2.2.2.1.length k76, .slice A77 t40.2.2.2.2.2.length k78] 253 :: Own ty28 [.slice A67 t40.1.length k68] t40.1 :: Own ty110 [.slice A69 t40.2.1.length k70] t40.2.1 :: Own ty251 [.slice A71 t40.2.2.1.length k72] t40.2.2.1 :: Own ty251 [.slice A73 t40.2.2.2.1.length k74] t40.2.2.2.1 :: Own ty251 [.slice A75 t40.2.2.2.2.1.length k76] t40.2.2.2.2.1 :: Own ty251 [.slice A77 t40.2.2.2.2.2.length k78] t40.2.2.2.2.2 :: RR) ∧ F = []) ?_ ?_
    · skip
      rintro t40 F w79 ⟨A67, k68, A69, k70, A71, k72, A73, k74, A75, k76, A77, k78, ho83, hS82, rfl⟩
      subst ho83
      rw [aft_inl] at hm
      unfold m_spec_l27All_j1 at hm
      refine WP.seq ?_
      refine WP.region ?_
      refine RW.run ttok 1 rfl ?_
      refine RW.nil ?_
      refine WP.ret ?_
      cases hm
      exact ⟨_, .cons (.tmp rfl) .nil, A67, k68, A69, k70, A71, k72, A73, k74, A75, k76, A77, k78, rfl, hS82⟩
    · skip
      refine WP.block ?_
      refine WP.weak [(0, .pointer (some p0_)), (1, .pointer (some ⟨g1_, 0, none⟩)), (5, .int .i64 0)] ⟨rfl, rfl, rfl, trivial⟩ ?_
      refine WP.iter (fun (s39 : Int × (List D.Agent) × (List D.Port) × (List (List Int)) × (List (List Int)) × (List (List Int)) × (List (List Int))) F w9 => ∃ A54 k55 A56 k57 A58 k59 A60 k61 A62 k63 A65 k66, St W w9 (Box g1_ [.slice A54 s39.2.1.length k55, .slice A56 s39.2.2.1.length k57, .slice A58 s39.2.2.2.1.length k59, .slice A60 s39.2.2.2.2.1.length k61, .slice A62 s39.2.2.2.2.2.1.length k63, .slice A65 s39.2.2.2.2.2.2.length k66] 253 :: Own ty28 [.slice A54 s39.2.1.length k55] s39.2.1 :: Own ty110 [.slice A56 s39.2.2.1.length k57] s39.2.2.1 :: Own ty251 [.slice A58 s39.2.2.2.1.length k59] s39.2.2.2.1 :: Own ty251 [.slice A60 s39.2.2.2.2.1.length k61] s39.2.2.2.2.1 :: Own ty251 [.slice A62 s39.2.2.2.2.2.1.length k63] s39.2.2.2.2.2.1 :: Own ty251 [.slice A65 s39.2.2.2.2.2.2.length k66] s39.2.2.2.2.2.2 :: RR) ∧ F = [(0, .pointer (some p0_)), (1, .pointer (some ⟨g1_, 0, none⟩)), (5, .int .i64 s39.1)]) _ hl81 ⟨A26, k27, A28, k29, A30, k31, A32, k33, A34, k35, A36, k37, hS38, rfl⟩ ?_
      rintro s39 F w88 _ o86 ⟨A54, k55, A56, k57, A58, k59, A60, k61, A62, k63, A65, k66, hS87, rfl⟩ hb84 ho85
      unfold m_spec_l27All_b1 at hb84
      refine WP.seq ?_
      refine WP.seq ?_
      refine WP.region ?_
      refine RW.run ttok 4 rfl ?_
      refine RW.load1 ttok rfl rfl rfl rfl rfl (At.ext hS87.ext g0_) 0 rfl rfl rfl rfl ?_
      refine RW.run ttok 2 rfl ?_
      refine RW.nil ?_
      refine WP.cond (decide (s39.1 < (x0.Shards.length : Int))) rfl (fun hc => ?_) (fun hc => ?_)
      · skip
        rw [if_pos hc] at hb84
        refine WP.skip ?_
        refine WP.seq ?_
        refine WP.block ?_
        refine WP.seq ?_
        refine WP.region ?_
        refine RW.run ttok 3 rfl ?_
        refine RW.load1 ttok rfl rfl rfl rfl rfl (At.ext hS87.ext g0_) 0 rfl rfl rfl rfl ?_
        refine RW.run ttok 1 rfl ?_
        obtain ⟨x89, hx90, hb84⟩ := bind_some hb84
        refine RW.idx ttok hS87.ext rfl rfl rfl rfl rfl rfl (by decide) rfl rfl h3 (idx_some hx90).1 (idx_some hx90).2 rfl rfl (fun p91 es92 ha93 hr94 => ?_)
        obtain ⟨A95, k96, A98, k99, A101, k102, e104, h97, h100, h103⟩ := ty200_open hr94; subst e104
        refine RW.run ttok 1 rfl ?_
        refine RW.nil ?_
        refine WP.seq ?_
        refine WP.seq ?_
        refine WP.region ?_
        refine RW.run ttok 1 rfl ?_
        refine RW.nil ?_
        obtain ⟨o145, hl146, hb84⟩ := bind_some hb84
        refine WP.cut (fun (t106 : (List D.Agent) × (List D.Port) × (List (List Int)) × (List (List Int)) × (List (List Int)) × (List (List Int))) F w9 => ∃ A132 k133 A134 k135 A136 k137 A138 k139 A140 k141 A142 k143, o145 = .inl t106 ∧ St W w9 (Box g1_ [.slice A132 t106.1.length k133, .slice A134 t106.2.1.length k135, .slice A136 t106.2.2.1.length k137, .slice A138 t106.2.2.2.1.length k139, .slice A140 t106.2.2.2.2.1.length k141, .slice A142 t106.2.2.2.2.2.length k143] 253 :: Own ty28 [.slice A132 t106.1.length k133] t106.1 :: Own ty110 [.slice A134 t106.2.1.length k135] t106.2.1 :: Own ty251 [.slice A136 t106.2.2.1.length k137] t106.2.2.1 :: Own ty251 [.slice A138 t106.2.2.2.1.length k139] t106.2.2.2.1 :: Own ty251 [.slice A140 t106.2.2.2.2.1.length k141] t106.2.2.2.2.1 :: Own ty251 [.slice A142 t106.2.2.2.2.2.length k143] t106.2.2.2.2.2 :: RR) ∧ F = [(0, .pointer (some p0_)), (1, .pointer (some ⟨g1_, 0, none⟩)), (5, .int .i64 s39.1), (6, .pointer (some p91))]) ?_ ?_
        · skip
          rintro t106 F w144 ⟨A132, k133, A134, k135, A136, k137, A138, k139, A140, k141, A142, k143, ho148, hS147, rfl⟩
          subst ho148
          rw [aft_inl] at hb84
          unfold m_spec_l27All_j2 at hb84
          refine WP.seq ?_
          refine WP.seq ?_
          refine WP.region ?_
          refine RW.run ttok 1 rfl ?_
          refine RW.nil ?_
          obtain ⟨o189, hl190, hb84⟩ := bind_some hb84
          refine WP.cut (fun (t150 : (List D.Agent) × (List D.Port) × (List (List Int)) × (List (List Int)) × (List (List Int)) × (List (List Int))) F w9 => ∃ A176 k177 A178 k179 A180 k181 A182 k183 A184 k185 A186 k187, o189 = .inl t150 ∧ St W w9 (Box g1_ [.slice A176 t150.1.length k177, .slice A178 t150.2.1.length k179, .slice A180 t150.2.2.1.length k181, .slice A182 t150.2.2.2.1.length k183, .slice A184 t150.2.2.2.2.1.length k185, .slice A186 t150.2.2.2.2.2.length k187] 253 :: Own ty28 [.slice A176 t150.1.length k177] t150.1 :: Own ty110 [.slice A178 t150.2.1.length k179] t150.2.1 :: Own ty251 [.slice A180 t150.2.2.1.length k181] t150.2.2.1 :: Own ty251 [.slice A182 t150.2.2.2.1.length k183] t150.2.2.2.1 :: Own ty251 [.slice A184 t150.2.2.2.2.1.length k185] t150.2.2.2.2.1 :: Own ty251 [.slice A186 t150.2.2.2.2.2.length k187] t150.2.2.2.2.2 :: RR) ∧ F = [(0, .pointer (some p0_)), (1, .pointer (some ⟨g1_, 0, none⟩)), (5, .int .i64 s39.1), (6, .pointer (some p91))]) ?_ ?_
          · skip
            rintro t150 F w188 ⟨A176, k177, A178, k179, A180, k181, A182, k183, A184, k185, A186, k187, ho192, hS191, rfl⟩
            subst ho192
            rw [aft_inl] at hb84
            unfold m_spec_l27All_j3 at hb84
            refine WP.seq ?_
            refine WP.region ?_
            refine RW.run ttok 1 rfl ?_
            refine RW.nil ?_
            obtain ⟨o233, hl234, hb84⟩ := bind_some hb84
            refine WP.cut (fun (t194 : (List D.Agent) × (List D.Port) × (List (List Int)) × (List (List Int)) × (List (List Int)) × (List (List Int))) F w9 => ∃ A220 k221 A222 k223 A224 k225 A226 k227 A228 k229 A230 k231, o233 = .inl t194 ∧ St W w9 (Box g1_ [.slice A220 t194.1.length k221, .slice A222 t194.2.1.length k223, .slice A224 t194.2.2.1.length k225, .slice A226 t194.2.2.2.1.length k227, .slice A228 t194.2.2.2.2.1.length k229, .slice A230 t194.2.2.2.2.2.length k231] 253 :: Own ty28 [.slice A220 t194.1.length k221] t194.1 :: Own ty110 [.slice A222 t194.2.1.length k223] t194.2.1 :: Own ty251 [.slice A224 t194.2.2.1.length k225] t194.2.2.1 :: Own ty251 [.slice A226 t194.2.2.2.1.length k227] t194.2.2.2.1 :: Own ty251 [.slice A228 t194.2.2.2.2.1.length k229] t194.2.2.2.2.1 :: Own ty251 [.slice A230 t194.2.2.2.2.2.length k231] t194.2.2.2.2.2 :: RR) ∧ F = [(0, .pointer (some p0_)), (1, .pointer (some ⟨g1_, 0, none⟩)), (5, .int .i64 s39.1)]) ?_ ?_
            · skip
              rintro t194 F w232 ⟨A220, k221, A222, k223, A224, k225, A226, k227, A228, k229, A230, k231, ho236, hS235, rfl⟩
              subst ho236
              rw [aft_inl] at hb84
              unfold m_spec_l27All_j4 at hb84
              refine WP.region ?_
              refine RW.run ttok 3 rfl ?_
              refine RW.nil ?_
              cases hb84
              exact ⟨_, [(0, .pointer (some p0_)), (1, .pointer (some ⟨g1_, 0, none⟩)), (5, .int .i64 (w64 (s39.1 + 1)))], ⟨rfl, rfl, rfl, trivial⟩, rfl, A220, k221, A222, k223, A224, k225, A226, k227, A228, k229, A230, k231, hS235, rfl⟩
            · skip
              refine WP.block ?_
              refine WP.weak [(0, .pointer (some p0_)), (1, .pointer (some ⟨g1_, 0, none⟩)), (5, .int .i64 s39.1), (6, .pointer (some p91)), (9, .int .i64 0)] ⟨rfl, rfl, rfl, rfl, rfl, trivial⟩ ?_
              refine WP.iter (fun (s193 : Int × (List D.Agent) × (List D.Port) × (List (List Int)) × (List (List Int)) × (List (List Int)) × (List (List Int))) F w9 => ∃ A208 k209 A210 k211 A212 k213 A214 k215 A216 k217 A218 k219, St W w9 (Box g1_ [.slice A208 s193.2.1.length k209, .slice A210 s193.2.2.1.length k211, .slice A212 s193.2.2.2.1.length k213, .slice A214 s193.2.2.2.2.1.length k215, .slice A216 s193.2.2.2.2.2.1.length k217, .slice A218 s193.2.2.2.2.2.2.length k219] 253 :: Own ty28 [.slice A208 s193.2.1.length k209] s193.2.1 :: Own ty110 [.slice A210 s193.2.2.1.length k211] s193.2.2.1 :: Own ty251 [.slice A212 s193.2.2.2.1.length k213] s193.2.2.2.1 :: Own ty251 [.slice A214 s193.2.2.2.2.1.length k215] s193.2.2.2.2.1 :: Own ty251 [.slice A216 s193.2.2.2.2.2.1.length k217] s193.2.2.2.2.2.1 :: Own ty251 [.slice A218 s193.2.2.2.2.2.2.length k219] s193.2.2.2.2.2.2 :: RR) ∧ F = [(0, .pointer (some p0_)), (1, .pointer (some ⟨g1_, 0, none⟩)), (5, .int .i64 s39.1), (6, .pointer (some p91)), (9, .int .i64 s193.1)]) _ hl234 ⟨A176, k177, A178, k179, A180, k181, A182, k183, A184, k185, A186, k187, hS191, rfl⟩ ?_
              rintro s193 F w241 _ o239 ⟨A208, k209, A210, k211, A212, k213, A214, k215, A216, k217, A218, k219, hS240, rfl⟩ hb237 ho238
              unfold m_spec_l27All_b4 at hb237
              refine WP.seq ?_
              refine WP.seq ?_
              refine WP.region ?_
              refine RW.run ttok 4 rfl ?_
              refine RW.load1 ttok rfl rfl rfl rfl rfl (At.ext hS240.ext ha93) 1 rfl rfl rfl rfl ?_
              refine RW.run ttok 2 rfl ?_
              refine RW.nil ?_
              refine WP.cond (decide (s193.1 < (x89.Vars.length : Int))) rfl (fun hc => ?_) (fun hc => ?_)
              · skip
                rw [if_pos hc] at hb237
                refine WP.skip ?_
                refine WP.seq ?_
                refine WP.block ?_
                refine WP.seq ?_
                refine WP.cut (fun (t242 : Bool × (List D.Agent) × (List D.Port) × (List (List Int)) × (List (List Int)) × (List (List Int)) × (List (List Int))) F w9 => ∃ A243 k244 A245 k246 A247 k248 A249 k250 A251 k252 A253 k254, m_spec_l27All_j5 fuel s193 t242 = some o239 ∧ St W w9 (Box g1_ [.slice A243 t242.2.1.length k244, .slice A245 t242.2.2.1.length k246, .slice A247 t242.2.2.2.1.length k248, .slice A249 t242.2.2.2.2.1.length k250, .slice A251 t242.2.2.2.2.2.1.length k252, .slice A253 t242.2.2.2.2.2.2.length k254] 253 :: Own ty28 [.slice A243 t242.2.1.length k244] t242.2.1 :: Own ty110 [.slice A245 t242.2.2.1.length k246] t242.2.2.1 :: Own ty251 [.slice A247 t242.2.2.2.1.length k248] t242.2.2.2.1 :: Own ty251 [.slice A249 t242.2.2.2.2.1.length k250] t242.2.2.2.2.1 :: Own ty251 [.slice A251 t242.2.2.2.2.2.1.length k252] t242.2.2.2.2.2.1 :: Own ty251 [.slice A253 t242.2.2.2.2.2.2.length k254] t242.2.2.2.2.2.2 :: RR) ∧ F = [(0, .pointer (some p0_)), (1, .pointer (some ⟨g1_, 0, none⟩)), (5, .int .i64 s39.1), (6, .pointer (some p91)), (9, .int .i64 s193.1), (131, .bool t242.1)]) ?_ ?_
                · skip
                  rintro t242 F w256 ⟨A243, k244, A245, k246, A247, k248, A249, k250, A251, k252, A253, k254, hb237, hS255, rfl⟩
                  unfold m_spec_l27All_j5 at hb237
                  refine WP.cond t242.1 rfl (fun hc => ?_) (fun hc => ?_)
                  · skip
                    rw [if_pos hc] at hb237
                    refine WP.seq ?_
                    refine WP.region ?_
                    refine RW.run ttok 1 rfl ?_
                    refine RW.nil ?_
                    refine WP.ret ?_
                    cases hb237
                    cases ho238
                    have hb84 : some _ = some _ := hb84
                    cases hb84
                    cases ho85
                    have hm : some _ = some _ := hm
                    cases hm
                    exact ⟨_, .cons (.tmp rfl) .nil, A243, k244, A245, k246, A247, k248, A249, k250, A251, k252, A253, k254, rfl, hS255⟩
                  · skip
                    rw [if_neg (not_t hc)] at hb237
                    refine WP.skip ?_
                    refine WP.region ?_
                    refine RW.run ttok 3 rfl ?_
                    refine RW.nil ?_
                    cases hb237
                    exact ⟨_, [(0, .pointer (some p0_)), (1, .pointer (some ⟨g1_, 0, none⟩)), (5, .int .i64 s39.1), (6, .pointer (some p91)), (9, .int .i64 (w64 (s193.1 + 1)))], ⟨rfl, rfl, rfl, rfl, rfl, trivial⟩, rfl, A243, k244, A245, k246, A247, k248, A249, k250, A251, k252, A253, k254, hS255, rfl⟩
                · skip
                  refine WP.region ?_
                  refine RW.run ttok 3 rfl ?_
                  refine RW.load1 ttok rfl rfl rfl rfl rfl (At.ext hS240.ext ha93) 1 rfl rfl rfl rfl ?_
                  refine RW.run ttok 1 rfl ?_
                  obtain ⟨x258, hx259, hb237⟩ := bind_some hb237
                  refine RW.idx ttok hS240.ext rfl rfl rfl rfl rfl rfl (by decide) rfl rfl h100 (idx_some hx259).1 (idx_some hx259).2 rfl rfl (fun p260 es261 ha262 hr263 => ?_)
                  have e264 := ty250_open hr263; subst e264
                  refine RW.run ttok 1 rfl ?_
                  refine RW.load1 ttok rfl rfl rfl rfl rfl (At.ext hS240.ext ha262) 1 rfl rfl rfl rfl ?_
                  refine RW.run ttok 1 rfl ?_
                  by_cases hg265 : x258.Full = true
                  · skip
                    rw [if_pos hg265] at hb237
                    refine RW.know 115 rfl (congrArg Value.bool hg265) ?_
                    refine RW.run ttok 4 rfl ?_
                    refine RW.quiet rfl (Quiet.build ttok rfl rfl rfl rfl rfl) rfl rfl ?_
                    refine RW.run ttok 3 rfl ?_
                    refine RW.load1 ttok rfl rfl rfl rfl rfl (At.ext hS240.ext ha93) 1 rfl rfl rfl rfl ?_
                    refine RW.run ttok 1 rfl ?_
                    obtain ⟨x266, hx267, hb237⟩ := bind_some hb237
                    refine RW.idx ttok hS240.ext rfl rfl rfl rfl rfl rfl (by decide) rfl rfl h100 (idx_some hx267).1 (idx_some hx267).2 rfl rfl (fun p268 es269 ha270 hr271 => ?_)
                    have e272 := ty250_open hr271; subst e272
                    refine RW.run ttok 1 rfl ?_
                    refine RW.loadN ttok rfl rfl rfl rfl rfl (At.sub (At.ext hS240.ext ha270) 2 3) rfl rfl rfl ?_
                    obtain ⟨r273, hx274, hb237⟩ := bind_some hb237
                    refine RW.call rfl rfl rfl enters192 (spec_l27Links_pair_ok (W := W) (RR := _) (x0 := (⟨s193.2.1, s193.2.2.1, s193.2.2.2.1, s193.2.2.2.2.1, s193.2.2.2.2.2.1, s193.2.2.2.2.2.2⟩ : D.l27Links)) (x1 := x0) (x2 := (⟨s39.1, 2, s193.1⟩ : D.Address)) (x3 := x266.Held) hS240 h0_ g0_ (ty62_shut (⟨s39.1, 2, s193.1⟩ : D.Address)) (ty62_shut x266.Held) hx274) (fun v275 w276 hR277 => ?_)
                    obtain ⟨A278, k279, A280, k281, A282, k283, A284, k285, A286, k287, A288, k289, rfl, hS290⟩ := hR277
                    refine RW.run ttok 2 rfl ?_
                    refine RW.nil ?_
                    exact ⟨(!r273.1, r273.2.agents, r273.2.ports, r273.2.cells, r273.2.vars, r273.2.ends, r273.2.pairs), [(0, .pointer (some p0_)), (1, .pointer (some ⟨g1_, 0, none⟩)), (5, .int .i64 s39.1), (6, .pointer (some p91)), (9, .int .i64 s193.1), (131, .bool (!r273.1))], ⟨rfl, rfl, rfl, rfl, rfl, rfl, trivial⟩, A278, k279, A280, k281, A282, k283, A284, k285, A286, k287, A288, k289, hb237, hS290, rfl⟩
                  · skip
                    rw [if_neg hg265] at hb237
                    refine RW.know 115 rfl (congrArg Value.bool (Bool.eq_false_iff.2 hg265)) ?_
                    refine RW.run ttok 16 rfl ?_
                    refine RW.nil ?_
                    exact ⟨(false, s193.2.1, s193.2.2.1, s193.2.2.2.1, s193.2.2.2.2.1, s193.2.2.2.2.2.1, s193.2.2.2.2.2.2), [(0, .pointer (some p0_)), (1, .pointer (some ⟨g1_, 0, none⟩)), (5, .int .i64 s39.1), (6, .pointer (some p91)), (9, .int .i64 s193.1), (131, .bool false)], ⟨rfl, rfl, rfl, rfl, rfl, rfl, trivial⟩, A208, k209, A210, k211, A212, k213, A214, k215, A216, k217, A218, k219, hb237, hS240, rfl⟩
              · skip
                rw [if_neg (not_t hc)] at hb237
                refine WP.exit ?_
                cases hb237
                exact ⟨_, [(0, .pointer (some p0_)), (1, .pointer (some ⟨g1_, 0, none⟩)), (5, .int .i64 s39.1)], ⟨rfl, rfl, rfl, trivial⟩, A208, k209, A210, k211, A212, k213, A214, k215, A216, k217, A218, k219, ho238, hS240, rfl⟩
          · skip
            refine WP.block ?_
            refine WP.weak [(0, .pointer (some p0_)), (1, .pointer (some ⟨g1_, 0, none⟩)), (5, .int .i64 s39.1), (6, .pointer (some p91)), (8, .int .i64 0)] ⟨rfl, rfl, rfl, rfl, rfl, trivial⟩ ?_
            refine WP.iter (fun (s149 : Int × (List D.Agent) × (List D.Port) × (List (List Int)) × (List (List Int)) × (List (List Int)) × (List (List Int))) F w9 => ∃ A164 k165 A166 k167 A168 k169 A170 k171 A172 k173 A174 k175, St W w9 (Box g1_ [.slice A164 s149.2.1.length k165, .slice A166 s149.2.2.1.length k167, .slice A168 s149.2.2.2.1.length k169, .slice A170 s149.2.2.2.2.1.length k171, .slice A172 s149.2.2.2.2.2.1.length k173, .slice A174 s149.2.2.2.2.2.2.length k175] 253 :: Own ty28 [.slice A164 s149.2.1.length k165] s149.2.1 :: Own ty110 [.slice A166 s149.2.2.1.length k167] s149.2.2.1 :: Own ty251 [.slice A168 s149.2.2.2.1.length k169] s149.2.2.2.1 :: Own ty251 [.slice A170 s149.2.2.2.2.1.length k171] s149.2.2.2.2.1 :: Own ty251 [.slice A172 s149.2.2.2.2.2.1.length k173] s149.2.2.2.2.2.1 :: Own ty251 [.slice A174 s149.2.2.2.2.2.2.length k175] s149.2.2.2.2.2.2 :: RR) ∧ F = [(0, .pointer (some p0_)), (1, .pointer (some ⟨g1_, 0, none⟩)), (5, .int .i64 s39.1), (6, .pointer (some p91)), (8, .int .i64 s149.1)]) _ hl190 ⟨A132, k133, A134, k135, A136, k137, A138, k139, A140, k141, A142, k143, hS147, rfl⟩ ?_
            rintro s149 F w295 _ o293 ⟨A164, k165, A166, k167, A168, k169, A170, k171, A172, k173, A174, k175, hS294, rfl⟩ hb291 ho292
            unfold m_spec_l27All_b3 at hb291
            refine WP.seq ?_
            refine WP.seq ?_
            refine WP.region ?_
            refine RW.run ttok 4 rfl ?_
            refine RW.load1 ttok rfl rfl rfl rfl rfl (At.ext hS294.ext ha93) 2 rfl rfl rfl rfl ?_
            refine RW.run ttok 2 rfl ?_
            refine RW.nil ?_
            refine WP.cond (decide (s149.1 < (x89.Redexes.length : Int))) rfl (fun hc => ?_) (fun hc => ?_)
            · skip
              rw [if_pos hc] at hb291
              refine WP.skip ?_
              refine WP.seq ?_
              refine WP.block ?_
              refine WP.seq ?_
              refine WP.drawnM 262144 mixed 20 (by kernel_rfl) (by kernel_rfl) [([], 1048575), ([], 1048575), ([], 1048575), ([2], 1048571), ([3], 1048567), ([4], 1048559), ([], 1048575), ([5, 6], 1048479), ([7], 1048447), ([8], 1048319), ([], 1048575), ([10], 1047551), ([11], 1046527), ([12], 1044479), ([], 1048575), ([13, 14], 1023999), ([15], 1015807), ([16], 983039), ([0, 1, 9, 17], 916988), ([18], 786431)] (by kernel_rfl) hS294.ext (fun hsk296 => ?_)
              have hS297 := hS294.step (Ext.draw _)
              refine DM.run (fuel := 10) ttok hsk296 [0, 1, 2, 3, 4, 6, 10, 11, 12, 14] 23647 (by kernel_rfl) (by kernel_rfl) rfl ?_
              refine DM.weak [(0, .pointer (some p0_)), (1, .pointer (some ⟨g1_, 0, none⟩)), (5, .int .i64 s39.1), (6, .pointer (some p91)), (8, .int .i64 s149.1), (78, .pointer (some ⟨g1_, 0, none⟩)), (79, .pointer (some p0_)), (82, .pointer (some (p91.add 2))), (84, .int .i64 s149.1), (90, .pointer (some (p91.add 2))), (92, .int .i64 s149.1)] ⟨rfl, rfl, rfl, rfl, rfl, rfl, rfl, rfl, rfl, rfl, rfl, trivial⟩ ?_
              refine DM.quietV hsk296 5 23679 (by kernel_rfl) (by kernel_rfl) rfl (by kernel_rfl) rfl (Quiet.load1 ttok rfl rfl rfl rfl ha93 2 rfl rfl) rfl rfl ?_
              obtain ⟨x298, hx299, hb291⟩ := bind_some hb291
              refine DM.idxV ttok (Ext.refl _) hsk296 7 23807 (by kernel_rfl) (by kernel_rfl) rfl (by kernel_rfl) rfl rfl rfl rfl rfl rfl (by decide) rfl rfl h103 (idx_some hx299).1 (idx_some hx299).2 rfl rfl (fun p300 es301 ha302 hr303 => ?_)
              have e304 := ty261_open hr303; subst e304
              refine DM.run (fuel := 7) ttok hsk296 [8] 24063 (by kernel_rfl) (by kernel_rfl) rfl ?_
              refine DM.loadN ttok hsk296 9 24575 (by kernel_rfl) (by kernel_rfl) (by kernel_rfl) (by kernel_rfl) rfl (by kernel_rfl) rfl rfl rfl rfl rfl (At.sub (At.ext hS294.ext ha302) 0 3) rfl rfl rfl ?_
              refine DM.quietV hsk296 13 32767 (by kernel_rfl) (by kernel_rfl) rfl (by kernel_rfl) rfl (Quiet.load1 ttok rfl rfl rfl rfl ha93 2 rfl rfl) rfl rfl ?_
              obtain ⟨x305, hx306, hb291⟩ := bind_some hb291
              refine DM.idxV ttok (Ext.refl _) hsk296 15 65535 (by kernel_rfl) (by kernel_rfl) rfl (by kernel_rfl) rfl rfl rfl rfl rfl rfl (by decide) rfl rfl h103 (idx_some hx306).1 (idx_some hx306).2 rfl rfl (fun p307 es308 ha309 hr310 => ?_)
              have e311 := ty261_open hr310; subst e311
              refine DM.run (fuel := 3) ttok hsk296 [16] 131071 (by kernel_rfl) (by kernel_rfl) rfl ?_
              refine DM.weak [(0, .pointer (some p0_)), (1, .pointer (some ⟨g1_, 0, none⟩)), (5, .int .i64 s39.1), (6, .pointer (some p91)), (8, .int .i64 s149.1), (78, .pointer (some ⟨g1_, 0, none⟩)), (79, .pointer (some p0_)), (87, .agg ⟨[.int .i64 x298.A.Machine, .int .i64 x298.A.Kind, .int .i64 x298.A.Index]⟩), (94, .pointer (some (p307.add 3)))] ⟨rfl, rfl, rfl, rfl, rfl, rfl, rfl, rfl, rfl, trivial⟩ ?_
              refine DM.loadN ttok hsk296 17 262143 (by kernel_rfl) (by kernel_rfl) (by kernel_rfl) (by kernel_rfl) rfl (by kernel_rfl) rfl rfl rfl rfl rfl (At.sub (At.ext hS294.ext ha309) 3 3) rfl rfl rfl ?_
              obtain ⟨r312, hx313, hb291⟩ := bind_some hb291
              refine DM.one hsk296 18 (by kernel_rfl) (LM.callW hsk296 524287 (by kernel_rfl) (by kernel_rfl) rfl rfl rfl rfl enters192 (spec_l27Links_pair_ok (W := W) (RR := _) (x0 := (⟨s149.2.1, s149.2.2.1, s149.2.2.2.1, s149.2.2.2.2.1, s149.2.2.2.2.2.1, s149.2.2.2.2.2.2⟩ : D.l27Links)) (x1 := x0) (x2 := x298.A) (x3 := x305.B) hS297 h0_ g0_ (ty62_shut x298.A) (ty62_shut x305.B) hx313) (fun v314 w315 hR316 => ?_))
              obtain ⟨A317, k318, A319, k320, A321, k322, A323, k324, A325, k326, A327, k328, rfl, hS329⟩ := hR316
              refine ⟨hS329.ext, ?_⟩
              refine DM.run (fuel := 0) ttok hsk296 [19] 1048575 (by kernel_rfl) (by kernel_rfl) rfl ?_
              refine DM.weak [(0, .pointer (some p0_)), (1, .pointer (some ⟨g1_, 0, none⟩)), (5, .int .i64 s39.1), (6, .pointer (some p91)), (8, .int .i64 s149.1), (97, .bool (!r312.1))] ⟨rfl, rfl, rfl, rfl, rfl, rfl, trivial⟩ ?_
              refine DM.done hsk296 (by kernel_rfl) ?_
              refine WP.cond (!r312.1) rfl (fun hc => ?_) (fun hc => ?_)
              · skip
                rw [if_pos hc] at hb291
                refine WP.seq ?_
                refine WP.region ?_
                refine RW.run ttok 1 rfl ?_
                refine RW.nil ?_
                refine WP.ret ?_
                cases hb291
                cases ho292
                have hb84 : some _ = some _ := hb84
                cases hb84
                cases ho85
                have hm : some _ = some _ := hm
                cases hm
                exact ⟨_, .cons (.tmp rfl) .nil, A317, k318, A319, k320, A321, k322, A323, k324, A325, k326, A327, k328, rfl, hS329⟩
              · skip
                rw [if_neg (not_t hc)] at hb291
                refine WP.skip ?_
                refine WP.region ?_
                refine RW.run ttok 3 rfl ?_
                refine RW.nil ?_
                cases hb291
                exact ⟨_, [(0, .pointer (some p0_)), (1, .pointer (some ⟨g1_, 0, none⟩)), (5, .int .i64 s39.1), (6, .pointer (some p91)), (8, .int .i64 (w64 (s149.1 + 1)))], ⟨rfl, rfl, rfl, rfl, rfl, trivial⟩, rfl, A317, k318, A319, k320, A321, k322, A323, k324, A325, k326, A327, k328, hS329, rfl⟩
            · skip
              rw [if_neg (not_t hc)] at hb291
              refine WP.exit ?_
              cases hb291
              exact ⟨_, [(0, .pointer (some p0_)), (1, .pointer (some ⟨g1_, 0, none⟩)), (5, .int .i64 s39.1), (6, .pointer (some p91))], ⟨rfl, rfl, rfl, rfl, trivial⟩, A164, k165, A166, k167, A168, k169, A170, k171, A172, k173, A174, k175, ho292, hS294, rfl⟩
        · skip
          refine WP.block ?_
          refine WP.weak [(0, .pointer (some p0_)), (1, .pointer (some ⟨g1_, 0, none⟩)), (5, .int .i64 s39.1), (6, .pointer (some p91)), (7, .int .i64 0)] ⟨rfl, rfl, rfl, rfl, rfl, trivial⟩ ?_
          refine WP.iter (fun (s105 : Int × (List D.Agent) × (List D.Port) × (List (List Int)) × (List (List Int)) × (List (List Int)) × (List (List Int))) F w9 => ∃ A120 k121 A122 k123 A124 k125 A126 k127 A128 k129 A130 k131, St W w9 (Box g1_ [.slice A120 s105.2.1.length k121, .slice A122 s105.2.2.1.length k123, .slice A124 s105.2.2.2.1.length k125, .slice A126 s105.2.2.2.2.1.length k127, .slice A128 s105.2.2.2.2.2.1.length k129, .slice A130 s105.2.2.2.2.2.2.length k131] 253 :: Own ty28 [.slice A120 s105.2.1.length k121] s105.2.1 :: Own ty110 [.slice A122 s105.2.2.1.length k123] s105.2.2.1 :: Own ty251 [.slice A124 s105.2.2.2.1.length k125] s105.2.2.2.1 :: Own ty251 [.slice A126 s105.2.2.2.2.1.length k127] s105.2.2.2.2.1 :: Own ty251 [.slice A128 s105.2.2.2.2.2.1.length k129] s105.2.2.2.2.2.1 :: Own ty251 [.slice A130 s105.2.2.2.2.2.2.length k131] s105.2.2.2.2.2.2 :: RR) ∧ F = [(0, .pointer (some p0_)), (1, .pointer (some ⟨g1_, 0, none⟩)), (5, .int .i64 s39.1), (6, .pointer (some p91)), (7, .int .i64 s105.1)]) _ hl146 ⟨A54, k55, A56, k57, A58, k59, A60, k61, A62, k63, A65, k66, hS87, rfl⟩ ?_
          rintro s105 F w334 _ o332 ⟨A120, k121, A122, k123, A124, k125, A126, k127, A128, k129, A130, k131, hS333, rfl⟩ hb330 ho331
          unfold m_spec_l27All_b2 at hb330
          refine WP.seq ?_
          refine WP.seq ?_
          refine WP.region ?_
          refine RW.run ttok 4 rfl ?_
          refine RW.load1 ttok rfl rfl rfl rfl rfl (At.ext hS333.ext ha93) 0 rfl rfl rfl rfl ?_
          refine RW.run ttok 2 rfl ?_
          refine RW.nil ?_
          refine WP.cond (decide (s105.1 < (x89.Cells.length : Int))) rfl (fun hc => ?_) (fun hc => ?_)
          · skip
            rw [if_pos hc] at hb330
            refine WP.skip ?_
            refine WP.seq ?_
            refine WP.block ?_
            refine WP.seq ?_
            refine WP.drawnM 262144 mixed 20 (by kernel_rfl) (by kernel_rfl) [([], 1048575), ([], 1048575), ([], 1048575), ([2], 1048571), ([3], 1048567), ([4], 1048559), ([], 1048575), ([5, 6], 1048479), ([], 1048575), ([8], 1048319), ([9], 1048063), ([10], 1047551), ([], 1048575), ([11, 12], 1042431), ([13], 1040383), ([], 1048575), ([14, 15], 999423), ([16], 983039), ([0, 1, 7, 17], 917372), ([18], 786431)] (by kernel_rfl) hS333.ext (fun hsk335 => ?_)
            have hS336 := hS333.step (Ext.draw _)
            refine DM.run (fuel := 9) ttok hsk335 [0, 1, 2, 3, 4, 6, 8, 9, 10, 12, 15] 38751 (by kernel_rfl) (by kernel_rfl) rfl ?_
            refine DM.weak [(0, .pointer (some p0_)), (1, .pointer (some ⟨g1_, 0, none⟩)), (5, .int .i64 s39.1), (6, .pointer (some p91)), (7, .int .i64 s105.1), (49, .pointer (some ⟨g1_, 0, none⟩)), (50, .pointer (some p0_)), (53, .pointer (some p91)), (55, .int .i64 s105.1), (59, .pointer (some ⟨g1_, 2, none⟩)), (61, .int .i64 s39.1), (64, .int .i64 s105.1)] ⟨rfl, rfl, rfl, rfl, rfl, rfl, rfl, rfl, rfl, rfl, rfl, rfl, trivial⟩ ?_
            refine DM.quietV hsk335 5 38783 (by kernel_rfl) (by kernel_rfl) rfl (by kernel_rfl) rfl (Quiet.load1 ttok rfl rfl rfl rfl ha93 0 rfl rfl) rfl rfl ?_
            obtain ⟨x337, hx338, hb330⟩ := bind_some hb330
            refine DM.idx ttok hS333.ext hsk335 7 38911 (by kernel_rfl) (by kernel_rfl) (by kernel_rfl) (by kernel_rfl) rfl (by kernel_rfl) rfl rfl rfl rfl rfl rfl (by decide) rfl rfl h97 (idx_some hx338).1 (idx_some hx338).2 rfl rfl (fun p339 es340 ha341 hr342 => ?_)
            obtain ⟨A343, k344, A346, k347, e349, h345, h348⟩ := ty248_open hr342; subst e349
            refine DM.one hsk335 11 (by kernel_rfl) (LM.quietL hsk335 40959 (by kernel_rfl) (by kernel_rfl) rfl rfl (Quiet.load1 ttok rfl rfl rfl rfl ((hS336.bring 0 rfl).box) 2 rfl rfl) rfl rfl ?_)
            obtain ⟨x350, hx351, hb330⟩ := bind_some hb330
            refine DM.one hsk335 13 (by kernel_rfl) (LM.idxL ttok (Ext.refl _) hsk335 49151 (by kernel_rfl) (by kernel_rfl) rfl rfl rfl rfl rfl rfl rfl (by decide) rfl rfl ((hS336.bring 3 rfl).own) (idx_some hx351).1 (idx_some hx351).2 rfl rfl (fun p352 es353 ha354 hr355 => ?_))
            obtain ⟨A356, k357, e358⟩ := ty103_form hr355; subst e358
            refine DM.one hsk335 14 (by kernel_rfl) (LM.quietL hsk335 65535 (by kernel_rfl) (by kernel_rfl) rfl rfl (Quiet.load1 ttok rfl rfl rfl rfl ha354 0 rfl rfl) rfl rfl ?_)
            obtain ⟨x359, hx360, hb330⟩ := bind_some hb330
            refine DM.one hsk335 16 (by kernel_rfl) (LM.idxL ttok (Ext.refl _) hsk335 131071 (by kernel_rfl) (by kernel_rfl) rfl rfl rfl rfl rfl rfl rfl (by decide) rfl rfl hr355 (idx_some hx360).1 (idx_some hx360).2 rfl rfl (fun p361 es362 ha363 hr364 => ?_))
            cases hr364
            refine DM.load1 ttok hsk335 17 262143 (by kernel_rfl) (by kernel_rfl) (by kernel_rfl) (by kernel_rfl) rfl (by kernel_rfl) rfl rfl rfl rfl rfl ha363 0 rfl rfl rfl rfl ?_
            obtain ⟨r365, hx366, hb330⟩ := bind_some hb330
            refine DM.one hsk335 18 (by kernel_rfl) (LM.callW hsk335 524287 (by kernel_rfl) (by kernel_rfl) rfl rfl rfl rfl enters191 (spec_l27Links_aux_ok (W := W) (RR := _) (x0 := (⟨s105.2.1, s105.2.2.1, s105.2.2.2.1, s105.2.2.2.2.1, s105.2.2.2.2.2.1, s105.2.2.2.2.2.2⟩ : D.l27Links)) (x1 := x0) (x2 := x337) (x3 := x359) hS336 h0_ g0_ hr342 ha341 hx366) (fun v367 w368 hR369 => ?_))
            obtain ⟨A370, k371, A372, k373, A374, k375, A376, k377, A378, k379, A380, k381, rfl, hS382⟩ := hR369
            refine ⟨hS382.ext, ?_⟩
            refine DM.run (fuel := 0) ttok hsk335 [19] 1048575 (by kernel_rfl) (by kernel_rfl) rfl ?_
            refine DM.weak [(0, .pointer (some p0_)), (1, .pointer (some ⟨g1_, 0, none⟩)), (5, .int .i64 s39.1), (6, .pointer (some p91)), (7, .int .i64 s105.1), (68, .bool (!r365.1))] ⟨rfl, rfl, rfl, rfl, rfl, rfl, trivial⟩ ?_
            refine DM.done hsk335 (by kernel_rfl) ?_
            refine WP.cond (!r365.1) rfl (fun hc => ?_) (fun hc => ?_)
            · skip
              rw [if_pos hc] at hb330
              refine WP.seq ?_
              refine WP.region ?_
              refine RW.run ttok 1 rfl ?_
              refine RW.nil ?_
              refine WP.ret ?_
              cases hb330
              cases ho331
              have hb84 : some _ = some _ := hb84
              cases hb84
              cases ho85
              have hm : some _ = some _ := hm
              cases hm
              exact ⟨_, .cons (.tmp rfl) .nil, A370, k371, A372, k373, A374, k375, A376, k377, A378, k379, A380, k381, rfl, hS382⟩
            · skip
              rw [if_neg (not_t hc)] at hb330
              refine WP.skip ?_
              refine WP.region ?_
              refine RW.run ttok 3 rfl ?_
              refine RW.nil ?_
              cases hb330
              exact ⟨_, [(0, .pointer (some p0_)), (1, .pointer (some ⟨g1_, 0, none⟩)), (5, .int .i64 s39.1), (6, .pointer (some p91)), (7, .int .i64 (w64 (s105.1 + 1)))], ⟨rfl, rfl, rfl, rfl, rfl, trivial⟩, rfl, A370, k371, A372, k373, A374, k375, A376, k377, A378, k379, A380, k381, hS382, rfl⟩
          · skip
            rw [if_neg (not_t hc)] at hb330
            refine WP.exit ?_
            cases hb330
            exact ⟨_, [(0, .pointer (some p0_)), (1, .pointer (some ⟨g1_, 0, none⟩)), (5, .int .i64 s39.1), (6, .pointer (some p91))], ⟨rfl, rfl, rfl, rfl, trivial⟩, A120, k121, A122, k123, A124, k125, A126, k127, A128, k129, A130, k131, ho331, hS333, rfl⟩
      · skip
        rw [if_neg (not_t hc)] at hb84
        refine WP.exit ?_
        cases hb84
        exact ⟨_, [], trivial, A54, k55, A56, k57, A58, k59, A60, k61, A62, k63, A65, k66, ho85, hS87, rfl⟩

theorem enters134 : Enters Try.prog 134 := ⟨_, _, Try.func134, rfl, by kernel_rfl⟩
def m_spec_l27Counts_j2 (fuel : Nat) (t38 : Unit) : Option Bool := some true
def m_spec_l27Counts_j3 (fuel : Nat) (s37 : Int) (t54 : Unit) : Option (Rd (Int) (Unit) (Bool)) := some (.next (w64 (s37 + 1)))
def m_spec_l27Counts_j4 (fuel : Nat) (s53 : Int) (t86 : Bool) : Option (Rd (Int) (Unit) (Rd (Int) (Unit) (Bool))) := (if t86 = true then some (.ret (.ret false)) else some (.next (w64 (s53 + 1))))
def m_spec_l27Counts_b3 (fuel : Nat) (x0 : D.Grid) (x1 : D.l27Links) (s37 : Int) (s53 : Int) : Option (Rd (Int) (Unit) (Rd (Int) (Unit) (Bool))) := ((idx x0.Shards s37).bind fun x70 => (if (decide (s53 < (x70.Vars.length : Int))) = true then ((idx x0.Shards s37).bind fun x93 => ((idx x93.Vars s53).bind fun x109 => (if x109.Used = true then ((idx x1.vars s37).bind fun x117 => ((idx x117 s53).bind fun x126 => ((idx x1.ends x126).bind fun x132 => m_spec_l27Counts_j4 fuel s53 ((x132.length : Int) != 2)))) else m_spec_l27Counts_j4 fuel s53 false))) else some (.brk ())))
def m_spec_l27Counts_b2 (fuel : Nat) (x0 : D.Grid) (x1 : D.l27Links) (s37 : Int) : Option (Rd (Int) (Unit) (Bool)) := (if (decide (s37 < (x0.Shards.length : Int))) = true then ((iter (m_spec_l27Counts_b3 fuel x0 x1 s37) fuel 0).bind fun o => aft o (m_spec_l27Counts_j3 fuel s37)) else some (.brk ()))
def m_spec_l27Counts_j1 (fuel : Nat) (x0 : D.Grid) (x1 : D.l27Links) (t27 : Unit) : Option Bool := ((iter (m_spec_l27Counts_b2 fuel x0 x1) fuel 0).bind fun o => aft o (m_spec_l27Counts_j2 fuel))
def m_spec_l27Counts_b1 (fuel : Nat) (x1 : D.l27Links) (s26 : Int) : Option (Rd (Int) (Unit) (Bool)) := (if (decide (s26 < (x1.ports.length : Int))) = true then ((idx x1.ends s26).bind fun x146 => (if ((x146.length : Int) != 1) = true then some (.ret false) else some (.next (w64 (s26 + 1))))) else some (.brk ()))
def m_spec_l27Counts (fuel : Nat) (x0 : D.Grid) (x1 : D.l27Links) : Option (Bool) := ((iter (m_spec_l27Counts_b1 fuel x1) fuel 0).bind fun o => aft o (m_spec_l27Counts_j1 fuel x0 x1))

set_option maxRecDepth 100000 in
theorem spec_l27Counts_ok {W w : World} (hE : Ext W w) {p0_ : Addr} {c0_ : List Value} {x0 : D.Grid} {p1_ : Addr} {c1_ : List Value} {x1 : D.l27Links} (h0_ : ty64.ro W c0_ x0) (g0_ : At W p0_ c0_) (h1_ : ty253.ro W c1_ x1) (g1_ : At W p1_ c1_) {fuel : Nat} {r : Bool} (hm : m_spec_l27Counts fuel x0 x1 = some r) :
    Calls Try.prog 134 ⟨[.pointer (some p0_), .pointer (some p1_)]⟩ w (Ret fun v w8 => v = .bool r ∧ St w w8 []) := by
  obtain ⟨A1, k2, e4, h3⟩ := ty64_open h0_; subst e4
  obtain ⟨A5, k6, A10, k11, A13, k14, A16, k17, A19, k20, A22, k23, e25, h7, h12, h15, h18, h21, h24⟩ := ty253_open h1_; subst e25
  refine Calls.into Try.func134 rfl 80 rfl rfl _ rfl ?_
  unfold m_spec_l27Counts at hm
  have hS := St.start w
  refine WP.seq ?_
  refine WP.region ?_
  refine RW.run ttok 1 rfl ?_
  refine RW.nil ?_
  refine WP.seq ?_
  refine WP.seq ?_
  refine WP.region ?_
  refine RW.run ttok 1 rfl ?_
  refine RW.nil ?_
  obtain ⟨o33, hl34, hm⟩ := bind_some hm
  refine WP.cut (fun (t27 : Unit) F w9 => o33 = .inl t27 ∧ Ext w w9 ∧ St w w9 [] ∧ F = [(0, .pointer (some p0_)), (1, .pointer (some p1_))]) ?_ ?_
  · skip
    rintro t27 F w32 ⟨ho36, hE31, hS35, rfl⟩
    subst ho36
    rw [aft_inl] at hm
    unfold m_spec_l27Counts_j1 at hm
    refine WP.seq ?_
    refine WP.seq ?_
    refine WP.region ?_
    refine RW.run ttok 1 rfl ?_
    refine RW.nil ?_
    obtain ⟨o44, hl45, hm⟩ := bind_some hm
    refine WP.cut (fun (t38 : Unit) F w9 => o44 = .inl t38 ∧ Ext w32 w9 ∧ St w w9 [] ∧ F = []) ?_ ?_
    · skip
      rintro t38 F w43 ⟨ho47, hE42, hS46, rfl⟩
      subst ho47
      rw [aft_inl] at hm
      unfold m_spec_l27Counts_j2 at hm
      refine WP.seq ?_
      refine WP.region ?_
      refine RW.run ttok 1 rfl ?_
      refine RW.nil ?_
      refine WP.ret ?_
      cases hm
      exact ⟨_, .cons (.tmp rfl) .nil, rfl, hS46⟩
    · skip
      refine WP.block ?_
      refine WP.weak [(0, .pointer (some p0_)), (1, .pointer (some p1_)), (6, .int .i64 0)] ⟨rfl, rfl, rfl, trivial⟩ ?_
      refine WP.iter (fun (s37 : Int) F w9 => Ext w32 w9 ∧ St w w9 [] ∧ F = [(0, .pointer (some p0_)), (1, .pointer (some p1_)), (6, .int .i64 s37)]) _ hl45 ⟨(Ext.refl _), hS35, rfl⟩ ?_
      rintro s37 F w52 _ o50 ⟨hE41, hS51, rfl⟩ hb48 ho49
      unfold m_spec_l27Counts_b2 at hb48
      refine WP.seq ?_
      refine WP.seq ?_
      refine WP.region ?_
      refine RW.run ttok 4 rfl ?_
      refine RW.load1 ttok rfl rfl rfl rfl rfl (At.ext (hE.trans hS51.ext) g0_) 0 rfl rfl rfl rfl ?_
      refine RW.run ttok 2 rfl ?_
      refine RW.nil ?_
      refine WP.cond (decide (s37 < (x0.Shards.length : Int))) rfl (fun hc => ?_) (fun hc => ?_)
      · skip
        rw [if_pos hc] at hb48
        refine WP.skip ?_
        refine WP.seq ?_
        refine WP.block ?_
        refine WP.seq ?_
        refine WP.region ?_
        refine RW.run ttok 1 rfl ?_
        refine RW.nil ?_
        obtain ⟨o60, hl61, hb48⟩ := bind_some hb48
        refine WP.cut (fun (t54 : Unit) F w9 => o60 = .inl t54 ∧ Ext w52 w9 ∧ St w w9 [] ∧ F = [(0, .pointer (some p0_)), (1, .pointer (some p1_)), (6, .int .i64 s37)]) ?_ ?_
        · skip
          rintro t54 F w59 ⟨ho63, hE58, hS62, rfl⟩
          subst ho63
          rw [aft_inl] at hb48
          unfold m_spec_l27Counts_j3 at hb48
          refine WP.region ?_
          refine RW.run ttok 3 rfl ?_
          refine RW.nil ?_
          cases hb48
          exact ⟨_, [(0, .pointer (some p0_)), (1, .pointer (some p1_)), (6, .int .i64 (w64 (s37 + 1)))], ⟨rfl, rfl, rfl, trivial⟩, rfl, (hE41.trans hE58), hS62, rfl⟩
        · skip
          refine WP.block ?_
          refine WP.weak [(0, .pointer (some p0_)), (1, .pointer (some p1_)), (6, .int .i64 s37), (7, .int .i64 0)] ⟨rfl, rfl, rfl, rfl, trivial⟩ ?_
          refine WP.iter (fun (s53 : Int) F w9 => Ext w52 w9 ∧ St w w9 [] ∧ F = [(0, .pointer (some p0_)), (1, .pointer (some p1_)), (6, .int .i64 s37), (7, .int .i64 s53)]) _ hl61 ⟨(Ext.refl _), hS51, rfl⟩ ?_
          rintro s53 F w69 _ o67 ⟨hE57, hS68, rfl⟩ hb65 ho66
          unfold m_spec_l27Counts_b3 at hb65
          refine WP.seq ?_
          refine WP.seq ?_
          refine WP.region ?_
          refine RW.run ttok 4 rfl ?_
          refine RW.load1 ttok rfl rfl rfl rfl rfl (At.ext (hE.trans hS68.ext) g0_) 0 rfl rfl rfl rfl ?_
          refine RW.run ttok 1 rfl ?_
          obtain ⟨x70, hx71, hb65⟩ := bind_some hb65
          refine RW.idx ttok (hE.trans hS68.ext) rfl rfl rfl rfl rfl rfl (by decide) rfl rfl h3 (idx_some hx71).1 (idx_some hx71).2 rfl rfl (fun p72 es73 ha74 hr75 => ?_)
          obtain ⟨A76, k77, A79, k80, A82, k83, e85, h78, h81, h84⟩ := ty200_open hr75; subst e85
          refine RW.run ttok 1 rfl ?_
          refine RW.load1 ttok rfl rfl rfl rfl rfl (At.ext (hE.trans hS68.ext) ha74) 1 rfl rfl rfl rfl ?_
          refine RW.run ttok 2 rfl ?_
          refine RW.nil ?_
          refine WP.cond (decide (s53 < (x70.Vars.length : Int))) rfl (fun hc => ?_) (fun hc => ?_)
          · skip
            rw [if_pos hc] at hb65
            refine WP.skip ?_
            refine WP.seq ?_
            refine WP.block ?_
            refine WP.seq ?_
            refine WP.cut (fun (t86 : Bool) F w9 => m_spec_l27Counts_j4 fuel s53 t86 = some o67 ∧ Ext w69 w9 ∧ St w w9 [] ∧ F = [(0, .pointer (some p0_)), (1, .pointer (some p1_)), (6, .int .i64 s37), (7, .int .i64 s53), (79, .bool t86)]) ?_ ?_
            · skip
              rintro t86 F w89 ⟨hb65, hE87, hS88, rfl⟩
              unfold m_spec_l27Counts_j4 at hb65
              refine WP.cond t86 rfl (fun hc => ?_) (fun hc => ?_)
              · skip
                rw [if_pos hc] at hb65
                refine WP.seq ?_
                refine WP.region ?_
                refine RW.run ttok 1 rfl ?_
                refine RW.nil ?_
                refine WP.ret ?_
                cases hb65
                cases ho66
                have hb48 : some _ = some _ := hb48
                cases hb48
                cases ho49
                have hm : some _ = some _ := hm
                cases hm
                exact ⟨_, .cons (.tmp rfl) .nil, rfl, hS88⟩
              · skip
                rw [if_neg (not_t hc)] at hb65
                refine WP.skip ?_
                refine WP.region ?_
                refine RW.run ttok 3 rfl ?_
                refine RW.nil ?_
                cases hb65
                exact ⟨_, [(0, .pointer (some p0_)), (1, .pointer (some p1_)), (6, .int .i64 s37), (7, .int .i64 (w64 (s53 + 1)))], ⟨rfl, rfl, rfl, rfl, trivial⟩, rfl, (hE57.trans hE87), hS88, rfl⟩
            · skip
              refine WP.drawnM 0 mixed 32 (by kernel_rfl) (by kernel_rfl) [([], 4294967295), ([0], 4294967294), ([1], 4294967293), ([2], 4294967291), ([], 4294967295), ([3, 4], 4294967271), ([5], 4294967263), ([6], 4294967231), ([], 4294967295), ([7, 8], 4294966911), ([9], 4294966783), ([10], 4294966271), ([11], 4294965247), ([12], 4294963199), ([13, 12], 4294955007), ([14, 12], 4294946815), ([15, 12], 4294930431), ([12], 4294963199), ([17, 12], 4294832127), ([18, 12], 4294701055), ([19, 12], 4294438911), ([12], 4294963199), ([20, 21, 12], 4291817471), ([22, 12], 4290768895), ([12], 4294963199), ([23, 24, 12], 4269797375), ([25, 12], 4261408767), ([16, 26, 12], 4227788799), ([27, 12], 4160745471), ([28, 12], 4026527743), ([29, 12], 3758092287), ([12, 30], 3221221375)] (by kernel_rfl) hS68.ext (fun hsk91 => ?_)
              have hS92 := hS68.step (Ext.draw _)
              refine DM.run (fuel := 27) ttok hsk91 [0, 1, 2, 4, 8] 279 (by kernel_rfl) (by kernel_rfl) rfl ?_
              refine DM.weak [(0, .pointer (some p0_)), (1, .pointer (some p1_)), (6, .int .i64 s37), (7, .int .i64 s53), (50, .pointer (some p0_)), (52, .int .i64 s37), (56, .int .i64 s53)] ⟨rfl, rfl, rfl, rfl, rfl, rfl, rfl, trivial⟩ ?_
              refine DM.load1 ttok hsk91 3 287 (by kernel_rfl) (by kernel_rfl) (by kernel_rfl) (by kernel_rfl) rfl (by kernel_rfl) rfl rfl rfl rfl rfl (At.ext (hE.trans hS68.ext) g0_) 0 rfl rfl rfl rfl ?_
              obtain ⟨x93, hx94, hb65⟩ := bind_some hb65
              refine DM.idx ttok (hE.trans hS68.ext) hsk91 5 319 (by kernel_rfl) (by kernel_rfl) (by kernel_rfl) (by kernel_rfl) rfl (by kernel_rfl) rfl rfl rfl rfl rfl rfl (by decide) rfl rfl h3 (idx_some hx94).1 (idx_some hx94).2 rfl rfl (fun p95 es96 ha97 hr98 => ?_)
              obtain ⟨A99, k100, A102, k103, A105, k106, e108, h101, h104, h107⟩ := ty200_open hr98; subst e108
              refine DM.run (fuel := 24) ttok hsk91 [6] 383 (by kernel_rfl) (by kernel_rfl) rfl ?_
              refine DM.load1 ttok hsk91 7 511 (by kernel_rfl) (by kernel_rfl) (by kernel_rfl) (by kernel_rfl) rfl (by kernel_rfl) rfl rfl rfl rfl rfl (At.ext (hE.trans hS68.ext) ha97) 1 rfl rfl rfl rfl ?_
              obtain ⟨x109, hx110, hb65⟩ := bind_some hb65
              refine DM.idx ttok (hE.trans hS68.ext) hsk91 9 1023 (by kernel_rfl) (by kernel_rfl) (by kernel_rfl) (by kernel_rfl) rfl (by kernel_rfl) rfl rfl rfl rfl rfl rfl (by decide) rfl rfl h104 (idx_some hx110).1 (idx_some hx110).2 rfl rfl (fun p111 es112 ha113 hr114 => ?_)
              have e115 := ty250_open hr114; subst e115
              refine DM.run (fuel := 21) ttok hsk91 [10] 2047 (by kernel_rfl) (by kernel_rfl) rfl ?_
              refine DM.weak [(0, .pointer (some p0_)), (1, .pointer (some p1_)), (6, .int .i64 s37), (7, .int .i64 s53), (58, .pointer (some p111))] ⟨rfl, rfl, rfl, rfl, rfl, trivial⟩ ?_
              refine DM.load1 ttok hsk91 11 4095 (by kernel_rfl) (by kernel_rfl) (by kernel_rfl) (by kernel_rfl) rfl (by kernel_rfl) rfl rfl rfl rfl rfl (At.ext (hE.trans hS68.ext) ha113) 0 rfl rfl rfl rfl ?_
              refine DM.run (fuel := 19) ttok hsk91 [12] 8191 (by kernel_rfl) (by kernel_rfl) rfl ?_
              by_cases hg116 : x109.Used = true
              · skip
                rw [if_pos hg116] at hb65
                refine DM.know 60 rfl (congrArg Value.bool hg116) ?_
                refine DM.run (fuel := 11) ttok hsk91 [13, 14, 15, 17, 18, 19, 21, 24] 19857407 (by kernel_rfl) (by kernel_rfl) rfl ?_
                refine DM.weak [(0, .pointer (some p0_)), (1, .pointer (some p1_)), (6, .int .i64 s37), (7, .int .i64 s53), (60, .bool true), (63, .pointer (some (p1_.add 4))), (67, .pointer (some (p1_.add 3))), (69, .int .i64 s37), (72, .int .i64 s53)] ⟨rfl, rfl, rfl, rfl, rfl, rfl, rfl, rfl, rfl, trivial⟩ ?_
                refine DM.load1 ttok hsk91 16 19922943 (by kernel_rfl) (by kernel_rfl) (by kernel_rfl) (by kernel_rfl) rfl (by kernel_rfl) rfl rfl rfl rfl rfl (At.ext (hE.trans hS68.ext) g1_) 4 rfl rfl rfl rfl ?_
                refine DM.load1 ttok hsk91 20 20971519 (by kernel_rfl) (by kernel_rfl) (by kernel_rfl) (by kernel_rfl) rfl (by kernel_rfl) rfl rfl rfl rfl rfl (At.ext (hE.trans hS68.ext) g1_) 3 rfl rfl rfl rfl ?_
                obtain ⟨x117, hx118, hb65⟩ := bind_some hb65
                refine DM.idx ttok (hE.trans hS68.ext) hsk91 22 25165823 (by kernel_rfl) (by kernel_rfl) (by kernel_rfl) (by kernel_rfl) rfl (by kernel_rfl) rfl rfl rfl rfl rfl rfl (by decide) rfl rfl h18 (idx_some hx118).1 (idx_some hx118).2 rfl rfl (fun p119 es120 ha121 hr122 => ?_)
                obtain ⟨A123, k124, e125⟩ := ty103_form hr122; subst e125
                refine DM.load1 ttok hsk91 23 33554431 (by kernel_rfl) (by kernel_rfl) (by kernel_rfl) (by kernel_rfl) rfl (by kernel_rfl) rfl rfl rfl rfl rfl (At.ext (hE.trans hS68.ext) ha121) 0 rfl rfl rfl rfl ?_
                obtain ⟨x126, hx127, hb65⟩ := bind_some hb65
                refine DM.idx ttok (hE.trans hS68.ext) hsk91 25 67108863 (by kernel_rfl) (by kernel_rfl) (by kernel_rfl) (by kernel_rfl) rfl (by kernel_rfl) rfl rfl rfl rfl rfl rfl (by decide) rfl rfl hr122 (idx_some hx127).1 (idx_some hx127).2 rfl rfl (fun p128 es129 ha130 hr131 => ?_)
                cases hr131
                refine DM.load1 ttok hsk91 26 134217727 (by kernel_rfl) (by kernel_rfl) (by kernel_rfl) (by kernel_rfl) rfl (by kernel_rfl) rfl rfl rfl rfl rfl (At.ext (hE.trans hS68.ext) ha130) 0 rfl rfl rfl rfl ?_
                obtain ⟨x132, hx133, hb65⟩ := bind_some hb65
                refine DM.idx ttok (hE.trans hS68.ext) hsk91 27 268435455 (by kernel_rfl) (by kernel_rfl) (by kernel_rfl) (by kernel_rfl) rfl (by kernel_rfl) rfl rfl rfl rfl rfl rfl (by decide) rfl rfl h21 (idx_some hx133).1 (idx_some hx133).2 rfl rfl (fun p134 es135 ha136 hr137 => ?_)
                obtain ⟨A138, k139, e140⟩ := ty103_form hr137; subst e140
                refine DM.load1 ttok hsk91 28 536870911 (by kernel_rfl) (by kernel_rfl) (by kernel_rfl) (by kernel_rfl) rfl (by kernel_rfl) rfl rfl rfl rfl rfl (At.ext (hE.trans hS68.ext) ha136) 0 rfl rfl rfl rfl ?_
                refine DM.run (fuel := 0) ttok hsk91 [29, 30, 31] 4294967295 (by kernel_rfl) (by kernel_rfl) rfl ?_
                refine DM.weak [(0, .pointer (some p0_)), (1, .pointer (some p1_)), (6, .int .i64 s37), (7, .int .i64 s53), (79, .bool ((x132.length : Int) != 2))] ⟨rfl, rfl, rfl, rfl, rfl, trivial⟩ ?_
                refine DM.done hsk91 (by kernel_rfl) ?_
                exact ⟨((x132.length : Int) != 2), [(0, .pointer (some p0_)), (1, .pointer (some p1_)), (6, .int .i64 s37), (7, .int .i64 s53), (79, .bool ((x132.length : Int) != 2))], ⟨rfl, rfl, rfl, rfl, rfl, trivial⟩, hb65, (Ext.draw _), hS92, rfl⟩
              · skip
                rw [if_neg hg116] at hb65
                refine DM.know 60 rfl (congrArg Value.bool (Bool.eq_false_iff.2 hg116)) ?_
                refine DM.run (fuel := 0) ttok hsk91 [13, 14, 15, 16, 17, 18, 19, 20, 21, 22, 23, 24, 25, 26, 27, 28, 29, 30, 31] 4294967295 (by kernel_rfl) (by kernel_rfl) rfl ?_
                refine DM.weak [(0, .pointer (some p0_)), (1, .pointer (some p1_)), (6, .int .i64 s37), (7, .int .i64 s53), (79, .bool false)] ⟨rfl, rfl, rfl, rfl, rfl, trivial⟩ ?_
                refine DM.done hsk91 (by kernel_rfl) ?_
                exact ⟨false, [(0, .pointer (some p0_)), (1, .pointer (some p1_)), (6, .int .i64 s37), (7, .int .i64 s53), (79, .bool false)], ⟨rfl, rfl, rfl, rfl, rfl, trivial⟩, hb65, (Ext.draw _), hS92, rfl⟩
          · skip
            rw [if_neg (not_t hc)] at hb65
            refine WP.exit ?_
            cases hb65
            exact ⟨_, [(0, .pointer (some p0_)), (1, .pointer (some p1_)), (6, .int .i64 s37)], ⟨rfl, rfl, rfl, trivial⟩, ho66, hE57, hS68, rfl⟩
      · skip
        rw [if_neg (not_t hc)] at hb48
        refine WP.exit ?_
        cases hb48
        exact ⟨_, [], trivial, ho49, hE41, hS51, rfl⟩
  · skip
    refine WP.block ?_
    refine WP.weak [(0, .pointer (some p0_)), (1, .pointer (some p1_)), (5, .int .i64 0)] ⟨rfl, rfl, rfl, trivial⟩ ?_
    refine WP.iter (fun (s26 : Int) F w9 => Ext w w9 ∧ St w w9 [] ∧ F = [(0, .pointer (some p0_)), (1, .pointer (some p1_)), (5, .int .i64 s26)]) _ hl34 ⟨(Ext.refl _), hS, rfl⟩ ?_
    rintro s26 F w145 _ o143 ⟨hE30, hS144, rfl⟩ hb141 ho142
    unfold m_spec_l27Counts_b1 at hb141
    refine WP.seq ?_
    refine WP.seq ?_
    refine WP.region ?_
    refine RW.run ttok 4 rfl ?_
    refine RW.load1 ttok rfl rfl rfl rfl rfl (At.ext (hE.trans hS144.ext) g1_) 1 rfl rfl rfl rfl ?_
    refine RW.run ttok 2 rfl ?_
    refine RW.nil ?_
    refine WP.cond (decide (s26 < (x1.ports.length : Int))) rfl (fun hc => ?_) (fun hc => ?_)
    · skip
      rw [if_pos hc] at hb141
      refine WP.skip ?_
      refine WP.seq ?_
      refine WP.block ?_
      refine WP.seq ?_
      refine WP.region ?_
      refine RW.run ttok 3 rfl ?_
      refine RW.load1 ttok rfl rfl rfl rfl rfl (At.ext (hE.trans hS144.ext) g1_) 4 rfl rfl rfl rfl ?_
      refine RW.run ttok 1 rfl ?_
      obtain ⟨x146, hx147, hb141⟩ := bind_some hb141
      refine RW.idx ttok (hE.trans hS144.ext) rfl rfl rfl rfl rfl rfl (by decide) rfl rfl h21 (idx_some hx147).1 (idx_some hx147).2 rfl rfl (fun p148 es149 ha150 hr151 => ?_)
      obtain ⟨A152, k153, e154⟩ := ty103_form hr151; subst e154
      refine RW.load1 ttok rfl rfl rfl rfl rfl (At.ext (hE.trans hS144.ext) ha150) 0 rfl rfl rfl rfl ?_
      refine RW.run ttok 2 rfl ?_
      refine RW.nil ?_
      refine WP.cond ((x146.length : Int) != 1) rfl (fun hc => ?_) (fun hc => ?_)
      · skip
        rw [if_pos hc] at hb141
        refine WP.seq ?_
        refine WP.region ?_
        refine RW.run ttok 1 rfl ?_
        refine RW.nil ?_
        refine WP.ret ?_
        cases hb141
        cases ho142
        have hm : some _ = some _ := hm
        cases hm
        exact ⟨_, .cons (.tmp rfl) .nil, rfl, hS144⟩
      · skip
        rw [if_neg (not_t hc)] at hb141
        refine WP.skip ?_
        refine WP.region ?_
        refine RW.run ttok 3 rfl ?_
        refine RW.nil ?_
        cases hb141
        exact ⟨_, [(0, .pointer (some p0_)), (1, .pointer (some p1_)), (5, .int .i64 (w64 (s26 + 1)))], ⟨rfl, rfl, rfl, trivial⟩, rfl, hE30, hS144, rfl⟩
    · skip
      rw [if_neg (not_t hc)] at hb141
      refine WP.exit ?_
      cases hb141
      exact ⟨_, [(0, .pointer (some p0_)), (1, .pointer (some p1_))], ⟨rfl, rfl, trivial⟩, ho142, hE30, hS144, rfl⟩

theorem enters72 : Enters Try.prog 72 := ⟨_, _, Try.func72, rfl, by kernel_rfl⟩
def m_spec_l27Ok (fuel : Nat) (x0 : D.Grid) : Option (Bool) := ((m_spec_l27Pieces fuel x0).bind fun r5 => (if (!r5) = true then some false else ((m_spec_l27Begin fuel x0 ([] : (List D.ShardCell))).bind fun r14 => ((m_spec_l27All fuel x0 r14.1).bind fun r36 => (if r36.1 = true then ((m_spec_l27Counts fuel x0 (⟨r36.2.agents, r36.2.ports, r36.2.cells, r36.2.vars, r36.2.ends, r36.2.pairs⟩ : D.l27Links)).bind fun r55 => some r55) else some false)))))

set_option maxRecDepth 100000 in
theorem spec_l27Ok_ok {W w : World} (hE : Ext W w) {p0_ : Addr} {c0_ : List Value} {x0 : D.Grid} (h0_ : ty64.ro W c0_ x0) (g0_ : At W p0_ c0_) {fuel : Nat} {r : Bool} (hm : m_spec_l27Ok fuel x0 = some r) :
    Calls Try.prog 72 ⟨[.pointer (some p0_)]⟩ w (Ret fun v w8 => v = .bool r ∧ St w w8 []) := by
  obtain ⟨A1, k2, e4, h3⟩ := ty64_open h0_; subst e4
  refine Calls.into Try.func72 rfl 21 rfl rfl _ rfl ?_
  unfold m_spec_l27Ok at hm
  have hS := St.start w
  refine WP.seq ?_
  refine WP.region ?_
  refine RW.run ttok 1 rfl ?_
  refine RW.nil ?_
  refine WP.seq ?_
  refine WP.seq ?_
  refine WP.region ?_
  refine RW.run ttok 1 rfl ?_
  obtain ⟨r5, hx6, hm⟩ := bind_some hm
  refine RW.call rfl rfl rfl enters131 (spec_l27Pieces_ok (hE.trans hS.ext) h0_ g0_ hx6) (fun v7 w10 hR11 => ?_)
  obtain ⟨rfl, hR12⟩ := hR11
  have hS13 := hS.join hR12
  refine RW.run ttok 1 rfl ?_
  refine RW.nil ?_
  refine WP.cond (!r5) rfl (fun hc => ?_) (fun hc => ?_)
  · skip
    rw [if_pos hc] at hm
    refine WP.seq ?_
    refine WP.region ?_
    refine RW.run ttok 1 rfl ?_
    refine RW.nil ?_
    refine WP.ret ?_
    cases hm
    exact ⟨_, .cons (.tmp rfl) .nil, rfl, hS13⟩
  · skip
    rw [if_neg (not_t hc)] at hm
    refine WP.skip ?_
    refine WP.seq ?_
    refine WP.region ?_
    refine RW.run ttok 1 rfl ?_
    obtain ⟨r14, hx15, hm⟩ := bind_some hm
    refine RW.call rfl rfl rfl enters132 (spec_l27Begin_ok (hE.trans hS13.ext) h0_ g0_ (show ty196.ro _ [.slice none ([] : (List D.ShardCell)).length 0] [] from slNil ty248 248 _) hx15) (fun v16 w17 hR18 => ?_)
    obtain ⟨g19, A20, k21, A22, k23, A24, k25, A26, k27, A28, k29, A30, k31, A32, k33, rfl, hR34⟩ := hR18
    have hS35 := hS13.join hR34
    refine RW.run ttok 5 rfl ?_
    refine RW.nil ?_
    refine WP.seq ?_
    refine WP.region ?_
    refine RW.run ttok 2 rfl ?_
    obtain ⟨r36, hx37, hm⟩ := bind_some hm
    refine RW.call rfl rfl rfl enters133 (spec_l27All_ok (W := w) (RR := _) (x0 := x0) (x1 := r14.1) hS35 (ty64.ext hE h0_) (At.ext hE g0_) hx37) (fun v38 w39 hR40 => ?_)
    obtain ⟨A41, k42, A43, k44, A45, k46, A47, k48, A49, k50, A51, k52, rfl, hS53⟩ := hR40
    refine RW.run ttok 1 rfl ?_
    by_cases hg54 : r36.1 = true
    · skip
      rw [if_pos hg54] at hm
      refine RW.know 16 rfl (congrArg Value.bool hg54) ?_
      refine RW.run ttok 2 rfl ?_
      obtain ⟨r55, hx56, hm⟩ := bind_some hm
      refine RW.call rfl rfl rfl enters134 (spec_l27Counts_ok (Ext.refl _) (ty64.ext (hE.trans hS53.ext) h0_) (At.ext (hE.trans hS53.ext) g0_) (ty253_shut (⟨r36.2.agents, r36.2.ports, r36.2.cells, r36.2.vars, r36.2.ends, r36.2.pairs⟩ : D.l27Links) ((hS53.bring 1 rfl).own) ((hS53.bring 2 rfl).own) ((hS53.bring 3 rfl).own) ((hS53.bring 4 rfl).own) ((hS53.bring 5 rfl).own) ((hS53.bring 6 rfl).own)) ((hS53.bring 0 rfl).box) hx56) (fun v57 w58 hR59 => ?_)
      obtain ⟨rfl, hR60⟩ := hR59
      have hS61 := hS53.join hR60
      refine RW.run ttok 2 rfl ?_
      refine RW.nil ?_
      refine WP.ret ?_
      cases hm
      exact ⟨_, .cons (.tmp rfl) .nil, rfl, (hS61.taken 0)⟩
    · skip
      rw [if_neg hg54] at hm
      refine RW.know 16 rfl (congrArg Value.bool (Bool.eq_false_iff.2 hg54)) ?_
      refine RW.run ttok 5 rfl ?_
      refine RW.nil ?_
      refine WP.ret ?_
      cases hm
      exact ⟨_, .cons (.tmp rfl) .nil, rfl, (hS53.taken 0)⟩

theorem enters31 : Enters Try.prog 31 := ⟨_, _, Try.func31, rfl, by kernel_rfl⟩
def m_spec_ValidGrid (fuel : Nat) (x0 : D.Grid) : Option (Bool) := ((m_spec_l27Ok fuel x0).bind fun r11 => some r11)

set_option maxRecDepth 100000 in
theorem spec_ValidGrid_ok {W w : World} (hE : Ext W w) {c0_ : List Value} {x0 : D.Grid} (h0_ : ty64.ro W c0_ x0) {fuel : Nat} {r : Bool} (hm : m_spec_ValidGrid fuel x0 = some r) :
    Calls Try.prog 31 ⟨[.agg ⟨c0_⟩]⟩ w (Ret fun v w8 => v = .bool r ∧ St w w8 []) := by
  obtain ⟨A1, k2, e4, h3⟩ := ty64_open h0_; subst e4
  refine Calls.into Try.func31 rfl 4 rfl rfl _ rfl ?_
  unfold m_spec_ValidGrid at hm
  have hS := St.start w
  refine WP.seq ?_
  refine WP.region ?_
  refine RW.new ttok hS rfl rfl rfl rfl (fun g5 w6 e7 hS10 => ?_)
  refine RW.run ttok 1 rfl ?_
  refine RW.nil ?_
  refine WP.seq ?_
  refine WP.region ?_
  obtain ⟨r11, hx12, hm⟩ := bind_some hm
  refine RW.call rfl rfl rfl enters72 (spec_l27Ok_ok (Ext.refl _) (ty64.ext (hE.trans hS10.ext) h0_) ((hS10.bring 0 rfl).box) hx12) (fun v13 w14 hR15 => ?_)
  obtain ⟨rfl, hR16⟩ := hR15
  have hS17 := hS10.join hR16
  refine RW.run ttok 1 rfl ?_
  refine RW.nil ?_
  refine WP.ret ?_
  cases hm
  exact ⟨_, .cons (.tmp rfl) .nil, rfl, (hS17.taken 0)⟩

theorem enters196 : Enters Try.prog 196 := ⟨_, _, Try.func196, rfl, by kernel_rfl⟩
def m_slices_IndexFunc_impl_Shard_impl_Shard_j1 (fuel : Nat) (t2 : Unit) : Option Int := some (-1)
def m_slices_IndexFunc_impl_Shard_impl_Shard_b1 (fuel : Nat) (x0 : (List D.Shard)) (x1 : D.Shard → Option Bool) (s1 : Int) : Option (Rd (Int) (Unit) (Int)) := (if (decide (s1 < (x0.length : Int))) = true then ((idx x0 s1).bind fun x19 => ((x1 x19).bind fun r35 => (if r35 = true then some (.ret s1) else some (.next (w64 (s1 + 1)))))) else some (.brk ()))
def m_slices_IndexFunc_impl_Shard_impl_Shard (fuel : Nat) (x0 : (List D.Shard)) (x1 : D.Shard → Option Bool) : Option (Int) := ((iter (m_slices_IndexFunc_impl_Shard_impl_Shard_b1 fuel x0 x1) fuel 0).bind fun o => aft o (m_slices_IndexFunc_impl_Shard_impl_Shard_j1 fuel))

set_option maxRecDepth 100000 in
theorem slices_IndexFunc_impl_Shard_impl_Shard_ok {W w : World} (hE : Ext W w) {A0_ : Option Addr} {k0_ : Nat} {x0 : (List D.Shard)} {f1_ : Nat} {u1_ : List Value} {x1 : D.Shard → Option Bool} (h0_ : ty61.ro W [.slice A0_ x0.length k0_] x0) (h1_ : Enters Try.prog f1_ ∧ ∀ {w9 : World}, Ext W w9 → ∀ {cz0 : List Value} {z0 : D.Shard} {y9 : Bool}, ty200.ro w9 cz0 z0 → x1 z0 = some y9 → Calls Try.prog f1_ ⟨[.agg ⟨cz0⟩] ++ u1_⟩ w9 (Ret fun v w8 => v = .bool y9 ∧ St w9 w8 [])) {fuel : Nat} {r : Int} (hm : m_slices_IndexFunc_impl_Shard_impl_Shard fuel x0 x1 = some r) :
    Calls Try.prog 196 ⟨[.slice A0_ x0.length k0_, .func (.func f1_) #[] ⟨u1_⟩]⟩ w (Ret fun v w8 => v = .int .i64 r ∧ St w w8 []) := by
  refine Calls.into Try.func196 rfl 19 rfl rfl _ rfl ?_
  unfold m_slices_IndexFunc_impl_Shard_impl_Shard at hm
  have hS := St.start w
  refine WP.seq ?_
  refine WP.region ?_
  refine RW.run ttok 1 rfl ?_
  refine RW.nil ?_
  refine WP.seq ?_
  refine WP.seq ?_
  refine WP.region ?_
  refine RW.run ttok 3 rfl ?_
  refine RW.nil ?_
  obtain ⟨o10, hl11, hm⟩ := bind_some hm
  refine WP.cut (fun (t2 : Unit) F w9 => o10 = .inl t2 ∧ Ext w w9 ∧ St w w9 [] ∧ F = []) ?_ ?_
  · skip
    rintro t2 F w7 ⟨ho13, hE6, hS12, rfl⟩
    subst ho13
    rw [aft_inl] at hm
    unfold m_slices_IndexFunc_impl_Shard_impl_Shard_j1 at hm
    refine WP.seq ?_
    refine WP.region ?_
    refine RW.run ttok 1 rfl ?_
    refine RW.nil ?_
    refine WP.ret ?_
    cases hm
    exact ⟨_, .cons (.tmp rfl) .nil, rfl, hS12⟩
  · skip
    refine WP.block ?_
    refine WP.weak [(0, .slice A0_ x0.length k0_), (1, .func (.func f1_) #[] ⟨u1_⟩), (7, .int .i64 (x0.length : Int)), (8, .int .i64 0)] ⟨rfl, rfl, rfl, rfl, trivial⟩ ?_
    refine WP.iter (fun (s1 : Int) F w9 => Ext w w9 ∧ St w w9 [] ∧ F = [(0, .slice A0_ x0.length k0_), (1, .func (.func f1_) #[] ⟨u1_⟩), (7, .int .i64 (x0.length : Int)), (8, .int .i64 s1)]) _ hl11 ⟨(Ext.refl _), hS, rfl⟩ ?_
    rintro s1 F w18 _ o16 ⟨hE5, hS17, rfl⟩ hb14 ho15
    unfold m_slices_IndexFunc_impl_Shard_impl_Shard_b1 at hb14
    refine WP.seq ?_
    refine WP.region ?_
    refine RW.run ttok 1 rfl ?_
    refine RW.nil ?_
    refine WP.seq ?_
    refine WP.cond (decide (s1 < (x0.length : Int))) rfl (fun hc => ?_) (fun hc => ?_)
    · skip
      rw [if_pos hc] at hb14
      refine WP.skip ?_
      refine WP.seq ?_
      refine WP.block ?_
      refine WP.seq ?_
      refine WP.region ?_
      refine RW.run ttok 2 rfl ?_
      refine RW.nil ?_
      refine WP.seq ?_
      refine WP.region ?_
      refine RW.run ttok 3 rfl ?_
      obtain ⟨x19, hx20, hb14⟩ := bind_some hb14
      refine RW.idx ttok (hE.trans hS17.ext) rfl rfl rfl rfl rfl rfl (by decide) rfl rfl h0_ (idx_some hx20).1 (idx_some hx20).2 rfl rfl (fun p21 es22 ha23 hr24 => ?_)
      obtain ⟨A25, k26, A28, k29, A31, k32, e34, h27, h30, h33⟩ := ty200_open hr24; subst e34
      refine RW.loadN ttok rfl rfl rfl rfl rfl (At.ext (hE.trans hS17.ext) ha23) rfl rfl rfl ?_
      obtain ⟨r35, hx36, hb14⟩ := bind_some hb14
      refine RW.call rfl rfl rfl h1_.1 (h1_.2 (hE.trans hS17.ext) (ty200.ext (hE.trans hS17.ext) hr24) hx36) (fun v37 w38 hR39 => ?_)
      obtain ⟨rfl, hR40⟩ := hR39
      have hS41 := hS17.join hR40
      refine RW.nil ?_
      refine WP.cond r35 rfl (fun hc => ?_) (fun hc => ?_)
      · skip
        rw [if_pos hc] at hb14
        refine WP.seq ?_
        refine WP.region ?_
        refine RW.run ttok 2 rfl ?_
        refine RW.nil ?_
        refine WP.ret ?_
        cases hb14
        cases ho15
        have hm : some _ = some _ := hm
        cases hm
        exact ⟨_, .cons (.tmp rfl) .nil, rfl, hS41⟩
      · skip
        rw [if_neg (not_t hc)] at hb14
        refine WP.skip ?_
        refine WP.region ?_
        refine RW.run ttok 2 rfl ?_
        refine RW.nil ?_
        cases hb14
        exact ⟨_, [(0, .slice A0_ x0.length k0_), (1, .func (.func f1_) #[] ⟨u1_⟩), (7, .int .i64 (x0.length : Int)), (8, .int .i64 (w64 (s1 + 1)))], ⟨rfl, rfl, rfl, rfl, trivial⟩, rfl, (hE5.trans hR40.ext), hS41, rfl⟩
    · skip
      rw [if_neg (not_t hc)] at hb14
      refine WP.exit ?_
      cases hb14
      exact ⟨_, [], trivial, ho15, hE5, hS17, rfl⟩

theorem enters136 : Enters Try.prog 136 := ⟨_, _, Try.func136, rfl, by kernel_rfl⟩
def m_slices_ContainsFunc_impl_Shard_impl_Shard (fuel : Nat) (x0 : (List D.Shard)) (x1 : D.Shard → Option Bool) : Option (Bool) := ((m_slices_IndexFunc_impl_Shard_impl_Shard fuel x0 x1).bind fun r1 => some (decide (r1 ≥ 0)))

set_option maxRecDepth 100000 in
theorem slices_ContainsFunc_impl_Shard_impl_Shard_ok {W w : World} (hE : Ext W w) {A0_ : Option Addr} {k0_ : Nat} {x0 : (List D.Shard)} {f1_ : Nat} {u1_ : List Value} {x1 : D.Shard → Option Bool} (h0_ : ty61.ro W [.slice A0_ x0.length k0_] x0) (h1_ : Enters Try.prog f1_ ∧ ∀ {w9 : World}, Ext W w9 → ∀ {cz0 : List Value} {z0 : D.Shard} {y9 : Bool}, ty200.ro w9 cz0 z0 → x1 z0 = some y9 → Calls Try.prog f1_ ⟨[.agg ⟨cz0⟩] ++ u1_⟩ w9 (Ret fun v w8 => v = .bool y9 ∧ St w9 w8 [])) {fuel : Nat} {r : Bool} (hm : m_slices_ContainsFunc_impl_Shard_impl_Shard fuel x0 x1 = some r) :
    Calls Try.prog 136 ⟨[.slice A0_ x0.length k0_, .func (.func f1_) #[] ⟨u1_⟩]⟩ w (Ret fun v w8 => v = .bool r ∧ St w w8 []) := by
  refine Calls.into Try.func136 rfl 9 rfl rfl _ rfl ?_
  unfold m_slices_ContainsFunc_impl_Shard_impl_Shard at hm
  have hS := St.start w
  refine WP.seq ?_
  refine WP.region ?_
  refine RW.run ttok 1 rfl ?_
  refine RW.nil ?_
  refine WP.seq ?_
  refine WP.region ?_
  refine RW.run ttok 2 rfl ?_
  obtain ⟨r1, hx2, hm⟩ := bind_some hm
  refine RW.call rfl rfl rfl enters196 (slices_IndexFunc_impl_Shard_impl_Shard_ok (hE.trans hS.ext) h0_ h1_ hx2) (fun v3 w4 hR5 => ?_)
  obtain ⟨rfl, hR6⟩ := hR5
  have hS7 := hS.join hR6
  refine RW.run ttok 2 rfl ?_
  refine RW.nil ?_
  refine WP.ret ?_
  cases hm
  exact ⟨_, .cons (.tmp rfl) .nil, rfl, hS7⟩

theorem enters249 : Enters Try.prog 249 := ⟨_, _, Try.func249, rfl, by kernel_rfl⟩
def m_slices_IndexFunc_impl_ShardCell_impl_ShardCell_j1 (fuel : Nat) (t2 : Unit) : Option Int := some (-1)
def m_slices_IndexFunc_impl_ShardCell_impl_ShardCell_b1 (fuel : Nat) (x0 : (List D.ShardCell)) (x1 : D.ShardCell → Option Bool) (s1 : Int) : Option (Rd (Int) (Unit) (Int)) := (if (decide (s1 < (x0.length : Int))) = true then ((idx x0 s1).bind fun x19 => ((x1 x19).bind fun r32 => (if r32 = true then some (.ret s1) else some (.next (w64 (s1 + 1)))))) else some (.brk ()))
def m_slices_IndexFunc_impl_ShardCell_impl_ShardCell (fuel : Nat) (x0 : (List D.ShardCell)) (x1 : D.ShardCell → Option Bool) : Option (Int) := ((iter (m_slices_IndexFunc_impl_ShardCell_impl_ShardCell_b1 fuel x0 x1) fuel 0).bind fun o => aft o (m_slices_IndexFunc_impl_ShardCell_impl_ShardCell_j1 fuel))

set_option maxRecDepth 100000 in
theorem slices_IndexFunc_impl_ShardCell_impl_ShardCell_ok {W w : World} (hE : Ext W w) {A0_ : Option Addr} {k0_ : Nat} {x0 : (List D.ShardCell)} {f1_ : Nat} {u1_ : List Value} {x1 : D.ShardCell → Option Bool} (h0_ : ty196.ro W [.slice A0_ x0.length k0_] x0) (h1_ : Enters Try.prog f1_ ∧ ∀ {w9 : World}, Ext W w9 → ∀ {cz0 : List Value} {z0 : D.ShardCell} {y9 : Bool}, ty248.ro w9 cz0 z0 → x1 z0 = some y9 → Calls Try.prog f1_ ⟨[.agg ⟨cz0⟩] ++ u1_⟩ w9 (Ret fun v w8 => v = .bool y9 ∧ St w9 w8 [])) {fuel : Nat} {r : Int} (hm : m_slices_IndexFunc_impl_ShardCell_impl_ShardCell fuel x0 x1 = some r) :
    Calls Try.prog 249 ⟨[.slice A0_ x0.length k0_, .func (.func f1_) #[] ⟨u1_⟩]⟩ w (Ret fun v w8 => v = .int .i64 r ∧ St w w8 []) := by
  refine Calls.into Try.func249 rfl 19 rfl rfl _ rfl ?_
  unfold m_slices_IndexFunc_impl_ShardCell_impl_ShardCell at hm
  have hS := St.start w
  refine WP.seq ?_
  refine WP.region ?_
  refine RW.run ttok 1 rfl ?_
  refine RW.nil ?_
  refine WP.seq ?_
  refine WP.seq ?_
  refine WP.region ?_
  refine RW.run ttok 3 rfl ?_
  refine RW.nil ?_
  obtain ⟨o10, hl11, hm⟩ := bind_some hm
  refine WP.cut (fun (t2 : Unit) F w9 => o10 = .inl t2 ∧ Ext w w9 ∧ St w w9 [] ∧ F = []) ?_ ?_
  · skip
    rintro t2 F w7 ⟨ho13, hE6, hS12, rfl⟩
    subst ho13
    rw [aft_inl] at hm
    unfold m_slices_IndexFunc_impl_ShardCell_impl_ShardCell_j1 at hm
    refine WP.seq ?_
    refine WP.region ?_
    refine RW.run ttok 1 rfl ?_
    refine RW.nil ?_
    refine WP.ret ?_
    cases hm
    exact ⟨_, .cons (.tmp rfl) .nil, rfl, hS12⟩
  · skip
    refine WP.block ?_
    refine WP.weak [(0, .slice A0_ x0.length k0_), (1, .func (.func f1_) #[] ⟨u1_⟩), (7, .int .i64 (x0.length : Int)), (8, .int .i64 0)] ⟨rfl, rfl, rfl, rfl, trivial⟩ ?_
    refine WP.iter (fun (s1 : Int) F w9 => Ext w w9 ∧ St w w9 [] ∧ F = [(0, .slice A0_ x0.length k0_), (1, .func (.func f1_) #[] ⟨u1_⟩), (7, .int .i64 (x0.length : Int)), (8, .int .i64 s1)]) _ hl11 ⟨(Ext.refl _), hS, rfl⟩ ?_
    rintro s1 F w18 _ o16 ⟨hE5, hS17, rfl⟩ hb14 ho15
    unfold m_slices_IndexFunc_impl_ShardCell_impl_ShardCell_b1 at hb14
    refine WP.seq ?_
    refine WP.region ?_
    refine RW.run ttok 1 rfl ?_
    refine RW.nil ?_
    refine WP.seq ?_
    refine WP.cond (decide (s1 < (x0.length : Int))) rfl (fun hc => ?_) (fun hc => ?_)
    · skip
      rw [if_pos hc] at hb14
      refine WP.skip ?_
      refine WP.seq ?_
      refine WP.block ?_
      refine WP.seq ?_
      refine WP.region ?_
      refine RW.run ttok 2 rfl ?_
      refine RW.nil ?_
      refine WP.seq ?_
      refine WP.region ?_
      refine RW.run ttok 3 rfl ?_
      obtain ⟨x19, hx20, hb14⟩ := bind_some hb14
      refine RW.idx ttok (hE.trans hS17.ext) rfl rfl rfl rfl rfl rfl (by decide) rfl rfl h0_ (idx_some hx20).1 (idx_some hx20).2 rfl rfl (fun p21 es22 ha23 hr24 => ?_)
      obtain ⟨A25, k26, A28, k29, e31, h27, h30⟩ := ty248_open hr24; subst e31
      refine RW.loadN ttok rfl rfl rfl rfl rfl (At.ext (hE.trans hS17.ext) ha23) rfl rfl rfl ?_
      obtain ⟨r32, hx33, hb14⟩ := bind_some hb14
      refine RW.call rfl rfl rfl h1_.1 (h1_.2 (hE.trans hS17.ext) (ty248.ext (hE.trans hS17.ext) hr24) hx33) (fun v34 w35 hR36 => ?_)
      obtain ⟨rfl, hR37⟩ := hR36
      have hS38 := hS17.join hR37
      refine RW.nil ?_
      refine WP.cond r32 rfl (fun hc => ?_) (fun hc => ?_)
      · skip
        rw [if_pos hc] at hb14
        refine WP.seq ?_
        refine WP.region ?_
        refine RW.run ttok 2 rfl ?_
        refine RW.nil ?_
        refine WP.ret ?_
        cases hb14
        cases ho15
        have hm : some _ = some _ := hm
        cases hm
        exact ⟨_, .cons (.tmp rfl) .nil, rfl, hS38⟩
      · skip
        rw [if_neg (not_t hc)] at hb14
        refine WP.skip ?_
        refine WP.region ?_
        refine RW.run ttok 2 rfl ?_
        refine RW.nil ?_
        cases hb14
        exact ⟨_, [(0, .slice A0_ x0.length k0_), (1, .func (.func f1_) #[] ⟨u1_⟩), (7, .int .i64 (x0.length : Int)), (8, .int .i64 (w64 (s1 + 1)))], ⟨rfl, rfl, rfl, rfl, trivial⟩, rfl, (hE5.trans hR37.ext), hS38, rfl⟩
    · skip
      rw [if_neg (not_t hc)] at hb14
      refine WP.exit ?_
      cases hb14
      exact ⟨_, [], trivial, ho15, hE5, hS17, rfl⟩

theorem enters197 : Enters Try.prog 197 := ⟨_, _, Try.func197, rfl, by kernel_rfl⟩
def m_slices_ContainsFunc_impl_ShardCell_impl_ShardCell (fuel : Nat) (x0 : (List D.ShardCell)) (x1 : D.ShardCell → Option Bool) : Option (Bool) := ((m_slices_IndexFunc_impl_ShardCell_impl_ShardCell fuel x0 x1).bind fun r1 => some (decide (r1 ≥ 0)))

set_option maxRecDepth 100000 in
theorem slices_ContainsFunc_impl_ShardCell_impl_ShardCell_ok {W w : World} (hE : Ext W w) {A0_ : Option Addr} {k0_ : Nat} {x0 : (List D.ShardCell)} {f1_ : Nat} {u1_ : List Value} {x1 : D.ShardCell → Option Bool} (h0_ : ty196.ro W [.slice A0_ x0.length k0_] x0) (h1_ : Enters Try.prog f1_ ∧ ∀ {w9 : World}, Ext W w9 → ∀ {cz0 : List Value} {z0 : D.ShardCell} {y9 : Bool}, ty248.ro w9 cz0 z0 → x1 z0 = some y9 → Calls Try.prog f1_ ⟨[.agg ⟨cz0⟩] ++ u1_⟩ w9 (Ret fun v w8 => v = .bool y9 ∧ St w9 w8 [])) {fuel : Nat} {r : Bool} (hm : m_slices_ContainsFunc_impl_ShardCell_impl_ShardCell fuel x0 x1 = some r) :
    Calls Try.prog 197 ⟨[.slice A0_ x0.length k0_, .func (.func f1_) #[] ⟨u1_⟩]⟩ w (Ret fun v w8 => v = .bool r ∧ St w w8 []) := by
  refine Calls.into Try.func197 rfl 9 rfl rfl _ rfl ?_
  unfold m_slices_ContainsFunc_impl_ShardCell_impl_ShardCell at hm
  have hS := St.start w
  refine WP.seq ?_
  refine WP.region ?_
  refine RW.run ttok 1 rfl ?_
  refine RW.nil ?_
  refine WP.seq ?_
  refine WP.region ?_
  refine RW.run ttok 2 rfl ?_
  obtain ⟨r1, hx2, hm⟩ := bind_some hm
  refine RW.call rfl rfl rfl enters249 (slices_IndexFunc_impl_ShardCell_impl_ShardCell_ok (hE.trans hS.ext) h0_ h1_ hx2) (fun v3 w4 hR5 => ?_)
  obtain ⟨rfl, hR6⟩ := hR5
  have hS7 := hS.join hR6
  refine RW.run ttok 2 rfl ?_
  refine RW.nil ?_
  refine WP.ret ?_
  cases hm
  exact ⟨_, .cons (.tmp rfl) .nil, rfl, hS7⟩

theorem enters266 : Enters Try.prog 266 := ⟨_, _, Try.func266, rfl, by kernel_rfl⟩
def m_slices_Equal_int64_int64_j1 (fuel : Nat) (t2 : Unit) : Option Bool := some true
def m_slices_Equal_int64_int64_b1 (fuel : Nat) (x0 : (List Int)) (x1 : (List Int)) (s1 : Int) : Option (Rd (Int) (Unit) (Bool)) := (if (decide (s1 < (x0.length : Int))) = true then ((idx x0 s1).bind fun x21 => ((idx x1 s1).bind fun x27 => (if (x21 != x27) = true then some (.ret false) else some (.next (w64 (s1 + 1)))))) else some (.brk ()))
def m_slices_Equal_int64_int64 (fuel : Nat) (x0 : (List Int)) (x1 : (List Int)) : Option (Bool) := (if ((x0.length : Int) != (x1.length : Int)) = true then some false else ((iter (m_slices_Equal_int64_int64_b1 fuel x0 x1) fuel 0).bind fun o => aft o (m_slices_Equal_int64_int64_j1 fuel)))

set_option maxRecDepth 100000 in
theorem slices_Equal_int64_int64_ok {W w : World} (hE : Ext W w) {A0_ : Option Addr} {k0_ : Nat} {x0 : (List Int)} {A1_ : Option Addr} {k1_ : Nat} {x1 : (List Int)} (h0_ : ty103.ro W [.slice A0_ x0.length k0_] x0) (h1_ : ty103.ro W [.slice A1_ x1.length k1_] x1) {fuel : Nat} {r : Bool} (hm : m_slices_Equal_int64_int64 fuel x0 x1 = some r) :
    Calls Try.prog 266 ⟨[.slice A0_ x0.length k0_, .slice A1_ x1.length k1_]⟩ w (Ret fun v w8 => v = .bool r ∧ St w w8 []) := by
  refine Calls.into Try.func266 rfl 26 rfl rfl _ rfl ?_
  unfold m_slices_Equal_int64_int64 at hm
  have hS := St.start w
  refine WP.seq ?_
  refine WP.region ?_
  refine RW.run ttok 1 rfl ?_
  refine RW.nil ?_
  refine WP.seq ?_
  refine WP.seq ?_
  refine WP.region ?_
  refine RW.run ttok 5 rfl ?_
  refine RW.nil ?_
  refine WP.cond ((x0.length : Int) != (x1.length : Int)) rfl (fun hc => ?_) (fun hc => ?_)
  · skip
    rw [if_pos hc] at hm
    refine WP.seq ?_
    refine WP.region ?_
    refine RW.run ttok 1 rfl ?_
    refine RW.nil ?_
    refine WP.ret ?_
    cases hm
    exact ⟨_, .cons (.tmp rfl) .nil, rfl, hS⟩
  · skip
    rw [if_neg (not_t hc)] at hm
    refine WP.skip ?_
    refine WP.seq ?_
    refine WP.seq ?_
    refine WP.region ?_
    refine RW.run ttok 3 rfl ?_
    refine RW.nil ?_
    obtain ⟨o10, hl11, hm⟩ := bind_some hm
    refine WP.cut (fun (t2 : Unit) F w9 => o10 = .inl t2 ∧ Ext w w9 ∧ St w w9 [] ∧ F = []) ?_ ?_
    · skip
      rintro t2 F w7 ⟨ho13, hE6, hS12, rfl⟩
      subst ho13
      rw [aft_inl] at hm
      unfold m_slices_Equal_int64_int64_j1 at hm
      refine WP.seq ?_
      refine WP.region ?_
      refine RW.run ttok 1 rfl ?_
      refine RW.nil ?_
      refine WP.ret ?_
      cases hm
      exact ⟨_, .cons (.tmp rfl) .nil, rfl, hS12⟩
    · skip
      refine WP.block ?_
      refine WP.weak [(0, .slice A0_ x0.length k0_), (1, .slice A1_ x1.length k1_), (12, .int .i64 (x0.length : Int)), (13, .int .i64 0)] ⟨rfl, rfl, rfl, rfl, trivial⟩ ?_
      refine WP.iter (fun (s1 : Int) F w9 => Ext w w9 ∧ St w w9 [] ∧ F = [(0, .slice A0_ x0.length k0_), (1, .slice A1_ x1.length k1_), (12, .int .i64 (x0.length : Int)), (13, .int .i64 s1)]) _ hl11 ⟨(Ext.refl _), hS, rfl⟩ ?_
      rintro s1 F w18 _ o16 ⟨hE5, hS17, rfl⟩ hb14 ho15
      unfold m_slices_Equal_int64_int64_b1 at hb14
      refine WP.seq ?_
      refine WP.region ?_
      refine RW.run ttok 1 rfl ?_
      refine RW.nil ?_
      refine WP.seq ?_
      refine WP.cond (decide (s1 < (x0.length : Int))) rfl (fun hc => ?_) (fun hc => ?_)
      · skip
        rw [if_pos hc] at hb14
        refine WP.skip ?_
        refine WP.seq ?_
        refine WP.block ?_
        refine WP.seq ?_
        refine WP.region ?_
        refine RW.run ttok 2 rfl ?_
        refine RW.nil ?_
        refine WP.seq ?_
        refine WP.drawnM 0 mixed 9 (by kernel_rfl) (by kernel_rfl) [([], 511), ([], 511), ([0, 1], 508), ([2], 507), ([], 511), ([], 511), ([4, 5], 463), ([6], 447), ([3, 7], 375)] (by kernel_rfl) hS17.ext (fun hsk19 => ?_)
        have hS20 := hS17.step (Ext.draw _)
        refine DM.run (fuel := 5) ttok hsk19 [0, 1, 4, 5] 51 (by kernel_rfl) (by kernel_rfl) rfl ?_
        obtain ⟨x21, hx22, hb14⟩ := bind_some hb14
        refine DM.idx ttok (hE.trans hS17.ext) hsk19 2 55 (by kernel_rfl) (by kernel_rfl) (by kernel_rfl) (by kernel_rfl) rfl (by kernel_rfl) rfl rfl rfl rfl rfl rfl (by decide) rfl rfl h0_ (idx_some hx22).1 (idx_some hx22).2 rfl rfl (fun p23 es24 ha25 hr26 => ?_)
        cases hr26
        refine DM.load1 ttok hsk19 3 63 (by kernel_rfl) (by kernel_rfl) (by kernel_rfl) (by kernel_rfl) rfl (by kernel_rfl) rfl rfl rfl rfl rfl (At.ext (hE.trans hS17.ext) ha25) 0 rfl rfl rfl rfl ?_
        obtain ⟨x27, hx28, hb14⟩ := bind_some hb14
        refine DM.idx ttok (hE.trans hS17.ext) hsk19 6 127 (by kernel_rfl) (by kernel_rfl) (by kernel_rfl) (by kernel_rfl) rfl (by kernel_rfl) rfl rfl rfl rfl rfl rfl (by decide) rfl rfl h1_ (idx_some hx28).1 (idx_some hx28).2 rfl rfl (fun p29 es30 ha31 hr32 => ?_)
        cases hr32
        refine DM.load1 ttok hsk19 7 255 (by kernel_rfl) (by kernel_rfl) (by kernel_rfl) (by kernel_rfl) rfl (by kernel_rfl) rfl rfl rfl rfl rfl (At.ext (hE.trans hS17.ext) ha31) 0 rfl rfl rfl rfl ?_
        refine DM.run (fuel := 0) ttok hsk19 [8] 511 (by kernel_rfl) (by kernel_rfl) rfl ?_
        refine DM.weak [(0, .slice A0_ x0.length k0_), (1, .slice A1_ x1.length k1_), (12, .int .i64 (x0.length : Int)), (13, .int .i64 s1), (24, .bool (x21 != x27))] ⟨rfl, rfl, rfl, rfl, rfl, trivial⟩ ?_
        refine DM.done hsk19 (by kernel_rfl) ?_
        refine WP.cond (x21 != x27) rfl (fun hc => ?_) (fun hc => ?_)
        · skip
          rw [if_pos hc] at hb14
          refine WP.seq ?_
          refine WP.region ?_
          refine RW.run ttok 1 rfl ?_
          refine RW.nil ?_
          refine WP.ret ?_
          cases hb14
          cases ho15
          have hm : some _ = some _ := hm
          cases hm
          exact ⟨_, .cons (.tmp rfl) .nil, rfl, hS20⟩
        · skip
          rw [if_neg (not_t hc)] at hb14
          refine WP.skip ?_
          refine WP.region ?_
          refine RW.run ttok 2 rfl ?_
          refine RW.nil ?_
          cases hb14
          exact ⟨_, [(0, .slice A0_ x0.length k0_), (1, .slice A1_ x1.length k1_), (12, .int .i64 (x0.length : Int)), (13, .int .i64 (w64 (s1 + 1)))], ⟨rfl, rfl, rfl, rfl, trivial⟩, rfl, (hE5.trans (Ext.draw _)), hS20, rfl⟩
      · skip
        rw [if_neg (not_t hc)] at hb14
        refine WP.exit ?_
        cases hb14
        exact ⟨_, [], trivial, ho15, hE5, hS17, rfl⟩

theorem enters267 : Enters Try.prog 267 := ⟨_, _, Try.func267, rfl, by kernel_rfl⟩
def m_slices_Equal_impl_Address_impl_Address_j1 (fuel : Nat) (t2 : Unit) : Option Bool := some true
def m_slices_Equal_impl_Address_impl_Address_b1 (fuel : Nat) (x0 : (List D.Address)) (x1 : (List D.Address)) (s1 : Int) : Option (Rd (Int) (Unit) (Bool)) := (if (decide (s1 < (x0.length : Int))) = true then ((idx x0 s1).bind fun x21 => ((idx x1 s1).bind fun x28 => (if (!(((x21.Machine : Int) == x28.Machine) && (((x21.Kind : Int) == x28.Kind) && (((x21.Index : Int) == x28.Index) && true)))) = true then some (.ret false) else some (.next (w64 (s1 + 1)))))) else some (.brk ()))
def m_slices_Equal_impl_Address_impl_Address (fuel : Nat) (x0 : (List D.Address)) (x1 : (List D.Address)) : Option (Bool) := (if ((x0.length : Int) != (x1.length : Int)) = true then some false else ((iter (m_slices_Equal_impl_Address_impl_Address_b1 fuel x0 x1) fuel 0).bind fun o => aft o (m_slices_Equal_impl_Address_impl_Address_j1 fuel)))

set_option maxRecDepth 100000 in
theorem slices_Equal_impl_Address_impl_Address_ok {W w : World} (hE : Ext W w) {A0_ : Option Addr} {k0_ : Nat} {x0 : (List D.Address)} {A1_ : Option Addr} {k1_ : Nat} {x1 : (List D.Address)} (h0_ : ty246.ro W [.slice A0_ x0.length k0_] x0) (h1_ : ty246.ro W [.slice A1_ x1.length k1_] x1) {fuel : Nat} {r : Bool} (hm : m_slices_Equal_impl_Address_impl_Address fuel x0 x1 = some r) :
    Calls Try.prog 267 ⟨[.slice A0_ x0.length k0_, .slice A1_ x1.length k1_]⟩ w (Ret fun v w8 => v = .bool r ∧ St w w8 []) := by
  refine Calls.into Try.func267 rfl 26 rfl rfl _ rfl ?_
  unfold m_slices_Equal_impl_Address_impl_Address at hm
  have hS := St.start w
  refine WP.seq ?_
  refine WP.region ?_
  refine RW.run ttok 1 rfl ?_
  refine RW.nil ?_
  refine WP.seq ?_
  refine WP.seq ?_
  refine WP.region ?_
  refine RW.run ttok 5 rfl ?_
  refine RW.nil ?_
  refine WP.cond ((x0.length : Int) != (x1.length : Int)) rfl (fun hc => ?_) (fun hc => ?_)
  · skip
    rw [if_pos hc] at hm
    refine WP.seq ?_
    refine WP.region ?_
    refine RW.run ttok 1 rfl ?_
    refine RW.nil ?_
    refine WP.ret ?_
    cases hm
    exact ⟨_, .cons (.tmp rfl) .nil, rfl, hS⟩
  · skip
    rw [if_neg (not_t hc)] at hm
    refine WP.skip ?_
    refine WP.seq ?_
    refine WP.seq ?_
    refine WP.region ?_
    refine RW.run ttok 3 rfl ?_
    refine RW.nil ?_
    obtain ⟨o10, hl11, hm⟩ := bind_some hm
    refine WP.cut (fun (t2 : Unit) F w9 => o10 = .inl t2 ∧ Ext w w9 ∧ St w w9 [] ∧ F = []) ?_ ?_
    · skip
      rintro t2 F w7 ⟨ho13, hE6, hS12, rfl⟩
      subst ho13
      rw [aft_inl] at hm
      unfold m_slices_Equal_impl_Address_impl_Address_j1 at hm
      refine WP.seq ?_
      refine WP.region ?_
      refine RW.run ttok 1 rfl ?_
      refine RW.nil ?_
      refine WP.ret ?_
      cases hm
      exact ⟨_, .cons (.tmp rfl) .nil, rfl, hS12⟩
    · skip
      refine WP.block ?_
      refine WP.weak [(0, .slice A0_ x0.length k0_), (1, .slice A1_ x1.length k1_), (12, .int .i64 (x0.length : Int)), (13, .int .i64 0)] ⟨rfl, rfl, rfl, rfl, trivial⟩ ?_
      refine WP.iter (fun (s1 : Int) F w9 => Ext w w9 ∧ St w w9 [] ∧ F = [(0, .slice A0_ x0.length k0_), (1, .slice A1_ x1.length k1_), (12, .int .i64 (x0.length : Int)), (13, .int .i64 s1)]) _ hl11 ⟨(Ext.refl _), hS, rfl⟩ ?_
      rintro s1 F w18 _ o16 ⟨hE5, hS17, rfl⟩ hb14 ho15
      unfold m_slices_Equal_impl_Address_impl_Address_b1 at hb14
      refine WP.seq ?_
      refine WP.region ?_
      refine RW.run ttok 1 rfl ?_
      refine RW.nil ?_
      refine WP.seq ?_
      refine WP.cond (decide (s1 < (x0.length : Int))) rfl (fun hc => ?_) (fun hc => ?_)
      · skip
        rw [if_pos hc] at hb14
        refine WP.skip ?_
        refine WP.seq ?_
        refine WP.block ?_
        refine WP.seq ?_
        refine WP.region ?_
        refine RW.run ttok 2 rfl ?_
        refine RW.nil ?_
        refine WP.seq ?_
        refine WP.drawnM 0 mixed 9 (by kernel_rfl) (by kernel_rfl) [([], 511), ([], 511), ([0, 1], 508), ([2], 507), ([], 511), ([], 511), ([4, 5], 463), ([6], 447), ([3, 7], 375)] (by kernel_rfl) hS17.ext (fun hsk19 => ?_)
        have hS20 := hS17.step (Ext.draw _)
        refine DM.run (fuel := 5) ttok hsk19 [0, 1, 4, 5] 51 (by kernel_rfl) (by kernel_rfl) rfl ?_
        obtain ⟨x21, hx22, hb14⟩ := bind_some hb14
        refine DM.idx ttok (hE.trans hS17.ext) hsk19 2 55 (by kernel_rfl) (by kernel_rfl) (by kernel_rfl) (by kernel_rfl) rfl (by kernel_rfl) rfl rfl rfl rfl rfl rfl (by decide) rfl rfl h0_ (idx_some hx22).1 (idx_some hx22).2 rfl rfl (fun p23 es24 ha25 hr26 => ?_)
        have e27 := ty62_open hr26; subst e27
        refine DM.loadN ttok hsk19 3 63 (by kernel_rfl) (by kernel_rfl) (by kernel_rfl) (by kernel_rfl) rfl (by kernel_rfl) rfl rfl rfl rfl rfl (At.ext (hE.trans hS17.ext) ha25) rfl rfl rfl ?_
        obtain ⟨x28, hx29, hb14⟩ := bind_some hb14
        refine DM.idx ttok (hE.trans hS17.ext) hsk19 6 127 (by kernel_rfl) (by kernel_rfl) (by kernel_rfl) (by kernel_rfl) rfl (by kernel_rfl) rfl rfl rfl rfl rfl rfl (by decide) rfl rfl h1_ (idx_some hx29).1 (idx_some hx29).2 rfl rfl (fun p30 es31 ha32 hr33 => ?_)
        have e34 := ty62_open hr33; subst e34
        refine DM.loadN ttok hsk19 7 255 (by kernel_rfl) (by kernel_rfl) (by kernel_rfl) (by kernel_rfl) rfl (by kernel_rfl) rfl rfl rfl rfl rfl (At.ext (hE.trans hS17.ext) ha32) rfl rfl rfl ?_
        refine DM.run (fuel := 0) ttok hsk19 [8] 511 (by kernel_rfl) (by kernel_rfl) rfl ?_
        refine DM.weak [(0, .slice A0_ x0.length k0_), (1, .slice A1_ x1.length k1_), (12, .int .i64 (x0.length : Int)), (13, .int .i64 s1), (24, .bool (!(((x21.Machine : Int) == x28.Machine) && (((x21.Kind : Int) == x28.Kind) && (((x21.Index : Int) == x28.Index) && true)))))] ⟨rfl, rfl, rfl, rfl, rfl, trivial⟩ ?_
        refine DM.done hsk19 (by kernel_rfl) ?_
        refine WP.cond (!(((x21.Machine : Int) == x28.Machine) && (((x21.Kind : Int) == x28.Kind) && (((x21.Index : Int) == x28.Index) && true)))) rfl (fun hc => ?_) (fun hc => ?_)
        · skip
          rw [if_pos hc] at hb14
          refine WP.seq ?_
          refine WP.region ?_
          refine RW.run ttok 1 rfl ?_
          refine RW.nil ?_
          refine WP.ret ?_
          cases hb14
          cases ho15
          have hm : some _ = some _ := hm
          cases hm
          exact ⟨_, .cons (.tmp rfl) .nil, rfl, hS20⟩
        · skip
          rw [if_neg (not_t hc)] at hb14
          refine WP.skip ?_
          refine WP.region ?_
          refine RW.run ttok 2 rfl ?_
          refine RW.nil ?_
          cases hb14
          exact ⟨_, [(0, .slice A0_ x0.length k0_), (1, .slice A1_ x1.length k1_), (12, .int .i64 (x0.length : Int)), (13, .int .i64 (w64 (s1 + 1)))], ⟨rfl, rfl, rfl, rfl, trivial⟩, rfl, (hE5.trans (Ext.draw _)), hS20, rfl⟩
      · skip
        rw [if_neg (not_t hc)] at hb14
        refine WP.exit ?_
        cases hb14
        exact ⟨_, [], trivial, ho15, hE5, hS17, rfl⟩

theorem enters250 : Enters Try.prog 250 := ⟨_, _, Try.func250, rfl, by kernel_rfl⟩
def m_impl_sameShardCell (fuel : Nat) (x0 : D.ShardCell) (x1 : D.ShardCell) : Option (Bool) := (if (x0.Kind == x1.Kind) = true then (if (x0.Level == x1.Level) = true then (if (x0.Value == x1.Value) = true then ((m_slices_Equal_int64_int64 fuel x0.Data x1.Data).bind fun r28 => (if r28 = true then ((m_slices_Equal_impl_Address_impl_Address fuel x0.Aux x1.Aux).bind fun r36 => some r36) else some false)) else some false) else some false) else some false)

set_option maxRecDepth 100000 in
theorem impl_sameShardCell_ok {W w : World} (hE : Ext W w) {c0_ : List Value} {x0 : D.ShardCell} {c1_ : List Value} {x1 : D.ShardCell} (h0_ : ty248.ro W c0_ x0) (h1_ : ty248.ro W c1_ x1) {fuel : Nat} {r : Bool} (hm : m_impl_sameShardCell fuel x0 x1 = some r) :
    Calls Try.prog 250 ⟨[.agg ⟨c0_⟩, .agg ⟨c1_⟩]⟩ w (Ret fun v w8 => v = .bool r ∧ St w w8 []) := by
  obtain ⟨A1, k2, A4, k5, e7, h3, h6⟩ := ty248_open h0_; subst e7
  obtain ⟨A10, k11, A13, k14, e16, h12, h15⟩ := ty248_open h1_; subst e16
  refine Calls.into Try.func250 rfl 38 rfl rfl _ rfl ?_
  unfold m_impl_sameShardCell at hm
  have hS := St.start w
  refine WP.seq ?_
  refine WP.region ?_
  refine RW.new ttok hS rfl rfl rfl rfl (fun g17 w18 e19 hS20 => ?_)
  refine RW.new ttok hS20 rfl rfl rfl rfl (fun g21 w22 e23 hS24 => ?_)
  refine RW.run ttok 1 rfl ?_
  refine RW.nil ?_
  refine WP.seq ?_
  refine WP.region ?_
  refine RW.run ttok 1 rfl ?_
  refine RW.load1 ttok rfl rfl rfl rfl rfl ((hS24.bring 1 rfl).box) 0 rfl rfl rfl rfl ?_
  refine RW.run ttok 1 rfl ?_
  refine RW.load1 ttok rfl rfl rfl rfl rfl ((hS24.bring 0 rfl).box) 0 rfl rfl rfl rfl ?_
  refine RW.run ttok 2 rfl ?_
  by_cases hg25 : (x0.Kind == x1.Kind) = true
  · skip
    rw [if_pos hg25] at hm
    refine RW.know 10 rfl (congrArg Value.bool hg25) ?_
    refine RW.run ttok 1 rfl ?_
    refine RW.load1 ttok rfl rfl rfl rfl rfl ((hS24.bring 1 rfl).box) 1 rfl rfl rfl rfl ?_
    refine RW.run ttok 1 rfl ?_
    refine RW.load1 ttok rfl rfl rfl rfl rfl ((hS24.bring 0 rfl).box) 1 rfl rfl rfl rfl ?_
    refine RW.run ttok 3 rfl ?_
    by_cases hg26 : (x0.Level == x1.Level) = true
    · skip
      rw [if_pos hg26] at hm
      refine RW.know 17 rfl (congrArg Value.bool hg26) ?_
      refine RW.run ttok 1 rfl ?_
      refine RW.load1 ttok rfl rfl rfl rfl rfl ((hS24.bring 1 rfl).box) 2 rfl rfl rfl rfl ?_
      refine RW.run ttok 1 rfl ?_
      refine RW.load1 ttok rfl rfl rfl rfl rfl ((hS24.bring 0 rfl).box) 2 rfl rfl rfl rfl ?_
      refine RW.run ttok 3 rfl ?_
      by_cases hg27 : (x0.Value == x1.Value) = true
      · skip
        rw [if_pos hg27] at hm
        refine RW.know 24 rfl (congrArg Value.bool hg27) ?_
        refine RW.run ttok 1 rfl ?_
        refine RW.load1 ttok rfl rfl rfl rfl rfl ((hS24.bring 1 rfl).box) 3 rfl rfl rfl rfl ?_
        refine RW.run ttok 1 rfl ?_
        refine RW.load1 ttok rfl rfl rfl rfl rfl ((hS24.bring 0 rfl).box) 3 rfl rfl rfl rfl ?_
        obtain ⟨r28, hx29, hm⟩ := bind_some hm
        refine RW.call rfl rfl rfl enters266 (slices_Equal_int64_int64_ok (hE.trans hS24.ext) h3 h12 hx29) (fun v30 w31 hR32 => ?_)
        obtain ⟨rfl, hR33⟩ := hR32
        have hS34 := hS24.join hR33
        refine RW.run ttok 2 rfl ?_
        by_cases hg35 : r28 = true
        · skip
          rw [if_pos hg35] at hm
          refine RW.know 31 rfl (congrArg Value.bool hg35) ?_
          refine RW.run ttok 1 rfl ?_
          refine RW.load1 ttok rfl rfl rfl rfl rfl ((hS34.bring 1 rfl).box) 4 rfl rfl rfl rfl ?_
          refine RW.run ttok 1 rfl ?_
          refine RW.load1 ttok rfl rfl rfl rfl rfl ((hS34.bring 0 rfl).box) 4 rfl rfl rfl rfl ?_
          obtain ⟨r36, hx37, hm⟩ := bind_some hm
          refine RW.call rfl rfl rfl enters267 (slices_Equal_impl_Address_impl_Address_ok (hE.trans hS34.ext) h6 h15 hx37) (fun v38 w39 hR40 => ?_)
          obtain ⟨rfl, hR41⟩ := hR40
          have hS42 := hS34.join hR41
          refine RW.run ttok 2 rfl ?_
          refine RW.nil ?_
          refine WP.ret ?_
          cases hm
          exact ⟨_, .cons (.tmp rfl) .nil, rfl, (hS42.taken 0)⟩
        · skip
          rw [if_neg hg35] at hm
          refine RW.know 31 rfl (congrArg Value.bool (Bool.eq_false_iff.2 hg35)) ?_
          refine RW.run ttok 7 rfl ?_
          refine RW.nil ?_
          refine WP.ret ?_
          cases hm
          exact ⟨_, .cons (.tmp rfl) .nil, rfl, (hS34.taken 0)⟩
      · skip
        rw [if_neg hg27] at hm
        refine RW.know 24 rfl (congrArg Value.bool (Bool.eq_false_iff.2 hg27)) ?_
        refine RW.run ttok 14 rfl ?_
        refine RW.nil ?_
        refine WP.ret ?_
        cases hm
        exact ⟨_, .cons (.tmp rfl) .nil, rfl, (hS24.taken 0)⟩
    · skip
      rw [if_neg hg26] at hm
      refine RW.know 17 rfl (congrArg Value.bool (Bool.eq_false_iff.2 hg26)) ?_
      refine RW.run ttok 21 rfl ?_
      refine RW.nil ?_
      refine WP.ret ?_
      cases hm
      exact ⟨_, .cons (.tmp rfl) .nil, rfl, (hS24.taken 0)⟩
  · skip
    rw [if_neg hg25] at hm
    refine RW.know 10 rfl (congrArg Value.bool (Bool.eq_false_iff.2 hg25)) ?_
    refine RW.run ttok 28 rfl ?_
    refine RW.nil ?_
    refine WP.ret ?_
    cases hm
    exact ⟨_, .cons (.tmp rfl) .nil, rfl, (hS24.taken 0)⟩

theorem enters157 : Enters Try.prog 157 := ⟨_, _, Try.func157, rfl, by kernel_rfl⟩
def m_slices_Clone_int64_int64 (fuel : Nat) (x0 : (List Int)) : Option ((List Int)) := (if decide ((([] : (List Int)).length : Int) + (x0.length : Int) ≤ 4294967296) = true then some (([] : (List Int)) ++ x0) else none)

set_option maxRecDepth 100000 in
theorem slices_Clone_int64_int64_ok {W w : World} (hE : Ext W w) {A0_ : Option Addr} {k0_ : Nat} {x0 : (List Int)} (h0_ : ty103.ro W [.slice A0_ x0.length k0_] x0) {fuel : Nat} {r : (List Int)} (hm : m_slices_Clone_int64_int64 fuel x0 = some r) :
    Calls Try.prog 157 ⟨[.slice A0_ x0.length k0_]⟩ w (Ret fun v w8 => ∃ A0 k0, v = .slice A0 r.length k0 ∧ St w w8 [Own ty103 [.slice A0 r.length k0] r]) := by
  refine Calls.into Try.func157 rfl 8 rfl rfl _ rfl ?_
  unfold m_slices_Clone_int64_int64 at hm
  have hS := St.start w
  refine WP.seq ?_
  refine WP.region ?_
  refine RW.run ttok 1 rfl ?_
  refine RW.nil ?_
  refine WP.seq ?_
  refine WP.seq ?_
  refine WP.region ?_
  refine RW.run ttok 1 rfl ?_
  refine RW.quiet rfl (Quiet.nilEq ttok rfl rfl rfl rfl rfl) rfl rfl ?_
  refine RW.nil ?_
  cases A0_ with
  | none =>
    have e := sl_none (by decide) h0_
    subst e
    refine WP.cond true rfl (fun _ => ?_) (fun hc => by cases hc)
    refine WP.seq ?_
    refine WP.region ?_
    refine RW.run ttok 1 rfl ?_
    refine RW.nil ?_
    refine WP.ret ?_
    have hr : r = [] := by simpa using hm.symm
    subst hr
    exact ⟨_, .cons (.tmp rfl) .nil, none, 0, rfl, hS.nilSl tInt 2⟩
  | some p =>
    refine WP.cond false rfl (fun hc => by cases hc) (fun _ => ?_)
    refine WP.skip ?_
    refine WP.seq ?_
    refine WP.region ?_
    refine RW.newSlice0 (U := tInt) ttok hS rfl rfl rfl rfl rfl rfl rfl (fun A1 k1 w1 e1 hS1 => ?_)
    refine RW.run ttok 1 rfl ?_
    by_cases hk : decide ((([] : (List Int)).length : Int) + (x0.length : Int) ≤ 4294967296) = true
    case neg => rw [if_neg hk] at hm; cases hm
    rw [if_pos hk] at hm
    cases hm
    refine RW.appendRo ttok Flat.int hS1 rfl rfl rfl rfl rfl rfl (by decide) rfl rfl (ty103.ext (hE.trans hS1.ext) h0_) (of_decide_eq_true hk) (by decide) rfl rfl (fun A2 k2 w2 hS2 => ?_)
    refine RW.run ttok 1 rfl ?_
    refine RW.nil ?_
    refine WP.ret ?_
    exact ⟨_, .cons (.tmp rfl) .nil, A2, k2, rfl, hS2⟩

theorem enters251 : Enters Try.prog 251 := ⟨_, _, Try.func251, rfl, by kernel_rfl⟩
def m_impl_shardAgent (fuel : Nat) (x0 : D.ShardCell) : Option (D.Agent) := ((m_slices_Clone_int64_int64 fuel x0.Data).bind fun r20 => (if decide (0 ≤ (w64 ((x0.Aux.length : Int) + 1)) ∧ (w64 ((x0.Aux.length : Int) + 1)) ≤ 4294967296) = true then some (⟨x0.Kind, x0.Level, x0.Value, r20, (List.replicate (w64 ((x0.Aux.length : Int) + 1)).toNat (⟨(0 : Int), (0 : Int)⟩ : D.Port))⟩ : D.Agent) else none))

set_option maxRecDepth 100000 in
theorem impl_shardAgent_ok {W w : World} (hE : Ext W w) {c0_ : List Value} {x0 : D.ShardCell} (h0_ : ty248.ro W c0_ x0) {fuel : Nat} {r : D.Agent} (hm : m_impl_shardAgent fuel x0 = some r) :
    Calls Try.prog 251 ⟨[.agg ⟨c0_⟩]⟩ w (Ret fun v w8 => ∃ A0 k0 A1 k1, v = .agg ⟨[.int .i64 r.Kind, .int .i64 r.Level, .int .i64 r.Value, .slice A0 r.Data.length k0, .slice A1 r.Ports.length k1]⟩ ∧ St w w8 [Own ty103 [.slice A0 r.Data.length k0] r.Data, Own ty110 [.slice A1 r.Ports.length k1] r.Ports]) := by
  obtain ⟨A1, k2, A4, k5, e7, h3, h6⟩ := ty248_open h0_; subst e7
  refine Calls.into Try.func251 rfl 18 rfl rfl _ rfl ?_
  unfold m_impl_shardAgent at hm
  have hS := St.start w
  refine WP.seq ?_
  refine WP.region ?_
  refine RW.new ttok hS rfl rfl rfl rfl (fun g10 w11 e12 hS13 => ?_)
  refine RW.new ttok hS13 rfl rfl rfl rfl (fun g14 w15 e16 hS17 => ?_)
  refine RW.nil ?_
  refine WP.seq ?_
  refine WP.drawnM 32768 mixed 16 (by kernel_rfl) (by kernel_rfl) [([], 65535), ([0], 65534), ([], 65535), ([2], 65531), ([], 65535), ([4], 65519), ([], 65535), ([6], 65471), ([7], 65407), ([], 65535), ([9], 65023), ([10], 64511), ([11], 63487), ([12, 12], 61439), ([1, 3, 5, 8, 13], 57045), ([14, 8, 0, 1, 2, 3, 4, 5, 6, 7, 8, 9, 10, 11, 12, 13, 14], 49151)] (by kernel_rfl) hS17.ext (fun hsk18 => ?_)
  have hS19 := hS17.step (Ext.draw _)
  refine DM.run (fuel := 11) ttok hsk18 [0, 2, 4, 6, 9] 597 (by kernel_rfl) (by kernel_rfl) rfl ?_
  refine DM.load1 ttok hsk18 1 599 (by kernel_rfl) (by kernel_rfl) (by kernel_rfl) (by kernel_rfl) rfl (by kernel_rfl) rfl rfl rfl rfl rfl ((hS17.bring 1 rfl).box) 0 rfl rfl rfl rfl ?_
  refine DM.load1 ttok hsk18 3 607 (by kernel_rfl) (by kernel_rfl) (by kernel_rfl) (by kernel_rfl) rfl (by kernel_rfl) rfl rfl rfl rfl rfl ((hS17.bring 1 rfl).box) 1 rfl rfl rfl rfl ?_
  refine DM.load1 ttok hsk18 5 639 (by kernel_rfl) (by kernel_rfl) (by kernel_rfl) (by kernel_rfl) rfl (by kernel_rfl) rfl rfl rfl rfl rfl ((hS17.bring 1 rfl).box) 2 rfl rfl rfl rfl ?_
  refine DM.load1 ttok hsk18 7 767 (by kernel_rfl) (by kernel_rfl) (by kernel_rfl) (by kernel_rfl) rfl (by kernel_rfl) rfl rfl rfl rfl rfl ((hS17.bring 1 rfl).box) 3 rfl rfl rfl rfl ?_
  refine DM.load1 ttok hsk18 10 1791 (by kernel_rfl) (by kernel_rfl) (by kernel_rfl) (by kernel_rfl) rfl (by kernel_rfl) rfl rfl rfl rfl rfl ((hS17.bring 1 rfl).box) 4 rfl rfl rfl rfl ?_
  refine DM.run (fuel := 4) ttok hsk18 [11, 12] 7935 (by kernel_rfl) (by kernel_rfl) rfl ?_
  refine DM.weak [(2, .pointer (some ⟨g14, 0, none⟩)), (4, .int .i64 x0.Kind), (6, .int .i64 x0.Level), (8, .int .i64 x0.Value), (10, .slice A1 x0.Data.length k2), (15, .int .i64 (w64 ((x0.Aux.length : Int) + 1)))] ⟨rfl, rfl, rfl, rfl, rfl, rfl, trivial⟩ ?_
  obtain ⟨r20, hx21, hm⟩ := bind_some hm
  by_cases hk29 : decide (0 ≤ (w64 ((x0.Aux.length : Int) + 1)) ∧ (w64 ((x0.Aux.length : Int) + 1)) ≤ 4294967296) = true
  case neg => rw [if_neg hk29] at hm; cases hm
  rw [if_pos hk29] at hm
  refine DM.all hsk18 [8, 13] (by kernel_rfl) (by simp) ?_
  intro i39 hi40
  simp only [List.mem_cons, List.not_mem_nil, or_false] at hi40
  rcases hi40 with rfl | rfl
  · skip
    refine LM.call hsk18 8191 (by kernel_rfl) (by kernel_rfl) rfl rfl rfl rfl enters157 (slices_Clone_int64_int64_ok (hE.trans hS19.ext) h3 hx21) (fun v41 w42 hR43 => ?_)
    obtain ⟨A44, k45, rfl, hR46⟩ := hR43
    refine ⟨hR46.ext, ?_⟩
    have hS47 := hS19.join hR46
    have hz53 := of_decide_eq_true hk29
    refine DM.one hsk18 13 (by kernel_rfl) (LM.make (U := ty38) ttok (⟨(0 : Int), (0 : Int)⟩ : D.Port) hS47 hsk18 16383 (by kernel_rfl) (by kernel_rfl) rfl rfl rfl rfl rfl rfl rfl rfl rfl hz53.1 (by have := hz53.2; show _ * (16 : Int) ≤ _; omega) (by have := hz53.2; simp only [maxLen]; omega) (fun _ => (ty38_ownI (c := (⟨(0 : Int), (0 : Int)⟩ : D.Port)) rfl)) rfl rfl (fun A48 k49 w50 e51 hS52 => ?_))
    refine DM.quietP hsk18 14 32767 (by kernel_rfl) (by kernel_rfl) rfl (by kernel_rfl) rfl (fun _ => Quiet.build ttok rfl rfl rfl rfl rfl) rfl rfl ?_
    have hS54 := hS52.bring 2 rfl
    refine DM.one hsk18 15 (by kernel_rfl) (LM.store ttok (A := []) hS54 hsk18 65535 (by kernel_rfl) (by kernel_rfl) rfl rfl rfl rfl rfl rfl 0 rfl rfl rfl rfl rfl (fun w55 hS56 => ?_))
    refine DM.done hsk18 (by kernel_rfl) ?_
    refine WP.ret ?_
    cases hm
    exact ⟨_, .cons (ResIs.agg ttok rfl rfl rfl ((hS56.bring 0 rfl).box) rfl) .nil, A44, k45, A48, k49, rfl, (((hS56.bring 1 rfl).bring 2 rfl).taken 2)⟩
  · skip
    have hz62 := of_decide_eq_true hk29
    refine LM.make (U := ty38) ttok (⟨(0 : Int), (0 : Int)⟩ : D.Port) hS19 hsk18 16127 (by kernel_rfl) (by kernel_rfl) rfl rfl rfl rfl rfl rfl rfl rfl rfl hz62.1 (by have := hz62.2; show _ * (16 : Int) ≤ _; omega) (by have := hz62.2; simp only [maxLen]; omega) (fun _ => (ty38_ownI (c := (⟨(0 : Int), (0 : Int)⟩ : D.Port)) rfl)) rfl rfl (fun A57 k58 w59 e60 hS61 => ?_)
    refine DM.one hsk18 8 (by kernel_rfl) (LM.call hsk18 16383 (by kernel_rfl) (by kernel_rfl) rfl rfl rfl rfl enters157 (slices_Clone_int64_int64_ok (hE.trans hS61.ext) h3 hx21) (fun v63 w65 hR66 => ?_))
    obtain ⟨A67, k68, rfl, hR69⟩ := hR66
    refine ⟨hR69.ext, ?_⟩
    have hS70 := hS61.join hR69
    refine DM.quietP hsk18 14 32767 (by kernel_rfl) (by kernel_rfl) rfl (by kernel_rfl) rfl (fun _ => Quiet.build ttok rfl rfl rfl rfl rfl) rfl rfl ?_
    have hS71 := hS70.bring 2 rfl
    refine DM.one hsk18 15 (by kernel_rfl) (LM.store ttok (A := []) hS71 hsk18 65535 (by kernel_rfl) (by kernel_rfl) rfl rfl rfl rfl rfl rfl 0 rfl rfl rfl rfl rfl (fun w72 hS73 => ?_))
    refine DM.done hsk18 (by kernel_rfl) ?_
    refine WP.ret ?_
    cases hm
    exact ⟨_, .cons (ResIs.agg ttok rfl rfl rfl ((hS73.bring 0 rfl).box) rfl) .nil, A67, k68, A57, k58, rfl, (((hS73.bring 2 rfl).bring 2 rfl).taken 2)⟩

theorem enters199 : Enters Try.prog 199 := ⟨_, _, Try.func199, rfl, by kernel_rfl⟩
def m_impl_validShardCell (fuel : Nat) (x0 : D.ShardCell) : Option (Bool) := (if (x0.Kind == 0) = true then ((m_impl_sameShardCell fuel x0 (⟨0, 0, 0, [], []⟩ : D.ShardCell)).bind fun r14 => some r14) else (if (x0.Kind != 1) = true then ((m_impl_shardAgent fuel x0).bind fun r22 => ((m_impl_wellFormed fuel r22).bind fun r33 => some r33)) else some false))

set_option maxRecDepth 100000 in
theorem impl_validShardCell_ok {W w : World} (hE : Ext W w) {c0_ : List Value} {x0 : D.ShardCell} (h0_ : ty248.ro W c0_ x0) {fuel : Nat} {r : Bool} (hm : m_impl_validShardCell fuel x0 = some r) :
    Calls Try.prog 199 ⟨[.agg ⟨c0_⟩]⟩ w (Ret fun v w8 => v = .bool r ∧ St w w8 []) := by
  obtain ⟨A1, k2, A4, k5, e7, h3, h6⟩ := ty248_open h0_; subst e7
  refine Calls.into Try.func199 rfl 17 rfl rfl _ rfl ?_
  unfold m_impl_validShardCell at hm
  have hS := St.start w
  refine WP.seq ?_
  refine WP.region ?_
  refine RW.new ttok hS rfl rfl rfl rfl (fun g10 w11 e12 hS13 => ?_)
  refine RW.run ttok 1 rfl ?_
  refine RW.nil ?_
  refine WP.seq ?_
  refine WP.seq ?_
  refine WP.region ?_
  refine RW.run ttok 1 rfl ?_
  refine RW.load1 ttok rfl rfl rfl rfl rfl ((hS13.bring 0 rfl).box) 0 rfl rfl rfl rfl ?_
  refine RW.run ttok 1 rfl ?_
  refine RW.nil ?_
  refine WP.cond (x0.Kind == 0) rfl (fun hc => ?_) (fun hc => ?_)
  · skip
    rw [if_pos hc] at hm
    refine WP.seq ?_
    refine WP.region ?_
    refine RW.loadN ttok rfl rfl rfl rfl rfl ((hS13.bring 0 rfl).box) rfl rfl rfl ?_
    refine RW.quiet rfl (Quiet.build ttok rfl rfl rfl rfl rfl) rfl rfl ?_
    obtain ⟨r14, hx15, hm⟩ := bind_some hm
    refine RW.call rfl rfl rfl enters250 (impl_sameShardCell_ok (hE.trans hS13.ext) h0_ (ty248_shut (⟨0, 0, 0, [], []⟩ : D.ShardCell) (slNil tInt 2 _) (slNil ty62 62 _)) hx15) (fun v16 w17 hR18 => ?_)
    obtain ⟨rfl, hR19⟩ := hR18
    have hS20 := hS13.join hR19
    refine RW.run ttok 1 rfl ?_
    refine RW.nil ?_
    refine WP.ret ?_
    cases hm
    exact ⟨_, .cons (.tmp rfl) .nil, rfl, (hS20.taken 0)⟩
  · skip
    rw [if_neg (not_t hc)] at hm
    refine WP.skip ?_
    refine WP.seq ?_
    refine WP.region ?_
    refine RW.run ttok 1 rfl ?_
    refine RW.load1 ttok rfl rfl rfl rfl rfl ((hS13.bring 0 rfl).box) 0 rfl rfl rfl rfl ?_
    refine RW.run ttok 2 rfl ?_
    by_cases hg21 : (x0.Kind != 1) = true
    · skip
      rw [if_pos hg21] at hm
      refine RW.know 12 rfl (congrArg Value.bool hg21) ?_
      refine RW.loadN ttok rfl rfl rfl rfl rfl ((hS13.bring 0 rfl).box) rfl rfl rfl ?_
      obtain ⟨r22, hx23, hm⟩ := bind_some hm
      refine RW.call rfl rfl rfl enters251 (impl_shardAgent_ok (hE.trans hS13.ext) h0_ hx23) (fun v24 w25 hR26 => ?_)
      obtain ⟨A27, k28, A29, k30, rfl, hR31⟩ := hR26
      have hS32 := hS13.join hR31
      obtain ⟨r33, hx34, hm⟩ := bind_some hm
      refine RW.call rfl rfl rfl enters125 (impl_wellFormed_ok (Ext.refl _) (ty112_shut r22 ((hS32.bring 0 rfl).own) ((hS32.bring 1 rfl).own)) hx34) (fun v35 w36 hR37 => ?_)
      obtain ⟨rfl, hR38⟩ := hR37
      have hS39 := hS32.join hR38
      refine RW.run ttok 2 rfl ?_
      refine RW.nil ?_
      refine WP.ret ?_
      cases hm
      exact ⟨_, .cons (.tmp rfl) .nil, rfl, (hS39.taken 0)⟩
    · skip
      rw [if_neg hg21] at hm
      refine RW.know 12 rfl (congrArg Value.bool (Bool.eq_false_iff.2 hg21)) ?_
      refine RW.run ttok 5 rfl ?_
      refine RW.nil ?_
      refine WP.ret ?_
      cases hm
      exact ⟨_, .cons (.tmp rfl) .nil, rfl, (hS13.taken 0)⟩

theorem enters198 : Enters Try.prog 198 := ⟨_, _, Try.func198, rfl, by kernel_rfl⟩
def m_impl_validShard_c1 (fuel : Nat) (x0 : D.ShardCell) : Option (Bool) := ((m_impl_validShardCell fuel x0).bind fun r14 => some (!r14))

set_option maxRecDepth 100000 in
theorem impl_validShard_c1_ok {W w : World} (hE : Ext W w) {c0_ : List Value} {x0 : D.ShardCell} (h0_ : ty248.ro W c0_ x0) {fuel : Nat} {r : Bool} (hm : m_impl_validShard_c1 fuel x0 = some r) :
    Calls Try.prog 198 ⟨[.agg ⟨c0_⟩]⟩ w (Ret fun v w8 => v = .bool r ∧ St w w8 []) := by
  obtain ⟨A1, k2, A4, k5, e7, h3, h6⟩ := ty248_open h0_; subst e7
  refine Calls.into Try.func198 rfl 6 rfl rfl _ rfl ?_
  unfold m_impl_validShard_c1 at hm
  have hS := St.start w
  refine WP.seq ?_
  refine WP.region ?_
  refine RW.new ttok hS rfl rfl rfl rfl (fun g10 w11 e12 hS13 => ?_)
  refine RW.run ttok 1 rfl ?_
  refine RW.nil ?_
  refine WP.seq ?_
  refine WP.region ?_
  refine RW.loadN ttok rfl rfl rfl rfl rfl ((hS13.bring 0 rfl).box) rfl rfl rfl ?_
  obtain ⟨r14, hx15, hm⟩ := bind_some hm
  refine RW.call rfl rfl rfl enters199 (impl_validShardCell_ok (hE.trans hS13.ext) h0_ hx15) (fun v16 w17 hR18 => ?_)
  obtain ⟨rfl, hR19⟩ := hR18
  have hS20 := hS13.join hR19
  refine RW.run ttok 2 rfl ?_
  refine RW.nil ?_
  refine WP.ret ?_
  cases hm
  exact ⟨_, .cons (.tmp rfl) .nil, rfl, (hS20.taken 0)⟩

theorem enters252 : Enters Try.prog 252 := ⟨_, _, Try.func252, rfl, by kernel_rfl⟩
def m_slices_IndexFunc_impl_ShardVar_impl_ShardVar_j1 (fuel : Nat) (t2 : Unit) : Option Int := some (-1)
def m_slices_IndexFunc_impl_ShardVar_impl_ShardVar_b1 (fuel : Nat) (x0 : (List D.ShardVar)) (x1 : D.ShardVar → Option Bool) (s1 : Int) : Option (Rd (Int) (Unit) (Int)) := (if (decide (s1 < (x0.length : Int))) = true then ((idx x0 s1).bind fun x19 => ((x1 x19).bind fun r26 => (if r26 = true then some (.ret s1) else some (.next (w64 (s1 + 1)))))) else some (.brk ()))
def m_slices_IndexFunc_impl_ShardVar_impl_ShardVar (fuel : Nat) (x0 : (List D.ShardVar)) (x1 : D.ShardVar → Option Bool) : Option (Int) := ((iter (m_slices_IndexFunc_impl_ShardVar_impl_ShardVar_b1 fuel x0 x1) fuel 0).bind fun o => aft o (m_slices_IndexFunc_impl_ShardVar_impl_ShardVar_j1 fuel))

set_option maxRecDepth 100000 in
theorem slices_IndexFunc_impl_ShardVar_impl_ShardVar_ok {W w : World} (hE : Ext W w) {A0_ : Option Addr} {k0_ : Nat} {x0 : (List D.ShardVar)} {f1_ : Nat} {u1_ : List Value} {x1 : D.ShardVar → Option Bool} (h0_ : ty197.ro W [.slice A0_ x0.length k0_] x0) (h1_ : Enters Try.prog f1_ ∧ ∀ {w9 : World}, Ext W w9 → ∀ {cz0 : List Value} {z0 : D.ShardVar} {y9 : Bool}, ty250.ro w9 cz0 z0 → x1 z0 = some y9 → Calls Try.prog f1_ ⟨[.agg ⟨cz0⟩] ++ u1_⟩ w9 (Ret fun v w8 => v = .bool y9 ∧ St w9 w8 [])) {fuel : Nat} {r : Int} (hm : m_slices_IndexFunc_impl_ShardVar_impl_ShardVar fuel x0 x1 = some r) :
    Calls Try.prog 252 ⟨[.slice A0_ x0.length k0_, .func (.func f1_) #[] ⟨u1_⟩]⟩ w (Ret fun v w8 => v = .int .i64 r ∧ St w w8 []) := by
  refine Calls.into Try.func252 rfl 19 rfl rfl _ rfl ?_
  unfold m_slices_IndexFunc_impl_ShardVar_impl_ShardVar at hm
  have hS := St.start w
  refine WP.seq ?_
  refine WP.region ?_
  refine RW.run ttok 1 rfl ?_
  refine RW.nil ?_
  refine WP.seq ?_
  refine WP.seq ?_
  refine WP.region ?_
  refine RW.run ttok 3 rfl ?_
  refine RW.nil ?_
  obtain ⟨o10, hl11, hm⟩ := bind_some hm
  refine WP.cut (fun (t2 : Unit) F w9 => o10 = .inl t2 ∧ Ext w w9 ∧ St w w9 [] ∧ F = []) ?_ ?_
  · skip
    rintro t2 F w7 ⟨ho13, hE6, hS12, rfl⟩
    subst ho13
    rw [aft_inl] at hm
    unfold m_slices_IndexFunc_impl_ShardVar_impl_ShardVar_j1 at hm
    refine WP.seq ?_
    refine WP.region ?_
    refine RW.run ttok 1 rfl ?_
    refine RW.nil ?_
    refine WP.ret ?_
    cases hm
    exact ⟨_, .cons (.tmp rfl) .nil, rfl, hS12⟩
  · skip
    refine WP.block ?_
    refine WP.weak [(0, .slice A0_ x0.length k0_), (1, .func (.func f1_) #[] ⟨u1_⟩), (7, .int .i64 (x0.length : Int)), (8, .int .i64 0)] ⟨rfl, rfl, rfl, rfl, trivial⟩ ?_
    refine WP.iter (fun (s1 : Int) F w9 => Ext w w9 ∧ St w w9 [] ∧ F = [(0, .slice A0_ x0.length k0_), (1, .func (.func f1_) #[] ⟨u1_⟩), (7, .int .i64 (x0.length : Int)), (8, .int .i64 s1)]) _ hl11 ⟨(Ext.refl _), hS, rfl⟩ ?_
    rintro s1 F w18 _ o16 ⟨hE5, hS17, rfl⟩ hb14 ho15
    unfold m_slices_IndexFunc_impl_ShardVar_impl_ShardVar_b1 at hb14
    refine WP.seq ?_
    refine WP.region ?_
    refine RW.run ttok 1 rfl ?_
    refine RW.nil ?_
    refine WP.seq ?_
    refine WP.cond (decide (s1 < (x0.length : Int))) rfl (fun hc => ?_) (fun hc => ?_)
    · skip
      rw [if_pos hc] at hb14
      refine WP.skip ?_
      refine WP.seq ?_
      refine WP.block ?_
      refine WP.seq ?_
      refine WP.region ?_
      refine RW.run ttok 2 rfl ?_
      refine RW.nil ?_
      refine WP.seq ?_
      refine WP.region ?_
      refine RW.run ttok 3 rfl ?_
      obtain ⟨x19, hx20, hb14⟩ := bind_some hb14
      refine RW.idx ttok (hE.trans hS17.ext) rfl rfl rfl rfl rfl rfl (by decide) rfl rfl h0_ (idx_some hx20).1 (idx_some hx20).2 rfl rfl (fun p21 es22 ha23 hr24 => ?_)
      have e25 := ty250_open hr24; subst e25
      refine RW.loadN ttok rfl rfl rfl rfl rfl (At.ext (hE.trans hS17.ext) ha23) rfl rfl rfl ?_
      obtain ⟨r26, hx27, hb14⟩ := bind_some hb14
      refine RW.call rfl rfl rfl h1_.1 (h1_.2 (hE.trans hS17.ext) (ty250.ext (hE.trans hS17.ext) hr24) hx27) (fun v28 w29 hR30 => ?_)
      obtain ⟨rfl, hR31⟩ := hR30
      have hS32 := hS17.join hR31
      refine RW.nil ?_
      refine WP.cond r26 rfl (fun hc => ?_) (fun hc => ?_)
      · skip
        rw [if_pos hc] at hb14
        refine WP.seq ?_
        refine WP.region ?_
        refine RW.run ttok 2 rfl ?_
        refine RW.nil ?_
        refine WP.ret ?_
        cases hb14
        cases ho15
        have hm : some _ = some _ := hm
        cases hm
        exact ⟨_, .cons (.tmp rfl) .nil, rfl, hS32⟩
      · skip
        rw [if_neg (not_t hc)] at hb14
        refine WP.skip ?_
        refine WP.region ?_
        refine RW.run ttok 2 rfl ?_
        refine RW.nil ?_
        cases hb14
        exact ⟨_, [(0, .slice A0_ x0.length k0_), (1, .func (.func f1_) #[] ⟨u1_⟩), (7, .int .i64 (x0.length : Int)), (8, .int .i64 (w64 (s1 + 1)))], ⟨rfl, rfl, rfl, rfl, trivial⟩, rfl, (hE5.trans hR31.ext), hS32, rfl⟩
    · skip
      rw [if_neg (not_t hc)] at hb14
      refine WP.exit ?_
      cases hb14
      exact ⟨_, [], trivial, ho15, hE5, hS17, rfl⟩

theorem enters200 : Enters Try.prog 200 := ⟨_, _, Try.func200, rfl, by kernel_rfl⟩
def m_slices_ContainsFunc_impl_ShardVar_impl_ShardVar (fuel : Nat) (x0 : (List D.ShardVar)) (x1 : D.ShardVar → Option Bool) : Option (Bool) := ((m_slices_IndexFunc_impl_ShardVar_impl_ShardVar fuel x0 x1).bind fun r1 => some (decide (r1 ≥ 0)))

set_option maxRecDepth 100000 in
theorem slices_ContainsFunc_impl_ShardVar_impl_ShardVar_ok {W w : World} (hE : Ext W w) {A0_ : Option Addr} {k0_ : Nat} {x0 : (List D.ShardVar)} {f1_ : Nat} {u1_ : List Value} {x1 : D.ShardVar → Option Bool} (h0_ : ty197.ro W [.slice A0_ x0.length k0_] x0) (h1_ : Enters Try.prog f1_ ∧ ∀ {w9 : World}, Ext W w9 → ∀ {cz0 : List Value} {z0 : D.ShardVar} {y9 : Bool}, ty250.ro w9 cz0 z0 → x1 z0 = some y9 → Calls Try.prog f1_ ⟨[.agg ⟨cz0⟩] ++ u1_⟩ w9 (Ret fun v w8 => v = .bool y9 ∧ St w9 w8 [])) {fuel : Nat} {r : Bool} (hm : m_slices_ContainsFunc_impl_ShardVar_impl_ShardVar fuel x0 x1 = some r) :
    Calls Try.prog 200 ⟨[.slice A0_ x0.length k0_, .func (.func f1_) #[] ⟨u1_⟩]⟩ w (Ret fun v w8 => v = .bool r ∧ St w w8 []) := by
  refine Calls.into Try.func200 rfl 9 rfl rfl _ rfl ?_
  unfold m_slices_ContainsFunc_impl_ShardVar_impl_ShardVar at hm
  have hS := St.start w
  refine WP.seq ?_
  refine WP.region ?_
  refine RW.run ttok 1 rfl ?_
  refine RW.nil ?_
  refine WP.seq ?_
  refine WP.region ?_
  refine RW.run ttok 2 rfl ?_
  obtain ⟨r1, hx2, hm⟩ := bind_some hm
  refine RW.call rfl rfl rfl enters252 (slices_IndexFunc_impl_ShardVar_impl_ShardVar_ok (hE.trans hS.ext) h0_ h1_ hx2) (fun v3 w4 hR5 => ?_)
  obtain ⟨rfl, hR6⟩ := hR5
  have hS7 := hS.join hR6
  refine RW.run ttok 2 rfl ?_
  refine RW.nil ?_
  refine WP.ret ?_
  cases hm
  exact ⟨_, .cons (.tmp rfl) .nil, rfl, hS7⟩

theorem enters202 : Enters Try.prog 202 := ⟨_, _, Try.func202, rfl, by kernel_rfl⟩
def m_impl_validShardVar (fuel : Nat) (x0 : D.ShardVar) : Option (Bool) := (if x0.Used = true then some true else (if (!x0.Full) = true then some (((x0.Held.Machine : Int) == 0) && (((x0.Held.Kind : Int) == 0) && (((x0.Held.Index : Int) == 0) && true))) else some false))

set_option maxRecDepth 100000 in
theorem impl_validShardVar_ok {W w : World} (hE : Ext W w) {c0_ : List Value} {x0 : D.ShardVar} (h0_ : ty250.ro W c0_ x0) {fuel : Nat} {r : Bool} (hm : m_impl_validShardVar fuel x0 = some r) :
    Calls Try.prog 202 ⟨[.agg ⟨c0_⟩]⟩ w (Ret fun v w8 => v = .bool r ∧ St w w8 []) := by
  have e1 := ty250_open h0_; subst e1
  refine Calls.into Try.func202 rfl 16 rfl rfl _ rfl ?_
  unfold m_impl_validShardVar at hm
  have hS := St.start w
  refine WP.seq ?_
  refine WP.region ?_
  refine RW.new ttok hS rfl rfl rfl rfl (fun g2 w3 e4 hS5 => ?_)
  refine RW.run ttok 1 rfl ?_
  refine RW.nil ?_
  refine WP.seq ?_
  refine WP.region ?_
  refine RW.run ttok 1 rfl ?_
  refine RW.load1 ttok rfl rfl rfl rfl rfl ((hS5.bring 0 rfl).box) 0 rfl rfl rfl rfl ?_
  refine RW.run ttok 1 rfl ?_
  by_cases hg6 : x0.Used = true
  · skip
    rw [if_pos hg6] at hm
    refine RW.know 5 rfl (congrArg Value.bool hg6) ?_
    refine RW.run ttok 11 rfl ?_
    refine RW.nil ?_
    refine WP.ret ?_
    cases hm
    exact ⟨_, .cons (.tmp rfl) .nil, rfl, (hS5.taken 0)⟩
  · skip
    rw [if_neg hg6] at hm
    refine RW.know 5 rfl (congrArg Value.bool (Bool.eq_false_iff.2 hg6)) ?_
    refine RW.run ttok 1 rfl ?_
    refine RW.load1 ttok rfl rfl rfl rfl rfl ((hS5.bring 0 rfl).box) 1 rfl rfl rfl rfl ?_
    refine RW.run ttok 2 rfl ?_
    by_cases hg7 : (!x0.Full) = true
    · skip
      rw [if_pos hg7] at hm
      refine RW.know 9 rfl (congrArg Value.bool hg7) ?_
      refine RW.run ttok 1 rfl ?_
      refine RW.loadN ttok rfl rfl rfl rfl rfl (At.sub ((hS5.bring 0 rfl).box) 2 3) rfl rfl rfl ?_
      refine RW.quiet rfl (Quiet.build ttok rfl rfl rfl rfl rfl) rfl rfl ?_
      refine RW.run ttok 4 rfl ?_
      refine RW.nil ?_
      refine WP.ret ?_
      cases hm
      exact ⟨_, .cons (.tmp rfl) .nil, rfl, (hS5.taken 0)⟩
    · skip
      rw [if_neg hg7] at hm
      refine RW.know 9 rfl (congrArg Value.bool (Bool.eq_false_iff.2 hg7)) ?_
      refine RW.run ttok 7 rfl ?_
      refine RW.nil ?_
      refine WP.ret ?_
      cases hm
      exact ⟨_, .cons (.tmp rfl) .nil, rfl, (hS5.taken 0)⟩

theorem enters201 : Enters Try.prog 201 := ⟨_, _, Try.func201, rfl, by kernel_rfl⟩
def m_impl_validShard_c2 (fuel : Nat) (x0 : D.ShardVar) : Option (Bool) := ((m_impl_validShardVar fuel x0).bind fun r6 => (if (!r6) = true then some true else (if (!x0.Full) = true then some (!(((x0.Held.Machine : Int) == 0) && (((x0.Held.Kind : Int) == 0) && (((x0.Held.Index : Int) == 0) && true)))) else some false)))

set_option maxRecDepth 100000 in
theorem impl_validShard_c2_ok {W w : World} (hE : Ext W w) {c0_ : List Value} {x0 : D.ShardVar} (h0_ : ty250.ro W c0_ x0) {fuel : Nat} {r : Bool} (hm : m_impl_validShard_c2 fuel x0 = some r) :
    Calls Try.prog 201 ⟨[.agg ⟨c0_⟩]⟩ w (Ret fun v w8 => v = .bool r ∧ St w w8 []) := by
  have e1 := ty250_open h0_; subst e1
  refine Calls.into Try.func201 rfl 17 rfl rfl _ rfl ?_
  unfold m_impl_validShard_c2 at hm
  have hS := St.start w
  refine WP.seq ?_
  refine WP.region ?_
  refine RW.new ttok hS rfl rfl rfl rfl (fun g2 w3 e4 hS5 => ?_)
  refine RW.run ttok 1 rfl ?_
  refine RW.nil ?_
  refine WP.seq ?_
  refine WP.region ?_
  refine RW.loadN ttok rfl rfl rfl rfl rfl ((hS5.bring 0 rfl).box) rfl rfl rfl ?_
  obtain ⟨r6, hx7, hm⟩ := bind_some hm
  refine RW.call rfl rfl rfl enters202 (impl_validShardVar_ok (hE.trans hS5.ext) h0_ hx7) (fun v10 w11 hR12 => ?_)
  obtain ⟨rfl, hR13⟩ := hR12
  have hS14 := hS5.join hR13
  refine RW.run ttok 2 rfl ?_
  by_cases hg15 : (!r6) = true
  · skip
    rw [if_pos hg15] at hm
    refine RW.know 6 rfl (congrArg Value.bool hg15) ?_
    refine RW.run ttok 11 rfl ?_
    refine RW.nil ?_
    refine WP.ret ?_
    cases hm
    exact ⟨_, .cons (.tmp rfl) .nil, rfl, (hS14.taken 0)⟩
  · skip
    rw [if_neg hg15] at hm
    refine RW.know 6 rfl (congrArg Value.bool (Bool.eq_false_iff.2 hg15)) ?_
    refine RW.run ttok 1 rfl ?_
    refine RW.load1 ttok rfl rfl rfl rfl rfl ((hS14.bring 0 rfl).box) 1 rfl rfl rfl rfl ?_
    refine RW.run ttok 2 rfl ?_
    by_cases hg16 : (!x0.Full) = true
    · skip
      rw [if_pos hg16] at hm
      refine RW.know 10 rfl (congrArg Value.bool hg16) ?_
      refine RW.run ttok 1 rfl ?_
      refine RW.loadN ttok rfl rfl rfl rfl rfl (At.sub ((hS14.bring 0 rfl).box) 2 3) rfl rfl rfl ?_
      refine RW.quiet rfl (Quiet.build ttok rfl rfl rfl rfl rfl) rfl rfl ?_
      refine RW.run ttok 4 rfl ?_
      refine RW.nil ?_
      refine WP.ret ?_
      cases hm
      exact ⟨_, .cons (.tmp rfl) .nil, rfl, (hS14.taken 0)⟩
    · skip
      rw [if_neg hg16] at hm
      refine RW.know 10 rfl (congrArg Value.bool (Bool.eq_false_iff.2 hg16)) ?_
      refine RW.run ttok 7 rfl ?_
      refine RW.nil ?_
      refine WP.ret ?_
      cases hm
      exact ⟨_, .cons (.tmp rfl) .nil, rfl, (hS14.taken 0)⟩

theorem enters138 : Enters Try.prog 138 := ⟨_, _, Try.func138, rfl, by kernel_rfl⟩
def m_impl_validShard_j1 (fuel : Nat) (x0 : D.Shard) (t17 : Bool) : Option Bool := (if t17 = true then some false else ((m_slices_ContainsFunc_impl_ShardCell_impl_ShardCell fuel x0.Cells (fun y0 => m_impl_validShard_c1 fuel y0)).bind fun r22 => (if (!r22) = true then ((m_slices_ContainsFunc_impl_ShardVar_impl_ShardVar fuel x0.Vars (fun y0 => m_impl_validShard_c2 fuel y0)).bind fun r30 => some (!r30)) else some false)))
def m_impl_validShard (fuel : Nat) (x0 : D.Shard) : Option (Bool) := (if (decide ((x0.Cells.length : Int) > 400)) = true then m_impl_validShard_j1 fuel x0 true else (if (decide ((x0.Vars.length : Int) > 400)) = true then m_impl_validShard_j1 fuel x0 true else m_impl_validShard_j1 fuel x0 (decide ((x0.Redexes.length : Int) > 400))))

set_option maxRecDepth 100000 in
theorem impl_validShard_ok {W w : World} (hE : Ext W w) {c0_ : List Value} {x0 : D.Shard} (h0_ : ty200.ro W c0_ x0) {fuel : Nat} {r : Bool} (hm : m_impl_validShard fuel x0 = some r) :
    Calls Try.prog 138 ⟨[.agg ⟨c0_⟩]⟩ w (Ret fun v w8 => v = .bool r ∧ St w w8 []) := by
  obtain ⟨A1, k2, A4, k5, A7, k10, e12, h3, h6, h11⟩ := ty200_open h0_; subst e12
  refine Calls.into Try.func138 rfl 29 rfl rfl _ rfl ?_
  unfold m_impl_validShard at hm
  have hS := St.start w
  refine WP.seq ?_
  refine WP.region ?_
  refine RW.new ttok hS rfl rfl rfl rfl (fun g13 w14 e15 hS16 => ?_)
  refine RW.run ttok 1 rfl ?_
  refine RW.nil ?_
  refine WP.seq ?_
  refine WP.seq ?_
  refine WP.cut (fun (t17 : Bool) F w9 => m_impl_validShard_j1 fuel x0 t17 = some r ∧ Ext w14 w9 ∧ St w w9 [Box g13 [.slice A1 x0.Cells.length k2, .slice A4 x0.Vars.length k5, .slice A7 x0.Redexes.length k10] 200] ∧ F = [(1, .pointer (some ⟨g13, 0, none⟩)), (18, .bool t17)]) ?_ ?_
  · skip
    rintro t17 F w20 ⟨hm, hE18, hS19, rfl⟩
    unfold m_impl_validShard_j1 at hm
    refine WP.cond t17 rfl (fun hc => ?_) (fun hc => ?_)
    · skip
      rw [if_pos hc] at hm
      refine WP.seq ?_
      refine WP.region ?_
      refine RW.run ttok 1 rfl ?_
      refine RW.nil ?_
      refine WP.ret ?_
      cases hm
      exact ⟨_, .cons (.tmp rfl) .nil, rfl, (hS19.taken 0)⟩
    · skip
      rw [if_neg (not_t hc)] at hm
      refine WP.skip ?_
      refine WP.seq ?_
      refine WP.region ?_
      refine RW.run ttok 1 rfl ?_
      refine RW.load1 ttok rfl rfl rfl rfl rfl ((hS19.bring 0 rfl).box) 0 rfl rfl rfl rfl ?_
      obtain ⟨r22, hx23, hm⟩ := bind_some hm
      refine RW.call rfl rfl rfl enters197 (slices_ContainsFunc_impl_ShardCell_impl_ShardCell_ok (hE.trans hS19.ext) h3 ⟨enters198, fun e9 => (fun a0_0 hx9 => impl_validShard_c1_ok (Ext.refl _) a0_0 hx9)⟩ hx23) (fun v24 w25 hR26 => ?_)
      obtain ⟨rfl, hR27⟩ := hR26
      have hS28 := hS19.join hR27
      refine RW.run ttok 2 rfl ?_
      by_cases hg29 : (!r22) = true
      · skip
        rw [if_pos hg29] at hm
        refine RW.know 23 rfl (congrArg Value.bool hg29) ?_
        refine RW.run ttok 1 rfl ?_
        refine RW.load1 ttok rfl rfl rfl rfl rfl ((hS28.bring 0 rfl).box) 1 rfl rfl rfl rfl ?_
        obtain ⟨r30, hx31, hm⟩ := bind_some hm
        refine RW.call rfl rfl rfl enters200 (slices_ContainsFunc_impl_ShardVar_impl_ShardVar_ok (hE.trans hS28.ext) h6 ⟨enters201, fun e9 => (fun a0_0 hx9 => impl_validShard_c2_ok (Ext.refl _) a0_0 hx9)⟩ hx31) (fun v32 w33 hR34 => ?_)
        obtain ⟨rfl, hR35⟩ := hR34
        have hS36 := hS28.join hR35
        refine RW.run ttok 3 rfl ?_
        refine RW.nil ?_
        refine WP.ret ?_
        cases hm
        exact ⟨_, .cons (.tmp rfl) .nil, rfl, (hS36.taken 0)⟩
      · skip
        rw [if_neg hg29] at hm
        refine RW.know 23 rfl (congrArg Value.bool (Bool.eq_false_iff.2 hg29)) ?_
        refine RW.run ttok 6 rfl ?_
        refine RW.nil ?_
        refine WP.ret ?_
        cases hm
        exact ⟨_, .cons (.tmp rfl) .nil, rfl, (hS28.taken 0)⟩
  · skip
    refine WP.region ?_
    refine RW.run ttok 1 rfl ?_
    refine RW.load1 ttok rfl rfl rfl rfl rfl ((hS16.bring 0 rfl).box) 0 rfl rfl rfl rfl ?_
    refine RW.run ttok 3 rfl ?_
    by_cases hg37 : (decide ((x0.Cells.length : Int) > 400)) = true
    · skip
      rw [if_pos hg37] at hm
      refine RW.know 7 rfl (congrArg Value.bool hg37) ?_
      refine RW.run ttok 11 rfl ?_
      refine RW.nil ?_
      exact ⟨true, [(1, .pointer (some ⟨g13, 0, none⟩)), (18, .bool true)], ⟨rfl, rfl, trivial⟩, hm, (Ext.refl _), hS16, rfl⟩
    · skip
      rw [if_neg hg37] at hm
      refine RW.know 7 rfl (congrArg Value.bool (Bool.eq_false_iff.2 hg37)) ?_
      refine RW.run ttok 1 rfl ?_
      refine RW.load1 ttok rfl rfl rfl rfl rfl ((hS16.bring 0 rfl).box) 1 rfl rfl rfl rfl ?_
      refine RW.run ttok 4 rfl ?_
      by_cases hg38 : (decide ((x0.Vars.length : Int) > 400)) = true
      · skip
        rw [if_pos hg38] at hm
        refine RW.know 13 rfl (congrArg Value.bool hg38) ?_
        refine RW.run ttok 5 rfl ?_
        refine RW.nil ?_
        exact ⟨true, [(1, .pointer (some ⟨g13, 0, none⟩)), (18, .bool true)], ⟨rfl, rfl, trivial⟩, hm, (Ext.refl _), hS16, rfl⟩
      · skip
        rw [if_neg hg38] at hm
        refine RW.know 13 rfl (congrArg Value.bool (Bool.eq_false_iff.2 hg38)) ?_
        refine RW.run ttok 1 rfl ?_
        refine RW.load1 ttok rfl rfl rfl rfl rfl ((hS16.bring 0 rfl).box) 2 rfl rfl rfl rfl ?_
        refine RW.run ttok 3 rfl ?_
        refine RW.nil ?_
        exact ⟨decide ((x0.Redexes.length : Int) > 400), [(1, .pointer (some ⟨g13, 0, none⟩)), (18, .bool (decide ((x0.Redexes.length : Int) > 400)))], ⟨rfl, rfl, trivial⟩, hm, (Ext.refl _), hS16, rfl⟩

theorem enters137 : Enters Try.prog 137 := ⟨_, _, Try.func137, rfl, by kernel_rfl⟩
def m_impl_Grid_validWith_c1 (fuel : Nat) (x0 : D.Shard) : Option (Bool) := ((m_impl_validShard fuel x0).bind fun r17 => some (!r17))

set_option maxRecDepth 100000 in
theorem impl_Grid_validWith_c1_ok {W w : World} (hE : Ext W w) {c0_ : List Value} {x0 : D.Shard} (h0_ : ty200.ro W c0_ x0) {fuel : Nat} {r : Bool} (hm : m_impl_Grid_validWith_c1 fuel x0 = some r) :
    Calls Try.prog 137 ⟨[.agg ⟨c0_⟩]⟩ w (Ret fun v w8 => v = .bool r ∧ St w w8 []) := by
  obtain ⟨A1, k2, A4, k5, A7, k10, e12, h3, h6, h11⟩ := ty200_open h0_; subst e12
  refine Calls.into Try.func137 rfl 6 rfl rfl _ rfl ?_
  unfold m_impl_Grid_validWith_c1 at hm
  have hS := St.start w
  refine WP.seq ?_
  refine WP.region ?_
  refine RW.new ttok hS rfl rfl rfl rfl (fun g13 w14 e15 hS16 => ?_)
  refine RW.run ttok 1 rfl ?_
  refine RW.nil ?_
  refine WP.seq ?_
  refine WP.region ?_
  refine RW.loadN ttok rfl rfl rfl rfl rfl ((hS16.bring 0 rfl).box) rfl rfl rfl ?_
  obtain ⟨r17, hx18, hm⟩ := bind_some hm
  refine RW.call rfl rfl rfl enters138 (impl_validShard_ok (hE.trans hS16.ext) h0_ hx18) (fun v19 w20 hR21 => ?_)
  obtain ⟨rfl, hR22⟩ := hR21
  have hS23 := hS16.join hR22
  refine RW.run ttok 2 rfl ?_
  refine RW.nil ?_
  refine WP.ret ?_
  cases hm
  exact ⟨_, .cons (.tmp rfl) .nil, rfl, (hS23.taken 0)⟩

theorem enters207 : Enters Try.prog 207 := ⟨_, _, Try.func207, rfl, by kernel_rfl⟩
def m_impl_port (fuel : Nat) (x0 : D.Address) (x1 : Int) : Option (D.thing) := (if (decide (x1 > 0)) = true then some (⟨(⟨x0.Machine, x0.Kind, x0.Index⟩ : D.Address), x1, true⟩ : D.thing) else some (⟨(⟨x0.Machine, x0.Kind, x0.Index⟩ : D.Address), x1, (x0.Kind != 1)⟩ : D.thing))

set_option maxRecDepth 100000 in
theorem impl_port_ok {W w : World} (hE : Ext W w) {c0_ : List Value} {x0 : D.Address} {x1 : Int} (h0_ : ty62.ro W c0_ x0) {fuel : Nat} {r : D.thing} (hm : m_impl_port fuel x0 x1 = some r) :
    Calls Try.prog 207 ⟨[.agg ⟨c0_⟩, .int .i64 x1]⟩ w (Ret fun v w8 => v = .agg ⟨[.int .i64 r.at_.Machine, .int .i64 r.at_.Kind, .int .i64 r.at_.Index, .int .i64 r.slot, .bool r.own]⟩ ∧ St w w8 []) := by
  have e1 := ty62_open h0_; subst e1
  refine Calls.into Try.func207 rfl 15 rfl rfl _ rfl ?_
  unfold m_impl_port at hm
  have hS := St.start w
  refine WP.seq ?_
  refine WP.region ?_
  refine RW.new ttok hS rfl rfl rfl rfl (fun g2 w3 e4 hS5 => ?_)
  refine RW.new ttok hS5 rfl rfl rfl rfl (fun g6 w7 e10 hS11 => ?_)
  refine RW.nil ?_
  refine WP.seq ?_
  refine WP.region ?_
  refine RW.loadN ttok rfl rfl rfl rfl rfl ((hS11.bring 1 rfl).box) rfl rfl rfl ?_
  refine RW.run ttok 4 rfl ?_
  by_cases hg12 : (decide (x1 > 0)) = true
  · skip
    rw [if_pos hg12] at hm
    refine RW.know 9 rfl (congrArg Value.bool hg12) ?_
    refine RW.run ttok 4 rfl ?_
    refine RW.quiet rfl (Quiet.build ttok rfl rfl rfl rfl rfl) rfl rfl ?_
    have hS13 := hS11.bring 0 rfl
    refine RW.store ttok (A := []) hS13 rfl rfl rfl rfl rfl 0 rfl rfl rfl rfl rfl (fun w14 hS15 => ?_)
    refine RW.nil ?_
    refine WP.ret ?_
    cases hm
    exact ⟨_, .cons (ResIs.agg ttok rfl rfl rfl ((hS15.bring 0 rfl).box) rfl) .nil, rfl, (hS15.taken 0)⟩
  · skip
    rw [if_neg hg12] at hm
    refine RW.know 9 rfl (congrArg Value.bool (Bool.eq_false_iff.2 hg12)) ?_
    refine RW.run ttok 1 rfl ?_
    refine RW.load1 ttok rfl rfl rfl rfl rfl ((hS11.bring 1 rfl).box) 1 rfl rfl rfl rfl ?_
    refine RW.run ttok 2 rfl ?_
    refine RW.quiet rfl (Quiet.build ttok rfl rfl rfl rfl rfl) rfl rfl ?_
    have hS16 := hS11.bring 0 rfl
    refine RW.store ttok (A := []) hS16 rfl rfl rfl rfl rfl 0 rfl rfl rfl rfl rfl (fun w17 hS18 => ?_)
    refine RW.nil ?_
    refine WP.ret ?_
    cases hm
    exact ⟨_, .cons (ResIs.agg ttok rfl rfl rfl ((hS18.bring 0 rfl).box) rfl) .nil, rfl, (hS18.taken 0)⟩

theorem enters205 : Enters Try.prog 205 := ⟨_, _, Try.func205, rfl, by kernel_rfl⟩
def m_impl_cellAddress (fuel : Nat) (x0 : Int) (x1 : Int) : Option (D.Address) := some (⟨x0, 1, x1⟩ : D.Address)

set_option maxRecDepth 100000 in
theorem impl_cellAddress_ok {W w : World} (hE : Ext W w) {x0 : Int} {x1 : Int}  {fuel : Nat} {r : D.Address} (hm : m_impl_cellAddress fuel x0 x1 = some r) :
    Calls Try.prog 205 ⟨[.int .i64 x0, .int .i64 x1]⟩ w (Ret fun v w8 => v = .agg ⟨[.int .i64 r.Machine, .int .i64 r.Kind, .int .i64 r.Index]⟩ ∧ St w w8 []) := by
  refine Calls.into Try.func205 rfl 8 rfl rfl _ rfl ?_
  unfold m_impl_cellAddress at hm
  have hS := St.start w
  refine WP.seq ?_
  refine WP.region ?_
  refine RW.new ttok hS rfl rfl rfl rfl (fun g1 w2 e3 hS4 => ?_)
  refine RW.nil ?_
  refine WP.seq ?_
  refine WP.region ?_
  refine RW.run ttok 2 rfl ?_
  refine RW.quiet rfl (Quiet.build ttok rfl rfl rfl rfl rfl) rfl rfl ?_
  have hS5 := hS4.bring 0 rfl
  refine RW.store ttok (A := []) hS5 rfl rfl rfl rfl rfl 0 rfl rfl rfl rfl rfl (fun w6 hS7 => ?_)
  refine RW.nil ?_
  refine WP.ret ?_
  cases hm
  exact ⟨_, .cons (ResIs.agg ttok rfl rfl rfl ((hS7.bring 0 rfl).box) rfl) .nil, rfl, (hS7.taken 0)⟩

end Go.E
