/- Models of functions and proofs that the code runs as they say (written by program). Conditions: the model gives a value. -/
import Derived.Test.YtlgkoadccodcaaaFN
namespace Go.E
open Go.RowKit Go.Proofs
set_option linter.unusedVariables false
set_option linter.unusedSimpArgs false
set_option maxHeartbeats 2000000

theorem enters4 : Enters Try.prog 4 := ⟨_, _, Try.func4, rfl, by kernel_rfl⟩
def m_laws_FnExactNewChannel_j3 (fuel : Nat) (r48 : D.Channel × Int) (r102 : Int × (List ByteArray) × (List D.Packet) × (List ByteArray) × (List D.Packet)) (t158 : Bool) : Option Bool := (if t158 = true then some false else ((m_laws_heldChannel fuel (⟨r48.1.Window, r102.2.1, r48.1.Base, r48.1.Next, r48.1.Expected, r102.2.2.1, r102.2.2.2.1, r102.2.2.2.2⟩ : D.Channel) 1).bind fun r163 => (if (decide (r163 < 0)) = true then some false else (if (r163 != r102.1) = true then some false else some true))))
def m_laws_FnExactNewChannel_j2 (fuel : Nat) (x0 : (List ByteArray)) (x1 : Int) (r17 : D.Channel × Int) (r48 : D.Channel × Int) (t97 : Bool) : Option Bool := (if t97 = true then some false else ((m_laws_markChannel fuel r48.1 1).bind fun r102 => ((m_laws_heldChannel fuel (⟨r48.1.Window, r102.2.1, r48.1.Base, r48.1.Next, r48.1.Expected, r102.2.2.1, r102.2.2.2.1, r102.2.2.2.2⟩ : D.Channel) 1).bind fun r120 => (if (decide (r120 < 0)) = true then some false else (if (r120 != r102.1) = true then some false else ((m_laws_toStringS fuel x0).bind fun r127 => ((m_impl_NewChannel fuel r127 x1).bind fun r136 => ((m_laws_eqChannel fuel r136.1 r17.1).bind fun r170 => (if (!r170) = true then m_laws_FnExactNewChannel_j3 fuel r48 r102 true else m_laws_FnExactNewChannel_j3 fuel r48 r102 (r136.2 != r17.2))))))))))
def m_laws_FnExactNewChannel_j1 (fuel : Nat) (x0 : (List ByteArray)) (x1 : Int) (r17 : D.Channel × Int) (r39 : (List ByteArray)) (r48 : D.Channel × Int) (t70 : Bool) : Option Bool := (if t70 = true then some false else ((m_laws_toStringS fuel x0).bind fun r75 => ((m_laws_eqStringS fuel r39 r75).bind fun r84 => (if (!r84) = true then some false else ((m_laws_markStringS fuel r39 1).bind fun r91 => (if (decide (r91.1 < 0)) = true then m_laws_FnExactNewChannel_j2 fuel x0 x1 r17 r48 true else ((m_laws_eqChannel fuel r48.1 r17.1).bind fun r179 => (if (!r179) = true then m_laws_FnExactNewChannel_j2 fuel x0 x1 r17 r48 true else m_laws_FnExactNewChannel_j2 fuel x0 x1 r17 r48 (r48.2 != r17.2)))))))))
def m_laws_FnExactNewChannel (fuel : Nat) (x0 : (List ByteArray)) (x1 : Int) : Option (Bool) := ((m_laws_szStringS fuel x0 1048576).bind fun r1 => (if (decide (r1 < 0)) = true then some true else ((m_laws_toStringS fuel x0).bind fun r8 => ((m_spec_NewChannel fuel r8 x1).bind fun r17 => ((m_laws_toStringS fuel x0).bind fun r39 => ((m_impl_NewChannel fuel r39 x1).bind fun r48 => ((m_laws_eqChannel fuel r48.1 r17.1).bind fun r187 => (if (!r187) = true then m_laws_FnExactNewChannel_j1 fuel x0 x1 r17 r39 r48 true else m_laws_FnExactNewChannel_j1 fuel x0 x1 r17 r39 r48 (r48.2 != r17.2)))))))))

set_option maxRecDepth 100000 in
theorem laws_FnExactNewChannel_ok {w : World} {A0_ : Option Addr} {k0_ : Nat} {x0 : (List ByteArray)} {x1 : Int} (h0_ : ty35.ro w [.slice A0_ x0.length k0_] x0) {fuel : Nat} {r : Bool} (hm : m_laws_FnExactNewChannel fuel x0 x1 = some r) :
    Calls Try.prog 4 ⟨[.slice A0_ x0.length k0_, .int .i64 x1]⟩ w (Ret fun v w8 => v = .bool r ∧ St w w8 []) := by
  refine Calls.into Try.func4 rfl 101 rfl rfl _ rfl ?_
  unfold m_laws_FnExactNewChannel at hm
  have hS := St.start w
  refine WP.seq ?_
  refine WP.region ?_
  refine RW.run ttok 1 rfl ?_
  refine RW.nil ?_
  refine WP.seq ?_
  refine WP.region ?_
  refine RW.run ttok 1 rfl ?_
  refine RW.nil ?_
  refine WP.seq ?_
  refine WP.region ?_
  refine RW.run ttok 2 rfl ?_
  obtain ⟨r1, hx2, hm⟩ := bind_some hm
  refine RW.call rfl rfl rfl enters23 (laws_szStringS_ok (ty35.ext hS.ext h0_) hx2) (fun v3 w4 hR5 => ?_)
  obtain ⟨rfl, hR6⟩ := hR5
  have hS7 := hS.join hR6
  refine RW.run ttok 1 rfl ?_
  refine RW.nil ?_
  refine WP.seq ?_
  refine WP.seq ?_
  refine WP.region ?_
  refine RW.run ttok 2 rfl ?_
  refine RW.nil ?_
  refine WP.cond (decide (r1 < 0)) rfl (fun hc => ?_) (fun hc => ?_)
  · skip
    rw [if_pos hc] at hm
    refine WP.seq ?_
    refine WP.region ?_
    refine RW.run ttok 1 rfl ?_
    refine RW.nil ?_
    refine WP.ret ?_
    cases hm
    exact ⟨_, .cons (.tmp rfl) .nil, rfl, hS7⟩
  · skip
    rw [if_neg (not_t hc)] at hm
    refine WP.skip ?_
    refine WP.seq ?_
    refine WP.region ?_
    refine RW.run ttok 1 rfl ?_
    obtain ⟨r8, hx9, hm⟩ := bind_some hm
    refine RW.call rfl rfl rfl enters25 (laws_toStringS_ok (ty35.ext hS7.ext h0_) hx9) (fun v10 w11 hR12 => ?_)
    obtain ⟨A13, k14, rfl, hR15⟩ := hR12
    have hS16 := hS7.join hR15
    refine RW.run ttok 1 rfl ?_
    obtain ⟨r17, hx18, hm⟩ := bind_some hm
    refine RW.call rfl rfl rfl enters24 (spec_NewChannel_ok ((hS16.bring 0 rfl).own) hx18) (fun v19 w20 hR21 => ?_)
    obtain ⟨A22, k23, A24, k25, A26, k27, A28, k29, rfl, hR30⟩ := hR21
    have hS31 := hS16.join hR30
    refine RW.run ttok 3 rfl ?_
    refine RW.new ttok hS31 rfl rfl rfl rfl (fun g32 w33 e34 hS35 => ?_)
    have hS36 := hS35.bring 0 rfl
    refine RW.store ttok (A := []) hS36 rfl rfl rfl rfl rfl 0 rfl rfl rfl rfl rfl (fun w37 hS38 => ?_)
    refine RW.run ttok 1 rfl ?_
    refine RW.nil ?_
    refine WP.seq ?_
    refine WP.region ?_
    refine RW.run ttok 1 rfl ?_
    obtain ⟨r39, hx40, hm⟩ := bind_some hm
    refine RW.call rfl rfl rfl enters25 (laws_toStringS_ok (ty35.ext hS38.ext h0_) hx40) (fun v41 w42 hR43 => ?_)
    obtain ⟨A44, k45, rfl, hR46⟩ := hR43
    have hS47 := hS38.join hR46
    refine RW.run ttok 1 rfl ?_
    refine RW.nil ?_
    refine WP.seq ?_
    refine WP.region ?_
    refine RW.run ttok 2 rfl ?_
    obtain ⟨r48, hx49, hm⟩ := bind_some hm
    refine RW.call rfl rfl rfl enters26 (impl_NewChannel_ok ((hS47.bring 0 rfl).own) hx49) (fun v50 w51 hR52 => ?_)
    obtain ⟨A53, k54, A55, k56, A57, k58, A59, k60, rfl, hR61⟩ := hR52
    have hS62 := hS47.join hR61
    refine RW.run ttok 3 rfl ?_
    refine RW.new ttok hS62 rfl rfl rfl rfl (fun g63 w64 e65 hS66 => ?_)
    have hS67 := hS66.bring 0 rfl
    refine RW.store ttok (A := []) hS67 rfl rfl rfl rfl rfl 0 rfl rfl rfl rfl rfl (fun w68 hS69 => ?_)
    refine RW.run ttok 1 rfl ?_
    refine RW.nil ?_
    refine WP.seq ?_
    refine WP.seq ?_
    refine WP.cut (fun (t70 : Bool) F w9 => m_laws_FnExactNewChannel_j1 fuel x0 x1 r17 r39 r48 t70 = some r ∧ Ext w68 w9 ∧ St w w9 [Box g63 [.int .i64 r48.1.Window, .slice A53 r48.1.Messages.length k54, .int .i64 r48.1.Base, .int .i64 r48.1.Next, .int .i64 r48.1.Expected, .slice A55 r48.1.Early.length k56, .slice A57 r48.1.Delivered.length k58, .slice A59 r48.1.Flight.length k60] 39, Own ty35 [.slice A53 r48.1.Messages.length k54] r48.1.Messages, Own ty37 [.slice A55 r48.1.Early.length k56] r48.1.Early, Own ty35 [.slice A57 r48.1.Delivered.length k58] r48.1.Delivered, Own ty37 [.slice A59 r48.1.Flight.length k60] r48.1.Flight, Own ty35 [.slice A44 r39.length k45] r39, Box g32 [.int .i64 r17.1.Window, .slice A22 r17.1.Messages.length k23, .int .i64 r17.1.Base, .int .i64 r17.1.Next, .int .i64 r17.1.Expected, .slice A24 r17.1.Early.length k25, .slice A26 r17.1.Delivered.length k27, .slice A28 r17.1.Flight.length k29] 39, Own ty35 [.slice A22 r17.1.Messages.length k23] r17.1.Messages, Own ty37 [.slice A24 r17.1.Early.length k25] r17.1.Early, Own ty35 [.slice A26 r17.1.Delivered.length k27] r17.1.Delivered, Own ty37 [.slice A28 r17.1.Flight.length k29] r17.1.Flight, Own ty35 [.slice A13 r8.length k14] r8] ∧ F = [(0, .slice A0_ x0.length k0_), (1, .int .i64 x1), (6, .pointer (some ⟨g32, 0, none⟩)), (7, .int .i64 r17.2), (8, .slice A44 r39.length k45), (9, .pointer (some ⟨g63, 0, none⟩)), (10, .int .i64 r48.2), (44, .bool t70)]) ?_ ?_
    · skip
      rintro t70 F w73 ⟨hm, hE71, hS72, rfl⟩
      unfold m_laws_FnExactNewChannel_j1 at hm
      refine WP.cond t70 rfl (fun hc => ?_) (fun hc => ?_)
      · skip
        rw [if_pos hc] at hm
        refine WP.seq ?_
        refine WP.region ?_
        refine RW.run ttok 1 rfl ?_
        refine RW.nil ?_
        refine WP.ret ?_
        cases hm
        exact ⟨_, .cons (.tmp rfl) .nil, rfl, (hS72.taken 0)⟩
      · skip
        rw [if_neg (not_t hc)] at hm
        refine WP.skip ?_
        refine WP.seq ?_
        refine WP.seq ?_
        refine WP.region ?_
        refine RW.run ttok 2 rfl ?_
        obtain ⟨r75, hx76, hm⟩ := bind_some hm
        refine RW.call rfl rfl rfl enters25 (laws_toStringS_ok (ty35.ext hS72.ext h0_) hx76) (fun v77 w78 hR79 => ?_)
        obtain ⟨A80, k81, rfl, hR82⟩ := hR79
        have hS83 := hS72.join hR82
        obtain ⟨r84, hx85, hm⟩ := bind_some hm
        refine RW.call rfl rfl rfl enters28 (laws_eqStringS_ok ((hS83.bring 6 rfl).own) ((hS83.bring 0 rfl).own) hx85) (fun v86 w87 hR88 => ?_)
        obtain ⟨rfl, hR89⟩ := hR88
        have hS90 := hS83.join hR89
        refine RW.run ttok 1 rfl ?_
        refine RW.nil ?_
        refine WP.cond (!r84) rfl (fun hc => ?_) (fun hc => ?_)
        · skip
          rw [if_pos hc] at hm
          refine WP.seq ?_
          refine WP.region ?_
          refine RW.run ttok 1 rfl ?_
          refine RW.nil ?_
          refine WP.ret ?_
          cases hm
          exact ⟨_, .cons (.tmp rfl) .nil, rfl, (hS90.taken 0)⟩
        · skip
          rw [if_neg (not_t hc)] at hm
          refine WP.skip ?_
          refine WP.seq ?_
          refine WP.region ?_
          refine RW.run ttok 1 rfl ?_
          refine RW.nil ?_
          refine WP.seq ?_
          refine WP.region ?_
          refine RW.run ttok 2 rfl ?_
          obtain ⟨r91, hx92, hm⟩ := bind_some hm
          refine RW.call rfl rfl rfl enters29 (laws_markStringS_ok (W := w) (RR := _) (hS90.bring 6 rfl)  hx92) (fun v93 w94 hR95 => ?_)
          obtain ⟨rfl, hS96⟩ := hR95
          refine RW.run ttok 1 rfl ?_
          refine RW.nil ?_
          refine WP.seq ?_
          refine WP.seq ?_
          refine WP.cut (fun (t97 : Bool) F w9 => m_laws_FnExactNewChannel_j2 fuel x0 x1 r17 r48 t97 = some r ∧ Ext w94 w9 ∧ St w w9 [Own ty35 [.slice A44 r39.length k45] r91.2, Own ty35 [.slice A80 r75.length k81] r75, Box g63 [.int .i64 r48.1.Window, .slice A53 r48.1.Messages.length k54, .int .i64 r48.1.Base, .int .i64 r48.1.Next, .int .i64 r48.1.Expected, .slice A55 r48.1.Early.length k56, .slice A57 r48.1.Delivered.length k58, .slice A59 r48.1.Flight.length k60] 39, Own ty35 [.slice A53 r48.1.Messages.length k54] r48.1.Messages, Own ty37 [.slice A55 r48.1.Early.length k56] r48.1.Early, Own ty35 [.slice A57 r48.1.Delivered.length k58] r48.1.Delivered, Own ty37 [.slice A59 r48.1.Flight.length k60] r48.1.Flight, Box g32 [.int .i64 r17.1.Window, .slice A22 r17.1.Messages.length k23, .int .i64 r17.1.Base, .int .i64 r17.1.Next, .int .i64 r17.1.Expected, .slice A24 r17.1.Early.length k25, .slice A26 r17.1.Delivered.length k27, .slice A28 r17.1.Flight.length k29] 39, Own ty35 [.slice A22 r17.1.Messages.length k23] r17.1.Messages, Own ty37 [.slice A24 r17.1.Early.length k25] r17.1.Early, Own ty35 [.slice A26 r17.1.Delivered.length k27] r17.1.Delivered, Own ty37 [.slice A28 r17.1.Flight.length k29] r17.1.Flight, Own ty35 [.slice A13 r8.length k14] r8] ∧ F = [(0, .slice A0_ x0.length k0_), (1, .int .i64 x1), (6, .pointer (some ⟨g32, 0, none⟩)), (7, .int .i64 r17.2), (9, .pointer (some ⟨g63, 0, none⟩)), (65, .bool t97)]) ?_ ?_
          · skip
            rintro t97 F w100 ⟨hm, hE98, hS99, rfl⟩
            unfold m_laws_FnExactNewChannel_j2 at hm
            refine WP.cond t97 rfl (fun hc => ?_) (fun hc => ?_)
            · skip
              rw [if_pos hc] at hm
              refine WP.seq ?_
              refine WP.region ?_
              refine RW.run ttok 1 rfl ?_
              refine RW.nil ?_
              refine WP.ret ?_
              cases hm
              exact ⟨_, .cons (.tmp rfl) .nil, rfl, (hS99.taken 0)⟩
            · skip
              rw [if_neg (not_t hc)] at hm
              refine WP.skip ?_
              refine WP.seq ?_
              refine WP.region ?_
              refine RW.run ttok 1 rfl ?_
              refine RW.nil ?_
              refine WP.seq ?_
              refine WP.region ?_
              refine RW.loadN ttok rfl rfl rfl rfl rfl ((hS99.bring 2 rfl).box) rfl rfl rfl ?_
              refine RW.run ttok 1 rfl ?_
              obtain ⟨r102, hx103, hm⟩ := bind_some hm
              refine RW.call rfl rfl rfl enters30 (laws_markChannel_ok (W := w) (RR := _) ((((hS99.bring 6 rfl).bring 6 rfl).bring 6 rfl).bring 6 rfl)  hx103) (fun v104 w105 hR106 => ?_)
              obtain ⟨rfl, hS107⟩ := hR106
              refine RW.run ttok 1 rfl ?_
              refine RW.nil ?_
              refine WP.seq ?_
              refine WP.region ?_
              refine RW.run ttok 1 rfl ?_
              refine RW.nil ?_
              refine WP.seq ?_
              refine WP.region ?_
              refine RW.loadN ttok rfl rfl rfl rfl rfl ((hS107.bring 6 rfl).box) rfl rfl rfl ?_
              refine RW.run ttok 1 rfl ?_
              have hn108 := (hS107.bring 0 rfl).lenEq
              have hS109 := (hS107.bring 0 rfl).reLen hn108
              have hS110 := (hS109.bring 6 rfl).reBox (cs' := [.int .i64 r48.1.Window, .slice A53 r102.2.1.length k54, .int .i64 r48.1.Base, .int .i64 r48.1.Next, .int .i64 r48.1.Expected, .slice A55 r48.1.Early.length k56, .slice A57 r48.1.Delivered.length k58, .slice A59 r48.1.Flight.length k60]) (by show ([.int .i64 r48.1.Window, .slice A53 r48.1.Messages.length k54, .int .i64 r48.1.Base, .int .i64 r48.1.Next, .int .i64 r48.1.Expected, .slice A55 r48.1.Early.length k56, .slice A57 r48.1.Delivered.length k58, .slice A59 r48.1.Flight.length k60] : List Value) = [.int .i64 r48.1.Window, .slice A53 r102.2.1.length k54, .int .i64 r48.1.Base, .int .i64 r48.1.Next, .int .i64 r48.1.Expected, .slice A55 r48.1.Early.length k56, .slice A57 r48.1.Delivered.length k58, .slice A59 r48.1.Flight.length k60]; simp only [hn108])
              have hn111 := (hS110.bring 2 rfl).lenEq
              have hS112 := (hS110.bring 2 rfl).reLen hn111
              have hS113 := (hS112.bring 1 rfl).reBox (cs' := [.int .i64 r48.1.Window, .slice A53 r102.2.1.length k54, .int .i64 r48.1.Base, .int .i64 r48.1.Next, .int .i64 r48.1.Expected, .slice A55 r102.2.2.1.length k56, .slice A57 r48.1.Delivered.length k58, .slice A59 r48.1.Flight.length k60]) (by show ([.int .i64 r48.1.Window, .slice A53 r102.2.1.length k54, .int .i64 r48.1.Base, .int .i64 r48.1.Next, .int .i64 r48.1.Expected, .slice A55 r48.1.Early.length k56, .slice A57 r48.1.Delivered.length k58, .slice A59 r48.1.Flight.length k60] : List Value) = [.int .i64 r48.1.Window, .slice A53 r102.2.1.length k54, .int .i64 r48.1.Base, .int .i64 r48.1.Next, .int .i64 r48.1.Expected, .slice A55 r102.2.2.1.length k56, .slice A57 r48.1.Delivered.length k58, .slice A59 r48.1.Flight.length k60]; simp only [hn111])
              have hn114 := (hS113.bring 3 rfl).lenEq
              have hS115 := (hS113.bring 3 rfl).reLen hn114
              have hS116 := (hS115.bring 1 rfl).reBox (cs' := [.int .i64 r48.1.Window, .slice A53 r102.2.1.length k54, .int .i64 r48.1.Base, .int .i64 r48.1.Next, .int .i64 r48.1.Expected, .slice A55 r102.2.2.1.length k56, .slice A57 r102.2.2.2.1.length k58, .slice A59 r48.1.Flight.length k60]) (by show ([.int .i64 r48.1.Window, .slice A53 r102.2.1.length k54, .int .i64 r48.1.Base, .int .i64 r48.1.Next, .int .i64 r48.1.Expected, .slice A55 r102.2.2.1.length k56, .slice A57 r48.1.Delivered.length k58, .slice A59 r48.1.Flight.length k60] : List Value) = [.int .i64 r48.1.Window, .slice A53 r102.2.1.length k54, .int .i64 r48.1.Base, .int .i64 r48.1.Next, .int .i64 r48.1.Expected, .slice A55 r102.2.2.1.length k56, .slice A57 r102.2.2.2.1.length k58, .slice A59 r48.1.Flight.length k60]; simp only [hn114])
              have hn117 := (hS116.bring 4 rfl).lenEq
              have hS118 := (hS116.bring 4 rfl).reLen hn117
              have hS119 := (hS118.bring 1 rfl).reBox (cs' := [.int .i64 r48.1.Window, .slice A53 r102.2.1.length k54, .int .i64 r48.1.Base, .int .i64 r48.1.Next, .int .i64 r48.1.Expected, .slice A55 r102.2.2.1.length k56, .slice A57 r102.2.2.2.1.length k58, .slice A59 r102.2.2.2.2.length k60]) (by show ([.int .i64 r48.1.Window, .slice A53 r102.2.1.length k54, .int .i64 r48.1.Base, .int .i64 r48.1.Next, .int .i64 r48.1.Expected, .slice A55 r102.2.2.1.length k56, .slice A57 r102.2.2.2.1.length k58, .slice A59 r48.1.Flight.length k60] : List Value) = [.int .i64 r48.1.Window, .slice A53 r102.2.1.length k54, .int .i64 r48.1.Base, .int .i64 r48.1.Next, .int .i64 r48.1.Expected, .slice A55 r102.2.2.1.length k56, .slice A57 r102.2.2.2.1.length k58, .slice A59 r102.2.2.2.2.length k60]; simp only [hn117])
              refine RW.know (u := .agg ⟨[.int .i64 r48.1.Window, .slice A53 r102.2.1.length k54, .int .i64 r48.1.Base, .int .i64 r48.1.Next, .int .i64 r48.1.Expected, .slice A55 r102.2.2.1.length k56, .slice A57 r102.2.2.2.1.length k58, .slice A59 r102.2.2.2.2.length k60]⟩) 69 rfl (by simp only [hn108, hn111, hn114, hn117]) ?_
              obtain ⟨r120, hx121, hm⟩ := bind_some hm
              refine RW.call rfl rfl rfl enters31 (laws_heldChannel_ok (ty39_shut (⟨r48.1.Window, r102.2.1, r48.1.Base, r48.1.Next, r48.1.Expected, r102.2.2.1, r102.2.2.2.1, r102.2.2.2.2⟩ : D.Channel) ((hS119.bring 4 rfl).own) ((hS119.bring 3 rfl).own) ((hS119.bring 2 rfl).own) ((hS119.bring 1 rfl).own)) hx121) (fun v122 w123 hR124 => ?_)
              obtain ⟨rfl, hR125⟩ := hR124
              have hS126 := hS119.join hR125
              refine RW.run ttok 1 rfl ?_
              refine RW.nil ?_
              refine WP.seq ?_
              refine WP.seq ?_
              refine WP.region ?_
              refine RW.run ttok 2 rfl ?_
              refine RW.nil ?_
              refine WP.cond (decide (r120 < 0)) rfl (fun hc => ?_) (fun hc => ?_)
              · skip
                rw [if_pos hc] at hm
                refine WP.seq ?_
                refine WP.region ?_
                refine RW.run ttok 1 rfl ?_
                refine RW.nil ?_
                refine WP.ret ?_
                cases hm
                exact ⟨_, .cons (.tmp rfl) .nil, rfl, (hS126.taken 0)⟩
              · skip
                rw [if_neg (not_t hc)] at hm
                refine WP.skip ?_
                refine WP.seq ?_
                refine WP.seq ?_
                refine WP.region ?_
                refine RW.run ttok 3 rfl ?_
                refine RW.nil ?_
                refine WP.cond (r120 != r102.1) rfl (fun hc => ?_) (fun hc => ?_)
                · skip
                  rw [if_pos hc] at hm
                  refine WP.seq ?_
                  refine WP.region ?_
                  refine RW.run ttok 1 rfl ?_
                  refine RW.nil ?_
                  refine WP.ret ?_
                  cases hm
                  exact ⟨_, .cons (.tmp rfl) .nil, rfl, (hS126.taken 0)⟩
                · skip
                  rw [if_neg (not_t hc)] at hm
                  refine WP.skip ?_
                  refine WP.seq ?_
                  refine WP.region ?_
                  refine RW.run ttok 1 rfl ?_
                  obtain ⟨r127, hx128, hm⟩ := bind_some hm
                  refine RW.call rfl rfl rfl enters25 (laws_toStringS_ok (ty35.ext hS126.ext h0_) hx128) (fun v129 w130 hR131 => ?_)
                  obtain ⟨A132, k133, rfl, hR134⟩ := hR131
                  have hS135 := hS126.join hR134
                  refine RW.run ttok 1 rfl ?_
                  obtain ⟨r136, hx137, hm⟩ := bind_some hm
                  refine RW.call rfl rfl rfl enters26 (impl_NewChannel_ok ((hS135.bring 0 rfl).own) hx137) (fun v138 w139 hR140 => ?_)
                  obtain ⟨A141, k142, A143, k144, A145, k146, A147, k148, rfl, hR149⟩ := hR140
                  have hS150 := hS135.join hR149
                  refine RW.run ttok 3 rfl ?_
                  refine RW.new ttok hS150 rfl rfl rfl rfl (fun g151 w152 e153 hS154 => ?_)
                  have hS155 := hS154.bring 0 rfl
                  refine RW.store ttok (A := []) hS155 rfl rfl rfl rfl rfl 0 rfl rfl rfl rfl rfl (fun w156 hS157 => ?_)
                  refine RW.run ttok 1 rfl ?_
                  refine RW.nil ?_
                  refine WP.seq ?_
                  refine WP.seq ?_
                  refine WP.cut (fun (t158 : Bool) F w9 => m_laws_FnExactNewChannel_j3 fuel r48 r102 t158 = some r ∧ Ext w156 w9 ∧ St w w9 [Box g151 [.int .i64 r136.1.Window, .slice A141 r136.1.Messages.length k142, .int .i64 r136.1.Base, .int .i64 r136.1.Next, .int .i64 r136.1.Expected, .slice A143 r136.1.Early.length k144, .slice A145 r136.1.Delivered.length k146, .slice A147 r136.1.Flight.length k148] 39, Own ty35 [.slice A141 r136.1.Messages.length k142] r136.1.Messages, Own ty37 [.slice A143 r136.1.Early.length k144] r136.1.Early, Own ty35 [.slice A145 r136.1.Delivered.length k146] r136.1.Delivered, Own ty37 [.slice A147 r136.1.Flight.length k148] r136.1.Flight, Own ty35 [.slice A132 r127.length k133] r127, Box g63 [.int .i64 r48.1.Window, .slice A53 r102.2.1.length k54, .int .i64 r48.1.Base, .int .i64 r48.1.Next, .int .i64 r48.1.Expected, .slice A55 r102.2.2.1.length k56, .slice A57 r102.2.2.2.1.length k58, .slice A59 r102.2.2.2.2.length k60] 39, Own ty37 [.slice A59 r102.2.2.2.2.length k60] r102.2.2.2.2, Own ty35 [.slice A57 r102.2.2.2.1.length k58] r102.2.2.2.1, Own ty37 [.slice A55 r102.2.2.1.length k56] r102.2.2.1, Own ty35 [.slice A53 r102.2.1.length k54] r102.2.1, Own ty35 [.slice A44 r39.length k45] r91.2, Own ty35 [.slice A80 r75.length k81] r75, Box g32 [.int .i64 r17.1.Window, .slice A22 r17.1.Messages.length k23, .int .i64 r17.1.Base, .int .i64 r17.1.Next, .int .i64 r17.1.Expected, .slice A24 r17.1.Early.length k25, .slice A26 r17.1.Delivered.length k27, .slice A28 r17.1.Flight.length k29] 39, Own ty35 [.slice A22 r17.1.Messages.length k23] r17.1.Messages, Own ty37 [.slice A24 r17.1.Early.length k25] r17.1.Early, Own ty35 [.slice A26 r17.1.Delivered.length k27] r17.1.Delivered, Own ty37 [.slice A28 r17.1.Flight.length k29] r17.1.Flight, Own ty35 [.slice A13 r8.length k14] r8] ∧ F = [(9, .pointer (some ⟨g63, 0, none⟩)), (12, .int .i64 r102.1), (92, .bool t158)]) ?_ ?_
                  · skip
                    rintro t158 F w161 ⟨hm, hE159, hS160, rfl⟩
                    unfold m_laws_FnExactNewChannel_j3 at hm
                    refine WP.cond t158 rfl (fun hc => ?_) (fun hc => ?_)
                    · skip
                      rw [if_pos hc] at hm
                      refine WP.seq ?_
                      refine WP.region ?_
                      refine RW.run ttok 1 rfl ?_
                      refine RW.nil ?_
                      refine WP.ret ?_
                      cases hm
                      exact ⟨_, .cons (.tmp rfl) .nil, rfl, (hS160.taken 0)⟩
                    · skip
                      rw [if_neg (not_t hc)] at hm
                      refine WP.skip ?_
                      refine WP.seq ?_
                      refine WP.region ?_
                      refine RW.run ttok 1 rfl ?_
                      refine RW.nil ?_
                      refine WP.seq ?_
                      refine WP.region ?_
                      refine RW.loadN ttok rfl rfl rfl rfl rfl ((hS160.bring 6 rfl).box) rfl rfl rfl ?_
                      refine RW.run ttok 1 rfl ?_
                      obtain ⟨r163, hx164, hm⟩ := bind_some hm
                      refine RW.call rfl rfl rfl enters31 (laws_heldChannel_ok (ty39_shut (⟨r48.1.Window, r102.2.1, r48.1.Base, r48.1.Next, r48.1.Expected, r102.2.2.1, r102.2.2.2.1, r102.2.2.2.2⟩ : D.Channel) ((hS160.bring 10 rfl).own) ((hS160.bring 9 rfl).own) ((hS160.bring 8 rfl).own) ((hS160.bring 7 rfl).own)) hx164) (fun v165 w166 hR167 => ?_)
                      obtain ⟨rfl, hR168⟩ := hR167
                      have hS169 := hS160.join hR168
                      refine RW.run ttok 1 rfl ?_
                      refine RW.nil ?_
                      refine WP.seq ?_
                      refine WP.seq ?_
                      refine WP.region ?_
                      refine RW.run ttok 2 rfl ?_
                      refine RW.nil ?_
                      refine WP.cond (decide (r163 < 0)) rfl (fun hc => ?_) (fun hc => ?_)
                      · skip
                        rw [if_pos hc] at hm
                        refine WP.seq ?_
                        refine WP.region ?_
                        refine RW.run ttok 1 rfl ?_
                        refine RW.nil ?_
                        refine WP.ret ?_
                        cases hm
                        exact ⟨_, .cons (.tmp rfl) .nil, rfl, (hS169.taken 0)⟩
                      · skip
                        rw [if_neg (not_t hc)] at hm
                        refine WP.skip ?_
                        refine WP.seq ?_
                        refine WP.seq ?_
                        refine WP.region ?_
                        refine RW.run ttok 3 rfl ?_
                        refine RW.nil ?_
                        refine WP.cond (r163 != r102.1) rfl (fun hc => ?_) (fun hc => ?_)
                        · skip
                          rw [if_pos hc] at hm
                          refine WP.seq ?_
                          refine WP.region ?_
                          refine RW.run ttok 1 rfl ?_
                          refine RW.nil ?_
                          refine WP.ret ?_
                          cases hm
                          exact ⟨_, .cons (.tmp rfl) .nil, rfl, (hS169.taken 0)⟩
                        · skip
                          rw [if_neg (not_t hc)] at hm
                          refine WP.skip ?_
                          refine WP.seq ?_
                          refine WP.region ?_
                          refine RW.run ttok 1 rfl ?_
                          refine RW.nil ?_
                          refine WP.ret ?_
                          cases hm
                          exact ⟨_, .cons (.tmp rfl) .nil, rfl, (hS169.taken 0)⟩
                  · skip
                    refine WP.region ?_
                    refine RW.loadN ttok rfl rfl rfl rfl rfl ((hS157.bring 0 rfl).box) rfl rfl rfl ?_
                    refine RW.loadN ttok rfl rfl rfl rfl rfl ((hS157.bring 13 rfl).box) rfl rfl rfl ?_
                    obtain ⟨r170, hx171, hm⟩ := bind_some hm
                    refine RW.call rfl rfl rfl enters27 (laws_eqChannel_ok (ty39_shut r136.1 ((hS157.bring 1 rfl).own) ((hS157.bring 2 rfl).own) ((hS157.bring 3 rfl).own) ((hS157.bring 4 rfl).own)) (ty39_shut r17.1 ((hS157.bring 14 rfl).own) ((hS157.bring 15 rfl).own) ((hS157.bring 16 rfl).own) ((hS157.bring 17 rfl).own)) hx171) (fun v172 w173 hR174 => ?_)
                    obtain ⟨rfl, hR175⟩ := hR174
                    have hS176 := hS157.join hR175
                    refine RW.run ttok 2 rfl ?_
                    by_cases hg177 : (!r170) = true
                    · skip
                      rw [if_pos hg177] at hm
                      refine RW.know 88 rfl (congrArg Value.bool hg177) ?_
                      refine RW.run ttok 4 rfl ?_
                      refine RW.nil ?_
                      exact ⟨true, [(9, .pointer (some ⟨g63, 0, none⟩)), (12, .int .i64 r102.1), (92, .bool true)], ⟨rfl, rfl, rfl, trivial⟩, hm, hR175.ext, hS176, rfl⟩
                    · skip
                      rw [if_neg hg177] at hm
                      refine RW.know 88 rfl (congrArg Value.bool (Bool.eq_false_iff.2 hg177)) ?_
                      refine RW.run ttok 4 rfl ?_
                      refine RW.nil ?_
                      exact ⟨(r136.2 != r17.2), [(9, .pointer (some ⟨g63, 0, none⟩)), (12, .int .i64 r102.1), (92, .bool (r136.2 != r17.2))], ⟨rfl, rfl, rfl, trivial⟩, hm, hR175.ext, hS176, rfl⟩
          · skip
            refine WP.region ?_
            refine RW.run ttok 3 rfl ?_
            by_cases hg178 : (decide (r91.1 < 0)) = true
            · skip
              rw [if_pos hg178] at hm
              refine RW.know 55 rfl (congrArg Value.bool hg178) ?_
              refine RW.run ttok 10 rfl ?_
              refine RW.nil ?_
              exact ⟨true, [(0, .slice A0_ x0.length k0_), (1, .int .i64 x1), (6, .pointer (some ⟨g32, 0, none⟩)), (7, .int .i64 r17.2), (9, .pointer (some ⟨g63, 0, none⟩)), (65, .bool true)], ⟨rfl, rfl, rfl, rfl, rfl, rfl, trivial⟩, hm, (Ext.refl _), hS96, rfl⟩
            · skip
              rw [if_neg hg178] at hm
              refine RW.know 55 rfl (congrArg Value.bool (Bool.eq_false_iff.2 hg178)) ?_
              refine RW.loadN ttok rfl rfl rfl rfl rfl ((hS96.bring 2 rfl).box) rfl rfl rfl ?_
              refine RW.loadN ttok rfl rfl rfl rfl rfl ((hS96.bring 7 rfl).box) rfl rfl rfl ?_
              obtain ⟨r179, hx180, hm⟩ := bind_some hm
              refine RW.call rfl rfl rfl enters27 (laws_eqChannel_ok (ty39_shut r48.1 ((hS96.bring 3 rfl).own) ((hS96.bring 4 rfl).own) ((hS96.bring 5 rfl).own) ((hS96.bring 6 rfl).own)) (ty39_shut r17.1 ((hS96.bring 8 rfl).own) ((hS96.bring 9 rfl).own) ((hS96.bring 10 rfl).own) ((hS96.bring 11 rfl).own)) hx180) (fun v181 w182 hR183 => ?_)
              obtain ⟨rfl, hR184⟩ := hR183
              have hS185 := hS96.join hR184
              refine RW.run ttok 3 rfl ?_
              by_cases hg186 : (!r179) = true
              · skip
                rw [if_pos hg186] at hm
                refine RW.know 61 rfl (congrArg Value.bool hg186) ?_
                refine RW.run ttok 4 rfl ?_
                refine RW.nil ?_
                exact ⟨true, [(0, .slice A0_ x0.length k0_), (1, .int .i64 x1), (6, .pointer (some ⟨g32, 0, none⟩)), (7, .int .i64 r17.2), (9, .pointer (some ⟨g63, 0, none⟩)), (65, .bool true)], ⟨rfl, rfl, rfl, rfl, rfl, rfl, trivial⟩, hm, hR184.ext, hS185, rfl⟩
              · skip
                rw [if_neg hg186] at hm
                refine RW.know 61 rfl (congrArg Value.bool (Bool.eq_false_iff.2 hg186)) ?_
                refine RW.run ttok 4 rfl ?_
                refine RW.nil ?_
                exact ⟨(r48.2 != r17.2), [(0, .slice A0_ x0.length k0_), (1, .int .i64 x1), (6, .pointer (some ⟨g32, 0, none⟩)), (7, .int .i64 r17.2), (9, .pointer (some ⟨g63, 0, none⟩)), (65, .bool (r48.2 != r17.2))], ⟨rfl, rfl, rfl, rfl, rfl, rfl, trivial⟩, hm, hR184.ext, hS185, rfl⟩
    · skip
      refine WP.region ?_
      refine RW.loadN ttok rfl rfl rfl rfl rfl ((hS69.bring 0 rfl).box) rfl rfl rfl ?_
      refine RW.loadN ttok rfl rfl rfl rfl rfl ((hS69.bring 6 rfl).box) rfl rfl rfl ?_
      obtain ⟨r187, hx188, hm⟩ := bind_some hm
      refine RW.call rfl rfl rfl enters27 (laws_eqChannel_ok (ty39_shut r48.1 ((hS69.bring 1 rfl).own) ((hS69.bring 2 rfl).own) ((hS69.bring 3 rfl).own) ((hS69.bring 4 rfl).own)) (ty39_shut r17.1 ((hS69.bring 7 rfl).own) ((hS69.bring 8 rfl).own) ((hS69.bring 9 rfl).own) ((hS69.bring 10 rfl).own)) hx188) (fun v189 w190 hR191 => ?_)
      obtain ⟨rfl, hR192⟩ := hR191
      have hS193 := hS69.join hR192
      refine RW.run ttok 2 rfl ?_
      by_cases hg194 : (!r187) = true
      · skip
        rw [if_pos hg194] at hm
        refine RW.know 40 rfl (congrArg Value.bool hg194) ?_
        refine RW.run ttok 4 rfl ?_
        refine RW.nil ?_
        exact ⟨true, [(0, .slice A0_ x0.length k0_), (1, .int .i64 x1), (6, .pointer (some ⟨g32, 0, none⟩)), (7, .int .i64 r17.2), (8, .slice A44 r39.length k45), (9, .pointer (some ⟨g63, 0, none⟩)), (10, .int .i64 r48.2), (44, .bool true)], ⟨rfl, rfl, rfl, rfl, rfl, rfl, rfl, rfl, trivial⟩, hm, hR192.ext, hS193, rfl⟩
      · skip
        rw [if_neg hg194] at hm
        refine RW.know 40 rfl (congrArg Value.bool (Bool.eq_false_iff.2 hg194)) ?_
        refine RW.run ttok 4 rfl ?_
        refine RW.nil ?_
        exact ⟨(r48.2 != r17.2), [(0, .slice A0_ x0.length k0_), (1, .int .i64 x1), (6, .pointer (some ⟨g32, 0, none⟩)), (7, .int .i64 r17.2), (8, .slice A44 r39.length k45), (9, .pointer (some ⟨g63, 0, none⟩)), (10, .int .i64 r48.2), (44, .bool (r48.2 != r17.2))], ⟨rfl, rfl, rfl, rfl, rfl, rfl, rfl, rfl, trivial⟩, hm, hR192.ext, hS193, rfl⟩

end Go.E
