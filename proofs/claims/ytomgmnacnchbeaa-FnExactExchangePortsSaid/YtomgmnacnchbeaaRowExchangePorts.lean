/- ExchangePorts: the statement, from the walk and the plain law. Conditions: none. -/
import Derived.Test.YtomgmnacnchbeaaRows
import Derived.Test.YtomgmnacnchbeaaLawExchangePorts
import Derived.Test.YtomgmnacnchbeaaFXb
import Derived.WalkKit
import Derived.ProofKit
import Derived.OpenShut
import Derived.ShutString
import Derived.ChangeOld
import Derived.Below
import Derived.Carry
namespace Go.Proofs.Ytomgmnacnchbeaa.lawExchangePorts
open Go.ChangeShapes Go.WideShapes Go.ChangeAt Go.RowKit Go.E
set_option linter.unusedVariables false

theorem own : ownKnob Try.prog.godebug = none := by kernel_rfl
theorem laidOut : laidOutB Try.prog = true := by kernel_rfl

set_option maxRecDepth 100000 in
theorem lifted (os : Os) (started : os.Started) (H : Type) (enc : TypeId × Value → H) :
    ReturnsInHanded {} Try.checked os 4 .any (Rows.fnExactExchangePortsSpec.pre6 enc Try.prog Try.f4 Rows.fnExactExchangePortsRow.domain false) (Rows.fnExactExchangePortsSpec.post enc Try.prog Try.f4 false true false false) := by
  refine returnsInHanded_of_change (C := Try.checked) own started (by kernel_rfl) Try.func4
    (ChangeSpec.witness6 (enc := enc) (C := Try.checked) false ⟨#[], #[.agg #[.slice none 0 0], .agg #[.int .i64 0, .int .i64 0], .agg #[.int .i64 0, .int .i64 0]], []⟩ 12 (by kernel_rfl) (by kernel_rfl) (by kernel_rfl) (by kernel_rfl)) ?_
  intro W base args ds gs before hval0 hW hcnd _
  have hval : ∀ (j : Nat) t v, Try.f4.params[j]? = some t → args[j]? = some v → Value.okWide Try.prog W .any base t v := hval0
  have hW' := hW
  obtain ⟨p, q, hA0, hV, rfl, hfz, hnd⟩ := hW
  have hA : DataW.TrodAll enc Try.prog W 0 (fun _ => true) true Try.f4.params.toList args.toList ds p := hA0
  rw [Try.params4] at hA hval
  obtain ⟨v0, vs0, d0, ds0, p0, q0, hargs, rfl, rfl, h0, r0⟩ := trodAll_cons hA
  obtain ⟨v1, vs1, d1, ds1, p1, q1, rfl, rfl, rfl, h1, r1⟩ := trodAll_cons r0
  obtain ⟨v2, vs2, d2, ds2, p2, q2, rfl, rfl, rfl, h2, r2⟩ := trodAll_cons r1
  obtain ⟨rfl, rfl, rfl⟩ := trodAll_nil r2
  obtain rfl : args = #[v0, v1, v2] := by cases args; simp_all
  obtain ⟨rfl, rfl⟩ := trodVars_none hV
  have k0 := h0
  have lt0 : ∀ x ∈ p0, x.block < W.heap.size := by obtain ⟨m, hm⟩ := k0; exact DataW.trod_lt m _ _ _ hm
  have k1 := h1
  have lt1 : ∀ x ∈ p1, x.block < W.heap.size := by obtain ⟨m, hm⟩ := k1; exact DataW.trod_lt m _ _ _ hm
  have k2 := h2
  have lt2 : ∀ x ∈ p2, x.block < W.heap.size := by obtain ⟨m, hm⟩ := k2; exact DataW.trod_lt m _ _ _ hm
  obtain ⟨c0, x0, rfl, g0, w0⟩ := arg_struct Try.underlying24 opens24 (hval 0 24 v0 rfl rfl) h0
  obtain ⟨c1, x1, rfl, g1, w1⟩ := arg_struct Try.underlying35 opens35 (hval 1 35 v1 rfl rfl) h1
  obtain ⟨c2, x2, rfl, g2, w2⟩ := arg_struct Try.underlying35 opens35 (hval 2 35 v2 rfl rfl) h2
  clear hA0 hval0
  obtain ⟨fuel, hm⟩ := lawExchangePorts (x0 := x0) (x1 := x1) (x2 := x2) w0 w1 w2
  refine (laws_FnExactExchangePorts_ok (Ext.refl _) g0 g1 g2 hm).mono ?_
  intro e W' hq
  obtain ⟨v, rfl, rfl, hS⟩ := Ret.out hq
  have bel : Below W.heap.size W W' := hS.ext
  exact ⟨_, rfl, _, _, _, [], _, [], hW', trodAll_mk1 (shut_bool Try.underlying4 _), (trodAll_cons_mk (Below.trod laidOut (by kernel_rfl) (of_decide_eq_true (by kernel_rfl)) k0 bel lt0) (trodAll_cons_mk (Below.trod laidOut (by kernel_rfl) (of_decide_eq_true (by kernel_rfl)) k1 bel lt1) (trodAll_cons_mk (Below.trod laidOut (by kernel_rfl) (of_decide_eq_true (by kernel_rfl)) k2 bel lt2) trodAll_mk0))), rfl, bel.frame _, fun h => by cases h⟩

set_option maxRecDepth 100000 in
theorem j1 : (Rows.fnExactExchangePortsRow.wf (OpenSpec.ofChange Rows.fnExactExchangePortsSpec)) = true := by kernel_rfl
set_option maxRecDepth 100000 in
theorem j2 : (laidOutB Try.prog) = true := by kernel_rfl
set_option maxRecDepth 100000 in
theorem j3 : (mapsRowed Try.prog) = true := by kernel_rfl
set_option maxRecDepth 100000 in
theorem j4 : (Try.f4.params.all (Try.prog.readableRec ·)) = true := by kernel_rfl
set_option maxRecDepth 100000 in
theorem j5 : (namedTie Try.prog Rows.fnExactExchangePortsRow.named Rows.fnExactExchangePortsSpec.vars) = true := by kernel_rfl
set_option maxRecDepth 100000 in
theorem j6 : ((Rows.fnExactExchangePortsRow.stops == [])) = true := by kernel_rfl
set_option maxRecDepth 100000 in
theorem j7 : ((Try.prog.stops == [])) = true := by kernel_rfl
set_option maxRecDepth 100000 in
theorem j8 : ((Rows.fnExactExchangePortsRow.knobs == [])) = true := by kernel_rfl
set_option maxRecDepth 100000 in
theorem j9 : ((Try.prog.stopKnobs == [])) = true := by kernel_rfl
set_option maxRecDepth 100000 in
theorem j10 : ((Rows.fnExactExchangePortsRow.inPlace == Try.prog.inPlace 4)) = true := by kernel_rfl
set_option maxRecDepth 100000 in
theorem j11 : ((Rows.fnExactExchangePortsRow.unfollowed == Try.prog.unfollowed 4)) = true := by kernel_rfl
set_option maxRecDepth 100000 in
theorem j12 : ((Rows.fnExactExchangePortsRow.recurses == Try.prog.recurses 4)) = true := by kernel_rfl
set_option maxRecDepth 100000 in
theorem j13 : ((Rows.fnExactExchangePortsRow.named == Try.prog.varsNamed 4)) = true := by kernel_rfl
set_option maxRecDepth 100000 in
theorem j14 : ((Rows.fnExactExchangePortsRow.maps == (Try.f4.params.toList ++ Rows.fnExactExchangePortsSpec.plain.varTypes Try.prog).any (Try.prog.mapsRec ·))) = true := by kernel_rfl
set_option maxRecDepth 100000 in
theorem j15 : ((Rows.fnExactExchangePortsRow.ifaces == (Try.f4.params.toList ++ Rows.fnExactExchangePortsSpec.plain.varTypes Try.prog).any (Try.prog.ifacesRec ·))) = true := by kernel_rfl
set_option maxRecDepth 100000 in
theorem j16 : ((Rows.fnExactExchangePortsRow.mapsOut == Try.prog.mapsAmong Try.f4.resultTypes.toList)) = true := by kernel_rfl
set_option maxRecDepth 100000 in
theorem j17 : ((Rows.fnExactExchangePortsRow.loops == (Try.f4.params.toList ++ Rows.fnExactExchangePortsSpec.plain.varTypes Try.prog).any (Try.prog.loopsFrom ·))) = true := by kernel_rfl
set_option maxRecDepth 100000 in
theorem j18 : ((Rows.fnExactExchangePortsRow.wideKeys == (Try.f4.params.toList ++ Rows.fnExactExchangePortsSpec.plain.varTypes Try.prog ++ Try.f4.resultTypes.toList).any (Try.prog.wideKeysFrom ·))) = true := by kernel_rfl
set_option maxRecDepth 100000 in
theorem j19 : (Rows.fnExactExchangePortsSpec.vars.all (Try.prog.varReadable ·)) = true := by kernel_rfl
set_option maxRecDepth 100000 in
theorem j20 : (Try.f4.resultTypes.all (fun t => Try.prog.readableRec t && decide (t < Try.prog.types.size))) = true := by kernel_rfl
set_option maxRecDepth 100000 in
theorem j21 : ((Rows.fnExactExchangePortsRow.ifacesOut == Try.f4.resultTypes.toList.any (Try.prog.ifacesRec ·))) = true := by kernel_rfl
set_option maxRecDepth 100000 in
theorem j22 : ((Rows.fnExactExchangePortsRow.loopsOut == Try.f4.resultTypes.toList.any (Try.prog.loopsFrom ·))) = true := by kernel_rfl
set_option maxRecDepth 100000 in
theorem j23 : ((Rows.fnExactExchangePortsRow.plainKeys == Try.prog.plainKeys)) = true := by kernel_rfl
set_option maxRecDepth 100000 in
theorem j24 : (Rows.fnExactExchangePortsRow.shortTexts.isNone) = true := by kernel_rfl
set_option maxRecDepth 100000 in
theorem j25 : (Try.prog.stopsHeard) = true := by kernel_rfl
set_option maxRecDepth 100000 in
theorem j26 : (Try.prog.mayEnter) = true := by kernel_rfl
set_option maxRecDepth 100000 in
theorem j27 : ((Rows.fnExactExchangePortsRow.lifted == Try.prog.liftsFinal)) = true := by kernel_rfl
set_option maxRecDepth 100000 in
theorem j28 : ((Try.prog.make == some Rows.fnExactExchangePortsRow.make)) = true := by kernel_rfl
set_option maxRecDepth 100000 in
theorem j29 : ((Rows.fnExactExchangePortsRow.kinds == (if Rows.fnExactExchangePortsRow.domain.isEmpty then [] else Try.f4.params.toList.map fun t => match Try.prog.underlying t with | some (.int k) => some k | _ => none))) = true := by kernel_rfl
set_option maxRecDepth 100000 in
theorem j30 : ((Rows.fnExactExchangePortsRow.pinned == Rows.fnExactExchangePortsRow.pinnedBy)) = true := by kernel_rfl
set_option maxRecDepth 100000 in
theorem j31 : ((Rows.fnExactExchangePortsRow.veiled == (Try.f4.params.toList ++ Rows.fnExactExchangePortsSpec.plain.varTypes Try.prog ++ Try.f4.resultTypes.toList).any (Try.prog.veiledRec ·))) = true := by kernel_rfl
set_option maxRecDepth 100000 in
theorem j32 : (Rows.fnExactExchangePortsRow.veiledFits Try.prog Try.f4.params.toList (Try.f4.params.toList ++ Rows.fnExactExchangePortsSpec.plain.varTypes Try.prog ++ Try.f4.resultTypes.toList)) = true := by kernel_rfl
set_option maxRecDepth 100000 in
theorem closed : joinedFacts Try.prog 4 Try.f4 Rows.fnExactExchangePortsSpec Rows.fnExactExchangePortsRow = true := by
  unfold joinedFacts
  simp only [Bool.and_eq_true]
  exact ⟨⟨⟨⟨⟨⟨⟨⟨⟨⟨⟨⟨⟨⟨⟨⟨⟨⟨⟨⟨⟨⟨⟨⟨⟨⟨⟨⟨⟨⟨⟨j1, j2⟩, j3⟩, j4⟩, j5⟩, j6⟩, j7⟩, j8⟩, j9⟩, j10⟩, j11⟩, j12⟩, j13⟩, j14⟩, j15⟩, j16⟩, j17⟩, j18⟩, j19⟩, j20⟩, j21⟩, j22⟩, j23⟩, j24⟩, j25⟩, j26⟩, j27⟩, j28⟩, j29⟩, j30⟩, j31⟩, j32⟩
set_option maxRecDepth 100000 in
theorem wraps : Try.f4.isWrapper Try.prog Rows.fnExactExchangePortsRow.wrapper Rows.fnExactExchangePortsRow.mainSum := by
  unfold Func.isWrapper; first | (rw [if_pos (by decide +kernel)]; kernel_rfl) | (rw [if_neg (by decide +kernel)]; exact ⟨rfl, rfl⟩)
theorem instd : Try.f4.isInstance Try.prog Rows.fnExactExchangePortsRow.origin Rows.fnExactExchangePortsRow.targs := of_decide_eq_true (by kernel_rfl)

set_option maxRecDepth 100000 in
theorem over : Rows.fnExactExchangePortsRow.holds Try.pinned (OpenSpec.ofChange Rows.fnExactExchangePortsSpec) :=
  OpenClaim.holds_of_wide 4 Try.f4 rfl rfl rfl rfl rfl rfl rfl ⟨rfl, rfl, rfl, rfl, rfl⟩ rfl rfl rfl rfl rfl (by kernel_rfl) Try.func4 closed instd wraps
    (fun os started H enc _ => lifted os started H enc)

theorem proved : Rows.FnExactExchangePortsSaid := over
#print axioms proved
end Go.Proofs.Ytomgmnacnchbeaa.lawExchangePorts
