/- NewDeque: the statement, from the walk and the plain law. Conditions: none. -/
import Derived.Test.YtlgkoadccodcaaaRows
import Derived.Test.YtlgkoadccodcaaaLawNewDeque
import Derived.Test.YtlgkoadccodcaaaFQ
import Derived.WalkKit
import Derived.ProofKit
import Derived.OpenShut
import Derived.ShutString
import Derived.ChangeOld
import Derived.Below
import Derived.Carry
namespace Go.Proofs.Ytlgkoadccodcaaa.lawNewDeque
open Go.ChangeShapes Go.WideShapes Go.ChangeAt Go.RowKit Go.E
set_option linter.unusedVariables false

theorem own : ownKnob Try.prog.godebug = none := by kernel_rfl
theorem laidOut : laidOutB Try.prog = true := by kernel_rfl

set_option maxRecDepth 100000 in
theorem lifted (os : Os) (started : os.Started) (H : Type) (enc : TypeId × Value → H) :
    ReturnsInHanded {} Try.checked os 3 .any (Rows.fnExactNewDequeSpec.pre6 enc Try.prog Try.f3 Rows.fnExactNewDequeRow.domain false) (Rows.fnExactNewDequeSpec.post enc Try.prog Try.f3 false true false false) := by
  refine returnsInHanded_of_change (C := Try.checked) own started (by kernel_rfl) Try.func3
    (ChangeSpec.witness6 (enc := enc) (C := Try.checked) false ⟨#[], #[.int .i64 0, .slice none 0 0, .slice none 0 0], []⟩ 12 (by kernel_rfl) (by kernel_rfl) (by kernel_rfl) (by kernel_rfl)) ?_
  intro W base args ds gs before hval0 hW hcnd _
  have hval : ∀ (j : Nat) t v, Try.f3.params[j]? = some t → args[j]? = some v → Value.okWide Try.prog W .any base t v := hval0
  have hW' := hW
  obtain ⟨p, q, hA0, hV, rfl, hfz, hnd⟩ := hW
  have hA : DataW.TrodAll enc Try.prog W 0 (fun _ => true) true Try.f3.params.toList args.toList ds p := hA0
  rw [Try.params3] at hA hval
  obtain ⟨v0, vs0, d0, ds0, p0, q0, hargs, rfl, rfl, h0, r0⟩ := trodAll_cons hA
  obtain ⟨v1, vs1, d1, ds1, p1, q1, rfl, rfl, rfl, h1, r1⟩ := trodAll_cons r0
  obtain ⟨v2, vs2, d2, ds2, p2, q2, rfl, rfl, rfl, h2, r2⟩ := trodAll_cons r1
  obtain ⟨rfl, rfl, rfl⟩ := trodAll_nil r2
  obtain rfl : args = #[v0, v1, v2] := by cases args; simp_all
  obtain ⟨rfl, rfl⟩ := trodVars_none hV
  have k0 := h0
  have lt0 : ∀ x ∈ p0, x.block < W.heap.size := by obtain ⟨m, hm⟩ := k0; exact DataW.trod_lt m _ _ _ hm
  have k1 := h1
  have lt1 : ∀ x ∈ p1, x.block < W.heap.size := by obtain ⟨m, hm⟩ := k1; exact DataW.trod_lt m _ _ _ hm
  have k2 := h2
  have lt2 : ∀ x ∈ p2, x.block < W.heap.size := by obtain ⟨m, hm⟩ := k2; exact DataW.trod_lt m _ _ _ hm
  obtain ⟨x0, rfl, w0⟩ := arg_int Try.underlying2 (hval 0 2 v0 rfl rfl) h0
  obtain ⟨A1, c1, x1, rfl, g1, w1⟩ := arg_slice Try.underlying22 opens22 (hval 1 22 v1 rfl rfl) h1
  obtain ⟨A2, c2, x2, rfl, g2, w2⟩ := arg_slice Try.underlying22 opens22 (hval 2 22 v2 rfl rfl) h2
  clear hA0 hval0
  obtain ⟨fuel, hm⟩ := lawNewDeque (x0 := x0) (x1 := x1) (x2 := x2) w0 w1 w2
  refine (laws_FnExactNewDeque_ok g1 g2 hm).mono ?_
  intro e W' hq
  obtain ⟨v, rfl, rfl, hS⟩ := Ret.out hq
  have bel : Below W.heap.size W W' := hS.ext
  exact ⟨_, rfl, _, _, _, [], _, [], hW', trodAll_mk1 (shut_bool Try.underlying4 _), (trodAll_cons_mk (Below.trod laidOut (by kernel_rfl) (of_decide_eq_true (by kernel_rfl)) k0 bel lt0) (trodAll_cons_mk (Below.trod laidOut (by kernel_rfl) (of_decide_eq_true (by kernel_rfl)) k1 bel lt1) (trodAll_cons_mk (Below.trod laidOut (by kernel_rfl) (of_decide_eq_true (by kernel_rfl)) k2 bel lt2) trodAll_mk0))), rfl, bel.frame _, fun h => by cases h⟩

set_option maxRecDepth 100000 in
theorem j1 : (Rows.fnExactNewDequeRow.wf (OpenSpec.ofChange Rows.fnExactNewDequeSpec)) = true := by kernel_rfl
set_option maxRecDepth 100000 in
theorem j2 : (laidOutB Try.prog) = true := by kernel_rfl
set_option maxRecDepth 100000 in
theorem j3 : (mapsRowed Try.prog) = true := by kernel_rfl
set_option maxRecDepth 100000 in
theorem j4 : (Try.f3.params.all (Try.prog.readableRec ·)) = true := by kernel_rfl
set_option maxRecDepth 100000 in
theorem j5 : (namedTie Try.prog Rows.fnExactNewDequeRow.named Rows.fnExactNewDequeSpec.vars) = true := by kernel_rfl
set_option maxRecDepth 100000 in
theorem j6 : ((Rows.fnExactNewDequeRow.stops == [])) = true := by kernel_rfl
set_option maxRecDepth 100000 in
theorem j7 : ((Try.prog.stops == [])) = true := by kernel_rfl
set_option maxRecDepth 100000 in
theorem j8 : ((Rows.fnExactNewDequeRow.knobs == [])) = true := by kernel_rfl
set_option maxRecDepth 100000 in
theorem j9 : ((Try.prog.stopKnobs == [])) = true := by kernel_rfl
set_option maxRecDepth 100000 in
theorem j10 : ((Rows.fnExactNewDequeRow.inPlace == Try.prog.inPlace 3)) = true := by kernel_rfl
set_option maxRecDepth 100000 in
theorem j11 : ((Rows.fnExactNewDequeRow.unfollowed == Try.prog.unfollowed 3)) = true := by kernel_rfl
set_option maxRecDepth 100000 in
theorem j12 : ((Rows.fnExactNewDequeRow.recurses == Try.prog.recurses 3)) = true := by kernel_rfl
set_option maxRecDepth 100000 in
theorem j13 : ((Rows.fnExactNewDequeRow.named == Try.prog.varsNamed 3)) = true := by kernel_rfl
set_option maxRecDepth 100000 in
theorem j14 : ((Rows.fnExactNewDequeRow.maps == (Try.f3.params.toList ++ Rows.fnExactNewDequeSpec.plain.varTypes Try.prog).any (Try.prog.mapsRec ·))) = true := by kernel_rfl
set_option maxRecDepth 100000 in
theorem j15 : ((Rows.fnExactNewDequeRow.ifaces == (Try.f3.params.toList ++ Rows.fnExactNewDequeSpec.plain.varTypes Try.prog).any (Try.prog.ifacesRec ·))) = true := by kernel_rfl
set_option maxRecDepth 100000 in
theorem j16 : ((Rows.fnExactNewDequeRow.mapsOut == Try.prog.mapsAmong Try.f3.resultTypes.toList)) = true := by kernel_rfl
set_option maxRecDepth 100000 in
theorem j17 : ((Rows.fnExactNewDequeRow.loops == (Try.f3.params.toList ++ Rows.fnExactNewDequeSpec.plain.varTypes Try.prog).any (Try.prog.loopsFrom ·))) = true := by kernel_rfl
set_option maxRecDepth 100000 in
theorem j18 : ((Rows.fnExactNewDequeRow.wideKeys == (Try.f3.params.toList ++ Rows.fnExactNewDequeSpec.plain.varTypes Try.prog ++ Try.f3.resultTypes.toList).any (Try.prog.wideKeysFrom ·))) = true := by kernel_rfl
set_option maxRecDepth 100000 in
theorem j19 : (Rows.fnExactNewDequeSpec.vars.all (Try.prog.varReadable ·)) = true := by kernel_rfl
set_option maxRecDepth 100000 in
theorem j20 : (Try.f3.resultTypes.all (fun t => Try.prog.readableRec t && decide (t < Try.prog.types.size))) = true := by kernel_rfl
set_option maxRecDepth 100000 in
theorem j21 : ((Rows.fnExactNewDequeRow.ifacesOut == Try.f3.resultTypes.toList.any (Try.prog.ifacesRec ·))) = true := by kernel_rfl
set_option maxRecDepth 100000 in
theorem j22 : ((Rows.fnExactNewDequeRow.loopsOut == Try.f3.resultTypes.toList.any (Try.prog.loopsFrom ·))) = true := by kernel_rfl
set_option maxRecDepth 100000 in
theorem j23 : ((Rows.fnExactNewDequeRow.plainKeys == Try.prog.plainKeys)) = true := by kernel_rfl
set_option maxRecDepth 100000 in
theorem j24 : (Rows.fnExactNewDequeRow.shortTexts.isNone) = true := by kernel_rfl
set_option maxRecDepth 100000 in
theorem j25 : (Try.prog.stopsHeard) = true := by kernel_rfl
set_option maxRecDepth 100000 in
theorem j26 : (Try.prog.mayEnter) = true := by kernel_rfl
set_option maxRecDepth 100000 in
theorem j27 : ((Rows.fnExactNewDequeRow.lifted == Try.prog.liftsFinal)) = true := by kernel_rfl
set_option maxRecDepth 100000 in
theorem j28 : ((Try.prog.make == some Rows.fnExactNewDequeRow.make)) = true := by kernel_rfl
set_option maxRecDepth 100000 in
theorem j29 : ((Rows.fnExactNewDequeRow.kinds == (if Rows.fnExactNewDequeRow.domain.isEmpty then [] else Try.f3.params.toList.map fun t => match Try.prog.underlying t with | some (.int k) => some k | _ => none))) = true := by kernel_rfl
set_option maxRecDepth 100000 in
theorem j30 : ((Rows.fnExactNewDequeRow.pinned == Rows.fnExactNewDequeRow.pinnedBy)) = true := by kernel_rfl
set_option maxRecDepth 100000 in
theorem j31 : ((Rows.fnExactNewDequeRow.veiled == (Try.f3.params.toList ++ Rows.fnExactNewDequeSpec.plain.varTypes Try.prog ++ Try.f3.resultTypes.toList).any (Try.prog.veiledRec ·))) = true := by kernel_rfl
set_option maxRecDepth 100000 in
theorem j32 : (Rows.fnExactNewDequeRow.veiledFits Try.prog Try.f3.params.toList (Try.f3.params.toList ++ Rows.fnExactNewDequeSpec.plain.varTypes Try.prog ++ Try.f3.resultTypes.toList)) = true := by kernel_rfl
set_option maxRecDepth 100000 in
theorem closed : joinedFacts Try.prog 3 Try.f3 Rows.fnExactNewDequeSpec Rows.fnExactNewDequeRow = true := by
  unfold joinedFacts
  simp only [Bool.and_eq_true]
  exact ⟨⟨⟨⟨⟨⟨⟨⟨⟨⟨⟨⟨⟨⟨⟨⟨⟨⟨⟨⟨⟨⟨⟨⟨⟨⟨⟨⟨⟨⟨⟨j1, j2⟩, j3⟩, j4⟩, j5⟩, j6⟩, j7⟩, j8⟩, j9⟩, j10⟩, j11⟩, j12⟩, j13⟩, j14⟩, j15⟩, j16⟩, j17⟩, j18⟩, j19⟩, j20⟩, j21⟩, j22⟩, j23⟩, j24⟩, j25⟩, j26⟩, j27⟩, j28⟩, j29⟩, j30⟩, j31⟩, j32⟩
set_option maxRecDepth 100000 in
theorem wraps : Try.f3.isWrapper Try.prog Rows.fnExactNewDequeRow.wrapper Rows.fnExactNewDequeRow.mainSum := by
  unfold Func.isWrapper; first | (rw [if_pos (by decide +kernel)]; kernel_rfl) | (rw [if_neg (by decide +kernel)]; exact ⟨rfl, rfl⟩)
theorem instd : Try.f3.isInstance Try.prog Rows.fnExactNewDequeRow.origin Rows.fnExactNewDequeRow.targs := of_decide_eq_true (by kernel_rfl)

set_option maxRecDepth 100000 in
theorem over : Rows.fnExactNewDequeRow.holds Try.pinned (OpenSpec.ofChange Rows.fnExactNewDequeSpec) :=
  OpenClaim.holds_of_wide 3 Try.f3 rfl rfl rfl rfl rfl rfl rfl ⟨rfl, rfl, rfl, rfl, rfl⟩ rfl rfl rfl rfl rfl (by kernel_rfl) Try.func3 closed instd wraps
    (fun os started H enc _ => lifted os started H enc)

theorem proved : Rows.FnExactNewDequeSaid := over
#print axioms proved
end Go.Proofs.Ytlgkoadccodcaaa.lawNewDeque
