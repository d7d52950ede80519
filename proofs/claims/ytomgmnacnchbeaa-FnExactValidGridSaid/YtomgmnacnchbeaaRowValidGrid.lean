/- ValidGrid: the statement, from the walk and the plain law. Conditions: none. -/
import Derived.Test.YtomgmnacnchbeaaRows
import Derived.Test.YtomgmnacnchbeaaLawValidGrid
import Derived.Test.YtomgmnacnchbeaaFGc
import Derived.WalkKit
import Derived.ProofKit
import Derived.OpenShut
import Derived.ShutString
import Derived.ChangeOld
import Derived.Below
import Derived.Carry
namespace Go.Proofs.Ytomgmnacnchbeaa.lawValidGrid
open Go.ChangeShapes Go.WideShapes Go.ChangeAt Go.RowKit Go.E
set_option linter.unusedVariables false

theorem own : ownKnob Try.prog.godebug = none := by kernel_rfl
theorem laidOut : laidOutB Try.prog = true := by kernel_rfl

set_option maxRecDepth 100000 in
theorem lifted (os : Os) (started : os.Started) (H : Type) (enc : TypeId × Value → H) :
    ReturnsInHanded {} Try.checked os 6 .any (Rows.fnExactValidGridSpec.pre6 enc Try.prog Try.f6 Rows.fnExactValidGridRow.domain false) (Rows.fnExactValidGridSpec.post enc Try.prog Try.f6 false true false false) := by
  refine returnsInHanded_of_change (C := Try.checked) own started (by kernel_rfl) Try.func6
    (ChangeSpec.witness6 (enc := enc) (C := Try.checked) false ⟨#[], #[.agg #[.slice none 0 0, .int .i64 0, .int .i64 0, .int .i64 0]], []⟩ 12 (by kernel_rfl) (by kernel_rfl) (by kernel_rfl) (by kernel_rfl)) ?_
  intro W base args ds gs before hval0 hW hcnd _
  have hval : ∀ (j : Nat) t v, Try.f6.params[j]? = some t → args[j]? = some v → Value.okWide Try.prog W .any base t v := hval0
  have hW' := hW
  obtain ⟨p, q, hA0, hV, rfl, hfz, hnd⟩ := hW
  have hA : DataW.TrodAll enc Try.prog W 0 (fun _ => true) true Try.f6.params.toList args.toList ds p := hA0
  rw [Try.params6] at hA hval
  obtain ⟨v0, vs0, d0, ds0, p0, q0, hargs, rfl, rfl, h0, r0⟩ := trodAll_cons hA
  obtain ⟨rfl, rfl, rfl⟩ := trodAll_nil r0
  obtain rfl : args = #[v0] := by cases args; simp_all
  obtain ⟨rfl, rfl⟩ := trodVars_none hV
  have k0 := h0
  have lt0 : ∀ x ∈ p0, x.block < W.heap.size := by obtain ⟨m, hm⟩ := k0; exact DataW.trod_lt m _ _ _ hm
  obtain ⟨c0, x0, rfl, g0, w0⟩ := arg_struct Try.underlying58 opens58 (hval 0 58 v0 rfl rfl) h0
  clear hA0 hval0
  obtain ⟨fuel, hm⟩ := lawValidGrid (x0 := x0) w0
  refine (laws_FnExactValidGrid_ok (Ext.refl _) g0 hm).mono ?_
  intro e W' hq
  obtain ⟨v, rfl, rfl, hS⟩ := Ret.out hq
  have bel : Below W.heap.size W W' := hS.ext
  exact ⟨_, rfl, _, _, _, [], _, [], hW', trodAll_mk1 (shut_bool Try.underlying4 _), (trodAll_cons_mk (Below.trod laidOut (by kernel_rfl) (of_decide_eq_true (by kernel_rfl)) k0 bel lt0) trodAll_mk0), rfl, bel.frame _, fun h => by cases h⟩

set_option maxRecDepth 100000 in
theorem j1 : (Rows.fnExactValidGridRow.wf (OpenSpec.ofChange Rows.fnExactValidGridSpec)) = true := by kernel_rfl
set_option maxRecDepth 100000 in
theorem j2 : (laidOutB Try.prog) = true := by kernel_rfl
set_option maxRecDepth 100000 in
theorem j3 : (mapsRowed Try.prog) = true := by kernel_rfl
set_option maxRecDepth 100000 in
theorem j4 : (Try.f6.params.all (Try.prog.readableRec ·)) = true := by kernel_rfl
set_option maxRecDepth 100000 in
theorem j5 : (namedTie Try.prog Rows.fnExactValidGridRow.named Rows.fnExactValidGridSpec.vars) = true := by kernel_rfl
set_option maxRecDepth 100000 in
theorem j6 : ((Rows.fnExactValidGridRow.stops == [])) = true := by kernel_rfl
set_option maxRecDepth 100000 in
theorem j7 : ((Try.prog.stops == [])) = true := by kernel_rfl
set_option maxRecDepth 100000 in
theorem j8 : ((Rows.fnExactValidGridRow.knobs == [])) = true := by kernel_rfl
set_option maxRecDepth 100000 in
theorem j9 : ((Try.prog.stopKnobs == [])) = true := by kernel_rfl
set_option maxRecDepth 100000 in
theorem j10 : ((Rows.fnExactValidGridRow.inPlace == Try.prog.inPlace 6)) = true := by kernel_rfl
set_option maxRecDepth 100000 in
theorem j11 : ((Rows.fnExactValidGridRow.unfollowed == Try.prog.unfollowed 6)) = true := by kernel_rfl
set_option maxRecDepth 100000 in
theorem j12 : ((Rows.fnExactValidGridRow.recurses == Try.prog.recurses 6)) = true := by kernel_rfl
set_option maxRecDepth 100000 in
theorem j13 : ((Rows.fnExactValidGridRow.named == Try.prog.varsNamed 6)) = true := by kernel_rfl
set_option maxRecDepth 100000 in
theorem j14 : ((Rows.fnExactValidGridRow.maps == (Try.f6.params.toList ++ Rows.fnExactValidGridSpec.plain.varTypes Try.prog).any (Try.prog.mapsRec ·))) = true := by kernel_rfl
set_option maxRecDepth 100000 in
theorem j15 : ((Rows.fnExactValidGridRow.ifaces == (Try.f6.params.toList ++ Rows.fnExactValidGridSpec.plain.varTypes Try.prog).any (Try.prog.ifacesRec ·))) = true := by kernel_rfl
set_option maxRecDepth 100000 in
theorem j16 : ((Rows.fnExactValidGridRow.mapsOut == Try.prog.mapsAmong Try.f6.resultTypes.toList)) = true := by kernel_rfl
set_option maxRecDepth 100000 in
theorem j17 : ((Rows.fnExactValidGridRow.loops == (Try.f6.params.toList ++ Rows.fnExactValidGridSpec.plain.varTypes Try.prog).any (Try.prog.loopsFrom ·))) = true := by kernel_rfl
set_option maxRecDepth 100000 in
theorem j18 : ((Rows.fnExactValidGridRow.wideKeys == (Try.f6.params.toList ++ Rows.fnExactValidGridSpec.plain.varTypes Try.prog ++ Try.f6.resultTypes.toList).any (Try.prog.wideKeysFrom ·))) = true := by kernel_rfl
set_option maxRecDepth 100000 in
theorem j19 : (Rows.fnExactValidGridSpec.vars.all (Try.prog.varReadable ·)) = true := by kernel_rfl
set_option maxRecDepth 100000 in
theorem j20 : (Try.f6.resultTypes.all (fun t => Try.prog.readableRec t && decide (t < Try.prog.types.size))) = true := by kernel_rfl
set_option maxRecDepth 100000 in
theorem j21 : ((Rows.fnExactValidGridRow.ifacesOut == Try.f6.resultTypes.toList.any (Try.prog.ifacesRec ·))) = true := by kernel_rfl
set_option maxRecDepth 100000 in
theorem j22 : ((Rows.fnExactValidGridRow.loopsOut == Try.f6.resultTypes.toList.any (Try.prog.loopsFrom ·))) = true := by kernel_rfl
set_option maxRecDepth 100000 in
theorem j23 : ((Rows.fnExactValidGridRow.plainKeys == Try.prog.plainKeys)) = true := by kernel_rfl
set_option maxRecDepth 100000 in
theorem j24 : (Rows.fnExactValidGridRow.shortTexts.isNone) = true := by kernel_rfl
set_option maxRecDepth 100000 in
theorem j25 : (Try.prog.stopsHeard) = true := by kernel_rfl
set_option maxRecDepth 100000 in
theorem j26 : (Try.prog.mayEnter) = true := by kernel_rfl
set_option maxRecDepth 100000 in
theorem j27 : ((Rows.fnExactValidGridRow.lifted == Try.prog.liftsFinal)) = true := by kernel_rfl
set_option maxRecDepth 100000 in
theorem j28 : ((Try.prog.make == some Rows.fnExactValidGridRow.make)) = true := by kernel_rfl
set_option maxRecDepth 100000 in
theorem j29 : ((Rows.fnExactValidGridRow.kinds == (if Rows.fnExactValidGridRow.domain.isEmpty then [] else Try.f6.params.toList.map fun t => match Try.prog.underlying t with | some (.int k) => some k | _ => none))) = true := by kernel_rfl
set_option maxRecDepth 100000 in
theorem j30 : ((Rows.fnExactValidGridRow.pinned == Rows.fnExactValidGridRow.pinnedBy)) = true := by kernel_rfl
set_option maxRecDepth 100000 in
theorem j31 : ((Rows.fnExactValidGridRow.veiled == (Try.f6.params.toList ++ Rows.fnExactValidGridSpec.plain.varTypes Try.prog ++ Try.f6.resultTypes.toList).any (Try.prog.veiledRec ·))) = true := by kernel_rfl
set_option maxRecDepth 100000 in
theorem j32 : (Rows.fnExactValidGridRow.veiledFits Try.prog Try.f6.params.toList (Try.f6.params.toList ++ Rows.fnExactValidGridSpec.plain.varTypes Try.prog ++ Try.f6.resultTypes.toList)) = true := by kernel_rfl
set_option maxRecDepth 100000 in
theorem closed : joinedFacts Try.prog 6 Try.f6 Rows.fnExactValidGridSpec Rows.fnExactValidGridRow = true := by
  unfold joinedFacts
  simp only [Bool.and_eq_true]
  exact ⟨⟨⟨⟨⟨⟨⟨⟨⟨⟨⟨⟨⟨⟨⟨⟨⟨⟨⟨⟨⟨⟨⟨⟨⟨⟨⟨⟨⟨⟨⟨j1, j2⟩, j3⟩, j4⟩, j5⟩, j6⟩, j7⟩, j8⟩, j9⟩, j10⟩, j11⟩, j12⟩, j13⟩, j14⟩, j15⟩, j16⟩, j17⟩, j18⟩, j19⟩, j20⟩, j21⟩, j22⟩, j23⟩, j24⟩, j25⟩, j26⟩, j27⟩, j28⟩, j29⟩, j30⟩, j31⟩, j32⟩
set_option maxRecDepth 100000 in
theorem wraps : Try.f6.isWrapper Try.prog Rows.fnExactValidGridRow.wrapper Rows.fnExactValidGridRow.mainSum := by
  unfold Func.isWrapper; first | (rw [if_pos (by decide +kernel)]; kernel_rfl) | (rw [if_neg (by decide +kernel)]; exact ⟨rfl, rfl⟩)
theorem instd : Try.f6.isInstance Try.prog Rows.fnExactValidGridRow.origin Rows.fnExactValidGridRow.targs := of_decide_eq_true (by kernel_rfl)

set_option maxRecDepth 100000 in
theorem over : Rows.fnExactValidGridRow.holds Try.pinned (OpenSpec.ofChange Rows.fnExactValidGridSpec) :=
  OpenClaim.holds_of_wide 6 Try.f6 rfl rfl rfl rfl rfl rfl rfl ⟨rfl, rfl, rfl, rfl, rfl⟩ rfl rfl rfl rfl rfl (by kernel_rfl) Try.func6 closed instd wraps
    (fun os started H enc _ => lifted os started H enc)

theorem proved : Rows.FnExactValidGridSaid := over
#print axioms proved
end Go.Proofs.Ytomgmnacnchbeaa.lawValidGrid
