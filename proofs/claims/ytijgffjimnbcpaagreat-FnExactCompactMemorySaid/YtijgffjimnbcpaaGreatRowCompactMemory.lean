/- CompactMemory: the statement, from the walk and the plain law. Conditions: none. -/
import Derived.Test.YtijgffjimnbcpaaGreatRows
import Derived.Test.YtijgffjimnbcpaaGreatLawCompactMemory
import Derived.Test.YtijgffjimnbcpaaGreatOkCell
import Derived.WalkKit
import Derived.ProofKit
import Derived.OpenShut
import Derived.ShutString
import Derived.ChangeOld
import Derived.Below
import Derived.Carry
namespace Go.Proofs.YtijgffjimnbcpaaGreat.lawCompactMemory
open Go.ChangeShapes Go.WideShapes Go.ChangeAt Go.RowKit Go.E
set_option linter.unusedVariables false

theorem own:ownKnob Tryz.prog.godebug=none:=by kernel_rfl
theorem laidOut:laidOutB Tryz.prog=true:=by kernel_rfl

set_option maxRecDepth 100000 in
theorem lifted (os:Os) (started:os.Started) (H:Type) (enc:TypeId × Value→H):
    ReturnsInHanded {} Tryz.checked os 3 .any (Rows.fnExactCompactMemorySpec.pre6 enc Tryz.prog Tryz.f3 Rows.fnExactCompactMemoryRow.domain false) (Rows.fnExactCompactMemorySpec.post enc Tryz.prog Tryz.f3 false true false false):=by
  refine returnsInHanded_of_change (C:=Tryz.checked) own started (by kernel_rfl) Tryz.func3
    (ChangeSpec.witness6 (enc:=enc) (C:=Tryz.checked) false ⟨#[],#[.agg #[.slice none 0 0,.int .i64 0,.int .i64 0,.int .i64 0,.slice none 0 0]],[]⟩ 12 (by kernel_rfl) (by kernel_rfl) (by kernel_rfl) (by kernel_rfl)) ?_
  intro W base args ds gs before hval0 hW hcnd _
  have hval:∀ (j:Nat) t v,Tryz.f3.params[j]? = some t→args[j]? = some v→Value.okWide Tryz.prog W .any base t v:=hval0
  have hW':=hW
  obtain⟨p,q,hA0,hV,rfl,hfz,hnd⟩:=hW
  have hA:DataW.TrodAll enc Tryz.prog W 0 (fun _=>true) true Tryz.f3.params.toList args.toList ds p:=hA0
  rw [Tryz.params3] at hA hval
  obtain⟨v0,vs0,d0,ds0,p0,q0,hargs,rfl,rfl,h0,r0⟩:=trodAll_cons hA
  obtain⟨rfl,rfl,rfl⟩:=trodAll_nil r0
  obtain rfl:args = #[v0]:=by cases args;simp_all
  obtain⟨rfl,rfl⟩:=trodVars_none hV
  have k0:=h0
  have lt0:∀ x∈p0,x.block<W.heap.size:=by obtain⟨m,hm⟩:=k0;exact DataW.trod_lt m _ _ _ hm
  obtain⟨c0,x0,rfl,g0,w0⟩:=zag Tryz.underlying27 zcG (hval 0 27 v0 rfl rfl) h0
  clear hA0 hval0
  obtain⟨fuel,hm⟩:=lawCompactMemory (x0:=x0) w0
  refine(laws_FnExactCompactMemory_ok (Ext.refl _) g0 hm).mono ?_
  intro e W' hq
  obtain⟨v,rfl,rfl,hS⟩:=Ret.out hq
  have bel:Below W.heap.size W W':=hS.ext
  exact⟨_,rfl,_,_,_,[],_,[],hW',trodAll_mk1 (shut_bool Tryz.underlying4 _),(trodAll_cons_mk (Below.trod laidOut (by kernel_rfl) (of_decide_eq_true (by kernel_rfl)) k0 bel lt0) trodAll_mk0),rfl,bel.frame _,fun h=>by cases h⟩

set_option maxRecDepth 100000 in
theorem j1:(Rows.fnExactCompactMemoryRow.wf (OpenSpec.ofChange Rows.fnExactCompactMemorySpec))=true:=by kernel_rfl
set_option maxRecDepth 100000 in
theorem j2:(laidOutB Tryz.prog)=true:=by kernel_rfl
set_option maxRecDepth 100000 in
theorem j3:(mapsRowed Tryz.prog)=true:=by kernel_rfl
set_option maxRecDepth 100000 in
theorem j4:(Tryz.f3.params.all (Tryz.prog.readableRec ·))=true:=by kernel_rfl
set_option maxRecDepth 100000 in
theorem j5:(namedTie Tryz.prog Rows.fnExactCompactMemoryRow.named Rows.fnExactCompactMemorySpec.vars)=true:=by kernel_rfl
set_option maxRecDepth 100000 in
theorem j6:((Rows.fnExactCompactMemoryRow.stops == []))=true:=by kernel_rfl
set_option maxRecDepth 100000 in
theorem j7:((Tryz.prog.stops == []))=true:=by kernel_rfl
set_option maxRecDepth 100000 in
theorem j8:((Rows.fnExactCompactMemoryRow.knobs == []))=true:=by kernel_rfl
set_option maxRecDepth 100000 in
theorem j9:((Tryz.prog.stopKnobs == []))=true:=by kernel_rfl
set_option maxRecDepth 100000 in
theorem j10:((Rows.fnExactCompactMemoryRow.inPlace == Tryz.prog.inPlace 3))=true:=by kernel_rfl
set_option maxRecDepth 100000 in
theorem j11:((Rows.fnExactCompactMemoryRow.unfollowed == Tryz.prog.unfollowed 3))=true:=by kernel_rfl
set_option maxRecDepth 100000 in
theorem j12:((Rows.fnExactCompactMemoryRow.recurses == Tryz.prog.recurses 3))=true:=by kernel_rfl
set_option maxRecDepth 100000 in
theorem j13:((Rows.fnExactCompactMemoryRow.named == Tryz.prog.varsNamed 3))=true:=by kernel_rfl
set_option maxRecDepth 100000 in
theorem j14:((Rows.fnExactCompactMemoryRow.maps == (Tryz.f3.params.toList++Rows.fnExactCompactMemorySpec.plain.varTypes Tryz.prog).any (Tryz.prog.mapsRec ·)))=true:=by kernel_rfl
set_option maxRecDepth 100000 in
theorem j15:((Rows.fnExactCompactMemoryRow.ifaces == (Tryz.f3.params.toList++Rows.fnExactCompactMemorySpec.plain.varTypes Tryz.prog).any (Tryz.prog.ifacesRec ·)))=true:=by kernel_rfl
set_option maxRecDepth 100000 in
theorem j16:((Rows.fnExactCompactMemoryRow.mapsOut == Tryz.prog.mapsAmong Tryz.f3.resultTypes.toList))=true:=by kernel_rfl
set_option maxRecDepth 100000 in
theorem j17:((Rows.fnExactCompactMemoryRow.loops == (Tryz.f3.params.toList++Rows.fnExactCompactMemorySpec.plain.varTypes Tryz.prog).any (Tryz.prog.loopsFrom ·)))=true:=by kernel_rfl
set_option maxRecDepth 100000 in
theorem j18:((Rows.fnExactCompactMemoryRow.wideKeys == (Tryz.f3.params.toList++Rows.fnExactCompactMemorySpec.plain.varTypes Tryz.prog++Tryz.f3.resultTypes.toList).any (Tryz.prog.wideKeysFrom ·)))=true:=by kernel_rfl
set_option maxRecDepth 100000 in
theorem j19:(Rows.fnExactCompactMemorySpec.vars.all (Tryz.prog.varReadable ·))=true:=by kernel_rfl
set_option maxRecDepth 100000 in
theorem j20:(Tryz.f3.resultTypes.all (fun t=>Tryz.prog.readableRec t && decide (t<Tryz.prog.types.size)))=true:=by kernel_rfl
set_option maxRecDepth 100000 in
theorem j21:((Rows.fnExactCompactMemoryRow.ifacesOut == Tryz.f3.resultTypes.toList.any (Tryz.prog.ifacesRec ·)))=true:=by kernel_rfl
set_option maxRecDepth 100000 in
theorem j22:((Rows.fnExactCompactMemoryRow.loopsOut == Tryz.f3.resultTypes.toList.any (Tryz.prog.loopsFrom ·)))=true:=by kernel_rfl
set_option maxRecDepth 100000 in
theorem j23:((Rows.fnExactCompactMemoryRow.plainKeys == Tryz.prog.plainKeys))=true:=by kernel_rfl
set_option maxRecDepth 100000 in
theorem j24:(Rows.fnExactCompactMemoryRow.shortTexts.isNone)=true:=by kernel_rfl
set_option maxRecDepth 100000 in
theorem j25:(Tryz.prog.stopsHeard)=true:=by kernel_rfl
set_option maxRecDepth 100000 in
theorem j26:(Tryz.prog.mayEnter)=true:=by kernel_rfl
set_option maxRecDepth 100000 in
theorem j27:((Rows.fnExactCompactMemoryRow.lifted == Tryz.prog.liftsFinal))=true:=by kernel_rfl
set_option maxRecDepth 100000 in
theorem j28:((Tryz.prog.make == some Rows.fnExactCompactMemoryRow.make))=true:=by kernel_rfl
set_option maxRecDepth 100000 in
theorem j29:((Rows.fnExactCompactMemoryRow.kinds == (if Rows.fnExactCompactMemoryRow.domain.isEmpty then [] else Tryz.f3.params.toList.map fun t=>match Tryz.prog.underlying t with | some (.int k)=>some k | _=>none)))=true:=by kernel_rfl
set_option maxRecDepth 100000 in
theorem j30:((Rows.fnExactCompactMemoryRow.pinned == Rows.fnExactCompactMemoryRow.pinnedBy))=true:=by kernel_rfl
set_option maxRecDepth 100000 in
theorem j31:((Rows.fnExactCompactMemoryRow.veiled == (Tryz.f3.params.toList++Rows.fnExactCompactMemorySpec.plain.varTypes Tryz.prog++Tryz.f3.resultTypes.toList).any (Tryz.prog.veiledRec ·)))=true:=by kernel_rfl
set_option maxRecDepth 100000 in
theorem j32:(Rows.fnExactCompactMemoryRow.veiledFits Tryz.prog Tryz.f3.params.toList (Tryz.f3.params.toList++Rows.fnExactCompactMemorySpec.plain.varTypes Tryz.prog++Tryz.f3.resultTypes.toList))=true:=by kernel_rfl
set_option maxRecDepth 100000 in
theorem closed:joinedFacts Tryz.prog 3 Tryz.f3 Rows.fnExactCompactMemorySpec Rows.fnExactCompactMemoryRow=true:=by
  unfold joinedFacts
  simp only [Bool.and_eq_true]
  exact⟨⟨⟨⟨⟨⟨⟨⟨⟨⟨⟨⟨⟨⟨⟨⟨⟨⟨⟨⟨⟨⟨⟨⟨⟨⟨⟨⟨⟨⟨⟨j1,j2⟩,j3⟩,j4⟩,j5⟩,j6⟩,j7⟩,j8⟩,j9⟩,j10⟩,j11⟩,j12⟩,j13⟩,j14⟩,j15⟩,j16⟩,j17⟩,j18⟩,j19⟩,j20⟩,j21⟩,j22⟩,j23⟩,j24⟩,j25⟩,j26⟩,j27⟩,j28⟩,j29⟩,j30⟩,j31⟩,j32⟩
set_option maxRecDepth 100000 in
theorem wraps:Tryz.f3.isWrapper Tryz.prog Rows.fnExactCompactMemoryRow.wrapper Rows.fnExactCompactMemoryRow.mainSum:=by
  unfold Func.isWrapper;first | (rw [if_pos (by decide +kernel)];kernel_rfl) | (rw [if_neg (by decide +kernel)];exact⟨rfl,rfl⟩)
theorem instd:Tryz.f3.isInstance Tryz.prog Rows.fnExactCompactMemoryRow.origin Rows.fnExactCompactMemoryRow.targs:=of_decide_eq_true (by kernel_rfl)

set_option maxRecDepth 100000 in
theorem over:Rows.fnExactCompactMemoryRow.holds Tryz.pinned (OpenSpec.ofChange Rows.fnExactCompactMemorySpec):=
  OpenClaim.holds_of_wide 3 Tryz.f3 rfl rfl rfl rfl rfl rfl rfl ⟨rfl,rfl,rfl,rfl,rfl⟩ rfl rfl rfl rfl rfl (by kernel_rfl) Tryz.func3 closed instd wraps
    (fun os started H enc _=>lifted os started H enc)

theorem proved:Rows.FnExactCompactMemorySaid:=over
#print axioms proved
end Go.Proofs.YtijgffjimnbcpaaGreat.lawCompactMemory

