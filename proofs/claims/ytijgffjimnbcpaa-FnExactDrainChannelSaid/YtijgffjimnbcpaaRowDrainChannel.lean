/- DrainChannel: the statement, from the walk and the plain law. Conditions: none. -/
import Derived.Test.YtijgffjimnbcpaaRows
import Derived.Test.YtijgffjimnbcpaaLawDrainChannel
import Derived.Test.YtijgffjimnbcpaaInvK
import Derived.WalkKit
import Derived.ProofKit
import Derived.OpenShut
import Derived.ShutString
import Derived.ChangeOld
import Derived.Below
import Derived.Carry
namespace Go.Proofs.Ytijgffjimnbcpaa.lawDrainChannel
open Go.ChangeShapes Go.WideShapes Go.ChangeAt Go.RowKit Go.E
set_option linter.unusedVariables false

theorem own:ownKnob Try.prog.godebug=none:=by kernel_rfl
theorem laidOut:laidOutB Try.prog=true:=by kernel_rfl

set_option maxRecDepth 100000 in
theorem lifted (os:Os) (started:os.Started) (H:Type) (enc:TypeId × Value→H):
    ReturnsInHanded {} Try.checked os 3 .any (Rows.fnExactDrainChannelSpec.pre6 enc Try.prog Try.f3 Rows.fnExactDrainChannelRow.domain false) (Rows.fnExactDrainChannelSpec.post enc Try.prog Try.f3 false true false false):=by
  refine returnsInHanded_of_change (C:=Try.checked) own started (by kernel_rfl) Try.func3
    (ChangeSpec.witness6 (enc:=enc) (C:=Try.checked) false ⟨#[],#[.agg #[.int .i64 0,.slice none 0 0,.int .i64 0,.int .i64 0,.int .i64 0,.slice none 0 0,.slice none 0 0,.slice none 0 0],.int .i64 0],[]⟩ 12 (by kernel_rfl) (by kernel_rfl) (by kernel_rfl) (by kernel_rfl)) ?_
  intro W base args ds gs before hval0 hW hcnd _
  have hval:∀ (j:Nat) t v,Try.f3.params[j]? = some t→args[j]? = some v→Value.okWide Try.prog W .any base t v:=hval0
  have hW':=hW
  obtain⟨p,q,hA0,hV,rfl,hfz,hnd⟩:=hW
  have hA:DataW.TrodAll enc Try.prog W 0 (fun _=>true) true Try.f3.params.toList args.toList ds p:=hA0
  rw [Try.params3] at hA hval
  obtain⟨v0,vs0,d0,ds0,p0,q0,hargs,rfl,rfl,h0,r0⟩:=trodAll_cons hA
  obtain⟨v1,vs1,d1,ds1,p1,q1,rfl,rfl,rfl,h1,r1⟩:=trodAll_cons r0
  obtain⟨rfl,rfl,rfl⟩:=trodAll_nil r1
  obtain rfl:args = #[v0,v1]:=by cases args;simp_all
  obtain⟨rfl,rfl⟩:=trodVars_none hV
  have k0:=h0
  have lt0:∀ x∈p0,x.block<W.heap.size:=by obtain⟨m,hm⟩:=k0;exact DataW.trod_lt m _ _ _ hm
  have k1:=h1
  have lt1:∀ x∈p1,x.block<W.heap.size:=by obtain⟨m,hm⟩:=k1;exact DataW.trod_lt m _ _ _ hm
  obtain⟨c0,x0,rfl,g0,w0⟩:=z5h Try.underlying25 z7E (hval 0 25 v0 rfl rfl) h0
  obtain⟨x1,rfl,w1⟩:=z8R Try.underlying2 (hval 1 2 v1 rfl rfl) h1
  clear hA0 hval0
  obtain⟨fuel,hm⟩:=lawDrainChannel (x0:=x0) (x1:=x1) w0 w1
  refine(laws_FnExactDrainChannel_ok (Ext.refl _) g0 hm).mono ?_
  intro e W' hq
  obtain⟨v,rfl,rfl,hS⟩:=Ret.out hq
  have bel:Below W.heap.size W W':=hS.ext
  exact⟨_,rfl,_,_,_,[],_,[],hW',trodAll_mk1 (shut_bool Try.underlying4 _),(trodAll_cons_mk (Below.trod laidOut (by kernel_rfl) (of_decide_eq_true (by kernel_rfl)) k0 bel lt0) (trodAll_cons_mk (Below.trod laidOut (by kernel_rfl) (of_decide_eq_true (by kernel_rfl)) k1 bel lt1) trodAll_mk0)),rfl,bel.frame _,fun h=>by cases h⟩

set_option maxRecDepth 100000 in
theorem j1:(Rows.fnExactDrainChannelRow.wf (OpenSpec.ofChange Rows.fnExactDrainChannelSpec))=true:=by kernel_rfl
set_option maxRecDepth 100000 in
theorem j2:(laidOutB Try.prog)=true:=by kernel_rfl
set_option maxRecDepth 100000 in
theorem j3:(mapsRowed Try.prog)=true:=by kernel_rfl
set_option maxRecDepth 100000 in
theorem j4:(Try.f3.params.all (Try.prog.readableRec ·))=true:=by kernel_rfl
set_option maxRecDepth 100000 in
theorem j5:(namedTie Try.prog Rows.fnExactDrainChannelRow.named Rows.fnExactDrainChannelSpec.vars)=true:=by kernel_rfl
set_option maxRecDepth 100000 in
theorem j6:((Rows.fnExactDrainChannelRow.stops == []))=true:=by kernel_rfl
set_option maxRecDepth 100000 in
theorem j7:((Try.prog.stops == []))=true:=by kernel_rfl
set_option maxRecDepth 100000 in
theorem j8:((Rows.fnExactDrainChannelRow.knobs == []))=true:=by kernel_rfl
set_option maxRecDepth 100000 in
theorem j9:((Try.prog.stopKnobs == []))=true:=by kernel_rfl
set_option maxRecDepth 100000 in
theorem j10:((Rows.fnExactDrainChannelRow.inPlace == Try.prog.inPlace 3))=true:=by kernel_rfl
set_option maxRecDepth 100000 in
theorem j11:((Rows.fnExactDrainChannelRow.unfollowed == Try.prog.unfollowed 3))=true:=by kernel_rfl
set_option maxRecDepth 100000 in
theorem j12:((Rows.fnExactDrainChannelRow.recurses == Try.prog.recurses 3))=true:=by kernel_rfl
set_option maxRecDepth 100000 in
theorem j13:((Rows.fnExactDrainChannelRow.named == Try.prog.varsNamed 3))=true:=by kernel_rfl
set_option maxRecDepth 100000 in
theorem j14:((Rows.fnExactDrainChannelRow.maps == (Try.f3.params.toList++Rows.fnExactDrainChannelSpec.plain.varTypes Try.prog).any (Try.prog.mapsRec ·)))=true:=by kernel_rfl
set_option maxRecDepth 100000 in
theorem j15:((Rows.fnExactDrainChannelRow.ifaces == (Try.f3.params.toList++Rows.fnExactDrainChannelSpec.plain.varTypes Try.prog).any (Try.prog.ifacesRec ·)))=true:=by kernel_rfl
set_option maxRecDepth 100000 in
theorem j16:((Rows.fnExactDrainChannelRow.mapsOut == Try.prog.mapsAmong Try.f3.resultTypes.toList))=true:=by kernel_rfl
set_option maxRecDepth 100000 in
theorem j17:((Rows.fnExactDrainChannelRow.loops == (Try.f3.params.toList++Rows.fnExactDrainChannelSpec.plain.varTypes Try.prog).any (Try.prog.loopsFrom ·)))=true:=by kernel_rfl
set_option maxRecDepth 100000 in
theorem j18:((Rows.fnExactDrainChannelRow.wideKeys == (Try.f3.params.toList++Rows.fnExactDrainChannelSpec.plain.varTypes Try.prog++Try.f3.resultTypes.toList).any (Try.prog.wideKeysFrom ·)))=true:=by kernel_rfl
set_option maxRecDepth 100000 in
theorem j19:(Rows.fnExactDrainChannelSpec.vars.all (Try.prog.varReadable ·))=true:=by kernel_rfl
set_option maxRecDepth 100000 in
theorem j20:(Try.f3.resultTypes.all (fun t=>Try.prog.readableRec t && decide (t<Try.prog.types.size)))=true:=by kernel_rfl
set_option maxRecDepth 100000 in
theorem j21:((Rows.fnExactDrainChannelRow.ifacesOut == Try.f3.resultTypes.toList.any (Try.prog.ifacesRec ·)))=true:=by kernel_rfl
set_option maxRecDepth 100000 in
theorem j22:((Rows.fnExactDrainChannelRow.loopsOut == Try.f3.resultTypes.toList.any (Try.prog.loopsFrom ·)))=true:=by kernel_rfl
set_option maxRecDepth 100000 in
theorem j23:((Rows.fnExactDrainChannelRow.plainKeys == Try.prog.plainKeys))=true:=by kernel_rfl
set_option maxRecDepth 100000 in
theorem j24:(Rows.fnExactDrainChannelRow.shortTexts.isNone)=true:=by kernel_rfl
set_option maxRecDepth 100000 in
theorem j25:(Try.prog.stopsHeard)=true:=by kernel_rfl
set_option maxRecDepth 100000 in
theorem j26:(Try.prog.mayEnter)=true:=by kernel_rfl
set_option maxRecDepth 100000 in
theorem j27:((Rows.fnExactDrainChannelRow.lifted == Try.prog.liftsFinal))=true:=by kernel_rfl
set_option maxRecDepth 100000 in
theorem j28:((Try.prog.make == some Rows.fnExactDrainChannelRow.make))=true:=by kernel_rfl
set_option maxRecDepth 100000 in
theorem j29:((Rows.fnExactDrainChannelRow.kinds == (if Rows.fnExactDrainChannelRow.domain.isEmpty then [] else Try.f3.params.toList.map fun t=>match Try.prog.underlying t with | some (.int k)=>some k | _=>none)))=true:=by kernel_rfl
set_option maxRecDepth 100000 in
theorem j30:((Rows.fnExactDrainChannelRow.pinned == Rows.fnExactDrainChannelRow.pinnedBy))=true:=by kernel_rfl
set_option maxRecDepth 100000 in
theorem j31:((Rows.fnExactDrainChannelRow.veiled == (Try.f3.params.toList++Rows.fnExactDrainChannelSpec.plain.varTypes Try.prog++Try.f3.resultTypes.toList).any (Try.prog.veiledRec ·)))=true:=by kernel_rfl
set_option maxRecDepth 100000 in
theorem j32:(Rows.fnExactDrainChannelRow.veiledFits Try.prog Try.f3.params.toList (Try.f3.params.toList++Rows.fnExactDrainChannelSpec.plain.varTypes Try.prog++Try.f3.resultTypes.toList))=true:=by kernel_rfl
set_option maxRecDepth 100000 in
theorem closed:joinedFacts Try.prog 3 Try.f3 Rows.fnExactDrainChannelSpec Rows.fnExactDrainChannelRow=true:=by
  unfold joinedFacts
  simp only [Bool.and_eq_true]
  exact⟨⟨⟨⟨⟨⟨⟨⟨⟨⟨⟨⟨⟨⟨⟨⟨⟨⟨⟨⟨⟨⟨⟨⟨⟨⟨⟨⟨⟨⟨⟨j1,j2⟩,j3⟩,j4⟩,j5⟩,j6⟩,j7⟩,j8⟩,j9⟩,j10⟩,j11⟩,j12⟩,j13⟩,j14⟩,j15⟩,j16⟩,j17⟩,j18⟩,j19⟩,j20⟩,j21⟩,j22⟩,j23⟩,j24⟩,j25⟩,j26⟩,j27⟩,j28⟩,j29⟩,j30⟩,j31⟩,j32⟩
set_option maxRecDepth 100000 in
theorem wraps:Try.f3.isWrapper Try.prog Rows.fnExactDrainChannelRow.wrapper Rows.fnExactDrainChannelRow.mainSum:=by
  unfold Func.isWrapper;first | (rw [if_pos (by decide +kernel)];kernel_rfl) | (rw [if_neg (by decide +kernel)];exact⟨rfl,rfl⟩)
theorem instd:Try.f3.isInstance Try.prog Rows.fnExactDrainChannelRow.origin Rows.fnExactDrainChannelRow.targs:=of_decide_eq_true (by kernel_rfl)

set_option maxRecDepth 100000 in
theorem over:Rows.fnExactDrainChannelRow.holds Try.pinned (OpenSpec.ofChange Rows.fnExactDrainChannelSpec):=
  OpenClaim.holds_of_wide 3 Try.f3 rfl rfl rfl rfl rfl rfl rfl ⟨rfl,rfl,rfl,rfl,rfl⟩ rfl rfl rfl rfl rfl (by kernel_rfl) Try.func3 closed instd wraps
    (fun os started H enc _=>lifted os started H enc)

theorem proved:Rows.FnExactDrainChannelSaid:=over
#print axioms proved
end Go.Proofs.Ytijgffjimnbcpaa.lawDrainChannel

