/- SplitNet: the statement, from the walk and the plain law. Conditions: none. -/
import Derived.Test.YtfndicpnccabkaaGreatRows
import Derived.Test.YtfndicpnccabkaaGreatLawSplitNet
import Derived.Test.YtfndicpnccabkaaGreatHSd
import Derived.WalkKit
import Derived.ProofKit
import Derived.OpenShut
import Derived.ShutString
import Derived.ChangeOld
import Derived.Below
import Derived.Carry
namespace Go.Proofs.YtfndicpnccabkaaGreat.lawSplitNet
open Go.ChangeShapes Go.WideShapes Go.ChangeAt Go.RowKit Go.E
set_option linter.unusedVariables false

theorem own:ownKnob Tryz.prog.godebug=none:=by kernel_rfl
theorem laidOut:laidOutB Tryz.prog=true:=by kernel_rfl

set_option maxRecDepth 100000 in
theorem lifted (os:Os) (started:os.Started) (H:Type) (enc:TypeId × Value→H):
    ReturnsInHanded {} Tryz.checked os 5 .any (Rows.fnExactSplitNetSpec.pre6 enc Tryz.prog Tryz.f5 Rows.fnExactSplitNetRow.domain false) (Rows.fnExactSplitNetSpec.post enc Tryz.prog Tryz.f5 false true false false):=by
  refine returnsInHanded_of_change (C:=Tryz.checked) own started (by kernel_rfl) Tryz.func5
    (ChangeSpec.witness6 (enc:=enc) (C:=Tryz.checked) false ⟨#[],#[.agg #[.slice none 0 0],.slice none 0 0,.int .i64 0],[]⟩ 12 (by kernel_rfl) (by kernel_rfl) (by kernel_rfl) (by kernel_rfl)) ?_
  intro W base args ds gs before hval0 hW hcnd _
  have hval:∀ (j:Nat) t v,Tryz.f5.params[j]? = some t→args[j]? = some v→Value.okWide Tryz.prog W .any base t v:=hval0
  have hW':=hW
  obtain⟨p,q,hA0,hV,rfl,hfz,hnd⟩:=hW
  have hA:DataW.TrodAll enc Tryz.prog W 0 (fun _=>true) true Tryz.f5.params.toList args.toList ds p:=hA0
  rw [Tryz.params5] at hA hval
  obtain⟨v0,vs0,d0,ds0,p0,q0,hargs,rfl,rfl,h0,r0⟩:=trodAll_cons hA
  obtain⟨v1,vs1,d1,ds1,p1,q1,rfl,rfl,rfl,h1,r1⟩:=trodAll_cons r0
  obtain⟨v2,vs2,d2,ds2,p2,q2,rfl,rfl,rfl,h2,r2⟩:=trodAll_cons r1
  obtain⟨rfl,rfl,rfl⟩:=trodAll_nil r2
  obtain rfl:args = #[v0,v1,v2]:=by cases args;simp_all
  obtain⟨rfl,rfl⟩:=trodVars_none hV
  have k0:=h0
  have lt0:∀ x∈p0,x.block<W.heap.size:=by obtain⟨m,hm⟩:=k0;exact DataW.trod_lt m _ _ _ hm
  have k1:=h1
  have lt1:∀ x∈p1,x.block<W.heap.size:=by obtain⟨m,hm⟩:=k1;exact DataW.trod_lt m _ _ _ hm
  have k2:=h2
  have lt2:∀ x∈p2,x.block<W.heap.size:=by obtain⟨m,hm⟩:=k2;exact DataW.trod_lt m _ _ _ hm
  obtain⟨c0,x0,rfl,g0,w0⟩:=z9X Tryz.underlying59 zcS (hval 0 59 v0 rfl rfl) h0
  obtain⟨A1,c1,x1,rfl,g1,w1⟩:=zbc Tryz.underlying45 zbz (hval 1 45 v1 rfl rfl) h1
  obtain⟨x2,rfl,w2⟩:=ze8 Tryz.underlying2 (hval 2 2 v2 rfl rfl) h2
  clear hA0 hval0
  obtain⟨fuel,hm⟩:=lawSplitNet (x0:=x0) (x1:=x1) (x2:=x2) w0 w1 w2
  refine(laws_FnExactSplitNet_ok (Ext.refl _) g0 g1 hm).mono ?_
  intro e W' hq
  obtain⟨v,rfl,rfl,hS⟩:=Ret.out hq
  have bel:Below W.heap.size W W':=hS.ext
  exact⟨_,rfl,_,_,_,[],_,[],hW',trodAll_mk1 (shut_bool Tryz.underlying4 _),(trodAll_cons_mk (Below.trod laidOut (by kernel_rfl) (of_decide_eq_true (by kernel_rfl)) k0 bel lt0) (trodAll_cons_mk (Below.trod laidOut (by kernel_rfl) (of_decide_eq_true (by kernel_rfl)) k1 bel lt1) (trodAll_cons_mk (Below.trod laidOut (by kernel_rfl) (of_decide_eq_true (by kernel_rfl)) k2 bel lt2) trodAll_mk0))),rfl,bel.frame _,fun h=>by cases h⟩

set_option maxRecDepth 100000 in
theorem j1:(Rows.fnExactSplitNetRow.wf (OpenSpec.ofChange Rows.fnExactSplitNetSpec))=true:=by kernel_rfl
set_option maxRecDepth 100000 in
theorem j2:(laidOutB Tryz.prog)=true:=by kernel_rfl
set_option maxRecDepth 100000 in
theorem j3:(mapsRowed Tryz.prog)=true:=by kernel_rfl
set_option maxRecDepth 100000 in
theorem j4:(Tryz.f5.params.all (Tryz.prog.readableRec ·))=true:=by kernel_rfl
set_option maxRecDepth 100000 in
theorem j5:(namedTie Tryz.prog Rows.fnExactSplitNetRow.named Rows.fnExactSplitNetSpec.vars)=true:=by kernel_rfl
set_option maxRecDepth 100000 in
theorem j6:((Rows.fnExactSplitNetRow.stops == []))=true:=by kernel_rfl
set_option maxRecDepth 100000 in
theorem j7:((Tryz.prog.stops == []))=true:=by kernel_rfl
set_option maxRecDepth 100000 in
theorem j8:((Rows.fnExactSplitNetRow.knobs == []))=true:=by kernel_rfl
set_option maxRecDepth 100000 in
theorem j9:((Tryz.prog.stopKnobs == []))=true:=by kernel_rfl
set_option maxRecDepth 100000 in
theorem j10:((Rows.fnExactSplitNetRow.inPlace == Tryz.prog.inPlace 5))=true:=by kernel_rfl
set_option maxRecDepth 100000 in
theorem j11:((Rows.fnExactSplitNetRow.unfollowed == Tryz.prog.unfollowed 5))=true:=by kernel_rfl
set_option maxRecDepth 100000 in
theorem j12:((Rows.fnExactSplitNetRow.recurses == Tryz.prog.recurses 5))=true:=by kernel_rfl
set_option maxRecDepth 100000 in
theorem j13:((Rows.fnExactSplitNetRow.named == Tryz.prog.varsNamed 5))=true:=by kernel_rfl
set_option maxRecDepth 100000 in
theorem j14:((Rows.fnExactSplitNetRow.maps == (Tryz.f5.params.toList++Rows.fnExactSplitNetSpec.plain.varTypes Tryz.prog).any (Tryz.prog.mapsRec ·)))=true:=by kernel_rfl
set_option maxRecDepth 100000 in
theorem j15:((Rows.fnExactSplitNetRow.ifaces == (Tryz.f5.params.toList++Rows.fnExactSplitNetSpec.plain.varTypes Tryz.prog).any (Tryz.prog.ifacesRec ·)))=true:=by kernel_rfl
set_option maxRecDepth 100000 in
theorem j16:((Rows.fnExactSplitNetRow.mapsOut == Tryz.prog.mapsAmong Tryz.f5.resultTypes.toList))=true:=by kernel_rfl
set_option maxRecDepth 100000 in
theorem j17:((Rows.fnExactSplitNetRow.loops == (Tryz.f5.params.toList++Rows.fnExactSplitNetSpec.plain.varTypes Tryz.prog).any (Tryz.prog.loopsFrom ·)))=true:=by kernel_rfl
set_option maxRecDepth 100000 in
theorem j18:((Rows.fnExactSplitNetRow.wideKeys == (Tryz.f5.params.toList++Rows.fnExactSplitNetSpec.plain.varTypes Tryz.prog++Tryz.f5.resultTypes.toList).any (Tryz.prog.wideKeysFrom ·)))=true:=by kernel_rfl
set_option maxRecDepth 100000 in
theorem j19:(Rows.fnExactSplitNetSpec.vars.all (Tryz.prog.varReadable ·))=true:=by kernel_rfl
set_option maxRecDepth 100000 in
theorem j20:(Tryz.f5.resultTypes.all (fun t=>Tryz.prog.readableRec t && decide (t<Tryz.prog.types.size)))=true:=by kernel_rfl
set_option maxRecDepth 100000 in
theorem j21:((Rows.fnExactSplitNetRow.ifacesOut == Tryz.f5.resultTypes.toList.any (Tryz.prog.ifacesRec ·)))=true:=by kernel_rfl
set_option maxRecDepth 100000 in
theorem j22:((Rows.fnExactSplitNetRow.loopsOut == Tryz.f5.resultTypes.toList.any (Tryz.prog.loopsFrom ·)))=true:=by kernel_rfl
set_option maxRecDepth 100000 in
theorem j23:((Rows.fnExactSplitNetRow.plainKeys == Tryz.prog.plainKeys))=true:=by kernel_rfl
set_option maxRecDepth 100000 in
theorem j24:(Rows.fnExactSplitNetRow.shortTexts.isNone)=true:=by kernel_rfl
set_option maxRecDepth 100000 in
theorem j25:(Tryz.prog.stopsHeard)=true:=by kernel_rfl
set_option maxRecDepth 100000 in
theorem j26:(Tryz.prog.mayEnter)=true:=by kernel_rfl
set_option maxRecDepth 100000 in
theorem j27:((Rows.fnExactSplitNetRow.lifted == Tryz.prog.liftsFinal))=true:=by kernel_rfl
set_option maxRecDepth 100000 in
theorem j28:((Tryz.prog.make == some Rows.fnExactSplitNetRow.make))=true:=by kernel_rfl
set_option maxRecDepth 100000 in
theorem j29:((Rows.fnExactSplitNetRow.kinds == (if Rows.fnExactSplitNetRow.domain.isEmpty then [] else Tryz.f5.params.toList.map fun t=>match Tryz.prog.underlying t with | some (.int k)=>some k | _=>none)))=true:=by kernel_rfl
set_option maxRecDepth 100000 in
theorem j30:((Rows.fnExactSplitNetRow.pinned == Rows.fnExactSplitNetRow.pinnedBy))=true:=by kernel_rfl
set_option maxRecDepth 100000 in
theorem j31:((Rows.fnExactSplitNetRow.veiled == (Tryz.f5.params.toList++Rows.fnExactSplitNetSpec.plain.varTypes Tryz.prog++Tryz.f5.resultTypes.toList).any (Tryz.prog.veiledRec ·)))=true:=by kernel_rfl
set_option maxRecDepth 100000 in
theorem j32:(Rows.fnExactSplitNetRow.veiledFits Tryz.prog Tryz.f5.params.toList (Tryz.f5.params.toList++Rows.fnExactSplitNetSpec.plain.varTypes Tryz.prog++Tryz.f5.resultTypes.toList))=true:=by kernel_rfl
set_option maxRecDepth 100000 in
theorem closed:joinedFacts Tryz.prog 5 Tryz.f5 Rows.fnExactSplitNetSpec Rows.fnExactSplitNetRow=true:=by
  unfold joinedFacts
  simp only [Bool.and_eq_true]
  exact⟨⟨⟨⟨⟨⟨⟨⟨⟨⟨⟨⟨⟨⟨⟨⟨⟨⟨⟨⟨⟨⟨⟨⟨⟨⟨⟨⟨⟨⟨⟨j1,j2⟩,j3⟩,j4⟩,j5⟩,j6⟩,j7⟩,j8⟩,j9⟩,j10⟩,j11⟩,j12⟩,j13⟩,j14⟩,j15⟩,j16⟩,j17⟩,j18⟩,j19⟩,j20⟩,j21⟩,j22⟩,j23⟩,j24⟩,j25⟩,j26⟩,j27⟩,j28⟩,j29⟩,j30⟩,j31⟩,j32⟩
set_option maxRecDepth 100000 in
theorem wraps:Tryz.f5.isWrapper Tryz.prog Rows.fnExactSplitNetRow.wrapper Rows.fnExactSplitNetRow.mainSum:=by
  unfold Func.isWrapper;first | (rw [if_pos (by decide +kernel)];kernel_rfl) | (rw [if_neg (by decide +kernel)];exact⟨rfl,rfl⟩)
theorem instd:Tryz.f5.isInstance Tryz.prog Rows.fnExactSplitNetRow.origin Rows.fnExactSplitNetRow.targs:=of_decide_eq_true (by kernel_rfl)

set_option maxRecDepth 100000 in
theorem over:Rows.fnExactSplitNetRow.holds Tryz.pinned (OpenSpec.ofChange Rows.fnExactSplitNetSpec):=
  OpenClaim.holds_of_wide 5 Tryz.f5 rfl rfl rfl rfl rfl rfl rfl ⟨rfl,rfl,rfl,rfl,rfl⟩ rfl rfl rfl rfl rfl (by kernel_rfl) Tryz.func5 closed instd wraps
    (fun os started H enc _=>lifted os started H enc)

theorem proved:Rows.FnExactSplitNetSaid:=over
#print axioms proved
end Go.Proofs.YtfndicpnccabkaaGreat.lawSplitNet

