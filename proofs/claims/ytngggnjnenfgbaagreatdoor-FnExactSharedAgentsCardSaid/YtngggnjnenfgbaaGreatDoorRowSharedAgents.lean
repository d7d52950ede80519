/- SharedAgents: the tied card FnExactSharedAgentsCardSaid (program and reference agree), from the walk and the plain law; the lemmas that it rests on stand ahead of it, each with its own conditions. Conditions of the claim: the listed variables read as the program's text lays them (the card ties them). -/
import Derived.Test.YtngggnjnenfgbaaGreatDoorRows
import Derived.Test.YtngggnjnenfgbaaGreatDoorTie
import Derived.Test.YtngggnjnenfgbaaGreatDoorCards
import Derived.SevenTiedAt
import Derived.LaidMore
import Derived.Stop.LaidErr
import Derived.Stop.Joined
import Derived.MakeChecks
import Derived.Lib.LaidTab
import Derived.Test.YtngggnjnenfgbaaGreatDoorLawSharedAgents
import Derived.Test.YtngggnjnenfgbaaGreatDoorFO
import Derived.WalkKit
import Derived.ProofKit
import Derived.OpenShut
import Derived.ShutString
import Derived.ChangeOld
import Derived.Below
import Derived.Carry
namespace Go.Proofs.YtngggnjnenfgbaaGreatDoor.lawSharedAgents
open Go.ChangeShapes Go.WideShapes Go.ChangeAt Go.RowKit Go.E
set_option linter.unusedVariables false

theorem own:ownKnob Tryz.prog.godebug=none:=by kernel_rfl
theorem door_met (os:Os) (args:Array Value):laidMetH Tryz.prog Rows.fnExactSharedAgentsRow.laid ((World.doorLaid Tryz.prog 24 os).forCall (fun _ _=>0) ⟨#[],args,[]⟩).memory:=
  laidMetH_of_parts3 (fuel:=12) (laidMet_of_run' 12 (by kernel_rfl) (by kernel_rfl)) (by kernel_rfl) (by kernel_rfl)
theorem tab_met {W:World}(h:laidMetH Tryz.prog Rows.fnExactSharedAgentsRow.laid W):Tab W:=by
  rw [MakeChecks.laidMetH_plain _ _ _ (by kernel_rfl)] at h
  have h2:laidMet Tryz.prog [("internal/strconv.uint64pow10",Rows.laid_internal_strconv_uint64pow10)] W:=h.tail.tail
  rw [show(Rows.laid_internal_strconv_uint64pow10:DataW Unit)=Lib.tabData .u64 Lib.pow10Tab by kernel_rfl] at h2
  exact Lib.tabIs_of_head (g:=0) (t:=172) (e:=165) (n:=20) (by kernel_rfl) (by kernel_rfl) Tryz.underlying172 Tryz.underlying165 (by kernel_rfl) (by kernel_rfl) h2
theorem laidOut:laidOutB Tryz.prog=true:=by kernel_rfl

set_option maxRecDepth 100000 in
theorem lifted (os:Os) (started:os.Started) (H:Type) (enc:TypeId × Value→H):
    ReturnsInHanded {} Tryz.checked os 4 .any (fun w args=>(Rows.fnExactSharedAgentsSpec.pre enc Tryz.prog Tryz.f4 [] false w args∧laidMetH Tryz.prog Rows.fnExactSharedAgentsRow.laid w)∧sizedMet enc Tryz.prog Tryz.f4 (OpenSpec.ofChange Rows.fnExactSharedAgentsSpec) false w args) (Rows.fnExactSharedAgentsSpec.post enc Tryz.prog Tryz.f4 false true false false):=by
  refine returnsInHanded_of_change_and (C:=Tryz.checked) (X:=fun w _=>laidMetH Tryz.prog Rows.fnExactSharedAgentsRow.laid w) (fun _ _ _ hh h=>h.of_heap hh) own started (by kernel_rfl) Tryz.func4
    (ChangeSpec.witness_shaped (enc:=enc) (C:=Tryz.checked) (os:=os) (X:=fun w _=>laidMetH Tryz.prog Rows.fnExactSharedAgentsRow.laid w) false (World.doorLaid Tryz.prog 24 os) #[.agg #[.slice none 0 0]] 12 rfl (World.shaped_of_RefB (by kernel_rfl) (by kernel_rfl)) (by kernel_rfl) (by kernel_rfl) (by kernel_rfl) (door_met os _)) ?_
  intro W base args ds gs before hval0 hW _ _ hL _
  have hval:∀ (j:Nat) t v,Tryz.f4.params[j]? = some t→args[j]? = some v→Value.okWide Tryz.prog W .any base t v:=hval0
  have hW':=hW
  obtain⟨p,q,hA0,hV,rfl,hfz,hnd⟩:=hW
  have hA:DataW.TrodAll enc Tryz.prog W 0 (fun _=>true) true Tryz.f4.params.toList args.toList ds p:=hA0
  rw [Tryz.params4] at hA hval
  obtain⟨v0,vs0,d0,ds0,p0,q0,hargs,rfl,rfl,h0,r0⟩:=trodAll_cons hA
  obtain⟨rfl,rfl,rfl⟩:=trodAll_nil r0
  obtain rfl:args = #[v0]:=by cases args;simp_all
  obtain⟨rfl,rfl⟩:=trodVars_none hV
  have k0:=h0
  have lt0:∀ x∈p0,x.block<W.heap.size:=by obtain⟨m,hm⟩:=k0;exact DataW.trod_lt m _ _ _ hm
  obtain⟨c0,x0,rfl,g0,w0⟩:=z88 Tryz.underlying24 zaZ (hval 0 24 v0 rfl rfl) h0
  clear hA0 hval0
  obtain⟨fuel,hm⟩:=lawSharedAgents (x0:=x0) w0
  refine(laws_FnExactSharedAgents_ok (W:=Base.of W) (Ext.refl _) (tab_met hL) g0 hm).mono ?_
  intro e W' hq
  obtain⟨v,rfl,rfl,hS⟩:=Ret.out hq
  have bel:Below W.heap.size W W':=hS.ext.below
  exact⟨_,rfl,_,_,_,[],_,[],hW',trodAll_mk1 (shut_bool Tryz.underlying4 _),(trodAll_cons_mk (Below.trod laidOut (by kernel_rfl) (of_decide_eq_true (by kernel_rfl)) k0 bel lt0) trodAll_mk0),rfl,bel.frame _,fun h=>by cases h⟩

set_option maxRecDepth 100000 in
theorem j1:(Rows.fnExactSharedAgentsRow.wf (OpenSpec.ofChange Rows.fnExactSharedAgentsSpec))=true:=by kernel_rfl
set_option maxRecDepth 100000 in
theorem j2:(laidOutB Tryz.prog)=true:=by kernel_rfl
set_option maxRecDepth 100000 in
theorem j3:(mapsRowed Tryz.prog)=true:=by kernel_rfl
set_option maxRecDepth 100000 in
theorem j4:(Tryz.f4.params.all (Tryz.prog.readableRec ·))=true:=by kernel_rfl
set_option maxRecDepth 100000 in
theorem j5:(namedTie Tryz.prog Rows.fnExactSharedAgentsRow.named Rows.fnExactSharedAgentsSpec.vars)=true:=by kernel_rfl
set_option maxRecDepth 100000 in
theorem j6:((Rows.fnExactSharedAgentsRow.stops == []))=true:=by kernel_rfl
set_option maxRecDepth 100000 in
theorem j7:((Tryz.prog.stops == []))=true:=by kernel_rfl
set_option maxRecDepth 100000 in
theorem j8:((Rows.fnExactSharedAgentsRow.knobs == []))=true:=by kernel_rfl
set_option maxRecDepth 100000 in
theorem j9:((Tryz.prog.stopKnobs == []))=true:=by kernel_rfl
set_option maxRecDepth 100000 in
theorem j10:((Rows.fnExactSharedAgentsRow.inPlace == Tryz.prog.inPlace 4))=true:=by kernel_rfl
set_option maxRecDepth 100000 in
theorem j11:((Rows.fnExactSharedAgentsRow.unfollowed == Tryz.prog.unfollowed 4))=true:=by kernel_rfl
set_option maxRecDepth 100000 in
theorem j12:((Rows.fnExactSharedAgentsRow.recurses == Tryz.prog.recurses 4))=true:=by kernel_rfl
set_option maxRecDepth 100000 in
theorem j13:((Rows.fnExactSharedAgentsRow.named == Tryz.prog.varsNamed 4))=true:=by kernel_rfl
set_option maxRecDepth 100000 in
theorem j14:((Rows.fnExactSharedAgentsRow.maps == (Tryz.f4.params.toList++Rows.fnExactSharedAgentsSpec.plain.varTypes Tryz.prog).any (Tryz.prog.mapsRec ·)))=true:=by kernel_rfl
set_option maxRecDepth 100000 in
theorem j15:((Rows.fnExactSharedAgentsRow.ifaces == (Tryz.f4.params.toList++Rows.fnExactSharedAgentsSpec.plain.varTypes Tryz.prog).any (Tryz.prog.ifacesRec ·)))=true:=by kernel_rfl
set_option maxRecDepth 100000 in
theorem j16:((Rows.fnExactSharedAgentsRow.mapsOut == Tryz.prog.mapsAmong Tryz.f4.resultTypes.toList))=true:=by kernel_rfl
set_option maxRecDepth 100000 in
theorem j17:((Rows.fnExactSharedAgentsRow.loops == (Tryz.f4.params.toList++Rows.fnExactSharedAgentsSpec.plain.varTypes Tryz.prog).any (Tryz.prog.loopsFrom ·)))=true:=by kernel_rfl
set_option maxRecDepth 100000 in
theorem j18:((Rows.fnExactSharedAgentsRow.wideKeys == (Tryz.f4.params.toList++Rows.fnExactSharedAgentsSpec.plain.varTypes Tryz.prog++Tryz.f4.resultTypes.toList).any (Tryz.prog.wideKeysFrom ·)))=true:=by kernel_rfl
set_option maxRecDepth 100000 in
theorem j19:(Rows.fnExactSharedAgentsSpec.vars.all (Tryz.prog.varReadable ·))=true:=by kernel_rfl
set_option maxRecDepth 100000 in
theorem j20:(Tryz.f4.resultTypes.all (fun t=>Tryz.prog.readableRec t && decide (t<Tryz.prog.types.size)))=true:=by kernel_rfl
set_option maxRecDepth 100000 in
theorem j21:((Rows.fnExactSharedAgentsRow.ifacesOut == Tryz.f4.resultTypes.toList.any (Tryz.prog.ifacesRec ·)))=true:=by kernel_rfl
set_option maxRecDepth 100000 in
theorem j22:((Rows.fnExactSharedAgentsRow.loopsOut == Tryz.f4.resultTypes.toList.any (Tryz.prog.loopsFrom ·)))=true:=by kernel_rfl
set_option maxRecDepth 100000 in
theorem j23:((Rows.fnExactSharedAgentsRow.plainKeys == Tryz.prog.plainKeys))=true:=by kernel_rfl
set_option maxRecDepth 100000 in
theorem j24:(Rows.fnExactSharedAgentsRow.shortTexts.isNone)=true:=by kernel_rfl
set_option maxRecDepth 100000 in
theorem j25:(Tryz.prog.stopsHeard)=true:=by kernel_rfl
set_option maxRecDepth 100000 in
theorem j26:(Tryz.prog.mayEnter)=true:=by kernel_rfl
set_option maxRecDepth 100000 in
theorem j27:((Rows.fnExactSharedAgentsRow.lifted == Tryz.prog.liftsFinal))=true:=by kernel_rfl
set_option maxRecDepth 100000 in
theorem j28:((Tryz.prog.make == some Rows.fnExactSharedAgentsRow.make))=true:=by kernel_rfl
set_option maxRecDepth 100000 in
theorem j29:((Rows.fnExactSharedAgentsRow.kinds == (if Rows.fnExactSharedAgentsRow.domain.isEmpty then [] else Tryz.f4.params.toList.map fun t=>match Tryz.prog.underlying t with | some (.int k)=>some k | _=>none)))=true:=by kernel_rfl
set_option maxRecDepth 100000 in
theorem j30:((Rows.fnExactSharedAgentsRow.pinned == Rows.fnExactSharedAgentsRow.pinnedBy))=true:=by kernel_rfl
set_option maxRecDepth 100000 in
theorem j31:((Rows.fnExactSharedAgentsRow.veiled == (Tryz.f4.params.toList++Rows.fnExactSharedAgentsSpec.plain.varTypes Tryz.prog++Tryz.f4.resultTypes.toList).any (Tryz.prog.veiledRec ·)))=true:=by kernel_rfl
set_option maxRecDepth 100000 in
theorem j32:(Rows.fnExactSharedAgentsRow.veiledFits Tryz.prog Tryz.f4.params.toList (Tryz.f4.params.toList++Rows.fnExactSharedAgentsSpec.plain.varTypes Tryz.prog++Tryz.f4.resultTypes.toList))=true:=by kernel_rfl
set_option maxRecDepth 100000 in
theorem closed:joinedFacts Tryz.prog 4 Tryz.f4 Rows.fnExactSharedAgentsSpec Rows.fnExactSharedAgentsRow=true:=by
  unfold joinedFacts
  simp only [Bool.and_eq_true]
  exact⟨⟨⟨⟨⟨⟨⟨⟨⟨⟨⟨⟨⟨⟨⟨⟨⟨⟨⟨⟨⟨⟨⟨⟨⟨⟨⟨⟨⟨⟨⟨j1,j2⟩,j3⟩,j4⟩,j5⟩,j6⟩,j7⟩,j8⟩,j9⟩,j10⟩,j11⟩,j12⟩,j13⟩,j14⟩,j15⟩,j16⟩,j17⟩,j18⟩,j19⟩,j20⟩,j21⟩,j22⟩,j23⟩,j24⟩,j25⟩,j26⟩,j27⟩,j28⟩,j29⟩,j30⟩,j31⟩,j32⟩
set_option maxRecDepth 100000 in
theorem wraps:Tryz.f4.isWrapper Tryz.prog Rows.fnExactSharedAgentsRow.wrapper Rows.fnExactSharedAgentsRow.mainSum:=by
  unfold Func.isWrapper;first | (rw [if_pos (by decide +kernel)];kernel_rfl) | (rw [if_neg (by decide +kernel)];exact⟨rfl,rfl⟩)
theorem instd:Tryz.f4.isInstance Tryz.prog Rows.fnExactSharedAgentsRow.origin Rows.fnExactSharedAgentsRow.targs:=of_decide_eq_true (by kernel_rfl)

set_option maxRecDepth 100000 in
theorem over:Rows.fnExactSharedAgentsRow.holds Tryz.pinned (OpenSpec.ofChange Rows.fnExactSharedAgentsSpec):=
  OpenClaim.holds_of_wide 4 Tryz.f4 rfl rfl rfl rfl rfl rfl rfl ⟨rfl,rfl,rfl,rfl,rfl⟩ rfl rfl rfl rfl rfl (by kernel_rfl) Tryz.func4 closed instd wraps
    (fun os started H enc _=>lifted os started H enc)

set_option maxRecDepth 100000 in
theorem proved:Rows.FnExactSharedAgentsCardSaid:=
  Claim7.holds_tied_plain_at .later [] [.data,.data,.data] true (true,"dc161d386cc6954d56ed14786d5d9191bd1e1af4332ce236ec48314a7c8af4b6") false
    over (fun _ h=>by cases h) (by kernel_rfl) (fun _ h=>by cases h) fnExactSharedAgents_row_tie rfl ⟨rfl,rfl⟩ (by kernel_rfl) rfl
    (fun f fn hf hfn=>by
      obtain rfl:f=4:=Option.some.inj ((show Tryz.prog.funcNamed "loop.example/g01074/laws.FnExactSharedAgents" = some 4 by kernel_rfl).symm.trans hf) |>.symm
      obtain rfl:fn=Tryz.f4:=(Option.some.inj (Tryz.func4.symm.trans hfn)).symm
      exact⟨by kernel_rfl,fun j t ht=>by
        rw [Tryz.params4] at ht
        have hm:t∈[24]:=by simpa using Array.mem_of_getElem? ht
        have hall:([24].all fun u=>!Tryz.prog.wantsStandIn u)=true:=by kernel_rfl
        exact(show Tryz.prog.wantsStandIn t=false by simpa using List.all_eq_true.1 hall t hm)⟩)
    (by kernel_rfl)
#print axioms proved
end Go.Proofs.YtngggnjnenfgbaaGreatDoor.lawSharedAgents

