/- ReadCost: the tied card FnExactReadCostCardSaid (program and reference agree), from the walk and the plain law; the lemmas that it rests on stand ahead of it, each with its own conditions. Conditions of the claim: the listed variables read as the program's text lays them (the card ties them). -/
import Derived.Test.YtngggnjnenfgbaaDoorRdSpecd
import Derived.Test.YtngggnjnenfgbaaDoorSzDefs
import Derived.Test.YtngggnjnenfgbaaDoorFO
import Derived.Test.YtngggnjnenfgbaaDoorRdImplb
import Derived.Test.YtngggnjnenfgbaaDoorRows
import Derived.Test.YtngggnjnenfgbaaDoorTie
import Derived.Test.YtngggnjnenfgbaaDoorCards
import Derived.SevenTiedAt
import Derived.LaidMore
import Derived.Stop.LaidErr
import Derived.Stop.Joined
import Derived.MakeChecks
import Derived.Lib.LaidTab
import Derived.WalkKit
import Derived.ProofKit
import Derived.OpenShut
import Derived.ShutString
import Derived.ChangeOld
import Derived.Below
import Derived.Carry
namespace Go.E
open Go.RowKit Go.Proofs
set_option linter.unusedSimpArgs false
set_option linter.unusedVariables false

theorem zbb {n:D.Net}(h:n.sz≤1048576):n.Agents.length≤1048576∧sumL (fun a=>a.Ports.length) n.Agents≤1048576∧∀ a,a∈n.Agents→a.Data.length≤maxLen∧a.Ports.length≤maxLen:=by
  have hm:maxLen=9223372036854775807:=rfl
  have h2:n.sz=n.Agents.length+sumL D.Agent.sz n.Agents+0:=rfl
  refine⟨by omega,?_,fun a ha=>?_⟩
  · have:∀ xs:List D.Agent,sumL (fun a=>a.Ports.length) xs≤sumL D.Agent.sz xs:=by
      intro xs
      induction xs with
      | nil=>exact Nat.le_refl _
      | cons a xs ih=>
        have:a.sz=a.Data.length+(a.Ports.length+0):=rfl
        simp only [sumL]
        omega
    have:=this n.Agents
    omega
  · have h3:=z68 (f:=D.Agent.sz) ha
    have h4:a.sz=a.Data.length+(a.Ports.length+0):=rfl
    omega

def zero:Z:=⟨0,[],[]⟩
theorem z94 {l:List D.Agent}:ZOk l zero:=⟨Nat.zero_le _,Nat.le_refl _,fun e h=>by simp [zero] at h,Nat.zero_le _⟩
def ss0:SS:=List.replicate 9 []
theorem zb9 {n:Nat}:SsOk n ss0:=⟨by simp [ss0],fun s h=>by
  unfold ss0 at h
  rw [List.eq_of_mem_replicate h]
  exact⟨Nat.zero_le _,fun t ht=>by simp at ht⟩⟩
def topM (n:D.Net):Int ⊕ (D.Core × Z):=match portAt n ⟨0,0⟩ with
  | none=>.inl 99
  | some q=>readM n.Agents 80 ss0 [] zero q
theorem z8k {n:D.Net}(hn:netN n=true):∃ a q,idx n.Agents 0=some a∧idx a.Ports 0=some q∧portAt n ⟨0,0⟩=some q∧hasN n.Agents q=true:=by
  obtain⟨h1,h2⟩:=z6S hn
  obtain⟨a,ha⟩:=z3J (xs:=n.Agents) (i:=0) (by omega)
  have hai:idx n.Agents 0=some a:=by rw [z3m (by omega)];exact ha
  have hp:=zb6 (z4u hn hai)
  obtain⟨q,hq⟩:=z3J (xs:=a.Ports) (i:=0) (by omega)
  have hqi:idx a.Ports 0=some q:=by rw [z3m (by omega)];exact hq
  exact⟨a,q,hai,hqi,by unfold portAt;dsimp only;rw [hai,Option.bind_some,hqi],z5G hn hai hqi⟩

theorem z9U {n:D.Net}{fuel:Nat}(hn:netN n=true) (hf:18446744073709551616≤fuel):
    match topM n with
    | .inl c=>c≠0∧∃ co w',z2e fuel n=some (co,w')∧w'.code=c
    | .inr (co,z)=>ZOk n.Agents z∧∃ L:List ByteArray,L.length=z.org.length∧z2e fuel n=some (co,imgS n z L):=by
  obtain⟨a,q,ha,hq,hp,hh⟩:=z8k hn
  obtain⟨o,e1,e2⟩:=z2G (body:=z2k fuel) (fun i s=>s.1=(i:Int)∧s.2=List.replicate i []) 9 (fun o=>o=.inl ss0) (by
    rintro i ⟨j,s⟩ hi ⟨h1,h2⟩
    dsimp only at h1 h2
    subst h1;subst h2
    refine .inl ⟨(w64 ((i:Int)+1),List.replicate i []++[[]]),?_,?_,?_⟩
    · unfold z2k
      dsimp only
      rw [if_pos (decide_eq_true (by omega)),if_pos (decide_eq_true (by simp;omega))]
    · dsimp only;rw [zd (by omega) (by omega)];rfl
    · dsimp only;rw [List.replicate_succ']) (by
    rintro⟨j,s⟩ ⟨h1,h2⟩
    dsimp only at h1 h2
    subst h1;subst h2
    refine .inr ⟨_,?_,rfl⟩
    unfold z2k
    dsimp only
    rw [if_neg (by simp)]
    rfl) (fuel:=fuel) (i:=0) (s:=(0,[])) (Nat.zero_le _) (by omega) ⟨rfl,rfl⟩
  subst e2
  have hS:=z7L hn hf 80 fuel (by omega) (by omega) ss0 [] zero q [] hh zb9 (fun b hb=>by simp at hb) (by simp) z94 rfl
  have hr:rev ss0=ss0:=by simp [rev,ss0]
  have hb:binS n.Agents []=[]:=rfl
  have hi:imgS n zero []=⟨n,0,0,[],[],[],0⟩:=rfl
  have hd:(81:Int) - ((80:Nat):Int)=1:=by decide
  rw [hr,hb,hi,hd] at hS
  unfold topM
  rw [hp]
  dsimp only
  have hM:z2e fuel n=(zU fuel fuel (⟨n,0,0,[],[],[],0⟩:D.l16Walk) q ss0 [] 1).bind fun d=>some ((⟨d.1.Kind,d.1.Value,d.1.Data,d.1.Kids⟩:D.Core),(⟨n,d.2.steps,d.2.nodes,d.2.entered,d.2.origins,d.2.labels,d.2.code⟩:D.l16Walk)):=by
    unfold z2e
    rw [e1,Option.bind_some,zR]
    unfold z42 z3K
    rw [ha,Option.bind_some,hq,Option.bind_some]
  rw [hM]
  clear hM
  cases hR:readM n.Agents 80 ss0 [] zero q with
  | inl c=>
    rw [hR] at hS
    obtain⟨h1,co,w',h2,h3⟩:=hS
    rw [h2,Option.bind_some]
    exact⟨h1,_,_,rfl,h3⟩
  | inr x=>
    obtain⟨co,z⟩:=x
    rw [hR] at hS
    obtain⟨h1,h2,L,h3,h4⟩:=hS
    rw [h4,Option.bind_some]
    refine⟨h1,L,h3,?_⟩
    cases co
    rfl

theorem z9V {n:D.Net}{fuel:Nat}(hs:n.sz≤1048576) (hf:18446744073709551616≤fuel):
    if netN n=true then(match topM n with
    | .inl c=>c≠0∧∃ r co,z2h fuel n=some (some r,co,c)
    | .inr (co,z)=>ZOk n.Agents z∧∃ L:List ByteArray,L.length=z.org.length∧z2h fuel n=some (some (img n.Agents z L),co,0))
    else z2h fuel n=some (none,(⟨0,0,[],[]⟩:D.Core),1):=by
  obtain⟨z1,z2,z3⟩:=zbb hs
  unfold z2h
  rw [za2 hf z1 z2 z3,Option.bind_some]
  cases hn:netN n with
  | false=>
    rw [if_neg (by simp),if_pos (by simp)]
  | true=>
    obtain⟨a,q,ha,hq,hp,hh⟩:=z8k hn
    have hS:=z7M hn hf 80 fuel (by omega) (by omega) ss0 [] zero q [] hh zb9 (fun b hb=>by simp at hb) (by simp) z94 rfl
    have hi:img n.Agents zero []=(⟨(⟨n.Agents⟩:D.Net),0,0,[],(List.replicate (n.Agents.length:Int).toNat (0:Int)),[]⟩:D.reading):=by
      unfold img zero
      rw [z9j]
      rfl
    have hd:(81:Int) - ((80:Nat):Int)=1:=by decide
    rw [hi,hd] at hS
    rw [if_pos rfl,if_neg (by simp),if_pos (decide_eq_true (by omega)),z54,hp,Option.bind_some]
    unfold z3L topM
    rw [hp]
    dsimp only
    have h9:([[],[],[],[],[],[],[],[],[]]:SS)=ss0:=rfl
    rw [h9]
    cases hR:readM n.Agents 80 ss0 [] zero q with
    | inl c=>
      rw [hR] at hS
      obtain⟨h1,co,r',h2⟩:=hS
      rw [h2,Option.bind_some]
      exact⟨h1,_,_,rfl⟩
    | inr x=>
      obtain⟨co,z⟩:=x
      rw [hR] at hS
      obtain⟨h1,h2,L,h3,h4⟩:=hS
      rw [h4,Option.bind_some]
      refine⟨h1,L,h3,?_⟩
      cases co
      rfl


theorem z7a {fuel:Nat}{x:D.Net}(hf:18446744073709551616≤fuel) (_hw:D.Net.wf x) (hs:x.sz≤1048576):∃ r,z38 fuel x=some r∧z3j fuel x=some r:=by
  obtain⟨z1,z2,z3⟩:=zbb hs
  have hI:=z9V hs hf
  unfold z38 z3j
  rw [za1 hf z1 z3,Option.bind_some]
  cases hn:netN x with
  | false=>
    rw [hn,if_neg (by simp)] at hI
    rw [hI,Option.bind_some,if_pos (by simp)]
    exact⟨_,rfl,rfl⟩
  | true=>
    have hS:=z9U hn hf
    rw [hn,if_pos rfl] at hI
    rw [if_neg (by simp)]
    cases hT:topM x with
    | inl c=>
      rw [hT] at hI hS
      obtain⟨h1,co,w',h2,h3⟩:=hS
      obtain⟨_,r,co',g2⟩:=hI
      rw [h2,g2,Option.bind_some,Option.bind_some,h3]
      dsimp only [Option.elim]
      rw [if_pos (by simpa using h1),if_pos (by simpa using h1)]
      exact⟨_,rfl,rfl⟩
    | inr y=>
      obtain⟨co,z⟩:=y
      rw [hT] at hI hS
      obtain⟨h1,L,h2,h3⟩:=hS
      obtain⟨_,L',g2,g3⟩:=hI
      have hc:(imgS x z L).code=0:=rfl
      rw [h3,g3,Option.bind_some,Option.bind_some,hc,if_neg (by simp)]
      dsimp only [Option.elim]
      rw [if_neg (by simp)]
      exact⟨_,rfl,rfl⟩
end Go.E


namespace Go.E
open Go.RowKit Go.Proofs
set_option linter.unusedSimpArgs false
set_option linter.unusedVariables false

theorem lawReadCost {x0:D.Net}(h0:D.Net.wf x0):∃ fuel,z22 fuel x0=some true:=by
  obtain⟨fuel,hf⟩:∃ n:Nat,18446744073709551616≤n:=⟨_,Nat.le_refl _⟩
  refine⟨fuel,?_⟩
  unfold z22
  obtain⟨r0,e0,s0⟩:=z8L (l:=(1048576:Int)) hf h0 (by decide) (by omega)
  rw [e0,Option.bind_some]
  rcases s0 with s0 | ⟨s0,t0⟩
  · rw [if_pos (by simp [s0])]
  rw [if_neg (by simp [s0])]
  have z0:D.Net.sz x0≤1048576:=by omega
  obtain⟨q,a0,a1⟩:=z7a hf h0 z0
  simp only [Option.bind_some,a0,a1,z6O hf z0,z6X hf z0]
  simp [zO,z6O hf z0,z6X hf z0]
end Go.E


namespace Go.Proofs.YtngggnjnenfgbaaDoor.lawReadCost
open Go.ChangeShapes Go.WideShapes Go.ChangeAt Go.RowKit Go.E
set_option linter.unusedVariables false

theorem own:ownKnob Tryd.prog.godebug=none:=by kernel_rfl
theorem door_met (os:Os) (args:Array Value):laidMetH Tryd.prog Rows.fnExactReadCostRow.laid ((World.doorLaid Tryd.prog 24 os).forCall (fun _ _=>0) ⟨#[],args,[]⟩).memory:=
  laidMetH_of_parts3 (fuel:=12) (laidMet_of_run' 12 (by kernel_rfl) (by kernel_rfl)) (by kernel_rfl) (by kernel_rfl)
theorem tab_met {W:World}(h:laidMetH Tryd.prog Rows.fnExactReadCostRow.laid W):Tab W:=by
  rw [MakeChecks.laidMetH_plain _ _ _ (by kernel_rfl)] at h
  have h2:laidMet Tryd.prog [("internal/strconv.uint64pow10",Rows.laid_internal_strconv_uint64pow10)] W:=h.tail.tail
  rw [show(Rows.laid_internal_strconv_uint64pow10:DataW Unit)=Lib.tabData .u64 Lib.pow10Tab by kernel_rfl] at h2
  exact Lib.tabIs_of_head (g:=0) (t:=140) (e:=133) (n:=20) (by kernel_rfl) (by kernel_rfl) Tryd.underlying140 Tryd.underlying133 (by kernel_rfl) (by kernel_rfl) h2
theorem laidOut:laidOutB Tryd.prog=true:=by kernel_rfl

set_option maxRecDepth 100000 in
theorem lifted (os:Os) (started:os.Started) (H:Type) (enc:TypeId × Value→H):
    ReturnsInHanded {} Tryd.checked os 3 .any (fun w args=>(Rows.fnExactReadCostSpec.pre enc Tryd.prog Tryd.f3 [] false w args∧laidMetH Tryd.prog Rows.fnExactReadCostRow.laid w)∧sizedMet enc Tryd.prog Tryd.f3 (OpenSpec.ofChange Rows.fnExactReadCostSpec) false w args) (Rows.fnExactReadCostSpec.post enc Tryd.prog Tryd.f3 false true false false):=by
  refine returnsInHanded_of_change_and (C:=Tryd.checked) (X:=fun w _=>laidMetH Tryd.prog Rows.fnExactReadCostRow.laid w) (fun _ _ _ hh h=>h.of_heap hh) own started (by kernel_rfl) Tryd.func3
    (ChangeSpec.witness_shaped (enc:=enc) (C:=Tryd.checked) (os:=os) (X:=fun w _=>laidMetH Tryd.prog Rows.fnExactReadCostRow.laid w) false (World.doorLaid Tryd.prog 24 os) #[.agg #[.slice none 0 0]] 12 rfl (World.shaped_of_RefB (by kernel_rfl) (by kernel_rfl)) (by kernel_rfl) (by kernel_rfl) (by kernel_rfl) (door_met os _)) ?_
  intro W base args ds gs before hval0 hW _ _ hL _
  have hval:∀ (j:Nat) t v,Tryd.f3.params[j]? = some t→args[j]? = some v→Value.okWide Tryd.prog W .any base t v:=hval0
  have hW':=hW
  obtain⟨p,q,hA0,hV,rfl,hfz,hnd⟩:=hW
  have hA:DataW.TrodAll enc Tryd.prog W 0 (fun _=>true) true Tryd.f3.params.toList args.toList ds p:=hA0
  rw [Tryd.params3] at hA hval
  obtain⟨v0,vs0,d0,ds0,p0,q0,hargs,rfl,rfl,h0,r0⟩:=trodAll_cons hA
  obtain⟨rfl,rfl,rfl⟩:=trodAll_nil r0
  obtain rfl:args = #[v0]:=by cases args;simp_all
  obtain⟨rfl,rfl⟩:=trodVars_none hV
  have k0:=h0
  have lt0:∀ x∈p0,x.block<W.heap.size:=by obtain⟨m,hm⟩:=k0;exact DataW.trod_lt m _ _ _ hm
  obtain⟨c0,x0,rfl,g0,w0⟩:=z8Z Tryd.underlying24 zbm (hval 0 24 v0 rfl rfl) h0
  clear hA0 hval0
  obtain⟨fuel,hm⟩:=lawReadCost (x0:=x0) w0
  refine(laws_FnExactReadCost_ok (W:=Base.of W) (Ext.refl _) (tab_met hL) g0 hm).mono ?_
  intro e W' hq
  obtain⟨v,rfl,rfl,hS⟩:=Ret.out hq
  have bel:Below W.heap.size W W':=hS.ext.below
  exact⟨_,rfl,_,_,_,[],_,[],hW',trodAll_mk1 (shut_bool Tryd.underlying4 _),(trodAll_cons_mk (Below.trod laidOut (by kernel_rfl) (of_decide_eq_true (by kernel_rfl)) k0 bel lt0) trodAll_mk0),rfl,bel.frame _,fun h=>by cases h⟩

set_option maxRecDepth 100000 in
theorem j1:(Rows.fnExactReadCostRow.wf (OpenSpec.ofChange Rows.fnExactReadCostSpec))=true:=by kernel_rfl
set_option maxRecDepth 100000 in
theorem j2:(laidOutB Tryd.prog)=true:=by kernel_rfl
set_option maxRecDepth 100000 in
theorem j3:(mapsRowed Tryd.prog)=true:=by kernel_rfl
set_option maxRecDepth 100000 in
theorem j4:(Tryd.f3.params.all (Tryd.prog.readableRec ·))=true:=by kernel_rfl
set_option maxRecDepth 100000 in
theorem j5:(namedTie Tryd.prog Rows.fnExactReadCostRow.named Rows.fnExactReadCostSpec.vars)=true:=by kernel_rfl
set_option maxRecDepth 100000 in
theorem j6:((Rows.fnExactReadCostRow.stops == []))=true:=by kernel_rfl
set_option maxRecDepth 100000 in
theorem j7:((Tryd.prog.stops == []))=true:=by kernel_rfl
set_option maxRecDepth 100000 in
theorem j8:((Rows.fnExactReadCostRow.knobs == []))=true:=by kernel_rfl
set_option maxRecDepth 100000 in
theorem j9:((Tryd.prog.stopKnobs == []))=true:=by kernel_rfl
set_option maxRecDepth 100000 in
theorem j10:((Rows.fnExactReadCostRow.inPlace == Tryd.prog.inPlace 3))=true:=by kernel_rfl
set_option maxRecDepth 100000 in
theorem j11:((Rows.fnExactReadCostRow.unfollowed == Tryd.prog.unfollowed 3))=true:=by kernel_rfl
set_option maxRecDepth 100000 in
theorem j12:((Rows.fnExactReadCostRow.recurses == Tryd.prog.recurses 3))=true:=by kernel_rfl
set_option maxRecDepth 100000 in
theorem j13:((Rows.fnExactReadCostRow.named == Tryd.prog.varsNamed 3))=true:=by kernel_rfl
set_option maxRecDepth 100000 in
theorem j14:((Rows.fnExactReadCostRow.maps == (Tryd.f3.params.toList++Rows.fnExactReadCostSpec.plain.varTypes Tryd.prog).any (Tryd.prog.mapsRec ·)))=true:=by kernel_rfl
set_option maxRecDepth 100000 in
theorem j15:((Rows.fnExactReadCostRow.ifaces == (Tryd.f3.params.toList++Rows.fnExactReadCostSpec.plain.varTypes Tryd.prog).any (Tryd.prog.ifacesRec ·)))=true:=by kernel_rfl
set_option maxRecDepth 100000 in
theorem j16:((Rows.fnExactReadCostRow.mapsOut == Tryd.prog.mapsAmong Tryd.f3.resultTypes.toList))=true:=by kernel_rfl
set_option maxRecDepth 100000 in
theorem j17:((Rows.fnExactReadCostRow.loops == (Tryd.f3.params.toList++Rows.fnExactReadCostSpec.plain.varTypes Tryd.prog).any (Tryd.prog.loopsFrom ·)))=true:=by kernel_rfl
set_option maxRecDepth 100000 in
theorem j18:((Rows.fnExactReadCostRow.wideKeys == (Tryd.f3.params.toList++Rows.fnExactReadCostSpec.plain.varTypes Tryd.prog++Tryd.f3.resultTypes.toList).any (Tryd.prog.wideKeysFrom ·)))=true:=by kernel_rfl
set_option maxRecDepth 100000 in
theorem j19:(Rows.fnExactReadCostSpec.vars.all (Tryd.prog.varReadable ·))=true:=by kernel_rfl
set_option maxRecDepth 100000 in
theorem j20:(Tryd.f3.resultTypes.all (fun t=>Tryd.prog.readableRec t && decide (t<Tryd.prog.types.size)))=true:=by kernel_rfl
set_option maxRecDepth 100000 in
theorem j21:((Rows.fnExactReadCostRow.ifacesOut == Tryd.f3.resultTypes.toList.any (Tryd.prog.ifacesRec ·)))=true:=by kernel_rfl
set_option maxRecDepth 100000 in
theorem j22:((Rows.fnExactReadCostRow.loopsOut == Tryd.f3.resultTypes.toList.any (Tryd.prog.loopsFrom ·)))=true:=by kernel_rfl
set_option maxRecDepth 100000 in
theorem j23:((Rows.fnExactReadCostRow.plainKeys == Tryd.prog.plainKeys))=true:=by kernel_rfl
set_option maxRecDepth 100000 in
theorem j24:(Rows.fnExactReadCostRow.shortTexts.isNone)=true:=by kernel_rfl
set_option maxRecDepth 100000 in
theorem j25:(Tryd.prog.stopsHeard)=true:=by kernel_rfl
set_option maxRecDepth 100000 in
theorem j26:(Tryd.prog.mayEnter)=true:=by kernel_rfl
set_option maxRecDepth 100000 in
theorem j27:((Rows.fnExactReadCostRow.lifted == Tryd.prog.liftsFinal))=true:=by kernel_rfl
set_option maxRecDepth 100000 in
theorem j28:((Tryd.prog.make == some Rows.fnExactReadCostRow.make))=true:=by kernel_rfl
set_option maxRecDepth 100000 in
theorem j29:((Rows.fnExactReadCostRow.kinds == (if Rows.fnExactReadCostRow.domain.isEmpty then [] else Tryd.f3.params.toList.map fun t=>match Tryd.prog.underlying t with | some (.int k)=>some k | _=>none)))=true:=by kernel_rfl
set_option maxRecDepth 100000 in
theorem j30:((Rows.fnExactReadCostRow.pinned == Rows.fnExactReadCostRow.pinnedBy))=true:=by kernel_rfl
set_option maxRecDepth 100000 in
theorem j31:((Rows.fnExactReadCostRow.veiled == (Tryd.f3.params.toList++Rows.fnExactReadCostSpec.plain.varTypes Tryd.prog++Tryd.f3.resultTypes.toList).any (Tryd.prog.veiledRec ·)))=true:=by kernel_rfl
set_option maxRecDepth 100000 in
theorem j32:(Rows.fnExactReadCostRow.veiledFits Tryd.prog Tryd.f3.params.toList (Tryd.f3.params.toList++Rows.fnExactReadCostSpec.plain.varTypes Tryd.prog++Tryd.f3.resultTypes.toList))=true:=by kernel_rfl
set_option maxRecDepth 100000 in
theorem closed:joinedFacts Tryd.prog 3 Tryd.f3 Rows.fnExactReadCostSpec Rows.fnExactReadCostRow=true:=by
  unfold joinedFacts
  simp only [Bool.and_eq_true]
  exact⟨⟨⟨⟨⟨⟨⟨⟨⟨⟨⟨⟨⟨⟨⟨⟨⟨⟨⟨⟨⟨⟨⟨⟨⟨⟨⟨⟨⟨⟨⟨j1,j2⟩,j3⟩,j4⟩,j5⟩,j6⟩,j7⟩,j8⟩,j9⟩,j10⟩,j11⟩,j12⟩,j13⟩,j14⟩,j15⟩,j16⟩,j17⟩,j18⟩,j19⟩,j20⟩,j21⟩,j22⟩,j23⟩,j24⟩,j25⟩,j26⟩,j27⟩,j28⟩,j29⟩,j30⟩,j31⟩,j32⟩
set_option maxRecDepth 100000 in
theorem wraps:Tryd.f3.isWrapper Tryd.prog Rows.fnExactReadCostRow.wrapper Rows.fnExactReadCostRow.mainSum:=by
  unfold Func.isWrapper;first | (rw [if_pos (by decide +kernel)];kernel_rfl) | (rw [if_neg (by decide +kernel)];exact⟨rfl,rfl⟩)
theorem instd:Tryd.f3.isInstance Tryd.prog Rows.fnExactReadCostRow.origin Rows.fnExactReadCostRow.targs:=of_decide_eq_true (by kernel_rfl)

set_option maxRecDepth 100000 in
theorem over:Rows.fnExactReadCostRow.holds Tryd.pinned (OpenSpec.ofChange Rows.fnExactReadCostSpec):=
  OpenClaim.holds_of_wide 3 Tryd.f3 rfl rfl rfl rfl rfl rfl rfl ⟨rfl,rfl,rfl,rfl,rfl⟩ rfl rfl rfl rfl rfl (by kernel_rfl) Tryd.func3 closed instd wraps
    (fun os started H enc _=>lifted os started H enc)

set_option maxRecDepth 100000 in
theorem proved:Rows.FnExactReadCostCardSaid:=
  Claim7.holds_tied_plain_at .later [] [.data,.data,.data] true (true,"e40654b87a92a4c0a84f9a11bb78f7db20a3945abdf8cf5f82cec746bdf8bf37") false
    over (fun _ h=>by cases h) (by kernel_rfl) (fun _ h=>by cases h) fnExactReadCost_row_tie rfl ⟨rfl,rfl⟩ (by kernel_rfl) rfl
    (fun f fn hf hfn=>by
      obtain rfl:f=3:=Option.some.inj ((show Tryd.prog.funcNamed "loop.example/g01074/laws.FnExactReadCost" = some 3 by kernel_rfl).symm.trans hf) |>.symm
      obtain rfl:fn=Tryd.f3:=(Option.some.inj (Tryd.func3.symm.trans hfn)).symm
      exact⟨by kernel_rfl,fun j t ht=>by
        rw [Tryd.params3] at ht
        have hm:t∈[24]:=by simpa using Array.mem_of_getElem? ht
        have hall:([24].all fun u=>!Tryd.prog.wantsStandIn u)=true:=by kernel_rfl
        exact(show Tryd.prog.wantsStandIn t=false by simpa using List.all_eq_true.1 hall t hm)⟩)
    (by kernel_rfl)
#print axioms proved
end Go.Proofs.YtngggnjnenfgbaaDoor.lawReadCost

