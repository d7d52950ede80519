/- The reading of a whole net, on both sides. Conditions: the net is valid, or else both sides say so. -/
import Derived.Test.YtngggnjnenfgbaaGreatDoorRdSpecd
import Derived.Test.YtngggnjnenfgbaaGreatDoorSzDefs
import Derived.Test.YtngggnjnenfgbaaGreatDoorFOb
import Derived.Test.YtngggnjnenfgbaaGreatDoorRdImplb
import Derived.Test.YtngggnjnenfgbaaGreatDoorRows
import Derived.Test.YtngggnjnenfgbaaGreatDoorTie
import Derived.Test.YtngggnjnenfgbaaGreatDoorCards
import Derived.SevenTiedAt
import Derived.LaidMore
import Derived.Stop.LaidErr
import Derived.Stop.Joined
import Derived.MakeChecks
import Derived.Lib.LaidTab
import Derived.Test.YtngggnjnenfgbaaGreatDoorFO
import Derived.WalkKit
import Derived.ProofKit
import Derived.OpenShut
import Derived.ShutString
import Derived.ChangeOld
import Derived.Below
import Derived.Carry
namespace Go.E
open Go.RowKit Go.Proofs
set_option linter.unusedSimpArgs false
set_option linter.unusedVariables false

theorem zc7 {n:D.Net}(h:n.sz≤1048576):n.Agents.length≤1048576∧sumL (fun a=>a.Ports.length) n.Agents≤1048576∧∀ a,a∈n.Agents→a.Data.length≤maxLen∧a.Ports.length≤maxLen:=by
  have hm:maxLen=9223372036854775807:=rfl
  have h2:n.sz=n.Agents.length+sumL D.Agent.sz n.Agents+0:=rfl
  refine⟨by omega,?_,fun a ha=>?_⟩
  · have:∀ xs:List D.Agent,sumL (fun a=>a.Ports.length) xs≤sumL D.Agent.sz xs:=by
      intro xs
      induction xs with
      | nil=>exact Nat.le_refl _
      | cons a xs ih=>
        have:a.sz=a.Data.length+(a.Ports.length+0):=rfl
        simp only [sumL]
        omega
    have:=this n.Agents
    omega
  · have h3:=z6E (f:=D.Agent.sz) ha
    have h4:a.sz=a.Data.length+(a.Ports.length+0):=rfl
    omega

def zero:Z:=⟨0,[],[]⟩
theorem z9Y {l:List D.Agent}:ZOk l zero:=⟨Nat.zero_le _,Nat.le_refl _,fun e h=>by simp [zero] at h,Nat.zero_le _⟩
def ss0:SS:=List.replicate 9 []
theorem zc5 {n:Nat}:SsOk n ss0:=⟨by simp [ss0],fun s h=>by
  unfold ss0 at h
  rw [List.eq_of_mem_replicate h]
  exact⟨Nat.zero_le _,fun t ht=>by simp at ht⟩⟩
def topM (n:D.Net):Int ⊕ (D.Core × Z):=match portAt n ⟨0,0⟩ with
  | none=>.inl 99
  | some q=>readM n.Agents 80 ss0 [] zero q
theorem z9a {n:D.Net}(hn:netN n=true):∃ a q,idx n.Agents 0=some a∧idx a.Ports 0=some q∧portAt n ⟨0,0⟩=some q∧hasN n.Agents q=true:=by
  obtain⟨h1,h2⟩:=z7A hn
  obtain⟨a,ha⟩:=z3G (xs:=n.Agents) (i:=0) (by omega)
  have hai:idx n.Agents 0=some a:=by rw [z3A (by omega)];exact ha
  have hp:=zc4 (z4S hn hai)
  obtain⟨q,hq⟩:=z3G (xs:=a.Ports) (i:=0) (by omega)
  have hqi:idx a.Ports 0=some q:=by rw [z3A (by omega)];exact hq
  exact⟨a,q,hai,hqi,by unfold portAt;dsimp only;rw [hai,Option.bind_some,hqi],z6e hn hai hqi⟩

theorem zb0 {n:D.Net}{fuel:Nat}(hn:netN n=true) (hf:18446744073709551616≤fuel):
    match topM n with
    | .inl c=>c≠0∧∃ co w',z2r fuel n=some (co,w')∧w'.code=c
    | .inr (co,z)=>ZOk n.Agents z∧∃ L:List ByteArray,L.length=z.org.length∧z2r fuel n=some (co,imgS n z L):=by
  obtain⟨a,q,ha,hq,hp,hh⟩:=z9a hn
  obtain⟨o,e1,e2⟩:=z26 (body:=z2z fuel) (fun i s=>s.1=(i:Int)∧s.2=List.replicate i []) 9 (fun o=>o=.inl ss0) (by
    rintro i ⟨j,s⟩ hi ⟨h1,h2⟩
    dsimp only at h1 h2
    subst h1;subst h2
    refine .inl ⟨(w64 ((i:Int)+1),List.replicate i []++[[]]),?_,?_,?_⟩
    · unfold z2z
      dsimp only
      rw [if_pos (decide_eq_true (by omega)),if_pos (decide_eq_true (by simp;omega))]
    · dsimp only;rw [ze (by omega) (by omega)];rfl
    · dsimp only;rw [List.replicate_succ']) (by
    rintro⟨j,s⟩ ⟨h1,h2⟩
    dsimp only at h1 h2
    subst h1;subst h2
    refine .inr ⟨_,?_,rfl⟩
    unfold z2z
    dsimp only
    rw [if_neg (by simp)]
    rfl) (fuel:=fuel) (i:=0) (s:=(0,[])) (Nat.zero_le _) (by omega) ⟨rfl,rfl⟩
  subst e2
  have hS:=z8s hn hf 80 fuel (by omega) (by omega) ss0 [] zero q [] hh zc5 (fun b hb=>by simp at hb) (by simp) z9Y rfl
  have hr:rev ss0=ss0:=by simp [rev,ss0]
  have hb:binS n.Agents []=[]:=rfl
  have hi:imgS n zero []=⟨n,0,0,[],[],[],0⟩:=rfl
  have hd:(81:Int) - ((80:Nat):Int)=1:=by decide
  rw [hr,hb,hi,hd] at hS
  unfold topM
  rw [hp]
  dsimp only
  have hM:z2r fuel n=(zY fuel fuel (⟨n,0,0,[],[],[],0⟩:D.l16Walk) q ss0 [] 1).bind fun d=>some ((⟨d.1.Kind,d.1.Value,d.1.Data,d.1.Kids⟩:D.Core),(⟨n,d.2.steps,d.2.nodes,d.2.entered,d.2.origins,d.2.labels,d.2.code⟩:D.l16Walk)):=by
    unfold z2r
    rw [e1,Option.bind_some,zK]
    unfold z4k z41
    rw [ha,Option.bind_some,hq,Option.bind_some]
  rw [hM]
  clear hM
  cases hR:readM n.Agents 80 ss0 [] zero q with
  | inl c=>
    rw [hR] at hS
    obtain⟨h1,co,w',h2,h3⟩:=hS
    rw [h2,Option.bind_some]
    exact⟨h1,_,_,rfl,h3⟩
  | inr x=>
    obtain⟨co,z⟩:=x
    rw [hR] at hS
    obtain⟨h1,h2,L,h3,h4⟩:=hS
    rw [h4,Option.bind_some]
    refine⟨h1,L,h3,?_⟩
    cases co
    rfl

theorem zb1 {n:D.Net}{fuel:Nat}(hs:n.sz≤1048576) (hf:18446744073709551616≤fuel):
    if netN n=true then(match topM n with
    | .inl c=>c≠0∧∃ r co,z2u fuel n=some (some r,co,c)
    | .inr (co,z)=>ZOk n.Agents z∧∃ L:List ByteArray,L.length=z.org.length∧z2u fuel n=some (some (img n.Agents z L),co,0))
    else z2u fuel n=some (none,(⟨0,0,[],[]⟩:D.Core),1):=by
  obtain⟨z1,z2,z3⟩:=zc7 hs
  unfold z2u
  rw [zb8 hf z1 z2 z3,Option.bind_some]
  cases hn:netN n with
  | false=>
    rw [if_neg (by simp),if_pos (by simp)]
  | true=>
    obtain⟨a,q,ha,hq,hp,hh⟩:=z9a hn
    have hS:=z8t hn hf 80 fuel (by omega) (by omega) ss0 [] zero q [] hh zc5 (fun b hb=>by simp at hb) (by simp) z9Y rfl
    have hi:img n.Agents zero []=(⟨(⟨n.Agents⟩:D.Net),0,0,[],(List.replicate (n.Agents.length:Int).toNat (0:Int)),[]⟩:D.reading):=by
      unfold img zero
      rw [zad]
      rfl
    have hd:(81:Int) - ((80:Nat):Int)=1:=by decide
    rw [hi,hd] at hS
    rw [if_pos rfl,if_neg (by simp),if_pos (decide_eq_true (by omega)),z5w,hp,Option.bind_some]
    unfold z42 topM
    rw [hp]
    dsimp only
    have h9:([[],[],[],[],[],[],[],[],[]]:SS)=ss0:=rfl
    rw [h9]
    cases hR:readM n.Agents 80 ss0 [] zero q with
    | inl c=>
      rw [hR] at hS
      obtain⟨h1,co,r',h2⟩:=hS
      rw [h2,Option.bind_some]
      exact⟨h1,_,_,rfl⟩
    | inr x=>
      obtain⟨co,z⟩:=x
      rw [hR] at hS
      obtain⟨h1,h2,L,h3,h4⟩:=hS
      rw [h4,Option.bind_some]
      refine⟨h1,L,h3,?_⟩
      cases co
      rfl


theorem z6y {fuel:Nat}{x:D.Net}(hf:18446744073709551616≤fuel) (_hw:D.Net.wf x) (hs:x.sz≤1048576):∃ r,z2f fuel x=some r∧z1C fuel x=some r∧r.1.length≤1048576:=by
  obtain⟨z1,z2,z3⟩:=zc7 hs
  have hI:=zb1 hs hf
  unfold z2f z1C
  rw [zb7 hf z1 z3,Option.bind_some]
  cases hn:netN x with
  | false=>
    rw [hn,if_neg (by simp)] at hI
    rw [hI,Option.bind_some,if_pos (by simp)]
    exact⟨_,rfl,rfl,Nat.zero_le _⟩
  | true=>
    have hS:=zb0 hn hf
    rw [hn,if_pos rfl] at hI
    rw [if_neg (by simp)]
    cases hT:topM x with
    | inl c=>
      rw [hT] at hI hS
      obtain⟨h1,co,w',h2,h3⟩:=hS
      obtain⟨_,r,co',g2⟩:=hI
      rw [h2,g2,Option.bind_some,Option.bind_some,h3]
      dsimp only [Option.elim]
      rw [if_pos (by simpa using h1),if_pos (by simpa using h1)]
      exact⟨_,rfl,rfl,Nat.zero_le _⟩
    | inr y=>
      obtain⟨co,z⟩:=y
      rw [hT] at hI hS
      obtain⟨h1,L,h2,h3⟩:=hS
      obtain⟨_,L',g2,g3⟩:=hI
      have hc:(imgS x z L).code=0:=rfl
      have ho:(imgS x z L).origins=z.org:=rfl
      have ho':(img x.Agents z L').origins=z.org:=rfl
      rw [h3,g3,Option.bind_some,Option.bind_some,hc,if_neg (by simp),ho,z6H (by have:=h1.org;omega),Option.bind_some]
      dsimp only [Option.elim]
      rw [if_neg (by simp),ho']
      exact⟨_,rfl,rfl,by have:=h1.org;show z.org.length≤1048576;omega⟩
end Go.E


namespace Go.E
open Go.RowKit Go.Proofs
set_option linter.unusedSimpArgs false
set_option linter.unusedVariables false

theorem lawReadOrigins {x0:D.Net}(h0:D.Net.wf x0):∃ fuel,z1w fuel x0=some true:=by
  obtain⟨fuel,hf⟩:∃ n:Nat,18446744073709551616≤n:=⟨_,Nat.le_refl _⟩
  refine⟨fuel,?_⟩
  unfold z1w
  obtain⟨r0,e0,s0⟩:=z9C (l:=(1048576:Int)) hf h0 (by decide) (by omega)
  rw [e0,Option.bind_some]
  rcases s0 with s0 | ⟨s0,t0⟩
  · rw [if_pos (by simp [s0])]
  rw [if_neg (by simp [s0])]
  have z0:D.Net.sz x0≤1048576:=by omega
  obtain⟨r,a0,a1,b0⟩:=z6y hf h0 z0
  have m0:=fun {β:Type}(g:_→Option β)=>z5H (g:=g) a0
  have m1:=fun {β:Type}(g:_→Option β)=>z5H (g:=g) a1
  have m2:=fun {β:Type}(g:_→Option β)=>z5H (g:=g) (z9B hf z0)
  have m3:=fun {β:Type}(g:_→Option β)=>z5H (g:=g) (z9L hf z0)
  have m4:=fun {β:Type}(g:_→Option β) (k:Int) (h0:0≤k) (h1:k+(ctNet x0:Nat)≤2147483648)=>z5H (g:=g) (z8z hf z0 h0 h1)
  have c0:=zc0 (x:=x0)
  have m5:=fun {β:Type}(g:_→Option β)=>z5H (g:=g) (z65 hf b0)
  have m6:=fun {β:Type}(g:_→Option β) (k:Int) (h0:0≤k) (h1:k+(z4B r.1:Nat)≤2147483648)=>z5H (g:=g) (z5z hf b0 h0 h1)
  have m7:=fun {β:Type}(g:_→Option β) (k:Int) (h0:0≤k) (h1:k+(z4B r.1:Nat)≤2147483648)=>z5H (g:=g) (z7k hf b0 h0 h1)
  have d0:=z7n (xs:=r.1)
  simp (disch:=omega) only [↓reduceIte,↓m0,↓m1,↓m2,↓m3,↓m4,↓m5,↓m6,↓m7,lt_f,Bool.not_true,Bool.false_eq_true,bne_self_eq_false]
  simp (disch:=omega) only [↓reduceIte,↓zW,↓m0,↓m1,↓m2,↓m3,↓m4,↓m5,↓m6,↓m7,lt_f,Bool.not_true,Bool.false_eq_true,bne_self_eq_false]
  simp (disch:=omega) only [↓reduceIte,↓zA,↓m0,↓m1,↓m2,↓m3,↓m4,↓m5,↓m6,↓m7,lt_f,Bool.not_true,Bool.false_eq_true,bne_self_eq_false]
  simp (disch:=omega) only [↓reduceIte,↓zV,↓m0,↓m1,↓m2,↓m3,↓m4,↓m5,↓m6,↓m7,lt_f,Bool.not_true,Bool.false_eq_true,bne_self_eq_false]
end Go.E


namespace Go.Proofs.YtngggnjnenfgbaaGreatDoor.lawReadOrigins
open Go.ChangeShapes Go.WideShapes Go.ChangeAt Go.RowKit Go.E
set_option linter.unusedVariables false

theorem own:ownKnob Tryz.prog.godebug=none:=by kernel_rfl
theorem door_met (os:Os) (args:Array Value):laidMetH Tryz.prog Rows.fnExactReadOriginsRow.laid ((World.doorLaid Tryz.prog 24 os).forCall (fun _ _=>0) ⟨#[],args,[]⟩).memory:=
  laidMetH_of_parts3 (fuel:=12) (laidMet_of_run' 12 (by kernel_rfl) (by kernel_rfl)) (by kernel_rfl) (by kernel_rfl)
theorem tab_met {W:World}(h:laidMetH Tryz.prog Rows.fnExactReadOriginsRow.laid W):Tab W:=by
  rw [MakeChecks.laidMetH_plain _ _ _ (by kernel_rfl)] at h
  have h2:laidMet Tryz.prog [("internal/strconv.uint64pow10",Rows.laid_internal_strconv_uint64pow10)] W:=h.tail.tail
  rw [show(Rows.laid_internal_strconv_uint64pow10:DataW Unit)=Lib.tabData .u64 Lib.pow10Tab by kernel_rfl] at h2
  exact Lib.tabIs_of_head (g:=0) (t:=172) (e:=165) (n:=20) (by kernel_rfl) (by kernel_rfl) Tryz.underlying172 Tryz.underlying165 (by kernel_rfl) (by kernel_rfl) h2
theorem laidOut:laidOutB Tryz.prog=true:=by kernel_rfl

set_option maxRecDepth 100000 in
theorem lifted (os:Os) (started:os.Started) (H:Type) (enc:TypeId × Value→H):
    ReturnsInHanded {} Tryz.checked os 3 .any (fun w args=>(Rows.fnExactReadOriginsSpec.pre enc Tryz.prog Tryz.f3 [] false w args∧laidMetH Tryz.prog Rows.fnExactReadOriginsRow.laid w)∧sizedMet enc Tryz.prog Tryz.f3 (OpenSpec.ofChange Rows.fnExactReadOriginsSpec) false w args) (Rows.fnExactReadOriginsSpec.post enc Tryz.prog Tryz.f3 false true false false):=by
  refine returnsInHanded_of_change_and (C:=Tryz.checked) (X:=fun w _=>laidMetH Tryz.prog Rows.fnExactReadOriginsRow.laid w) (fun _ _ _ hh h=>h.of_heap hh) own started (by kernel_rfl) Tryz.func3
    (ChangeSpec.witness_shaped (enc:=enc) (C:=Tryz.checked) (os:=os) (X:=fun w _=>laidMetH Tryz.prog Rows.fnExactReadOriginsRow.laid w) false (World.doorLaid Tryz.prog 24 os) #[.agg #[.slice none 0 0]] 12 rfl (World.shaped_of_RefB (by kernel_rfl) (by kernel_rfl)) (by kernel_rfl) (by kernel_rfl) (by kernel_rfl) (door_met os _)) ?_
  intro W base args ds gs before hval0 hW _ _ hL _
  have hval:∀ (j:Nat) t v,Tryz.f3.params[j]? = some t→args[j]? = some v→Value.okWide Tryz.prog W .any base t v:=hval0
  have hW':=hW
  obtain⟨p,q,hA0,hV,rfl,hfz,hnd⟩:=hW
  have hA:DataW.TrodAll enc Tryz.prog W 0 (fun _=>true) true Tryz.f3.params.toList args.toList ds p:=hA0
  rw [Tryz.params3] at hA hval
  obtain⟨v0,vs0,d0,ds0,p0,q0,hargs,rfl,rfl,h0,r0⟩:=trodAll_cons hA
  obtain⟨rfl,rfl,rfl⟩:=trodAll_nil r0
  obtain rfl:args = #[v0]:=by cases args;simp_all
  obtain⟨rfl,rfl⟩:=trodVars_none hV
  have k0:=h0
  have lt0:∀ x∈p0,x.block<W.heap.size:=by obtain⟨m,hm⟩:=k0;exact DataW.trod_lt m _ _ _ hm
  obtain⟨c0,x0,rfl,g0,w0⟩:=z9T Tryz.underlying24 zch (hval 0 24 v0 rfl rfl) h0
  clear hA0 hval0
  obtain⟨fuel,hm⟩:=lawReadOrigins (x0:=x0) w0
  refine(laws_FnExactReadOrigins_ok (W:=Base.of W) (Ext.refl _) (tab_met hL) g0 hm).mono ?_
  intro e W' hq
  obtain⟨v,rfl,rfl,hS⟩:=Ret.out hq
  have bel:Below W.heap.size W W':=hS.ext.below
  exact⟨_,rfl,_,_,_,[],_,[],hW',trodAll_mk1 (shut_bool Tryz.underlying4 _),(trodAll_cons_mk (Below.trod laidOut (by kernel_rfl) (of_decide_eq_true (by kernel_rfl)) k0 bel lt0) trodAll_mk0),rfl,bel.frame _,fun h=>by cases h⟩

set_option maxRecDepth 100000 in
theorem j1:(Rows.fnExactReadOriginsRow.wf (OpenSpec.ofChange Rows.fnExactReadOriginsSpec))=true:=by kernel_rfl
set_option maxRecDepth 100000 in
theorem j2:(laidOutB Tryz.prog)=true:=by kernel_rfl
set_option maxRecDepth 100000 in
theorem j3:(mapsRowed Tryz.prog)=true:=by kernel_rfl
set_option maxRecDepth 100000 in
theorem j4:(Tryz.f3.params.all (Tryz.prog.readableRec ·))=true:=by kernel_rfl
set_option maxRecDepth 100000 in
theorem j5:(namedTie Tryz.prog Rows.fnExactReadOriginsRow.named Rows.fnExactReadOriginsSpec.vars)=true:=by kernel_rfl
set_option maxRecDepth 100000 in
theorem j6:((Rows.fnExactReadOriginsRow.stops == []))=true:=by kernel_rfl
set_option maxRecDepth 100000 in
theorem j7:((Tryz.prog.stops == []))=true:=by kernel_rfl
set_option maxRecDepth 100000 in
theorem j8:((Rows.fnExactReadOriginsRow.knobs == []))=true:=by kernel_rfl
set_option maxRecDepth 100000 in
theorem j9:((Tryz.prog.stopKnobs == []))=true:=by kernel_rfl
set_option maxRecDepth 100000 in
theorem j10:((Rows.fnExactReadOriginsRow.inPlace == Tryz.prog.inPlace 3))=true:=by kernel_rfl
set_option maxRecDepth 100000 in
theorem j11:((Rows.fnExactReadOriginsRow.unfollowed == Tryz.prog.unfollowed 3))=true:=by kernel_rfl
set_option maxRecDepth 100000 in
theorem j12:((Rows.fnExactReadOriginsRow.recurses == Tryz.prog.recurses 3))=true:=by kernel_rfl
set_option maxRecDepth 100000 in
theorem j13:((Rows.fnExactReadOriginsRow.named == Tryz.prog.varsNamed 3))=true:=by kernel_rfl
set_option maxRecDepth 100000 in
theorem j14:((Rows.fnExactReadOriginsRow.maps == (Tryz.f3.params.toList++Rows.fnExactReadOriginsSpec.plain.varTypes Tryz.prog).any (Tryz.prog.mapsRec ·)))=true:=by kernel_rfl
set_option maxRecDepth 100000 in
theorem j15:((Rows.fnExactReadOriginsRow.ifaces == (Tryz.f3.params.toList++Rows.fnExactReadOriginsSpec.plain.varTypes Tryz.prog).any (Tryz.prog.ifacesRec ·)))=true:=by kernel_rfl
set_option maxRecDepth 100000 in
theorem j16:((Rows.fnExactReadOriginsRow.mapsOut == Tryz.prog.mapsAmong Tryz.f3.resultTypes.toList))=true:=by kernel_rfl
set_option maxRecDepth 100000 in
theorem j17:((Rows.fnExactReadOriginsRow.loops == (Tryz.f3.params.toList++Rows.fnExactReadOriginsSpec.plain.varTypes Tryz.prog).any (Tryz.prog.loopsFrom ·)))=true:=by kernel_rfl
set_option maxRecDepth 100000 in
theorem j18:((Rows.fnExactReadOriginsRow.wideKeys == (Tryz.f3.params.toList++Rows.fnExactReadOriginsSpec.plain.varTypes Tryz.prog++Tryz.f3.resultTypes.toList).any (Tryz.prog.wideKeysFrom ·)))=true:=by kernel_rfl
set_option maxRecDepth 100000 in
theorem j19:(Rows.fnExactReadOriginsSpec.vars.all (Tryz.prog.varReadable ·))=true:=by kernel_rfl
set_option maxRecDepth 100000 in
theorem j20:(Tryz.f3.resultTypes.all (fun t=>Tryz.prog.readableRec t && decide (t<Tryz.prog.types.size)))=true:=by kernel_rfl
set_option maxRecDepth 100000 in
theorem j21:((Rows.fnExactReadOriginsRow.ifacesOut == Tryz.f3.resultTypes.toList.any (Tryz.prog.ifacesRec ·)))=true:=by kernel_rfl
set_option maxRecDepth 100000 in
theorem j22:((Rows.fnExactReadOriginsRow.loopsOut == Tryz.f3.resultTypes.toList.any (Tryz.prog.loopsFrom ·)))=true:=by kernel_rfl
set_option maxRecDepth 100000 in
theorem j23:((Rows.fnExactReadOriginsRow.plainKeys == Tryz.prog.plainKeys))=true:=by kernel_rfl
set_option maxRecDepth 100000 in
theorem j24:(Rows.fnExactReadOriginsRow.shortTexts.isNone)=true:=by kernel_rfl
set_option maxRecDepth 100000 in
theorem j25:(Tryz.prog.stopsHeard)=true:=by kernel_rfl
set_option maxRecDepth 100000 in
theorem j26:(Tryz.prog.mayEnter)=true:=by kernel_rfl
set_option maxRecDepth 100000 in
theorem j27:((Rows.fnExactReadOriginsRow.lifted == Tryz.prog.liftsFinal))=true:=by kernel_rfl
set_option maxRecDepth 100000 in
theorem j28:((Tryz.prog.make == some Rows.fnExactReadOriginsRow.make))=true:=by kernel_rfl
set_option maxRecDepth 100000 in
theorem j29:((Rows.fnExactReadOriginsRow.kinds == (if Rows.fnExactReadOriginsRow.domain.isEmpty then [] else Tryz.f3.params.toList.map fun t=>match Tryz.prog.underlying t with | some (.int k)=>some k | _=>none)))=true:=by kernel_rfl
set_option maxRecDepth 100000 in
theorem j30:((Rows.fnExactReadOriginsRow.pinned == Rows.fnExactReadOriginsRow.pinnedBy))=true:=by kernel_rfl
set_option maxRecDepth 100000 in
theorem j31:((Rows.fnExactReadOriginsRow.veiled == (Tryz.f3.params.toList++Rows.fnExactReadOriginsSpec.plain.varTypes Tryz.prog++Tryz.f3.resultTypes.toList).any (Tryz.prog.veiledRec ·)))=true:=by kernel_rfl
set_option maxRecDepth 100000 in
theorem j32:(Rows.fnExactReadOriginsRow.veiledFits Tryz.prog Tryz.f3.params.toList (Tryz.f3.params.toList++Rows.fnExactReadOriginsSpec.plain.varTypes Tryz.prog++Tryz.f3.resultTypes.toList))=true:=by kernel_rfl
set_option maxRecDepth 100000 in
theorem closed:joinedFacts Tryz.prog 3 Tryz.f3 Rows.fnExactReadOriginsSpec Rows.fnExactReadOriginsRow=true:=by
  unfold joinedFacts
  simp only [Bool.and_eq_true]
  exact⟨⟨⟨⟨⟨⟨⟨⟨⟨⟨⟨⟨⟨⟨⟨⟨⟨⟨⟨⟨⟨⟨⟨⟨⟨⟨⟨⟨⟨⟨⟨j1,j2⟩,j3⟩,j4⟩,j5⟩,j6⟩,j7⟩,j8⟩,j9⟩,j10⟩,j11⟩,j12⟩,j13⟩,j14⟩,j15⟩,j16⟩,j17⟩,j18⟩,j19⟩,j20⟩,j21⟩,j22⟩,j23⟩,j24⟩,j25⟩,j26⟩,j27⟩,j28⟩,j29⟩,j30⟩,j31⟩,j32⟩
set_option maxRecDepth 100000 in
theorem wraps:Tryz.f3.isWrapper Tryz.prog Rows.fnExactReadOriginsRow.wrapper Rows.fnExactReadOriginsRow.mainSum:=by
  unfold Func.isWrapper;first | (rw [if_pos (by decide +kernel)];kernel_rfl) | (rw [if_neg (by decide +kernel)];exact⟨rfl,rfl⟩)
theorem instd:Tryz.f3.isInstance Tryz.prog Rows.fnExactReadOriginsRow.origin Rows.fnExactReadOriginsRow.targs:=of_decide_eq_true (by kernel_rfl)

set_option maxRecDepth 100000 in
theorem over:Rows.fnExactReadOriginsRow.holds Tryz.pinned (OpenSpec.ofChange Rows.fnExactReadOriginsSpec):=
  OpenClaim.holds_of_wide 3 Tryz.f3 rfl rfl rfl rfl rfl rfl rfl ⟨rfl,rfl,rfl,rfl,rfl⟩ rfl rfl rfl rfl rfl (by kernel_rfl) Tryz.func3 closed instd wraps
    (fun os started H enc _=>lifted os started H enc)

set_option maxRecDepth 100000 in
theorem proved:Rows.FnExactReadOriginsCardSaid:=
  Claim7.holds_tied_plain_at .later [] [.data,.data,.data] true (true,"dc161d386cc6954d56ed14786d5d9191bd1e1af4332ce236ec48314a7c8af4b6") false
    over (fun _ h=>by cases h) (by kernel_rfl) (fun _ h=>by cases h) fnExactReadOrigins_row_tie rfl ⟨rfl,rfl⟩ (by kernel_rfl) rfl
    (fun f fn hf hfn=>by
      obtain rfl:f=3:=Option.some.inj ((show Tryz.prog.funcNamed "loop.example/g01074/laws.FnExactReadOrigins" = some 3 by kernel_rfl).symm.trans hf) |>.symm
      obtain rfl:fn=Tryz.f3:=(Option.some.inj (Tryz.func3.symm.trans hfn)).symm
      exact⟨by kernel_rfl,fun j t ht=>by
        rw [Tryz.params3] at ht
        have hm:t∈[24]:=by simpa using Array.mem_of_getElem? ht
        have hall:([24].all fun u=>!Tryz.prog.wantsStandIn u)=true:=by kernel_rfl
        exact(show Tryz.prog.wantsStandIn t=false by simpa using List.all_eq_true.1 hall t hm)⟩)
    (by kernel_rfl)
#print axioms proved
end Go.Proofs.YtngggnjnenfgbaaGreatDoor.lawReadOrigins

