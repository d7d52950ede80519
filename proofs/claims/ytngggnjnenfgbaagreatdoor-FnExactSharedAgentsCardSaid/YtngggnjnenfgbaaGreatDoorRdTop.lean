/- The reading of a whole net, on both sides. Conditions: the net is valid, or else both sides say so. -/
import Derived.Test.YtngggnjnenfgbaaGreatDoorRdSpecd
import Derived.Test.YtngggnjnenfgbaaGreatDoorSzDefs
import Derived.Test.YtngggnjnenfgbaaGreatDoorFOb
namespace Go.E
open Go.RowKit Go.Proofs
set_option linter.unusedSimpArgs false
set_option linter.unusedVariables false

theorem zb2 {n:D.Net}(h:n.sz≤1048576):n.Agents.length≤1048576∧sumL (fun a=>a.Ports.length) n.Agents≤1048576∧∀ a,a∈n.Agents→a.Data.length≤maxLen∧a.Ports.length≤maxLen:=by
  have hm:maxLen=9223372036854775807:=rfl
  have h2:n.sz=n.Agents.length+sumL D.Agent.sz n.Agents+0:=rfl
  refine⟨by omega,?_,fun a ha=>?_⟩
  · have:∀ xs:List D.Agent,sumL (fun a=>a.Ports.length) xs≤sumL D.Agent.sz xs:=by
      intro xs
      induction xs with
      | nil=>exact Nat.le_refl _
      | cons a xs ih=>
        have:a.sz=a.Data.length+(a.Ports.length+0):=rfl
        simp only [sumL]
        omega
    have:=this n.Agents
    omega
  · have h3:=z76 (f:=D.Agent.sz) ha
    have h4:a.sz=a.Data.length+(a.Ports.length+0):=rfl
    omega

def zero:Z:=⟨0,[],[]⟩
theorem zay {l:List D.Agent}:ZOk l zero:=⟨Nat.zero_le _,Nat.le_refl _,fun e h=>by simp [zero] at h,Nat.zero_le _⟩
def ss0:SS:=List.replicate 9 []
theorem zcA {n:Nat}:SsOk n ss0:=⟨by simp [ss0],fun s h=>by
  unfold ss0 at h
  rw [List.eq_of_mem_replicate h]
  exact⟨Nat.zero_le _,fun t ht=>by simp at ht⟩⟩
def topM (n:D.Net):Int ⊕ (D.Core × Z):=match portAt n ⟨0,0⟩ with
  | none=>.inl 99
  | some q=>readM n.Agents 80 ss0 [] zero q
theorem z9F {n:D.Net}(hn:netN n=true):∃ a q,idx n.Agents 0=some a∧idx a.Ports 0=some q∧portAt n ⟨0,0⟩=some q∧hasN n.Agents q=true:=by
  obtain⟨h1,h2⟩:=z7x hn
  obtain⟨a,ha⟩:=z3v (xs:=n.Agents) (i:=0) (by omega)
  have hai:idx n.Agents 0=some a:=by rw [z3C (by omega)];exact ha
  have hp:=zcz (z5c hn hai)
  obtain⟨q,hq⟩:=z3v (xs:=a.Ports) (i:=0) (by omega)
  have hqi:idx a.Ports 0=some q:=by rw [z3C (by omega)];exact hq
  exact⟨a,q,hai,hqi,by unfold portAt;dsimp only;rw [hai,Option.bind_some,hqi],z6F hn hai hqi⟩

theorem z9E {n:D.Net}{fuel:Nat}(hn:netN n=true) (hf:18446744073709551616≤fuel):
    match topM n with
    | .inl c=>c≠0∧∃ co w',z2e fuel n=some (co,w')∧w'.code=c
    | .inr (co,z)=>ZOk n.Agents z∧∃ L:List ByteArray,L.length=z.org.length∧z2e fuel n=some (co,imgS n z L):=by
  obtain⟨a,q,ha,hq,hp,hh⟩:=z9F hn
  obtain⟨o,e1,e2⟩:=z1v (body:=z2P fuel) (fun i s=>s.1=(i:Int)∧s.2=List.replicate i []) 9 (fun o=>o=.inl ss0) (by
    rintro i ⟨j,s⟩ hi ⟨h1,h2⟩
    dsimp only at h1 h2
    subst h1;subst h2
    refine .inl ⟨(w64 ((i:Int)+1),List.replicate i []++[[]]),?_,?_,?_⟩
    · unfold z2P
      dsimp only
      rw [if_pos (decide_eq_true (by omega)),if_pos (decide_eq_true (by simp;omega))]
    · dsimp only;rw [z8 (by omega) (by omega)];rfl
    · dsimp only;rw [List.replicate_succ']) (by
    rintro⟨j,s⟩ ⟨h1,h2⟩
    dsimp only at h1 h2
    subst h1;subst h2
    refine .inr ⟨_,?_,rfl⟩
    unfold z2P
    dsimp only
    rw [if_neg (by simp)]
    rfl) (fuel:=fuel) (i:=0) (s:=(0,[])) (Nat.zero_le _) (by omega) ⟨rfl,rfl⟩
  subst e2
  have hS:=z8U hn hf 80 fuel (by omega) (by omega) ss0 [] zero q [] hh zcA (fun b hb=>by simp at hb) (by simp) zay rfl
  have hr:rev ss0=ss0:=by simp [rev,ss0]
  have hb:binS n.Agents []=[]:=rfl
  have hi:imgS n zero []=⟨n,0,0,[],[],[],0⟩:=rfl
  have hd:(81:Int) - ((80:Nat):Int)=1:=by decide
  rw [hr,hb,hi,hd] at hS
  unfold topM
  rw [hp]
  dsimp only
  have hM:z2e fuel n=(z12 fuel fuel (⟨n,0,0,[],[],[],0⟩:D.l16Walk) q ss0 [] 1).bind fun d=>some ((⟨d.1.Kind,d.1.Value,d.1.Data,d.1.Kids⟩:D.Core),(⟨n,d.2.steps,d.2.nodes,d.2.entered,d.2.origins,d.2.labels,d.2.code⟩:D.l16Walk)):=by
    unfold z2e
    rw [e1,Option.bind_some,zt]
    unfold z4G z4i
    rw [ha,Option.bind_some,hq,Option.bind_some]
  rw [hM]
  clear hM
  cases hR:readM n.Agents 80 ss0 [] zero q with
  | inl c=>
    rw [hR] at hS
    obtain⟨h1,co,w',h2,h3⟩:=hS
    rw [h2,Option.bind_some]
    exact⟨h1,_,_,rfl,h3⟩
  | inr x=>
    obtain⟨co,z⟩:=x
    rw [hR] at hS
    obtain⟨h1,h2,L,h3,h4⟩:=hS
    rw [h4,Option.bind_some]
    refine⟨h1,L,h3,?_⟩
    cases co
    rfl

theorem z9G {n:D.Net}{fuel:Nat}(hs:n.sz≤1048576) (hf:18446744073709551616≤fuel):
    if netN n=true then(match topM n with
    | .inl c=>c≠0∧∃ r co,z2f fuel n=some (some r,co,c)
    | .inr (co,z)=>ZOk n.Agents z∧∃ L:List ByteArray,L.length=z.org.length∧z2f fuel n=some (some (img n.Agents z L),co,0))
    else z2f fuel n=some (none,(⟨0,0,[],[]⟩:D.Core),1):=by
  obtain⟨z1,z2,z3⟩:=zb2 hs
  unfold z2f
  rw [zbJ hf z1 z2 z3,Option.bind_some]
  cases hn:netN n with
  | false=>
    rw [if_neg (by simp),if_pos (by simp)]
  | true=>
    obtain⟨a,q,ha,hq,hp,hh⟩:=z9F hn
    have hS:=z8V hn hf 80 fuel (by omega) (by omega) ss0 [] zero q [] hh zcA (fun b hb=>by simp at hb) (by simp) zay rfl
    have hi:img n.Agents zero []=(⟨(⟨n.Agents⟩:D.Net),0,0,[],(List.replicate (n.Agents.length:Int).toNat (0:Int)),[]⟩:D.reading):=by
      unfold img zero
      rw [zaO]
      rfl
    have hd:(81:Int) - ((80:Nat):Int)=1:=by decide
    rw [hi,hd] at hS
    rw [if_pos rfl,if_neg (by simp),if_pos (decide_eq_true (by omega)),z5T,hp,Option.bind_some]
    unfold z4j topM
    rw [hp]
    dsimp only
    have h9:([[],[],[],[],[],[],[],[],[]]:SS)=ss0:=rfl
    rw [h9]
    cases hR:readM n.Agents 80 ss0 [] zero q with
    | inl c=>
      rw [hR] at hS
      obtain⟨h1,co,r',h2⟩:=hS
      rw [h2,Option.bind_some]
      exact⟨h1,_,_,rfl⟩
    | inr x=>
      obtain⟨co,z⟩:=x
      rw [hR] at hS
      obtain⟨h1,h2,L,h3,h4⟩:=hS
      rw [h4,Option.bind_some]
      refine⟨h1,L,h3,?_⟩
      cases co
      rfl


theorem z70 {fuel:Nat}{x:D.Net}(hf:18446744073709551616≤fuel) (_hw:D.Net.wf x) (hs:x.sz≤1048576):∃ r,z2y fuel x=some r∧z1S fuel x=some r∧r.1.length≤1048576:=by
  obtain⟨z1,z2,z3⟩:=zb2 hs
  have hI:=z9G hs hf
  unfold z2y z1S
  rw [z9M hf z1 z3,Option.bind_some]
  cases hn:netN x with
  | false=>
    rw [hn,if_neg (by simp)] at hI
    rw [hI,Option.bind_some,if_pos (by simp)]
    exact⟨_,rfl,rfl,Nat.zero_le _⟩
  | true=>
    have hS:=z9E hn hf
    rw [hn,if_pos rfl] at hI
    rw [if_neg (by simp)]
    cases hT:topM x with
    | inl c=>
      rw [hT] at hI hS
      obtain⟨h1,co,w',h2,h3⟩:=hS
      obtain⟨_,r,co',g2⟩:=hI
      rw [h2,g2,Option.bind_some,Option.bind_some,h3]
      dsimp only [Option.elim]
      rw [if_pos (by simpa using h1),if_pos (by simpa using h1)]
      exact⟨_,rfl,rfl,Nat.zero_le _⟩
    | inr y=>
      obtain⟨co,z⟩:=y
      rw [hT] at hI hS
      obtain⟨h1,L,h2,h3⟩:=hS
      obtain⟨_,L',g2,g3⟩:=hI
      have hc:(imgS x z L).code=0:=rfl
      have ho:(imgS x z L).origins=z.org:=rfl
      have ho':(img x.Agents z L').origins=z.org:=rfl
      rw [h3,g3,Option.bind_some,Option.bind_some,hc,if_neg (by simp),ho,z79 (by have:=h1.org;omega),Option.bind_some]
      dsimp only [Option.elim]
      rw [if_neg (by simp),ho']
      exact⟨_,rfl,rfl,by have:=h1.org;show z.org.length≤1048576;omega⟩
end Go.E


