/- The reading of a whole net, on both sides. Conditions: the net is valid, or else both sides say so. -/
import Derived.Test.YtngggnjnenfgbaaGreatDoorSzDefs
import Derived.Test.YtngggnjnenfgbaaGreatDoorFOb
import Derived.Test.YtngggnjnenfgbaaGreatDoorLoops
import Derived.Test.YtngggnjnenfgbaaGreatDoorFO
namespace Go.E
open Go.RowKit Go.Proofs
set_option linter.unusedSimpArgs false
set_option linter.unusedVariables false

theorem zcV {n:D.Net}(h:n.sz≤1048576):n.Agents.length≤1048576∧sumL (fun a=>a.Ports.length) n.Agents≤1048576∧∀ a,a∈n.Agents→a.Data.length≤maxLen∧a.Ports.length≤maxLen:=by
  have hm:maxLen=9223372036854775807:=rfl
  have h2:n.sz=n.Agents.length+sumL D.Agent.sz n.Agents+0:=rfl
  refine⟨by omega,?_,fun a ha=>?_⟩
  · have:∀ xs:List D.Agent,sumL (fun a=>a.Ports.length) xs≤sumL D.Agent.sz xs:=by
      intro xs
      induction xs with
      | nil=>exact Nat.le_refl _
      | cons a xs ih=>
        have:a.sz=a.Data.length+(a.Ports.length+0):=rfl
        simp only [sumL]
        omega
    have:=this n.Agents
    omega
  · have h3:=z6Z (f:=D.Agent.sz) ha
    have h4:a.sz=a.Data.length+(a.Ports.length+0):=rfl
    omega

def zero:Z:=⟨0,[],[]⟩
theorem zaD {l:List D.Agent}:ZOk l zero:=⟨Nat.zero_le _,Nat.le_refl _,fun e h=>by simp [zero] at h,Nat.zero_le _⟩
def ss0:SS:=List.replicate 9 []
theorem zcT {n:Nat}:SsOk n ss0:=⟨by simp [ss0],fun s h=>by
  unfold ss0 at h
  rw [List.eq_of_mem_replicate h]
  exact⟨Nat.zero_le _,fun t ht=>by simp at ht⟩⟩
def topM (n:D.Net):Int ⊕ (D.Core × Z):=match portAt n ⟨0,0⟩ with
  | none=>.inl 99
  | some q=>readM n.Agents 80 ss0 [] zero q
theorem z9J {n:D.Net}(hn:netN n=true):∃ a q,idx n.Agents 0=some a∧idx a.Ports 0=some q∧portAt n ⟨0,0⟩=some q∧hasN n.Agents q=true:=by
  obtain⟨h1,h2⟩:=z7U hn
  obtain⟨a,ha⟩:=z3p (xs:=n.Agents) (i:=0) (by omega)
  have hai:idx n.Agents 0=some a:=by rw [z3O (by omega)];exact ha
  have hp:=zcS (z4X hn hai)
  obtain⟨q,hq⟩:=z3p (xs:=a.Ports) (i:=0) (by omega)
  have hqi:idx a.Ports 0=some q:=by rw [z3O (by omega)];exact hq
  exact⟨a,q,hai,hqi,by unfold portAt;dsimp only;rw [hai,Option.bind_some,hqi],z6A hn hai hqi⟩

theorem zbL {n:D.Net}{fuel:Nat}(hn:netN n=true) (hf:18446744073709551616≤fuel):
    match topM n with
    | .inl c=>c≠0∧∃ co w',z2x fuel n=some (co,w')∧w'.code=c
    | .inr (co,z)=>ZOk n.Agents z∧∃ L:List ByteArray,L.length=z.org.length∧z2x fuel n=some (co,imgS n z L):=by
  obtain⟨a,q,ha,hq,hp,hh⟩:=z9J hn
  obtain⟨o,e1,e2⟩:=z1A (body:=z2F fuel) (fun i s=>s.1=(i:Int)∧s.2=List.replicate i []) 9 (fun o=>o=.inl ss0) (by
    rintro i ⟨j,s⟩ hi ⟨h1,h2⟩
    dsimp only at h1 h2
    subst h1;subst h2
    refine .inl ⟨(w64 ((i:Int)+1),List.replicate i []++[[]]),?_,?_,?_⟩
    · unfold z2F
      dsimp only
      rw [if_pos (decide_eq_true (by omega)),if_pos (decide_eq_true (by simp;omega))]
    · dsimp only;rw [z8 (by omega) (by omega)];rfl
    · dsimp only;rw [List.replicate_succ']) (by
    rintro⟨j,s⟩ ⟨h1,h2⟩
    dsimp only at h1 h2
    subst h1;subst h2
    refine .inr ⟨_,?_,rfl⟩
    unfold z2F
    dsimp only
    rw [if_neg (by simp)]
    rfl) (fuel:=fuel) (i:=0) (s:=(0,[])) (Nat.zero_le _) (by omega) ⟨rfl,rfl⟩
  subst e2
  have hS:=z8V hn hf 80 fuel (by omega) (by omega) ss0 [] zero q [] hh zcT (fun b hb=>by simp at hb) (by simp) zaD rfl
  have hr:rev ss0=ss0:=by simp [rev,ss0]
  have hb:binS n.Agents []=[]:=rfl
  have hi:imgS n zero []=⟨n,0,0,[],[],[],0⟩:=rfl
  have hd:(81:Int) - ((80:Nat):Int)=1:=by decide
  rw [hr,hb,hi,hd] at hS
  unfold topM
  rw [hp]
  dsimp only
  have hM:z2x fuel n=(zW fuel fuel (⟨n,0,0,[],[],[],0⟩:D.l16Walk) q ss0 [] 1).bind fun d=>some ((⟨d.1.Kind,d.1.Value,d.1.Data,d.1.Kids⟩:D.Core),(⟨n,d.2.steps,d.2.nodes,d.2.entered,d.2.origins,d.2.labels,d.2.code⟩:D.l16Walk)):=by
    unfold z2x
    rw [e1,Option.bind_some,zx]
    unfold z4B z4g
    rw [ha,Option.bind_some,hq,Option.bind_some]
  rw [hM]
  clear hM
  cases hR:readM n.Agents 80 ss0 [] zero q with
  | inl c=>
    rw [hR] at hS
    obtain⟨h1,co,w',h2,h3⟩:=hS
    rw [h2,Option.bind_some]
    exact⟨h1,_,_,rfl,h3⟩
  | inr x=>
    obtain⟨co,z⟩:=x
    rw [hR] at hS
    obtain⟨h1,h2,L,h3,h4⟩:=hS
    rw [h4,Option.bind_some]
    refine⟨h1,L,h3,?_⟩
    cases co
    rfl

theorem zbM {n:D.Net}{fuel:Nat}(hs:n.sz≤1048576) (hf:18446744073709551616≤fuel):
    if netN n=true then(match topM n with
    | .inl c=>c≠0∧∃ r,z2A fuel n=some (some r,(⟨0,0,[],[]⟩:D.Core),c)
    | .inr (co,z)=>ZOk n.Agents z∧∃ L:List ByteArray,L.length=z.org.length∧z2A fuel n=some (some (img n.Agents z L),co,0))
    else z2A fuel n=some (none,(⟨0,0,[],[]⟩:D.Core),1):=by
  obtain⟨z1,z2,z3⟩:=zcV hs
  unfold z2A
  rw [zbT hf z1 z2 z3,Option.bind_some]
  cases hn:netN n with
  | false=>
    rw [if_neg (by simp),if_pos (by simp)]
  | true=>
    obtain⟨a,q,ha,hq,hp,hh⟩:=z9J hn
    have hS:=z8W hn hf 80 fuel (by omega) (by omega) ss0 [] zero q [] hh zcT (fun b hb=>by simp at hb) (by simp) zaD rfl
    have hi:img n.Agents zero []=(⟨(⟨n.Agents⟩:D.Net),0,0,[],(List.replicate (n.Agents.length:Int).toNat (0:Int)),[]⟩:D.reading):=by
      unfold img zero
      rw [zaU]
      rfl
    have hd:(81:Int) - ((80:Nat):Int)=1:=by decide
    rw [hi,hd] at hS
    rw [if_pos rfl,if_neg (by simp),if_pos (decide_eq_true (by omega)),z5V,hp,Option.bind_some]
    unfold z4h topM
    rw [hp]
    dsimp only
    have h9:([[],[],[],[],[],[],[],[],[]]:SS)=ss0:=rfl
    rw [h9]
    cases hR:readM n.Agents 80 ss0 [] zero q with
    | inl c=>
      rw [hR] at hS
      obtain⟨h1,r',h2⟩:=hS
      rw [h2,Option.bind_some]
      exact⟨h1,_,rfl⟩
    | inr x=>
      obtain⟨co,z⟩:=x
      rw [hR] at hS
      obtain⟨h1,h2,L,h3,h4⟩:=hS
      rw [h4,Option.bind_some]
      refine⟨h1,L,h3,?_⟩
      cases co
      rfl


end Go.E


namespace Go.E
set_option linter.unusedVariables false
set_option linter.unusedSimpArgs false

theorem z7M {a:Int}(h0:-4611686018427387904≤a) (h1:a≤4611686018427387904):w64 (a+1)=a+1:=z8 (by omega) (by omega)
def markL {α:Type}(f:α→Int→α) (c:α→Nat):List α→Int→List α
  | [],_=>[]
  | x::xs,k=>f x k::markL f c xs (k+c x)

section
variable {α:Type}{f:α→Int→α}{c:α→Nat}

theorem z4k:∀ (xs:List α) (k:Int),(markL f c xs k).length=xs.length
  | [],_=>rfl
  | x::xs,k=>by simp only [markL,List.length_cons,z4k xs]

theorem z5X:∀ (xs ys:List α) (k:Int),markL f c (xs++ys) k=markL f c xs k++markL f c ys (k+(sumL c xs:Nat))
  | [],ys,k=>by simp [markL,sumL]
  | x::xs,ys,k=>by
    simp only [List.cons_append,markL,z5X xs ys,sumL]
    rw [show k+(c x:Int)+(sumL c xs:Nat)=k+((c x+sumL c xs:Nat):Int) by omega]

theorem zbU {xs:List α}{k:Int}{i:Nat}{x:α}(h:xs[i]? = some x):(markL f c xs k)[i]? = some (f x (k+(sumL c (xs.take i):Nat))):=by
  have hi:=(List.getElem?_eq_some_iff.1 h).1
  have hs:xs=xs.take i++(x::xs.drop (i+1)):=by
    have h1:=(List.getElem?_eq_some_iff.1 h).2
    rw [← h1,← List.drop_eq_getElem_cons hi,List.take_append_drop]
  conv=>lhs;rw [hs]
  rw [z5X,List.getElem?_append_right (by rw [z4k,List.length_take];omega),z4k,List.length_take,Nat.min_eq_left (by omega),Nat.sub_self]
  simp [markL]

theorem z7x {ρ:Type}{body:Int × Int × List α→Option (Rd (Int × Int × List α) (Int × List α) ρ)}{xs:List α}{k:Int}{fuel:Nat}(hl:xs.length≤4294967296) (hf:18446744073709551616≤fuel) (h0:0≤k) (h1:k+(sumL c xs:Nat)≤2147483648)
    (step:∀ (i:Nat) (x:α) (ys:List α) (k:Int),i<xs.length→ys.length=xs.length→ys[i]? = some x→x∈xs→0≤k→k+(c x:Nat)≤2147483648→body (k,(i:Int),ys)=some (.next (k+(c x:Nat),w64 ((i:Int)+1),ys.set i (f x k))))
    (last:∀ k ys,body (k,(xs.length:Int),ys)=some (.brk (k,ys))):iter body fuel (k,0,xs)=some (.inl (k+(sumL c xs:Nat),markL f c xs k)):=by
  obtain⟨o,h2,h3⟩:=z1A (body:=body) (fun i s=>s.1=k+(sumL c (xs.take i):Nat)∧s.2.1=(i:Int)∧s.2.2=markL f c (xs.take i) k++xs.drop i) xs.length (fun o=>o=.inl (k+(sumL c xs:Nat),markL f c xs k)) (by
    rintro i ⟨s,t,ys⟩ hi ⟨h2,h3,h4⟩
    dsimp only at h2 h3 h4
    subst h2;subst h3;subst h4
    obtain⟨x,hx⟩:=z3p hi
    have hlen:(markL f c (xs.take i) k).length=i:=by rw [z4k,List.length_take];omega
    have hdrop:xs.drop i=x::xs.drop (i+1):=by
      have h1:=(List.getElem?_eq_some_iff.1 hx).2
      rw [← h1,← List.drop_eq_getElem_cons hi]
    have hsum:sumL c (xs.take (i+1))=sumL c (xs.take i)+c x:=z7b hx
    have hle:sumL c (xs.take (i+1))≤sumL c xs:=by
      conv=>rhs;rw [← List.take_append_drop (i+1) xs,z50]
      omega
    refine .inl ⟨_,step i x _ _ hi (by rw [List.length_append,hlen,List.length_drop];omega) (by rw [List.getElem?_append_right (by omega),hlen,Nat.sub_self,hdrop];rfl) (List.mem_of_getElem? hx) (by omega) (by omega),?_,?_,?_⟩
    · show _+_=_
      rw [hsum];omega
    · show w64 _=_
      rw [z7M (by omega) (by omega)];simp
    · show List.set _ _ _=_
      rw [hdrop,List.set_append_right _ _ (by omega),hlen,Nat.sub_self,List.set_cons_zero]
      have ht:xs.take (i+1)=xs.take i++[x]:=by rw [List.take_add_one,hx];rfl
      rw [ht,z5X]
      simp [markL]) (by
    rintro⟨s,t,ys⟩ ⟨h2,h3,h4⟩
    dsimp only at h2 h3 h4
    subst h2;subst h3;subst h4
    refine .inr ⟨_,last _ _,?_⟩
    rw [List.take_length,List.drop_length,List.append_nil]) (fuel:=fuel) (i:=0) (s:=(k,0,xs)) (Nat.zero_le _) (by omega) ⟨by simp [sumL],rfl,by simp [markL]⟩
  rw [h2,h3]

theorem zbe {body:Int × Int→Option (Rd (Int × Int) Int Int)}{xs:List α}{k:Int}{fuel:Nat}(hl:xs.length≤4294967296) (hf:18446744073709551616≤fuel) (h0:0≤k) (h1:k+(sumL c xs:Nat)≤2147483648)
    (step:∀ (i:Nat) (x:α) (k':Int),i<xs.length→(markL f c xs k)[i]? = some (f x k')→x∈xs→0≤k'→k'+(c x:Nat)≤2147483648→body (k',(i:Int))=some (.next (k'+(c x:Nat),w64 ((i:Int)+1))))
    (last:∀ k',body (k',((markL f c xs k).length:Int))=some (.brk k')):iter body fuel (k,0)=some (.inl (k+(sumL c xs:Nat))):=by
  obtain⟨o,h2,h3⟩:=z1A (body:=body) (fun i s=>s.1=k+(sumL c (xs.take i):Nat)∧s.2=(i:Int)) xs.length (fun o=>o=.inl (k+(sumL c xs:Nat))) (by
    rintro i ⟨s,t⟩ hi ⟨h2,h3⟩
    dsimp only at h2 h3
    subst h2;subst h3
    obtain⟨x,hx⟩:=z3p hi
    have hsum:sumL c (xs.take (i+1))=sumL c (xs.take i)+c x:=z7b hx
    have hle:sumL c (xs.take (i+1))≤sumL c xs:=by
      conv=>rhs;rw [← List.take_append_drop (i+1) xs,z50]
      omega
    refine .inl ⟨_,step i x _ hi (zbU hx) (List.mem_of_getElem? hx) (by omega) (by omega),?_,?_⟩
    · show _+_=_
      rw [hsum];omega
    · show w64 _=_
      rw [z7M (by omega) (by omega)];simp) (by
    rintro⟨s,t⟩ ⟨h2,h3⟩
    dsimp only at h2 h3
    subst h2;subst h3
    refine .inr ⟨_,by have:=last (k+(sumL c (xs.take xs.length):Nat));rw [z4k] at this;exact this,?_⟩
    rw [List.take_length]) (fuel:=fuel) (i:=0) (s:=(k,0)) (Nat.zero_le _) (by omega) ⟨by simp [sumL],rfl⟩
  rw [h2,h3]

theorem z8e {g:α→Nat}{m:Nat}:∀ {xs:List α},(∀ x,x∈xs→c x≤m*(g x+1))→sumL c xs≤m*szL g xs
  | [],_=>by simp [sumL]
  | x::xs,h=>by
    have h1:=h x (by simp)
    have h2:=z8e (g:=g) (m:=m) (xs:=xs) fun y hy=>h y (by simp [hy])
    unfold szL at h2 ⊢
    simp only [sumL,List.length_cons]
    have:m*(xs.length+1+(g x+sumL g xs))=m*(g x+1)+m*(xs.length+sumL g xs):=by rw [← Nat.mul_add];congr 1;omega
    omega

end
end Go.E
namespace Go.E
end Go.E


namespace Go.E
open Go.RowKit Go.Proofs
set_option linter.unusedSimpArgs false
set_option linter.unusedVariables false

theorem z5O {fuel:Nat}{x:(List Int)}(hf:18446744073709551616≤fuel) (hs:x.length≤1048576):z33 fuel x x=some true:=by
  have hl:=hs
  unfold z33
  rw [if_neg (by simp)]
  refine z6a (n:=x.length) (t:=()) (by unfold maxLen;omega) hf rfl ?_ ?_
  · intro i hi
    obtain⟨y,hy⟩:=z3p hi
    have hsy:0≤1048576:=Nat.zero_le _
    simp [z3t,z21 hy,hi,z5w]
  · simp [z3t]

theorem z8c {fuel:Nat}{x:(List Int)}{l:Int}(hf:18446744073709551616≤fuel) (hw:WfL I64 x) (h0:0≤l) (h1:l≤1048576):SzOk (x.length) l (z3G fuel x l):=by
  unfold z3G
  generalize hz:w64 (l - (x.length:Int))=z
  exact SzOk.sub2 h0 h1 hw.1 (m:=0) rfl hz fun g0 g1=>SzOk.same g0

theorem z89 {fuel:Nat}{x:(List Int)}(hf:18446744073709551616≤fuel) (hs:x.length≤1048576):z3E fuel x=some x:=by
  have hl:=hs
  unfold z3E
  refine z7H hl hf (fun _=>rfl) ?_ ?_
  · intro i y out hy b
    have hi:=(List.getElem?_eq_some_iff.1 hy).1
    have hsy:0≤1048576:=Nat.zero_le _
    simp only [z3q,z21 hy,Option.bind_some,lt_t (show(i:Int)<x.length by omega),if_true]
    rw [if_pos (by simp;omega)]
    simp
  · intro out
    simp [z3q]

theorem z9n {fuel:Nat}{x:D.Port}(hf:18446744073709551616≤fuel) (hs:0≤1048576):z4s fuel x=some x:=by
  skip
  unfold z4s
  rfl

theorem z9x {fuel:Nat}{x:D.Port}(hf:18446744073709551616≤fuel) (hs:0≤1048576):z4t fuel x x=some true:=by
  skip
  simp [z4t,z5w]

theorem z8J {fuel:Nat}{x:(List D.Port)}{l:Int}(hf:18446744073709551616≤fuel) (hw:WfL D.Port.wf x) (h0:0≤l) (h1:l≤1048576):SzOk (x.length) l (z45 fuel x l):=by
  unfold z45
  generalize hz:w64 (l - (x.length:Int))=z
  exact SzOk.sub2 h0 h1 hw.1 (m:=0) rfl hz fun g0 g1=>SzOk.same g0

theorem z8G {fuel:Nat}{x:(List D.Port)}(hf:18446744073709551616≤fuel) (hs:x.length≤1048576):z43 fuel x=some x:=by
  have hl:=hs
  unfold z43
  refine z7H hl hf (fun _=>rfl) ?_ ?_
  · intro i y out hy b
    have hi:=(List.getElem?_eq_some_iff.1 hy).1
    have hsy:0≤1048576:=Nat.zero_le _
    simp only [z3S,z21 hy,Option.bind_some,lt_t (show(i:Int)<x.length by omega),if_true,z9n hf hsy]
    rw [if_pos (by simp;omega)]
    simp
  · intro out
    simp [z3S]

theorem z98 {fuel:Nat}{x:(List D.Port)}(hf:18446744073709551616≤fuel) (hs:x.length≤1048576):z49 fuel x x=some true:=by
  have hl:=hs
  unfold z49
  rw [if_neg (by simp)]
  refine z6a (n:=x.length) (t:=()) (by unfold maxLen;omega) hf rfl ?_ ?_
  · intro i hi
    obtain⟨y,hy⟩:=z3p hi
    have hsy:0≤1048576:=Nat.zero_le _
    simp [z3T,z21 hy,hi,z5w,z9x hf hsy]
  · simp [z3T]

theorem z8K {fuel:Nat}{x:D.Agent}{l:Int}(hf:18446744073709551616≤fuel) (hw:D.Agent.wf x) (h0:0≤l) (h1:l≤1048576):SzOk (D.Agent.sz x) l (z47 fuel x l):=by
  obtain⟨w0,w1,w2,w3,w4,_⟩:=hw
  unfold z47 D.Agent.sz
  refine SzOk.bind (z8c hf w3 h0 (by omega)) rfl fun r1 g1a g1b=>?_
  refine SzOk.bind (z8J hf w4 g1a (by omega)) rfl fun r2 g2a g2b=>?_
  exact SzOk.same g2a

theorem z8H {fuel:Nat}{x:D.Agent}(hf:18446744073709551616≤fuel) (hs:D.Agent.sz x≤1048576):z44 fuel x=some x:=by
  unfold D.Agent.sz at hs
  unfold z44
  simp only [z89 hf (show x.Data.length≤1048576 by omega),z8G hf (show x.Ports.length≤1048576 by omega),Option.bind_some]

theorem z99 {fuel:Nat}{x:D.Agent}(hf:18446744073709551616≤fuel) (hs:D.Agent.sz x≤1048576):z4a fuel x x=some true:=by
  unfold D.Agent.sz at hs
  simp [z4a,z5w,z5O hf (show x.Data.length≤1048576 by omega),z98 hf (show x.Ports.length≤1048576 by omega)]

theorem z8d {fuel:Nat}{x:(List D.Agent)}{l:Int}(hf:18446744073709551616≤fuel) (hw:WfL D.Agent.wf x) (h0:0≤l) (h1:l≤1048576):SzOk (szL D.Agent.sz x) l (z3H fuel x l):=by
  unfold z3H
  generalize hz:w64 (l - (x.length:Int))=z
  refine SzOk.sub2 h0 h1 hw.1 (m:=sumL D.Agent.sz x) rfl hz fun g0 g1=>?_
  refine SzOk.loop hw.1 hf g0 (by omega) (fun _=>rfl) ?_ ?_
  · intro i y l hy h0 h1
    have hi:=(List.getElem?_eq_some_iff.1 hy).1
    have hwy:=hw.2 y (List.mem_of_getElem? hy)
    obtain⟨r,h2,h3⟩:=z8K hf hwy h0 h1
    simp only [z3s,z21 hy,Option.bind_some,lt_t (show(i:Int)<x.length by omega),if_true,h2]
    by_cases hlt:r<0
    · exact .inl (by simp only [lt_t hlt,if_true])
    · exact .inr ⟨r,by simp only [lt_f hlt,if_false],h3.resolve_left hlt⟩
  · intro l
    simp [z3s]

theorem z8a {fuel:Nat}{x:(List D.Agent)}(hf:18446744073709551616≤fuel) (hs:szL D.Agent.sz x≤1048576):z3F fuel x=some x:=by
  have hl:=z9p hs
  unfold z3F
  refine z7H hl hf (fun _=>rfl) ?_ ?_
  · intro i y out hy b
    have hi:=(List.getElem?_eq_some_iff.1 hy).1
    have hsy:D.Agent.sz y≤1048576:=z9o hs (List.mem_of_getElem? hy)
    simp only [z3r,z21 hy,Option.bind_some,lt_t (show(i:Int)<x.length by omega),if_true,z8H hf hsy]
    rw [if_pos (by simp;omega)]
    simp
  · intro out
    simp [z3r]

theorem z8q {fuel:Nat}{x:(List D.Agent)}(hf:18446744073709551616≤fuel) (hs:szL D.Agent.sz x≤1048576):z3K fuel x x=some true:=by
  have hl:=z9p hs
  unfold z3K
  rw [if_neg (by simp)]
  refine z6a (n:=x.length) (t:=()) (by unfold maxLen;omega) hf rfl ?_ ?_
  · intro i hi
    obtain⟨y,hy⟩:=z3p hi
    have hsy:D.Agent.sz y≤1048576:=z9o hs (List.mem_of_getElem? hy)
    simp [z3u,z21 hy,hi,z5w,z99 hf hsy]
  · simp [z3u]

theorem zag {fuel:Nat}{x:D.Net}{l:Int}(hf:18446744073709551616≤fuel) (hw:D.Net.wf x) (h0:0≤l) (h1:l≤1048576):SzOk (D.Net.sz x) l (z4M fuel x l):=by
  obtain⟨w0,_⟩:=hw
  unfold z4M D.Net.sz
  refine SzOk.bind (z8d hf w0 h0 (by omega)) rfl fun r1 g1a g1b=>?_
  exact SzOk.same g1a

theorem zaf {fuel:Nat}{x:D.Net}(hf:18446744073709551616≤fuel) (hs:D.Net.sz x≤1048576):z35 fuel x=some x:=by
  unfold D.Net.sz at hs
  unfold z35
  simp only [z8a hf (show szL D.Agent.sz x.Agents≤1048576 by omega),Option.bind_some]

theorem zaq {fuel:Nat}{x:D.Net}(hf:18446744073709551616≤fuel) (hs:D.Net.sz x≤1048576):z4N fuel x x=some true:=by
  unfold D.Net.sz at hs
  simp [z4N,z5w,z8q hf (show szL D.Agent.sz x.Agents≤1048576 by omega)]

theorem z7X:Opens Tryz.prog 2 tInt I64:=Opens.int Tryz.underlying2 (by kernel_rfl)
theorem zd3:Opens Tryz.prog 26 ty26 (WfL I64):=Opens.sl Tryz.underlying26 (by kernel_rfl) z7X
set_option maxRecDepth 100000 in
theorem zbQ:Opens Tryz.prog 146 zac D.Port.wf:=Opens.struct (f:=fun c:D.Port=>(c.Agent,c.Slot,())) Tryz.underlying146 (by kernel_rfl) (OpensF.cons z7X rfl rfl (OpensF.cons z7X rfl rfl OpensF.nil)) (fun⟨a0,a1,_⟩=>⟨⟨a0,a1⟩,rfl⟩)
theorem zd2:Opens Tryz.prog 81 ty81 (WfL D.Port.wf):=Opens.sl Tryz.underlying81 (by kernel_rfl) zbQ
set_option maxRecDepth 100000 in
theorem zd1:Opens Tryz.prog 83 ty83 D.Agent.wf:=Opens.struct (f:=fun c:D.Agent=>(c.Kind,c.Level,c.Value,c.Data,c.Ports,())) Tryz.underlying83 (by kernel_rfl) (OpensF.cons z7X rfl rfl (OpensF.cons z7X rfl rfl (OpensF.cons z7X rfl rfl (OpensF.cons zd3 rfl rfl (OpensF.cons zd2 rfl rfl OpensF.nil))))) (fun⟨a0,a1,a2,a3,a4,_⟩=>⟨⟨a0,a1,a2,a3,a4⟩,rfl⟩)
theorem zd5:Opens Tryz.prog 22 ty22 (WfL D.Agent.wf):=Opens.sl Tryz.underlying22 (by kernel_rfl) zd1
set_option maxRecDepth 100000 in
theorem zd4:Opens Tryz.prog 24 ty24 D.Net.wf:=Opens.struct (f:=fun c:D.Net=>(c.Agents,())) Tryz.underlying24 (by kernel_rfl) (OpensF.cons zd5 rfl rfl OpensF.nil) (fun⟨a0,_⟩=>⟨⟨a0⟩,rfl⟩)
end Go.E


namespace Go.E
open Go.RowKit Go.Proofs
set_option linter.unusedSimpArgs false
set_option linter.unusedVariables false

def z69 (fuel:Nat) (x:Int) (k:Int):Int:=k
def z4v (x:Int):Nat:=1
def z4G (fuel:Nat) (xs:List Int) (k:Int):List Int:=markL (z69 fuel) z4v xs k
def z4Y (xs:List Int):Nat:=sumL z4v xs
theorem z54 {fuel:Nat}{xs:List Int}{k:Int}(hf:18446744073709551616≤fuel) (hl:xs.length≤1048576) (h0:0≤k) (h1:k+(z4Y xs:Nat)≤2147483648):z1u fuel xs k=some (k+(z4Y xs:Nat),z4G fuel xs k):=by
  unfold z1u
  rw [z7x (f:=z69 fuel) (c:=z4v) (xs:=xs) (k:=k) (by have:=hl;omega) hf h0 h1 ?_ ?_]
  · rfl
  · intro i x ys k hi b hx hm h0 h1
    unfold z4v at h1
    unfold z2C z69 z4v
    rw [if_pos (decide_eq_true (show(i:Int)<xs.length by omega))]
    rw [if_pos (decide_eq_true (show 0≤(i:Int)∧(i:Int).toNat<ys.length from⟨by omega,by rw [b];simpa using hi⟩))]
    simp (disch:=omega) only [z7M,Int.toNat_natCast,Int.ofNat_one,Int.natCast_one]
  · intro k ys;unfold z2C;rw [if_neg (by simp)]

theorem z64 {fuel:Nat}{xs:List Int}{k:Int}(hf:18446744073709551616≤fuel) (hl:xs.length≤1048576) (h0:0≤k) (h1:k+(z4Y xs:Nat)≤2147483648):z1v fuel (z4G fuel xs k) k=some (k+(z4Y xs:Nat)):=by
  unfold z1v
  have hlen:(z4G fuel xs k).length=xs.length:=z4k _ _
  rw [zbe (f:=z69 fuel) (c:=z4v) (xs:=xs) (k:=k) (by have:=hl;omega) hf h0 h1 ?_ ?_]
  · rfl
  · intro i x k' hi hx hm h0 h1
    unfold z4v at h1
    have b:(z4G fuel xs k)[i]? = some (z69 fuel x k'):=hx
    unfold z1N
    rw [if_pos (decide_eq_true (show(i:Int)<(z4G fuel xs k).length by rw [hlen];omega))]
    simp only [z21 b,Option.bind_some]
    unfold z69 z4v
    simp (disch:=omega) only [z7M,Option.bind_some,lt_f,if_false,bne_self_eq_false,Bool.false_eq_true,beq_self_eq_true,Bool.not_true,Int.ofNat_one,Int.natCast_one]
  · intro k';show z1N fuel (z4G fuel xs k) (k',((z4G fuel xs k).length:Int))=_;unfold z1N;rw [if_neg (by simp)]

theorem z9z {xs:List Int}:z4Y xs≤64*(xs.length):=by
  have h:=z8e (c:=z4v) (g:=(fun _=>0)) (m:=64) (xs:=xs) fun x _=>by
    unfold z4v
    omega
  rw [z8b (fun _=>rfl)] at h
  exact h

def elPortS (fuel:Nat) (x:D.Port) (k:Int):D.Port:=(⟨k,k+1⟩:D.Port)
def ecPortS (x:D.Port):Nat:=1+1
def mkPortS (fuel:Nat) (xs:List D.Port) (k:Int):List D.Port:=markL (elPortS fuel) ecPortS xs k
def ctPortS (xs:List D.Port):Nat:=sumL ecPortS xs
theorem z7K {fuel:Nat}{xs:List D.Port}{k:Int}(hf:18446744073709551616≤fuel) (hl:xs.length≤1048576) (h0:0≤k) (h1:k+(ctPortS xs:Nat)≤2147483648):z3f fuel xs k=some (k+(ctPortS xs:Nat),mkPortS fuel xs k):=by
  unfold z3f
  rw [z7x (f:=elPortS fuel) (c:=ecPortS) (xs:=xs) (k:=k) (by have:=hl;omega) hf h0 h1 ?_ ?_]
  · rfl
  · intro i x ys k hi b hx hm h0 h1
    unfold ecPortS at h1
    unfold z39 elPortS ecPortS
    rw [if_pos (decide_eq_true (show(i:Int)<xs.length by omega))]
    simp only [z21 hx,Option.bind_some]
    simp (disch:=omega) only [z7M,Option.bind_some,Int.toNat_natCast]
    all_goals (refine congrArg some (congrArg Rd.next (Prod.ext ?_ ?_));rotate_left;first | rfl | (dsimp only;simp only [Int.natCast_add,Int.natCast_one,Int.ofNat_one,← Int.add_assoc]))
    all_goals (dsimp only;simp only [Int.natCast_add,Int.natCast_one,Int.ofNat_one];try omega)
  · intro k ys;unfold z39;rw [if_neg (by simp)]

theorem zau {xs:List D.Port}:ctPortS xs≤64*(xs.length):=by
  have h:=z8e (c:=ecPortS) (g:=(fun _=>0)) (m:=64) (xs:=xs) fun x _=>by
    unfold ecPortS
    omega
  rw [z8b (fun _=>rfl)] at h
  exact h

def elAgentS (fuel:Nat) (x:D.Agent) (k:Int):D.Agent:=(⟨k,k+1,k+1+1,(z4G fuel x.Data (k+1+1+1)),(mkPortS fuel x.Ports (k+1+1+1+((z4Y x.Data:Nat):Int)))⟩:D.Agent)
def ecAgentS (x:D.Agent):Nat:=1+1+1+z4Y x.Data+ctPortS x.Ports
def mkAgentS (fuel:Nat) (xs:List D.Agent) (k:Int):List D.Agent:=markL (elAgentS fuel) ecAgentS xs k
def ctAgentS (xs:List D.Agent):Nat:=sumL ecAgentS xs
theorem z7y {fuel:Nat}{xs:List D.Agent}{k:Int}(hf:18446744073709551616≤fuel) (hl:szL D.Agent.sz xs≤1048576) (h0:0≤k) (h1:k+(ctAgentS xs:Nat)≤2147483648):z31 fuel xs k=some (k+(ctAgentS xs:Nat),mkAgentS fuel xs k):=by
  unfold z31
  rw [z7x (f:=elAgentS fuel) (c:=ecAgentS) (xs:=xs) (k:=k) (by have:=(z9p hl);omega) hf h0 h1 ?_ ?_]
  · rfl
  · intro i x ys k hi b hx hm h0 h1
    unfold ecAgentS at h1
    have hsx:=z9o hl hm
    unfold D.Agent.sz at hsx
    unfold z2D elAgentS ecAgentS
    rw [if_pos (decide_eq_true (show(i:Int)<xs.length by omega))]
    simp only [z21 hx,Option.bind_some]
    simp (disch:=omega) only [z54 hf (show x.Data.length≤1048576 by omega),z7K hf (show x.Ports.length≤1048576 by omega),z7M,Option.bind_some,Int.toNat_natCast]
    all_goals (refine congrArg some (congrArg Rd.next (Prod.ext ?_ ?_));rotate_left;first | rfl | (dsimp only;simp only [Int.natCast_add,Int.natCast_one,Int.ofNat_one,← Int.add_assoc]))
    all_goals (dsimp only;simp only [Int.natCast_add,Int.natCast_one,Int.ofNat_one];try omega)
  · intro k ys;unfold z2D;rw [if_neg (by simp)]

theorem z9A {xs:List D.Agent}:ctAgentS xs≤64*(szL D.Agent.sz xs):=by
  have h:=z8e (c:=ecAgentS) (g:=D.Agent.sz) (m:=64) (xs:=xs) fun x _=>by
    unfold ecAgentS
    unfold D.Agent.sz
    have:=z9z (xs:=x.Data)
    have:=zau (xs:=x.Ports)
    omega
  exact h

def mkNet (fuel:Nat) (x:D.Net) (k:Int):D.Net:=(⟨mkAgentS fuel x.Agents (k)⟩:D.Net)
def ctNet (x:D.Net):Nat:=ctAgentS x.Agents
theorem z93 {fuel:Nat}{x:D.Net}{k:Int}(hf:18446744073709551616≤fuel) (hs:x.sz≤1048576) (h0:0≤k) (h1:k+(ctNet x:Nat)≤2147483648):z48 fuel x k=some (k+(ctNet x:Nat),(mkNet fuel x k).Agents):=by
  unfold ctNet at h1 ⊢
  simp only [D.Net.sz] at hs
  unfold z48 mkNet
  simp (disch:=omega) only [z7y hf (show szL D.Agent.sz x.Agents≤1048576 by omega),Option.bind_some]
  all_goals try simp only [Int.natCast_add,Int.add_assoc]

theorem zcO {x:D.Net}:ctNet x≤64*x.sz:=by
  unfold ctNet
  simp only [D.Net.sz]
  have:=z9A (xs:=x.Agents)
  omega

end Go.E


