/- Nets: the reference's and the program's tests agree, told by a plain test. Conditions: the data within the law's bound. -/
import Derived.Test.YtijgffjimnbcpaaGreatRounds
import Derived.Test.YtijgffjimnbcpaaGreatFN
import Derived.Test.YtijgffjimnbcpaaGreatLoops
namespace Go.E
open Go.RowKit Go.Proofs
set_option linter.unusedSimpArgs false
set_option linter.unusedVariables false


def portAt (n:D.Net) (p:D.Port):Option D.Port:=(idx n.Agents p.Agent).bind fun a=>idx a.Ports p.Slot
def hasN (l:List D.Agent) (p:D.Port):Bool:=decide (0≤p.Agent∧0≤p.Slot) && (l[p.Agent.toNat]?).any fun a=>decide (p.Slot<(a.Ports.length:Int))
def agentsN (l:List D.Agent):Bool:=decide (1≤l.length∧l.length≤600) && (l.zipIdx.all fun x=>agN x.1 && ((x.1.Kind == 1) == (x.2 == 0)))
def prt (i k:Nat):D.Port:=⟨i,k⟩
def chkN (n:D.Net) (i k:Nat) (p:D.Port):Bool:=!(decide (p=prt i k)) && (hasN n.Agents p && decide (portAt n p=some (prt i k)))
def netN (n:D.Net):Bool:=agentsN n.Agents && (n.Agents.zipIdx.all fun x=>x.1.Ports.zipIdx.all fun y=>chkN n x.2 y.2 y.1)

theorem zcN {α:Type}{xs:List α}{i:Int}(h:0≤i):idx xs i=xs[i.toNat]?:=by unfold idx;rw [if_pos h]
theorem zcO {l:List D.Agent}{p:D.Port}(h:hasN l p=true):0≤p.Agent∧0≤p.Slot∧∃ a q,l[p.Agent.toNat]? = some a∧idx l p.Agent=some a∧a.Ports[p.Slot.toNat]? = some q∧idx a.Ports p.Slot=some q∧p.Agent<l.length∧p.Slot<a.Ports.length:=by
  unfold hasN at h
  simp only [Bool.and_eq_true,decide_eq_true_eq] at h
  obtain⟨⟨h1,h2⟩,h3⟩:=h
  cases ha:l[p.Agent.toNat]? with
  | none=>rw [ha] at h3;simp at h3
  | some a=>
    rw [ha] at h3
    simp only [Option.any_some,decide_eq_true_eq] at h3
    obtain⟨q,hq⟩:=z5H (xs:=a.Ports) (i:=p.Slot.toNat) (by omega)
    have:=(List.getElem?_eq_some_iff.1 ha).1
    exact⟨h1,h2,a,q,rfl,by rw [zcN h1,ha],hq,by rw [zcN h2,hq],by omega,h3⟩
theorem zgK {l:List D.Agent}{p:D.Port}:hasN l p=true↔0≤p.Agent∧0≤p.Slot∧∃ a,l[p.Agent.toNat]? = some a∧p.Slot<a.Ports.length:=by
  constructor
  · intro h
    obtain⟨h1,h2,a,q,h3,_,_,_,_,h4⟩:=zcO h
    exact⟨h1,h2,a,h3,h4⟩
  · rintro⟨h1,h2,a,h3,h4⟩
    unfold hasN
    rw [h3]
    simp [h1,h2,h4]
theorem zcr {p q:D.Port}:(((p.Agent:Int) == q.Agent) && (((p.Slot:Int) == q.Slot) && true))=decide (p=q):=by
  obtain⟨a,b⟩:=p
  obtain⟨c,d⟩:=q
  by_cases h1:a=c<;>by_cases h2:b=d<;>simp [h1,h2]
theorem zgu {p:D.Port}{i k:Nat}:(((p.Agent:Int) == (i:Int)) && (((p.Slot:Int) == (k:Int)) && true))=decide (p=prt i k):=zcr (q:=prt i k)

theorem zbB {l:List D.Agent}{p:D.Port}{fuel:Nat}(hl:l.length≤maxLen) (hp:∀ a,a∈l→a.Ports.length≤maxLen):z5e fuel l p=some (hasN l p):=by
  unfold z5e
  rw [z2p,Option.bind_some,z5D hl]
  by_cases h1:0≤p.Agent∧p.Agent≤(l.length:Int) - 1
  · rw [if_pos (by simpa using h1)]
    obtain⟨a,ha⟩:=z5H (xs:=l) (i:=p.Agent.toNat) (by omega)
    rw [zcN h1.1,ha,Option.bind_some,z2p,z5D (hp a (List.mem_of_getElem? ha)),Option.bind_some]
    unfold hasN
    rw [ha]
    simp only [Option.bind_some,Option.any_some]
    by_cases h2:0≤p.Slot<;>by_cases h3:p.Slot<(a.Ports.length:Int)<;>simp [h1.1,h2,h3]<;>omega
  · rw [if_neg (by simpa using h1)]
    unfold hasN
    by_cases h0:0≤p.Agent
    · rw [List.getElem?_eq_none (by omega)];simp
    · simp [h0]
theorem zbC {l:List D.Agent}{p:D.Port}{fuel:Nat}:z5w fuel l p=some (hasN l p):=by
  unfold z5w hasN
  by_cases h0:0≤p.Agent
  · rw [if_pos (by simpa using h0)]
    by_cases h1:p.Agent<l.length
    · rw [if_pos (by simpa using h1)]
      obtain⟨a,ha⟩:=z5H (xs:=l) (i:=p.Agent.toNat) (by omega)
      by_cases h2:0≤p.Slot
      · rw [if_pos (by simpa using h2),zcN h0,ha];simp [h0,h2]
      · rw [if_neg (by simpa using h2)];simp [h2]
    · rw [if_neg (by simpa using h1),List.getElem?_eq_none (by omega)];simp
  · rw [if_neg (by simpa using h0)];simp [h0]
theorem z9H {n:D.Net}{p:D.Port}{fuel:Nat}:z2M fuel n p=portAt n p:=by
  unfold z2M portAt
  cases idx n.Agents p.Agent with
  | none=>rfl
  | some a=>
    simp only [Option.bind_some]
    cases idx a.Ports p.Slot<;>rfl


theorem zcL {i:Nat}:(((i:Int)) == 0)=(i == 0):=by
  by_cases h:i=0
  · subst h;rfl
  · have h2:¬ ((i:Int)=0):=by omega
    rw [beq_eq_false_iff_ne.2 h2,beq_eq_false_iff_ne.2 h]
theorem zcA {l:List D.Agent}{fuel:Nat}(hf:18446744073709551616≤fuel) (hl:l.length≤1048576) (hp:∀ a,a∈l→a.Data.length≤maxLen∧a.Ports.length≤maxLen):z49 fuel l=some (agentsN l):=by
  have hm:maxLen=9223372036854775807:=rfl
  unfold z49 agentsN
  rw [z2p,Option.bind_some]
  by_cases h1:1≤l.length∧l.length≤600
  · rw [if_neg (by simp;omega),decide_eq_true h1,Bool.true_and,allLoop (xs:=l) (p:=fun i a=>agN a && ((a.Kind == 1) == (i == 0))) (t:=()) (v:=false) (by omega) hf (fun i a hi ha=>by
      unfold z3X
      rw [if_pos (by simpa using hi),zL ha,Option.bind_some,zgO hf (hp a (List.mem_of_getElem? ha)).1 (hp a (List.mem_of_getElem? ha)).2,Option.bind_some]
      unfold z2E
      simp only [Option.bind_some,zcL]
      cases agN a<;>cases (a.Kind == 1)<;>cases (i == 0)<;>rfl) (by unfold z3X;simp)]
    cases (l.zipIdx.all fun x=>agN x.1 && ((x.1.Kind == 1) == (x.2 == 0)))<;>rfl
  · rw [if_pos (by simp;omega),decide_eq_false h1,Bool.false_and]
theorem zcB {l:List D.Agent}{fuel:Nat}(hf:18446744073709551616≤fuel) (hl:l.length≤1048576) (hp:∀ a,a∈l→a.Data.length≤maxLen∧a.Ports.length≤maxLen):z4d fuel l=some (agentsN l):=by
  have hm:maxLen=9223372036854775807:=rfl
  have key:∀ b:Bool,z1J fuel l b=some (!b && (l.zipIdx.all fun x=>agN x.1 && ((x.1.Kind == 1) == (x.2 == 0)))):=fun b=>by
    unfold z1J
    cases b with
    | true=>rfl
    | false=>
      rw [if_neg Bool.false_ne_true,allLoop (xs:=l) (p:=fun i a=>agN a && ((a.Kind == 1) == (i == 0))) (t:=()) (v:=false) (by omega) hf (fun i a hi ha=>by
        unfold z40
        rw [if_pos (by simpa using hi),zL ha,Option.bind_some,zgP hf (hp a (List.mem_of_getElem? ha)).1 (hp a (List.mem_of_getElem? ha)).2,Option.bind_some]
        unfold z2J
        rw [zcL]
        cases agN a<;>cases (a.Kind == 1)<;>cases (i == 0)<;>rfl) (by unfold z40;simp)]
      cases (l.zipIdx.all fun x=>agN x.1 && ((x.1.Kind == 1) == (x.2 == 0)))<;>rfl
  unfold z4d agentsN
  by_cases h1:1≤l.length
  · rw [if_neg (by simp;omega),key]
    by_cases h2:l.length≤600
    · rw [decide_eq_false (by omega),decide_eq_true ⟨h1,h2⟩];rfl
    · rw [decide_eq_true (by omega),decide_eq_false (by omega)];rfl
  · rw [if_pos (by simp;omega),key,decide_eq_false (by omega)];rfl


theorem zfH {n:D.Net}{fuel:Nat}(hf:18446744073709551616≤fuel) (hl:n.Agents.length≤1048576) (hp:∀ a,a∈n.Agents→a.Data.length≤maxLen∧a.Ports.length≤maxLen):z6k fuel n=some (netN n):=by
  have hm:maxLen=9223372036854775807:=rfl
  unfold z6k netN
  rw [zcA hf hl hp,Option.bind_some]
  cases hA:agentsN n.Agents with
  | false=>rfl
  | true=>
    rw [if_neg (by simp),allLoop (xs:=n.Agents) (p:=fun i a=>a.Ports.zipIdx.all fun y=>chkN n i y.2 y.1) (t:=()) (v:=false) (by omega) hf (fun i a hi ha=>by
      have hpa:=(hp a (List.mem_of_getElem? ha)).2
      unfold z5T
      rw [if_pos (by simpa using hi),zL ha,Option.bind_some,allLoop (xs:=a.Ports) (p:=fun k p=>chkN n i k p) (t:=()) (v:=Rd.ret false) hpa hf (fun k p hk hq=>by
        unfold z5S
        rw [if_pos (by simpa using hk),zL hq,Option.bind_some,zgu,zbB (by omega) fun a ha=>(hp a ha).2]
        unfold z3x chkN
        by_cases h1:p=prt i k
        · rw [if_pos (decide_eq_true h1),decide_eq_true h1];rfl
        · rw [if_neg (by simpa using h1),decide_eq_false h1,Option.bind_some]
          cases h2:hasN n.Agents p with
          | false=>rfl
          | true=>
            obtain⟨_,_,b,q,_,h3,_,h4,_⟩:=zcO h2
            rw [if_neg (by simp),h3,Option.bind_some,h4,Option.bind_some,zgu]
            have:portAt n p=some q:=by unfold portAt;rw [h3,Option.bind_some,h4]
            rw [this]
            by_cases h5:q=prt i k
            · simp [h5]
            · simp [h5]) (by unfold z5S;simp)]
      cases (a.Ports.zipIdx.all fun y=>chkN n i y.2 y.1)<;>rfl) (by unfold z5T;simp)]
    cases (n.Agents.zipIdx.all fun x=>x.1.Ports.zipIdx.all fun y=>chkN n x.2 y.2 y.1)<;>rfl


def portsL (n:D.Net):List D.Port:=n.Agents.zipIdx.flatMap fun x=>(List.range x.1.Ports.length).map fun k=>prt x.2 k
theorem zaH:∀ (xs:List D.Agent) (k:Nat),((xs.zipIdx k).flatMap fun x=>(List.range x.1.Ports.length).map fun j=>prt x.2 j).length=sumL (fun a=>a.Ports.length) xs
  | [],k=>by simp [sumL]
  | x::xs,k=>by
    rw [List.zipIdx_cons,List.flatMap_cons,List.length_append,zaH xs (k+1)]
    simp [sumL]
theorem z7U {n:D.Net}:(portsL n).length=sumL (fun a=>a.Ports.length) n.Agents:=zaH _ _
theorem zbb {n:D.Net}(i:Nat):(((n.Agents.take i).zipIdx).flatMap fun x=>(List.range x.1.Ports.length).map fun j=>prt x.2 j).length≤sumL (fun a=>a.Ports.length) n.Agents:=by
  rw [zaH]
  have:=z6a (f:=fun a:D.Agent=>a.Ports.length) (xs:=n.Agents.take i) (ys:=n.Agents.drop i)
  rw [List.take_append_drop] at this
  omega
theorem netPorts {n:D.Net}{fuel:Nat}(hf:18446744073709551616≤fuel) (hl:n.Agents.length≤1048576) (hs:sumL (fun a=>a.Ports.length) n.Agents≤1048576):z2S fuel n=some (portsL n):=by
  have hm:maxLen=9223372036854775807:=rfl
  unfold z2S
  have h:=loopR (xs:=n.Agents) (body:=z2L fuel n) (mk:=fun i s=>(s,i)) (out:=fun s:List D.Port=>s) (ρ:=List D.Port)
    (f:=fun i s a=>Rnd.go (s++(List.range a.Ports.length).map fun k=>prt i k)) (J:=fun i s=>s=((n.Agents.take i).zipIdx).flatMap fun x=>(List.range x.1.Ports.length).map fun k=>prt x.2 k) (s0:=[]) (fuel:=fuel) (by omega) hf (by simp)
    (fun i s a hi ha hJ=>by
      have hpa:a.Ports.length≤1048576:=Nat.le_trans (z7j (f:=fun a:D.Agent=>a.Ports.length) (List.mem_of_getElem? ha)) hs
      have hJ':s++((List.range a.Ports.length).map fun k=>prt i k)=((n.Agents.take (i+1)).zipIdx).flatMap fun x=>(List.range x.1.Ports.length).map fun k=>prt x.2 k:=by
        rw [zao ha,List.flatMap_append,hJ];simp
      refine⟨?_,hJ'⟩
      have hlen:=zbb (n:=n) (i+1)
      rw [← hJ',List.length_append,List.length_map,List.length_range] at hlen
      unfold z2L
      rw [if_pos (by simpa using hi),zL ha,Option.bind_some]
      obtain⟨o,h1,h2⟩:=z2C (body:=z2K fuel (s,(i:Int)) a) (fun k q=>q.1=(k:Int)∧q.2=s++(List.range k).map fun j=>prt i j) a.Ports.length (fun o=>o=.inl (s++(List.range a.Ports.length).map fun j=>prt i j)) (by
        rintro k ⟨q1,q2⟩ hk ⟨g1,g2⟩
        dsimp only at g1 g2
        subst g1;subst g2
        refine .inl ⟨(w64 ((k:Int)+1),(s++(List.range k).map fun j=>prt i j)++[⟨(i:Int),(k:Int)⟩]),?_,?_,?_⟩
        · unfold z2K
          rw [if_pos (by simpa using hk),if_pos (by simp;omega)]
        · dsimp only;rw [zo (by omega) (by omega)];simp
        · dsimp only;rw [List.range_succ,List.map_append];simp [prt]) (by
        rintro⟨q1,q2⟩ ⟨g1,g2⟩
        dsimp only at g1 g2
        subst g1;subst g2
        refine .inr ⟨_,?_,rfl⟩
        unfold z2K
        rw [if_neg (by simp)]) (fuel:=fuel) (i:=0) (s:=(0,s)) (Nat.zero_le _) (by omega) ⟨rfl,by simp⟩
      rw [h1,h2]
      rfl) (fun s _=>by unfold z2L;rw [if_neg (by simp)])
  have key:∀ (ys:List D.Agent) (k:Nat) (s:List D.Port),foldR (ρ:=List D.Port) (fun i s (a:D.Agent)=>Rnd.go (s++(List.range a.Ports.length).map fun k=>prt i k)) k ys s=Rnd.go (s++(ys.zipIdx k).flatMap fun x=>(List.range x.1.Ports.length).map fun j=>prt x.2 j):=by
    intro ys
    induction ys with
    | nil=>intro k s;simp [foldR]
    | cons y ys ih=>intro k s;unfold foldR;dsimp only;rw [ih,List.zipIdx_cons,List.flatMap_cons,List.append_assoc]
  rw [key] at h
  rw [show(([]:List D.Port),(0:Int))=(([]:List D.Port),((0:Nat):Int)) from rfl] at *
  rw [h.1]
  unfold portsL
  simp [aft,z5G]
theorem z8r {n:D.Net}{p:D.Port}:p∈portsL n↔∃ (i:Nat) (a:D.Agent) (k:Nat),n.Agents[i]? = some a∧k<a.Ports.length∧p=prt i k:=by
  unfold portsL
  rw [List.mem_flatMap]
  constructor
  · rintro⟨⟨a,i⟩,h1,h2⟩
    rw [List.mem_zipIdx_iff_getElem?] at h1
    obtain⟨k,hk,rfl⟩:=List.mem_map.1 h2
    exact⟨i,a,k,h1,List.mem_range.1 hk,rfl⟩
  · rintro⟨i,a,k,h1,h2,rfl⟩
    exact⟨(a,i),by rw [List.mem_zipIdx_iff_getElem?];exact h1,List.mem_map.2 ⟨k,List.mem_range.2 h2,rfl⟩⟩
theorem zaD {n:D.Net}{i k:Nat}{a:D.Agent}{q:D.Port}(ha:n.Agents[i]? = some a) (hq:a.Ports[k]? = some q):portAt n (prt i k)=some q:=by
  unfold portAt prt
  rw [zL ha,Option.bind_some,zL hq]
theorem zaN {fuel:Nat}{p:D.Port→Bool}{f:D.Port→Option Bool}{xs:List D.Port}(hf:18446744073709551616≤fuel) (hl:xs.length≤maxLen) (h:∀ n,n∈xs→f n=some (p n)):
    ze fuel xs f=some (xs.any p):=by
  unfold ze zG
  obtain⟨r,h1,h2⟩:=askIndex (xs:=xs) (p:=p) (body:=za fuel xs f) (j:=z10 fuel) (t:=()) hl hf rfl (fun i x hi hx=>by
    simp only [za,zL hx,h x (List.mem_of_getElem? hx),lt_t (show(i:Int)<xs.length by omega),if_true,Option.bind_some]) (by simp [za])
  rw [h1,Option.bind_some,h2]
theorem zfJ {n:D.Net}{fuel:Nat}(hf:18446744073709551616≤fuel) (hl:n.Agents.length≤1048576) (hs:sumL (fun a=>a.Ports.length) n.Agents≤1048576) (hp:∀ a,a∈n.Agents→a.Data.length≤maxLen∧a.Ports.length≤maxLen):z4K fuel n=some (netN n):=by
  have hm:maxLen=9223372036854775807:=rfl
  unfold z4K netN
  rw [zcB hf hl hp,Option.bind_some]
  cases hA:agentsN n.Agents with
  | false=>rfl
  | true=>
    let bad:D.Port→Bool:=fun p=>match portAt n p with
      | some q=>decide (q=p) || !(hasN n.Agents q && decide (portAt n q=some p))
      | none=>true
    rw [if_neg (by simp),netPorts hf hl hs,Option.bind_some,zaN (p:=bad) hf (by rw [z7U];omega) (fun p hpm=>by
      obtain⟨i,a,k,ha,hk,rfl⟩:=z8r.1 hpm
      obtain⟨q,hq⟩:=z5H hk
      have hpa:=zaD ha hq
      unfold z4r
      show _=some (match portAt n (prt i k) with | some q=>_ | none=>_)
      rw [z9H,hpa,Option.bind_some,zcr]
      dsimp only
      by_cases h1:q=prt i k
      · rw [if_pos (decide_eq_true h1),decide_eq_true h1];rfl
      · rw [if_neg (by simpa using h1),decide_eq_false h1,zbC,Option.bind_some]
        cases h2:hasN n.Agents q with
        | false=>rfl
        | true=>
          obtain⟨_,_,b,r,_,h3,_,h4,_⟩:=zcO h2
          have hr:portAt n q=some r:=by unfold portAt;rw [h3,Option.bind_some,h4]
          rw [if_neg (by simp),z9H,hr,Option.bind_some,zcr]
          by_cases h5:r=prt i k<;>simp [h5]),Option.bind_some]
    congr 1
    rw [Bool.true_and,Bool.eq_iff_iff,Bool.not_eq_true',List.any_eq_false,z9j (xs:=n.Agents) (p:=fun i a=>a.Ports.zipIdx.all fun y=>chkN n i y.2 y.1)]
    constructor
    · intro h i a ha
      simp only [Nat.zero_add]
      rw [z9j (p:=fun k p=>chkN n i k p)]
      intro k q hq
      simp only [Nat.zero_add]
      have hk:=(List.getElem?_eq_some_iff.1 hq).1
      have:=h (prt i k) (z8r.2 ⟨i,a,k,ha,hk,rfl⟩)
      simp only [bad,zaD ha hq,Bool.or_eq_true,Bool.not_eq_true',not_or,decide_eq_true_eq,Bool.not_eq_false] at this
      unfold chkN
      rw [decide_eq_false this.1,this.2];rfl
    · intro h p hpm
      obtain⟨i,a,k,ha,hk,rfl⟩:=z8r.1 hpm
      obtain⟨q,hq⟩:=z5H hk
      have h1:=h i a ha
      simp only [Nat.zero_add] at h1
      rw [z9j (p:=fun k p=>chkN n i k p)] at h1
      have h2:=h1 k q hq
      simp only [Nat.zero_add] at h2
      unfold chkN at h2
      rw [Bool.and_eq_true] at h2
      simp only [bad,zaD ha hq,h2.2,Bool.not_true,Bool.or_false,Bool.not_eq_true]
      simpa using h2.1
end Go.E


namespace Go.E
open Go.RowKit Go.Proofs
set_option linter.unusedSimpArgs false
set_option linter.unusedVariables false


theorem zfL {n:D.Net}{p:D.Port}(h:hasN n.Agents p=true):∃ q,portAt n p=some q:=by
  obtain⟨_,_,a,q,_,h4,_,h6,_⟩:=zcO h
  exact⟨q,by unfold portAt;rw [h4,Option.bind_some,h6]⟩

end Go.E


namespace Go.E
open Go.RowKit Go.Proofs
set_option linter.unusedSimpArgs false
set_option linter.unusedVariables false

theorem z8Y {α β:Type}{f:β→Nat}{g:α→List β}:∀ {xs:List α},sumL f (xs.flatMap g)=sumL (fun x=>sumL f (g x)) xs
  | []=>rfl
  | x::xs=>by simp only [List.flatMap_cons,z6a,sumL,z8Y (xs:=xs)]
theorem zbj {α:Type}{f g:α→Nat}:∀ {xs:List α},(∀ x,x∈xs→f x=g x)→sumL f xs=sumL g xs
  | [],_=>rfl
  | x::xs,h=>by simp only [sumL,h x (by simp),zbj fun y hy=>h y (List.mem_cons_of_mem _ hy)]
theorem zbh {α:Type}{f:α→Nat}{xs:List α}(i:Nat):sumL f (xs.take i)≤sumL f xs:=by
  have:=z6a (f:=f) (xs:=xs.take i) (ys:=xs.drop i)
  rw [List.take_append_drop] at this
  omega


def befN (p q:D.Port):Bool:=decide (p.Agent<q.Agent) || (decide (p.Agent=q.Agent) && decide (p.Slot<q.Slot))
def wireAt (n:D.Net) (p:D.Port):List D.Wire:=match portAt n p with
  | some q=>if befN p q=true then [⟨p,q⟩] else []
  | none=>[]
def wiresL (n:D.Net):List D.Wire:=(portsL n).flatMap (wireAt n)
theorem zcx {p q:D.Port}{fuel:Nat}:z48 fuel p q=some (befN p q):=by
  unfold z48 befN
  by_cases h1:p.Agent<q.Agent
  · simp [h1]
  · by_cases h2:p.Agent=q.Agent<;>simp [h1,h2]
theorem zcy {p q:D.Port}{fuel:Nat}:z3f fuel p q=some (befN p q):=by
  unfold z3f befN
  by_cases h1:p.Agent<q.Agent
  · simp [h1]
  · by_cases h2:p.Agent=q.Agent<;>simp [h1,h2]
theorem zar {n:D.Net}{p:D.Port}:(wireAt n p).length≤1:=by
  unfold wireAt
  split
  · split<;>simp
  · simp
theorem z7X {α β:Type}{g:α→List β}(h:∀ x,(g x).length≤1):∀ xs:List α,(xs.flatMap g).length≤xs.length
  | []=>by simp
  | x::xs=>by
    rw [List.flatMap_cons,List.length_append,List.length_cons]
    have:=z7X h xs
    have:=h x
    omega
theorem z9F {β:Type}{n:D.Net}{g:D.Port→List β}:(portsL n).flatMap g=n.Agents.zipIdx.flatMap fun x=>(List.range x.1.Ports.length).flatMap fun k=>g (prt x.2 k):=by
  unfold portsL
  rw [List.flatMap_assoc]
  congr 1
  funext x
  rw [List.flatMap_map]
theorem zd0 {n:D.Net}{fuel:Nat}(hf:18446744073709551616≤fuel) (hl:n.Agents.length≤1048576) (hs:sumL (fun a=>a.Ports.length) n.Agents≤1048576):z4C fuel n=some (wiresL n):=by
  have hm:maxLen=9223372036854775807:=rfl
  unfold z4C
  have h:=zipLoop (xs:=n.Agents) (body:=z31 fuel n) (mk:=fun i s=>(i,s)) (out:=fun s=>s) (g:=fun i a=>(List.range a.Ports.length).flatMap fun k=>wireAt n (prt i k)) (s0:=[]) hl hf (fun i a ha=>by
    have hil:=(List.getElem?_eq_some_iff.1 ha).1
    have hpa:a.Ports.length≤1048576:=Nat.le_trans (z7j (f:=fun a:D.Agent=>a.Ports.length) (List.mem_of_getElem? ha)) hs
    have hlen:=zbb (n:=n) (i+1)
    have hlen2:(((n.Agents.take i).zipIdx).flatMap fun x=>(List.range x.1.Ports.length).flatMap fun k=>wireAt n (prt x.2 k)).length+a.Ports.length≤1048576:=by
      have h1:(((n.Agents.take i).zipIdx).flatMap fun x=>(List.range x.1.Ports.length).flatMap fun k=>wireAt n (prt x.2 k)).length≤(((n.Agents.take i).zipIdx).flatMap fun x=>(List.range x.1.Ports.length).map fun j=>prt x.2 j).length:=by
        have:=z9F (n:=⟨n.Agents.take i⟩) (g:=wireAt n)
        rw [← this]
        exact z7X (fun p=>zar) _
      rw [zao ha,List.flatMap_append,List.length_append] at hlen
      simp only [List.flatMap_cons,List.flatMap_nil,List.append_nil,List.length_map,List.length_range] at hlen
      omega
    simp only [List.nil_append]
    generalize (((n.Agents.take i).zipIdx).flatMap fun x=>(List.range x.1.Ports.length).flatMap fun k=>wireAt n (prt x.2 k))=s at hlen2 ⊢
    unfold z31
    rw [if_pos (by simpa using hil)]
    have h2:=appLoop (body:=z30 fuel n ((i:Int),s)) (n:=a.Ports.length) (mk:=fun k s=>(k,s)) (out:=fun s=>s) (g:=fun k=>wireAt n (prt i k)) (s0:=s) hpa hf (fun k hk=>by
      obtain⟨q,hq⟩:=z5H hk
      have hlk:=z7X (g:=fun k=>wireAt n (prt i k)) (fun k=>zar) (List.range k)
      rw [List.length_range] at hlk
      have hw:wireAt n (prt i k)=if befN (prt i k) q=true then [⟨prt i k,q⟩] else []:=by
        unfold wireAt
        rw [zaD ha hq]
      rw [hw]
      unfold z30
      dsimp only
      rw [zL ha,Option.bind_some,if_pos (by simpa using hk),Option.bind_some,zL hq,Option.bind_some,zcx,Option.bind_some]
      change (if befN (prt i k) q=true then _ else _)=_
      cases hbf:befN (prt i k) q with
      | true=>
        have d:(s++(List.range k).flatMap fun k=>wireAt n (prt i k)).length+1≤4294967296:=by
          rw [List.length_append];omega
        rw [if_pos rfl,if_pos rfl,Option.bind_some,zL hq,Option.bind_some]
        generalize (s++(List.range k).flatMap fun k=>wireAt n (prt i k))=t at d ⊢
        rw [if_pos (by simp only [decide_eq_true_eq,List.length_cons,List.length_nil];omega)]
        unfold z1V
        rfl
      | false=>
        rw [if_neg (by simp),if_neg (by simp),List.append_nil]
        unfold z1V
        rfl) (by
      unfold z30
      simp only [zL ha,Option.bind_some]
      rw [if_neg (by simp)])
    rw [show((0:Int),s)=(((0:Int),s):Int × List D.Wire) from rfl] at *
    rw [h2]
    rfl) (by
    unfold z31
    rw [if_neg (by simp)])
  rw [h]
  simp only [Option.bind_some,aft,z5R,List.nil_append]
  unfold wiresL
  rw [z9F]
end Go.E


namespace Go.E
open Go.RowKit
set_option linter.unusedVariables false

def D.Word.wf (x:D.Word):Prop:=I64 x.Tag∧I64 x.At∧True
def D.Word.sz (x:D.Word):Nat:=0
def D.Pair.wf (x:D.Pair):Prop:=I64 x.A∧I64 x.B∧True
def D.Pair.sz (x:D.Pair):Nat:=0
def D.Port.wf (x:D.Port):Prop:=I64 x.Agent∧I64 x.Slot∧True
def D.Port.sz (x:D.Port):Nat:=0
def D.Cell.wf (x:D.Cell):Prop:=I64 x.Kind∧I64 x.Level∧I64 x.Value∧WfL I64 x.Data∧WfL D.Word.wf x.Words∧True
def D.Cell.sz (x:D.Cell):Nat:=x.Data.length+(x.Words.length+(0))
def D.Agent.wf (x:D.Agent):Prop:=I64 x.Kind∧I64 x.Level∧I64 x.Value∧WfL I64 x.Data∧WfL D.Port.wf x.Ports∧True
def D.Agent.sz (x:D.Agent):Nat:=x.Data.length+(x.Ports.length+(0))
def D.Memory.wf (x:D.Memory):Prop:=WfL D.Cell.wf x.Cells∧I64 x.Free∧D.Word.wf x.Root∧WfL D.Pair.wf x.Redexes∧True
def D.Memory.sz (x:D.Memory):Nat:=szL D.Cell.sz x.Cells+(x.Redexes.length+(0))
def D.Net.wf (x:D.Net):Prop:=WfL D.Agent.wf x.Agents∧True
def D.Net.sz (x:D.Net):Nat:=szL D.Agent.sz x.Agents+(0)
def D.Link.wf (x:D.Link):Prop:=D.Word.wf x.A∧D.Word.wf x.B∧True
def D.Link.sz (x:D.Link):Nat:=0
def D.Worker.wf (x:D.Worker):Prop:=I64 x.Phase∧I64 x.Victim∧WfL D.Pair.wf x.Redexes∧WfL D.Link.wf x.Links∧WfL I64 x.Counts∧True
def D.Worker.sz (x:D.Worker):Nat:=x.Redexes.length+(x.Links.length+(x.Counts.length+(0)))
def D.Pool.wf (x:D.Pool):Prop:=D.Memory.wf x.Memory∧WfL D.Worker.wf x.Workers∧I64 x.Active∧True
def D.Pool.sz (x:D.Pool):Nat:=D.Memory.sz x.Memory+(szL D.Worker.sz x.Workers+(0))
end Go.E


namespace Go.E
open Go.RowKit Go.Proofs
set_option linter.unusedSimpArgs false
set_option linter.unusedVariables false

theorem z90 {x:D.Net}(h:x.sz≤1048576):x.Agents.length≤1048576∧sumL (fun a:D.Agent=>a.Ports.length) x.Agents≤1048576∧∀ a,a∈x.Agents→a.Data.length≤maxLen∧a.Ports.length≤maxLen:=by
  have hm:maxLen=9223372036854775807:=rfl
  unfold D.Net.sz szL at h
  have h1:∀ xs:List D.Agent,sumL (fun a:D.Agent=>a.Ports.length) xs≤sumL D.Agent.sz xs:=by
    intro xs
    induction xs with
    | nil=>exact Nat.le_refl _
    | cons y ys ih=>
        unfold sumL;have:y.Ports.length≤y.sz:=by unfold D.Agent.sz;omega
        omega
  refine⟨by omega,Nat.le_trans (h1 _) (by omega),fun a ha=>?_⟩
  have:=z7j (f:=D.Agent.sz) ha
  have h9:a.sz=a.Data.length+(a.Ports.length+0):=rfl
  omega
theorem zdu {a:D.Agent}{fuel:Nat}(h1:a.Data.length≤1048576) (h2:a.Ports.length≤1048576):z4c fuel a=some a:=by
  unfold z4c zR zW
  rw [if_pos (by simp;omega),Option.bind_some,if_pos (by simp;omega)]
  simp
theorem zgt {x:D.Net}(h:x.sz≤1048576){a:D.Agent}(ha:a∈x.Agents):a.Data.length≤1048576∧a.Ports.length≤1048576:=by
  unfold D.Net.sz szL at h
  have:=z7j (f:=D.Agent.sz) ha
  have h9:a.sz=a.Data.length+(a.Ports.length+0):=rfl
  omega
theorem zgr {x:D.Net}{fuel:Nat}(hf:18446744073709551616≤fuel) (h:x.sz≤1048576):z5x fuel x=some x:=by
  have hl:=(z90 h).1
  unfold z5x
  rw [if_pos (by simp;omega),mapLoop (xs:=x.Agents) (g:=fun a=>a) hl hf (fun i a s ha hs=>by
    have hil:=(List.getElem?_eq_some_iff.1 ha).1
    obtain⟨z1,z2⟩:=zgt h (List.mem_of_getElem? ha)
    unfold z52
    rw [if_pos (by simpa using hil),zL ha,Option.bind_some,zdu z1 z2,Option.bind_some,if_pos (by simp;omega)]) (fun s=>by unfold z52;rw [if_neg (by simp)])]
  simp [aft,z6f]
end Go.E


namespace Go.E
open Go.RowKit Go.Proofs
set_option linter.unusedVariables false

def z7i (W0:World):Ty D.Agent:=tMap (fun c:D.Agent=>(c.Kind,c.Level,c.Value,c.Data,c.Ports,())) (tPair tInt (tPair tInt (tPair tInt (tPair (tBor W0 ty80) (tPair z2R tUnit)))))
instance {W0:World}:Reads W0 (z7i W0):=inferInstanceAs (Reads W0 (tMap (fun c:D.Agent=>(c.Kind,c.Level,c.Value,c.Data,c.Ports,())) (tPair tInt (tPair tInt (tPair tInt (tPair (tBor W0 ty80) (tPair z2R tUnit)))))))
theorem zdc {W0:World}:(z7i W0).ro=z6i.ro:=rfl
theorem zb3 {W0 w:World}{c:D.Agent}{A0:Option Addr}{k0:Nat}{A1:Option Addr}{k1:Nat}{G:List Nat}(h:(All [Own (tBor W0 ty80) [.slice A0 c.Data.length k0] c.Data,Own z2R [.slice A1 c.Ports.length k1] c.Ports]).A w G):(z7i W0).own w [.int .i64 c.Kind,.int .i64 c.Level,.int .i64 c.Value,.slice A0 c.Data.length k0,.slice A1 c.Ports.length k1] c G:=by
  obtain⟨G0,R0,rfl,h0,G1,R1,rfl,h1,hz⟩:=h
  have hz':R1=[]:=hz
  subst hz'
  exact cast (congrArg _ (by simp)) (show(z7i W0).own w [.int .i64 c.Kind,.int .i64 c.Level,.int .i64 c.Value,.slice A0 c.Data.length k0,.slice A1 c.Ports.length k1] c (_) from⟨_,_,_,_,rfl,rfl,⟨rfl,rfl⟩,⟨_,_,_,_,rfl,rfl,⟨rfl,rfl⟩,⟨_,_,_,_,rfl,rfl,⟨rfl,rfl⟩,⟨_,_,_,_,rfl,rfl,h0,⟨_,_,_,_,rfl,rfl,h1,⟨rfl,rfl⟩⟩⟩⟩⟩⟩)
theorem z8d {W0 W w:World}{B:List Res}{c:D.Agent}{A0:Option Addr}{k0:Nat}{A1:Option Addr}{k1:Nat}(h:St W w ([Own (tBor W0 ty80) [.slice A0 c.Data.length k0] c.Data,Own z2R [.slice A1 c.Ports.length k1] c.Ports]++B)):St W w (Own (z7i W0) [.int .i64 c.Kind,.int .i64 c.Level,.int .i64 c.Value,.slice A0 c.Data.length k0,.slice A1 c.Ports.length k1] c::B):=(St.fuseAll h).conv fun _ hG=>zb3 hG

def zdH (W0:World):Ty (List D.Agent):=tSl 148 (z7i W0)
instance {W0:World}:Reads W0 (zdH W0):=inferInstanceAs (Reads W0 (tSl 148 (z7i W0)))
theorem zb1 {W0:World}:(zdH W0).ro=ty40.ro:=zgS zdc

end Go.E


