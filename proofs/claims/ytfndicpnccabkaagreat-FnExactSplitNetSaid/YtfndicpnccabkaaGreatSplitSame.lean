/- Nets: the reference's and the program's tests agree, told by a plain test. Conditions: the data within the law's bound. -/
import Derived.Test.YtfndicpnccabkaaGreatSplitShard
import Derived.Test.YtfndicpnccabkaaGreatFN
namespace Go.E
open Go.RowKit Go.Proofs
set_option linter.unusedSimpArgs false
set_option linter.unusedVariables false


def portAt (n:D.Net) (p:D.Port):Option D.Port:=(idx n.Agents p.Agent).bind fun a=>idx a.Ports p.Slot
def hasN (l:List D.Agent) (p:D.Port):Bool:=decide (0≤p.Agent∧0≤p.Slot) && (l[p.Agent.toNat]?).any fun a=>decide (p.Slot<(a.Ports.length:Int))
def agentsN (l:List D.Agent):Bool:=decide (1≤l.length∧l.length≤600) && (l.zipIdx.all fun x=>agN x.1 && ((x.1.Kind == 1) == (x.2 == 0)))
def prt (i k:Nat):D.Port:=⟨i,k⟩
def chkN (n:D.Net) (i k:Nat) (p:D.Port):Bool:=!(decide (p=prt i k)) && (hasN n.Agents p && decide (portAt n p=some (prt i k)))
def netN (n:D.Net):Bool:=agentsN n.Agents && (n.Agents.zipIdx.all fun x=>x.1.Ports.zipIdx.all fun y=>chkN n x.2 y.2 y.1)

theorem z61 {α:Type}{xs:List α}{i:Int}(h:0≤i):idx xs i=xs[i.toNat]?:=by unfold idx;rw [if_pos h]
theorem z8w {l:List D.Agent}{p:D.Port}(h:hasN l p=true):0≤p.Agent∧0≤p.Slot∧∃ a q,l[p.Agent.toNat]? = some a∧idx l p.Agent=some a∧a.Ports[p.Slot.toNat]? = some q∧idx a.Ports p.Slot=some q∧p.Agent<l.length∧p.Slot<a.Ports.length:=by
  unfold hasN at h
  simp only [Bool.and_eq_true,decide_eq_true_eq] at h
  obtain⟨⟨h1,h2⟩,h3⟩:=h
  cases ha:l[p.Agent.toNat]? with
  | none=>rw [ha] at h3;simp at h3
  | some a=>
    rw [ha] at h3
    simp only [Option.any_some,decide_eq_true_eq] at h3
    obtain⟨q,hq⟩:=z5i (xs:=a.Ports) (i:=p.Slot.toNat) (by omega)
    have:=(List.getElem?_eq_some_iff.1 ha).1
    exact⟨h1,h2,a,q,rfl,by rw [z61 h1,ha],hq,by rw [z61 h2,hq],by omega,h3⟩
theorem zcY {l:List D.Agent}{p:D.Port}:hasN l p=true↔0≤p.Agent∧0≤p.Slot∧∃ a,l[p.Agent.toNat]? = some a∧p.Slot<a.Ports.length:=by
  constructor
  · intro h
    obtain⟨h1,h2,a,q,h3,_,_,_,_,h4⟩:=z8w h
    exact⟨h1,h2,a,h3,h4⟩
  · rintro⟨h1,h2,a,h3,h4⟩
    unfold hasN
    rw [h3]
    simp [h1,h2,h4]
theorem zbw {p q:D.Port}:(((p.Agent:Int) == q.Agent) && (((p.Slot:Int) == q.Slot) && true))=decide (p=q):=by
  obtain⟨a,b⟩:=p
  obtain⟨c,d⟩:=q
  by_cases h1:a=c<;>by_cases h2:b=d<;>simp [h1,h2]
theorem zf5 {p:D.Port}{i k:Nat}:(((p.Agent:Int) == (i:Int)) && (((p.Slot:Int) == (k:Int)) && true))=decide (p=prt i k):=zbw (q:=prt i k)

theorem zaP {l:List D.Agent}{p:D.Port}{fuel:Nat}(hl:l.length≤maxLen) (hp:∀ a,a∈l→a.Ports.length≤maxLen):z4Z fuel l p=some (hasN l p):=by
  unfold z4Z
  rw [z5h,Option.bind_some,z7Z hl]
  by_cases h1:0≤p.Agent∧p.Agent≤(l.length:Int) - 1
  · rw [if_pos (by simpa using h1)]
    obtain⟨a,ha⟩:=z5i (xs:=l) (i:=p.Agent.toNat) (by omega)
    rw [z61 h1.1,ha,Option.bind_some,z5h,z7Z (hp a (List.mem_of_getElem? ha)),Option.bind_some]
    unfold hasN
    rw [ha]
    simp only [Option.bind_some,Option.any_some]
    by_cases h2:0≤p.Slot<;>by_cases h3:p.Slot<(a.Ports.length:Int)<;>simp [h1.1,h2,h3]<;>omega
  · rw [if_neg (by simpa using h1)]
    unfold hasN
    by_cases h0:0≤p.Agent
    · rw [List.getElem?_eq_none (by omega)];simp
    · simp [h0]
theorem zaQ {l:List D.Agent}{p:D.Port}{fuel:Nat}:z5a fuel l p=some (hasN l p):=by
  unfold z5a hasN
  by_cases h0:0≤p.Agent
  · rw [if_pos (by simpa using h0)]
    by_cases h1:p.Agent<l.length
    · rw [if_pos (by simpa using h1)]
      obtain⟨a,ha⟩:=z5i (xs:=l) (i:=p.Agent.toNat) (by omega)
      by_cases h2:0≤p.Slot
      · rw [if_pos (by simpa using h2),z61 h0,ha];simp [h0,h2]
      · rw [if_neg (by simpa using h2)];simp [h2]
    · rw [if_neg (by simpa using h1),List.getElem?_eq_none (by omega)];simp
  · rw [if_neg (by simpa using h0)];simp [h0]
theorem z9f {n:D.Net}{p:D.Port}{fuel:Nat}:z2y fuel n p=portAt n p:=by
  unfold z2y portAt
  cases idx n.Agents p.Agent with
  | none=>rfl
  | some a=>
    simp only [Option.bind_some]
    cases idx a.Ports p.Slot<;>rfl


theorem zbR {i:Nat}:(((i:Int)) == 0)=(i == 0):=by
  by_cases h:i=0
  · subst h;rfl
  · have h2:¬ ((i:Int)=0):=by omega
    rw [beq_eq_false_iff_ne.2 h2,beq_eq_false_iff_ne.2 h]
theorem zbG {l:List D.Agent}{fuel:Nat}(hf:18446744073709551616≤fuel) (hl:l.length≤1048576) (hp:∀ a,a∈l→a.Data.length≤maxLen∧a.Ports.length≤maxLen):z46 fuel l=some (agentsN l):=by
  have hm:maxLen=9223372036854775807:=rfl
  unfold z46 agentsN
  rw [z5h,Option.bind_some]
  by_cases h1:1≤l.length∧l.length≤600
  · rw [if_neg (by simp;omega),decide_eq_true h1,Bool.true_and,allLoop (xs:=l) (p:=fun i a=>agN a && ((a.Kind == 1) == (i == 0))) (t:=()) (v:=false) (by omega) hf (fun i a hi ha=>by
      unfold z3V
      rw [if_pos (by simpa using hi),zy ha,Option.bind_some,zfd hf (hp a (List.mem_of_getElem? ha)).1 (hp a (List.mem_of_getElem? ha)).2,Option.bind_some]
      unfold z2m
      simp only [Option.bind_some,zbR]
      cases agN a<;>cases (a.Kind == 1)<;>cases (i == 0)<;>rfl) (by unfold z3V;simp)]
    cases (l.zipIdx.all fun x=>agN x.1 && ((x.1.Kind == 1) == (x.2 == 0)))<;>rfl
  · rw [if_pos (by simp;omega),decide_eq_false h1,Bool.false_and]
theorem zbJ {l:List D.Agent}{fuel:Nat}(hf:18446744073709551616≤fuel) (hl:l.length≤1048576) (hp:∀ a,a∈l→a.Data.length≤maxLen∧a.Ports.length≤maxLen):z4c fuel l=some (agentsN l):=by
  have hm:maxLen=9223372036854775807:=rfl
  have key:∀ b:Bool,z1u fuel l b=some (!b && (l.zipIdx.all fun x=>agN x.1 && ((x.1.Kind == 1) == (x.2 == 0)))):=fun b=>by
    unfold z1u
    cases b with
    | true=>rfl
    | false=>
      rw [if_neg Bool.false_ne_true,allLoop (xs:=l) (p:=fun i a=>agN a && ((a.Kind == 1) == (i == 0))) (t:=()) (v:=false) (by omega) hf (fun i a hi ha=>by
        unfold z40
        rw [if_pos (by simpa using hi),zy ha,Option.bind_some,zeb hf (hp a (List.mem_of_getElem? ha)).1 (hp a (List.mem_of_getElem? ha)).2,Option.bind_some]
        unfold z2u
        rw [zbR]
        cases agN a<;>cases (a.Kind == 1)<;>cases (i == 0)<;>rfl) (by unfold z40;simp)]
      cases (l.zipIdx.all fun x=>agN x.1 && ((x.1.Kind == 1) == (x.2 == 0)))<;>rfl
  unfold z4c agentsN
  by_cases h1:1≤l.length
  · rw [if_neg (by simp;omega),key]
    by_cases h2:l.length≤600
    · rw [decide_eq_false (by omega),decide_eq_true ⟨h1,h2⟩];rfl
    · rw [decide_eq_true (by omega),decide_eq_false (by omega)];rfl
  · rw [if_pos (by simp;omega),key,decide_eq_false (by omega)];rfl


theorem zev {n:D.Net}{fuel:Nat}(hf:18446744073709551616≤fuel) (hl:n.Agents.length≤1048576) (hp:∀ a,a∈n.Agents→a.Data.length≤maxLen∧a.Ports.length≤maxLen):z5V fuel n=some (netN n):=by
  have hm:maxLen=9223372036854775807:=rfl
  unfold z5V netN
  rw [zbG hf hl hp,Option.bind_some]
  cases hA:agentsN n.Agents with
  | false=>rfl
  | true=>
    rw [if_neg (by simp),allLoop (xs:=n.Agents) (p:=fun i a=>a.Ports.zipIdx.all fun y=>chkN n i y.2 y.1) (t:=()) (v:=false) (by omega) hf (fun i a hi ha=>by
      have hpa:=(hp a (List.mem_of_getElem? ha)).2
      unfold z5w
      rw [if_pos (by simpa using hi),zy ha,Option.bind_some,allLoop (xs:=a.Ports) (p:=fun k p=>chkN n i k p) (t:=()) (v:=Rd.ret false) hpa hf (fun k p hk hq=>by
        unfold z5v
        rw [if_pos (by simpa using hk),zy hq,Option.bind_some,zf5,zaP (by omega) fun a ha=>(hp a ha).2]
        unfold z3x chkN
        by_cases h1:p=prt i k
        · rw [if_pos (decide_eq_true h1),decide_eq_true h1];rfl
        · rw [if_neg (by simpa using h1),decide_eq_false h1,Option.bind_some]
          cases h2:hasN n.Agents p with
          | false=>rfl
          | true=>
            obtain⟨_,_,b,q,_,h3,_,h4,_⟩:=z8w h2
            rw [if_neg (by simp),h3,Option.bind_some,h4,Option.bind_some,zf5]
            have:portAt n p=some q:=by unfold portAt;rw [h3,Option.bind_some,h4]
            rw [this]
            by_cases h5:q=prt i k
            · simp [h5]
            · simp [h5]) (by unfold z5v;simp)]
      cases (a.Ports.zipIdx.all fun y=>chkN n i y.2 y.1)<;>rfl) (by unfold z5w;simp)]
    cases (n.Agents.zipIdx.all fun x=>x.1.Ports.zipIdx.all fun y=>chkN n x.2 y.2 y.1)<;>rfl


def portsL (n:D.Net):List D.Port:=n.Agents.zipIdx.flatMap fun x=>(List.range x.1.Ports.length).map fun k=>prt x.2 k
theorem zad:∀ (xs:List D.Agent) (k:Nat),((xs.zipIdx k).flatMap fun x=>(List.range x.1.Ports.length).map fun j=>prt x.2 j).length=sumL (fun a=>a.Ports.length) xs
  | [],k=>by simp [sumL]
  | x::xs,k=>by
    rw [List.zipIdx_cons,List.flatMap_cons,List.length_append,zad xs (k+1)]
    simp [sumL]
theorem z9S {n:D.Net}:(portsL n).length=sumL (fun a=>a.Ports.length) n.Agents:=zad _ _
theorem zaB {n:D.Net}(i:Nat):(((n.Agents.take i).zipIdx).flatMap fun x=>(List.range x.1.Ports.length).map fun j=>prt x.2 j).length≤sumL (fun a=>a.Ports.length) n.Agents:=by
  rw [zad]
  have:=z6i (f:=fun a:D.Agent=>a.Ports.length) (xs:=n.Agents.take i) (ys:=n.Agents.drop i)
  rw [List.take_append_drop] at this
  omega
theorem netPorts {n:D.Net}{fuel:Nat}(hf:18446744073709551616≤fuel) (hl:n.Agents.length≤1048576) (hs:sumL (fun a=>a.Ports.length) n.Agents≤1048576):z2J fuel n=some (portsL n):=by
  have hm:maxLen=9223372036854775807:=rfl
  unfold z2J
  have h:=loopR (xs:=n.Agents) (body:=z2x fuel n) (mk:=fun i s=>(s,i)) (out:=fun s:List D.Port=>s) (ρ:=List D.Port)
    (f:=fun i s a=>Rnd.go (s++(List.range a.Ports.length).map fun k=>prt i k)) (J:=fun i s=>s=((n.Agents.take i).zipIdx).flatMap fun x=>(List.range x.1.Ports.length).map fun k=>prt x.2 k) (s0:=[]) (fuel:=fuel) (by omega) hf (by simp)
    (fun i s a hi ha hJ=>by
      have hpa:a.Ports.length≤1048576:=Nat.le_trans (z6f (f:=fun a:D.Agent=>a.Ports.length) (List.mem_of_getElem? ha)) hs
      have hJ':s++((List.range a.Ports.length).map fun k=>prt i k)=((n.Agents.take (i+1)).zipIdx).flatMap fun x=>(List.range x.1.Ports.length).map fun k=>prt x.2 k:=by
        rw [z9Y ha,List.flatMap_append,hJ];simp
      refine⟨?_,hJ'⟩
      have hlen:=zaB (n:=n) (i+1)
      rw [← hJ',List.length_append,List.length_map,List.length_range] at hlen
      unfold z2x
      rw [if_pos (by simpa using hi),zy ha,Option.bind_some]
      obtain⟨o,h1,h2⟩:=z2K (body:=z2w fuel (s,(i:Int)) a) (fun k q=>q.1=(k:Int)∧q.2=s++(List.range k).map fun j=>prt i j) a.Ports.length (fun o=>o=.inl (s++(List.range a.Ports.length).map fun j=>prt i j)) (by
        rintro k ⟨q1,q2⟩ hk ⟨g1,g2⟩
        dsimp only at g1 g2
        subst g1;subst g2
        refine .inl ⟨(w64 ((k:Int)+1),(s++(List.range k).map fun j=>prt i j)++[⟨(i:Int),(k:Int)⟩]),?_,?_,?_⟩
        · unfold z2w
          rw [if_pos (by simpa using hk),if_pos (by simp;omega)]
        · dsimp only;rw [zC (by omega) (by omega)];simp
        · dsimp only;rw [List.range_succ,List.map_append];simp [prt]) (by
        rintro⟨q1,q2⟩ ⟨g1,g2⟩
        dsimp only at g1 g2
        subst g1;subst g2
        refine .inr ⟨_,?_,rfl⟩
        unfold z2w
        rw [if_neg (by simp)]) (fuel:=fuel) (i:=0) (s:=(0,s)) (Nat.zero_le _) (by omega) ⟨rfl,by simp⟩
      rw [h1,h2]
      rfl) (fun s _=>by unfold z2x;rw [if_neg (by simp)])
  have key:∀ (ys:List D.Agent) (k:Nat) (s:List D.Port),foldR (ρ:=List D.Port) (fun i s (a:D.Agent)=>Rnd.go (s++(List.range a.Ports.length).map fun k=>prt i k)) k ys s=Rnd.go (s++(ys.zipIdx k).flatMap fun x=>(List.range x.1.Ports.length).map fun j=>prt x.2 j):=by
    intro ys
    induction ys with
    | nil=>intro k s;simp [foldR]
    | cons y ys ih=>intro k s;unfold foldR;dsimp only;rw [ih,List.zipIdx_cons,List.flatMap_cons,List.append_assoc]
  rw [key] at h
  rw [show(([]:List D.Port),(0:Int))=(([]:List D.Port),((0:Nat):Int)) from rfl] at *
  rw [h.1]
  unfold portsL
  simp [aft,z5g]
theorem z7c {n:D.Net}{p:D.Port}:p∈portsL n↔∃ (i:Nat) (a:D.Agent) (k:Nat),n.Agents[i]? = some a∧k<a.Ports.length∧p=prt i k:=by
  unfold portsL
  rw [List.mem_flatMap]
  constructor
  · rintro⟨⟨a,i⟩,h1,h2⟩
    rw [List.mem_zipIdx_iff_getElem?] at h1
    obtain⟨k,hk,rfl⟩:=List.mem_map.1 h2
    exact⟨i,a,k,h1,List.mem_range.1 hk,rfl⟩
  · rintro⟨i,a,k,h1,h2,rfl⟩
    exact⟨(a,i),by rw [List.mem_zipIdx_iff_getElem?];exact h1,List.mem_map.2 ⟨k,List.mem_range.2 h2,rfl⟩⟩
theorem zaa {n:D.Net}{i k:Nat}{a:D.Agent}{q:D.Port}(ha:n.Agents[i]? = some a) (hq:a.Ports[k]? = some q):portAt n (prt i k)=some q:=by
  unfold portAt prt
  rw [zy ha,Option.bind_some,zy hq]
theorem zap {fuel:Nat}{p:D.Port→Bool}{f:D.Port→Option Bool}{xs:List D.Port}(hf:18446744073709551616≤fuel) (hl:xs.length≤maxLen) (h:∀ n,n∈xs→f n=some (p n)):
    zf fuel xs f=some (xs.any p):=by
  unfold zf zA
  obtain⟨r,h1,h2⟩:=askIndex (xs:=xs) (p:=p) (body:=ze fuel xs f) (j:=zL fuel) (t:=()) hl hf rfl (fun i x hi hx=>by
    simp only [ze,zy hx,h x (List.mem_of_getElem? hx),lt_t (show(i:Int)<xs.length by omega),if_true,Option.bind_some]) (by simp [ze])
  rw [h1,Option.bind_some,h2]
theorem zew {n:D.Net}{fuel:Nat}(hf:18446744073709551616≤fuel) (hl:n.Agents.length≤1048576) (hs:sumL (fun a=>a.Ports.length) n.Agents≤1048576) (hp:∀ a,a∈n.Agents→a.Data.length≤maxLen∧a.Ports.length≤maxLen):z4L fuel n=some (netN n):=by
  have hm:maxLen=9223372036854775807:=rfl
  unfold z4L netN
  rw [zbJ hf hl hp,Option.bind_some]
  cases hA:agentsN n.Agents with
  | false=>rfl
  | true=>
    let bad:D.Port→Bool:=fun p=>match portAt n p with
      | some q=>decide (q=p) || !(hasN n.Agents q && decide (portAt n q=some p))
      | none=>true
    rw [if_neg (by simp),netPorts hf hl hs,Option.bind_some,zap (p:=bad) hf (by rw [z9S];omega) (fun p hpm=>by
      obtain⟨i,a,k,ha,hk,rfl⟩:=z7c.1 hpm
      obtain⟨q,hq⟩:=z5i hk
      have hpa:=zaa ha hq
      unfold z4s
      show _=some (match portAt n (prt i k) with | some q=>_ | none=>_)
      rw [z9f,hpa,Option.bind_some,zbw]
      dsimp only
      by_cases h1:q=prt i k
      · rw [if_pos (decide_eq_true h1),decide_eq_true h1];rfl
      · rw [if_neg (by simpa using h1),decide_eq_false h1,zaQ,Option.bind_some]
        cases h2:hasN n.Agents q with
        | false=>rfl
        | true=>
          obtain⟨_,_,b,r,_,h3,_,h4,_⟩:=z8w h2
          have hr:portAt n q=some r:=by unfold portAt;rw [h3,Option.bind_some,h4]
          rw [if_neg (by simp),z9f,hr,Option.bind_some,zbw]
          by_cases h5:r=prt i k<;>simp [h5]),Option.bind_some]
    congr 1
    rw [Bool.true_and,Bool.eq_iff_iff,Bool.not_eq_true',List.any_eq_false,z7y (xs:=n.Agents) (p:=fun i a=>a.Ports.zipIdx.all fun y=>chkN n i y.2 y.1)]
    constructor
    · intro h i a ha
      simp only [Nat.zero_add]
      rw [z7y (p:=fun k p=>chkN n i k p)]
      intro k q hq
      simp only [Nat.zero_add]
      have hk:=(List.getElem?_eq_some_iff.1 hq).1
      have:=h (prt i k) (z7c.2 ⟨i,a,k,ha,hk,rfl⟩)
      simp only [bad,zaa ha hq,Bool.or_eq_true,Bool.not_eq_true',not_or,decide_eq_true_eq,Bool.not_eq_false] at this
      unfold chkN
      rw [decide_eq_false this.1,this.2];rfl
    · intro h p hpm
      obtain⟨i,a,k,ha,hk,rfl⟩:=z7c.1 hpm
      obtain⟨q,hq⟩:=z5i hk
      have h1:=h i a ha
      simp only [Nat.zero_add] at h1
      rw [z7y (p:=fun k p=>chkN n i k p)] at h1
      have h2:=h1 k q hq
      simp only [Nat.zero_add] at h2
      unfold chkN at h2
      rw [Bool.and_eq_true] at h2
      simp only [bad,zaa ha hq,h2.2,Bool.not_true,Bool.or_false,Bool.not_eq_true]
      simpa using h2.1
end Go.E


namespace Go.E
open Go.RowKit Go.Proofs
set_option linter.unusedSimpArgs false
set_option linter.unusedVariables false


theorem zez {n:D.Net}{p:D.Port}(h:hasN n.Agents p=true):∃ q,portAt n p=some q:=by
  obtain⟨_,_,a,q,_,h4,_,h6,_⟩:=z8w h
  exact⟨q,by unfold portAt;rw [h4,Option.bind_some,h6]⟩

theorem zbP {n:D.Net}(hn:netN n=true){p q:D.Port}(hp:hasN n.Agents p=true) (hq:portAt n p=some q):q≠p∧hasN n.Agents q=true∧portAt n q=some p:=by
  unfold netN at hn
  rw [Bool.and_eq_true] at hn
  obtain⟨h1,h2,a,o,h3,h4,h5,h6,h7,h8⟩:=z8w hp
  have hqo:q=o:=by
    unfold portAt at hq
    rw [h4,Option.bind_some,h6] at hq
    exact(Option.some.inj hq).symm
  subst hqo
  have h9:=(z7y (xs:=n.Agents) (p:=fun i a=>a.Ports.zipIdx.all fun y=>chkN n i y.2 y.1)).1 hn.2 _ _ h3
  simp only [Nat.zero_add] at h9
  have z:=(z7y (xs:=a.Ports) (p:=fun k q=>chkN n p.Agent.toNat k q)).1 h9 _ _ h5
  simp only [Nat.zero_add] at z
  have hpe:prt p.Agent.toNat p.Slot.toNat=p:=by
    obtain⟨x,y⟩:=p
    unfold prt
    dsimp only at h1 h2 ⊢
    congr 1<;>omega
  unfold chkN at z
  rw [hpe] at z
  simp only [Bool.and_eq_true,Bool.not_eq_true',decide_eq_false_iff_not,decide_eq_true_eq] at z
  exact⟨z.1,z.2.1,z.2.2⟩
end Go.E


namespace Go.E
open Go.RowKit Go.Proofs
set_option linter.unusedSimpArgs false
set_option linter.unusedVariables false

def befN (p q:D.Port):Bool:=decide (p.Agent<q.Agent) || (decide (p.Agent=q.Agent) && decide (p.Slot<q.Slot))
def wireAt (n:D.Net) (p:D.Port):List D.Wire:=match portAt n p with
  | some q=>if befN p q=true then [⟨p,q⟩] else []
  | none=>[]
def wiresL (n:D.Net):List D.Wire:=(portsL n).flatMap (wireAt n)
theorem zbD {p q:D.Port}{fuel:Nat}:z45 fuel p q=some (befN p q):=by
  unfold z45 befN
  by_cases h1:p.Agent<q.Agent
  · simp [h1]
  · by_cases h2:p.Agent=q.Agent<;>simp [h1,h2]
theorem zbE {p q:D.Port}{fuel:Nat}:z3e fuel p q=some (befN p q):=by
  unfold z3e befN
  by_cases h1:p.Agent<q.Agent
  · simp [h1]
  · by_cases h2:p.Agent=q.Agent<;>simp [h1,h2]
theorem za1 {n:D.Net}{p:D.Port}:(wireAt n p).length≤1:=by
  unfold wireAt
  split
  · split<;>simp
  · simp
theorem z8S {α β:Type}{g:α→List β}(h:∀ x,(g x).length≤1):∀ xs:List α,(xs.flatMap g).length≤xs.length
  | []=>by simp
  | x::xs=>by
    rw [List.flatMap_cons,List.length_append,List.length_cons]
    have:=z8S h xs
    have:=h x
    omega
theorem z9d {β:Type}{n:D.Net}{g:D.Port→List β}:(portsL n).flatMap g=n.Agents.zipIdx.flatMap fun x=>(List.range x.1.Ports.length).flatMap fun k=>g (prt x.2 k):=by
  unfold portsL
  rw [List.flatMap_assoc]
  congr 1
  funext x
  rw [List.flatMap_map]
theorem zc5 {n:D.Net}{fuel:Nat}(hf:18446744073709551616≤fuel) (hl:n.Agents.length≤1048576) (hs:sumL (fun a=>a.Ports.length) n.Agents≤1048576):z4z fuel n=some (wiresL n):=by
  have hm:maxLen=9223372036854775807:=rfl
  unfold z4z
  have h:=zipLoop (xs:=n.Agents) (body:=z2T fuel n) (mk:=fun i s=>(i,s)) (out:=fun s=>s) (g:=fun i a=>(List.range a.Ports.length).flatMap fun k=>wireAt n (prt i k)) (s0:=[]) hl hf (fun i a ha=>by
    have hil:=(List.getElem?_eq_some_iff.1 ha).1
    have hpa:a.Ports.length≤1048576:=Nat.le_trans (z6f (f:=fun a:D.Agent=>a.Ports.length) (List.mem_of_getElem? ha)) hs
    have hlen:=zaB (n:=n) (i+1)
    have hlen2:(((n.Agents.take i).zipIdx).flatMap fun x=>(List.range x.1.Ports.length).flatMap fun k=>wireAt n (prt x.2 k)).length+a.Ports.length≤1048576:=by
      have h1:(((n.Agents.take i).zipIdx).flatMap fun x=>(List.range x.1.Ports.length).flatMap fun k=>wireAt n (prt x.2 k)).length≤(((n.Agents.take i).zipIdx).flatMap fun x=>(List.range x.1.Ports.length).map fun j=>prt x.2 j).length:=by
        have:=z9d (n:=⟨n.Agents.take i⟩) (g:=wireAt n)
        rw [← this]
        exact z8S (fun p=>za1) _
      rw [z9Y ha,List.flatMap_append,List.length_append] at hlen
      simp only [List.flatMap_cons,List.flatMap_nil,List.append_nil,List.length_map,List.length_range] at hlen
      omega
    simp only [List.nil_append]
    generalize (((n.Agents.take i).zipIdx).flatMap fun x=>(List.range x.1.Ports.length).flatMap fun k=>wireAt n (prt x.2 k))=s at hlen2 ⊢
    unfold z2T
    rw [if_pos (by simpa using hil)]
    have h2:=appLoop (body:=z2S fuel n ((i:Int),s)) (n:=a.Ports.length) (mk:=fun k s=>(k,s)) (out:=fun s=>s) (g:=fun k=>wireAt n (prt i k)) (s0:=s) hpa hf (fun k hk=>by
      obtain⟨q,hq⟩:=z5i hk
      have hlk:=z8S (g:=fun k=>wireAt n (prt i k)) (fun k=>za1) (List.range k)
      rw [List.length_range] at hlk
      have hw:wireAt n (prt i k)=if befN (prt i k) q=true then [⟨prt i k,q⟩] else []:=by
        unfold wireAt
        rw [zaa ha hq]
      rw [hw]
      unfold z2S
      dsimp only
      rw [zy ha,Option.bind_some,if_pos (by simpa using hk),Option.bind_some,zy hq,Option.bind_some,zbD,Option.bind_some]
      change (if befN (prt i k) q=true then _ else _)=_
      cases hbf:befN (prt i k) q with
      | true=>
        have o:(s++(List.range k).flatMap fun k=>wireAt n (prt i k)).length+1≤4294967296:=by
          rw [List.length_append];omega
        rw [if_pos rfl,if_pos rfl,Option.bind_some,zy hq,Option.bind_some]
        generalize (s++(List.range k).flatMap fun k=>wireAt n (prt i k))=t at o ⊢
        rw [if_pos (by simp only [decide_eq_true_eq,List.length_cons,List.length_nil];omega)]
        unfold z1K
        rfl
      | false=>
        rw [if_neg (by simp),if_neg (by simp),List.append_nil]
        unfold z1K
        rfl) (by
      unfold z2S
      simp only [zy ha,Option.bind_some]
      rw [if_neg (by simp)])
    rw [show((0:Int),s)=(((0:Int),s):Int × List D.Wire) from rfl] at *
    rw [h2]
    rfl) (by
    unfold z2T
    rw [if_neg (by simp)])
  rw [h]
  simp only [Option.bind_some,aft,z5u,List.nil_append]
  unfold wiresL
  rw [z9d]
end Go.E


namespace Go.E
open Go.RowKit Go.Proofs
set_option linter.unusedSimpArgs false
set_option linter.unusedVariables false

theorem z8c {α:Type}{f:α→Nat}:∀ {xs:List α}{i:Nat}{x y:α},xs[i]? = some x→sumL f (xs.set i y)+f x=sumL f xs+f y
  | [],i,x,y,h=>by simp at h
  | z::xs,0,x,y,h=>by
    simp only [List.getElem?_cons_zero,Option.some.injEq] at h
    subst h
    simp only [List.set_cons_zero,sumL]
    omega
  | z::xs,i+1,x,y,h=>by
    simp only [List.getElem?_cons_succ] at h
    have:=z8c (f:=f) (y:=y) h
    simp only [List.set_cons_succ,sumL]
    omega
theorem zbr {α:Type}{xs:List α}{i j:Nat}{x y z:α}(hx:xs[i]? = some x) (hz:xs[j]? = some z):(xs.set i y)[j]? = some (if i=j then y else z):=by
  have hi:=(List.getElem?_eq_some_iff.1 hx).1
  by_cases h:i=j
  · subst h
    rw [if_pos rfl,List.getElem?_set_self hi]
  · rw [if_neg h,List.getElem?_set_ne h,hz]
theorem zcL {α:Type}{xs:List α}{i:Nat}{y z:α}(h:z∈xs.set i y):z=y∨z∈xs:=by
  rcases List.mem_or_eq_of_mem_set h with h | h
  · exact .inr h
  · exact .inl h

def setO (at_:List D.Address) (S:List D.Shard) (R:D.Address) (p:D.Port) (a:D.Address):Option (List D.Shard × D.Address):=
  if p.Agent=0 then some (S,a) else(idx at_ p.Agent).bind fun x=>(idx S x.Machine).bind fun s=>(idx s.Cells x.Index).bind fun c=>
    if 0≤w64 (p.Slot - 1)∧(w64 (p.Slot - 1)).toNat<c.Aux.length then some (S.set x.Machine.toNat ⟨s.Cells.set x.Index.toNat ⟨c.Kind,c.Level,c.Value,c.Data,c.Aux.set (w64 (p.Slot - 1)).toNat a⟩,s.Vars,s.Redexes⟩,R) else none
theorem zeh {fuel:Nat}{at_:List D.Address}{S:List D.Shard}{R:D.Address}{p:D.Port}{a:D.Address}:z2R fuel ⟨S,R⟩ at_ p a=(setO at_ S R p a).map fun r=>⟨r.1,r.2⟩:=by
  unfold z2R setO
  by_cases h:p.Agent=0
  · rw [if_pos (by simpa using h),if_pos h];rfl
  · rw [if_neg (by simpa using h),if_neg h]
    cases idx at_ p.Agent with
    | none=>rfl
    | some x=>
      simp only [Option.bind_some]
      cases idx S x.Machine with
      | none=>rfl
      | some s=>
        simp only [Option.bind_some]
        cases idx s.Cells x.Index with
        | none=>rfl
        | some c=>
          simp only [Option.bind_some,decide_eq_true_eq]
          split<;>rfl
theorem zei {fuel:Nat}{ow:List Int}{at_:List D.Address}{S:List D.Shard}{R:D.Address}{p:D.Port}{a:D.Address}:zQ fuel ⟨(),ow,⟨S,R⟩,at_⟩ p a=(setO at_ S R p a).map fun r=>⟨(),ow,⟨r.1,r.2⟩,at_⟩:=by
  unfold zQ setO
  by_cases h:p.Agent=0
  · rw [if_pos (by simpa using h),if_pos h];rfl
  · rw [if_neg (by simpa using h),if_neg h]
    dsimp only
    cases idx at_ p.Agent with
    | none=>rfl
    | some x=>
      simp only [Option.bind_some]
      cases idx S x.Machine with
      | none=>rfl
      | some s=>
        simp only [Option.bind_some]
        cases idx s.Cells x.Index with
        | none=>rfl
        | some c=>
          simp only [Option.bind_some,decide_eq_true_eq]
          split<;>rfl
def prinN (p:D.Port):Bool:=decide (p.Slot=0) && decide (p.Agent>0)
theorem zfg {fuel:Nat}{p:D.Port}:zx fuel p=some (prinN p):=by
  unfold zx prinN
  by_cases h:p.Slot=0<;>simp [h]
def wireO (ow:List Int) (at_:List D.Address) (S:List D.Shard) (R:D.Address) (p q:D.Port):Option (List D.Shard × D.Address):=
  if(prinN p && prinN q)=true then(idx ow p.Agent).bind fun o=>(idx S o).bind fun s=>(idx at_ p.Agent).bind fun x=>(idx at_ q.Agent).bind fun y=>
    if decide ((s.Redexes.length:Int)+(([(⟨x,y⟩:D.ShardRedex)]:List D.ShardRedex).length:Int)≤4294967296)=true then some (S.set o.toNat ⟨s.Cells,s.Vars,s.Redexes++[⟨x,y⟩]⟩,R) else none
  else if prinN p=true then(idx at_ p.Agent).bind fun x=>setO at_ S R q x
  else if prinN q=true then(idx at_ q.Agent).bind fun x=>setO at_ S R p x
  else(idx ow p.Agent).bind fun o=>(idx S o).bind fun s=>
    if decide ((s.Vars.length:Int)+(([(⟨true,false,⟨0,0,0⟩⟩:D.ShardVar)]:List D.ShardVar).length:Int)≤4294967296)=true then(setO at_ (S.set o.toNat ⟨s.Cells,s.Vars++[⟨true,false,⟨0,0,0⟩⟩],s.Redexes⟩) R p ⟨o,2,s.Vars.length⟩).bind fun r=>setO at_ r.1 r.2 q ⟨o,2,s.Vars.length⟩ else none
theorem zcA {fuel:Nat}{ow:List Int}{at_:List D.Address}{S:List D.Shard}{R:D.Address}{p q:D.Port}{o:Int}{s:D.Shard}(ho:idx ow p.Agent=some o) (hs:idx S o=some s):
    z28 fuel ⟨(),ow,⟨S,R⟩,at_⟩ p q=(wireO ow at_ S R p q).map fun r=>⟨(),ow,⟨r.1,r.2⟩,at_⟩:=by
  unfold z28 z1c z2c z4U wireO
  generalize (4294967296:Int)=B
  dsimp only
  simp -implicitDefEqProofs only [ho,hs,zfg,Option.bind_some,zei]
  cases prinN p with
  | true=>
    cases prinN q with
    | true=>
      simp -implicitDefEqProofs only [if_true,Bool.and_self]
      cases idx at_ p.Agent with
      | none=>rfl
      | some x=>
        simp -implicitDefEqProofs only [Option.bind_some]
        cases idx at_ q.Agent with
        | none=>rfl
        | some y=>
          simp -implicitDefEqProofs only [Option.bind_some]
          split<;>rfl
    | false=>
      simp -implicitDefEqProofs only [if_true,Bool.and_false,Bool.false_eq_true,if_false]
      cases idx at_ p.Agent with
      | none=>rfl
      | some x=>
        simp -implicitDefEqProofs only [Option.bind_some]
        cases setO at_ S R q x<;>rfl
  | false=>
    simp -implicitDefEqProofs only [Bool.false_eq_true,if_false,Bool.false_and]
    cases prinN q with
    | true=>
      simp -implicitDefEqProofs only [if_true]
      cases idx at_ q.Agent with
      | none=>rfl
      | some x=>
        simp -implicitDefEqProofs only [Option.bind_some]
        cases setO at_ S R p x<;>rfl
    | false=>
      simp -implicitDefEqProofs only [Bool.false_eq_true,if_false]
      by_cases hl:decide ((s.Vars.length:Int)+(([⟨true,false,⟨0,0,0⟩⟩]:List D.ShardVar).length:Int)≤B)=true
      · rw [if_pos hl,if_pos hl]
        change ((Option.map _ (setO at_ (S.set o.toNat ⟨s.Cells,s.Vars++[⟨true,false,⟨0,0,0⟩⟩],s.Redexes⟩) R p ⟨o,2,(s.Vars.length:Int)⟩)).bind _)=_
        cases setO at_ (S.set o.toNat ⟨s.Cells,s.Vars++[⟨true,false,⟨0,0,0⟩⟩],s.Redexes⟩) R p ⟨o,2,(s.Vars.length:Int)⟩ with
        | none=>rfl
        | some r=>
          simp -implicitDefEqProofs only [Option.map_some,Option.bind_some]
          change ((Option.map _ (setO at_ r.1 r.2 q ⟨o,2,(s.Vars.length:Int)⟩)).bind _)=_
          cases setO at_ r.1 r.2 q ⟨o,2,(s.Vars.length:Int)⟩<;>rfl
      · rw [if_neg hl,if_neg hl];rfl
theorem zcy {fuel:Nat}{ow:List Int}{at_:List D.Address}{S0 S:List D.Shard}{R:D.Address}{ws:List D.Wire}{i:Nat}{w:D.Wire}(hw:ws[i]? = some w):
    zY fuel ow (at_,S0) ws ((i:Int),S,R.Machine,R.Kind,R.Index)=(wireO ow at_ S R w.A w.B).map fun r=>.next (w64 ((i:Int)+1),r.1,r.2.Machine,r.2.Kind,r.2.Index):=by
  have hil:=(List.getElem?_eq_some_iff.1 hw).1
  have key:zY fuel ow (at_,S0) ws ((i:Int),S,R.Machine,R.Kind,R.Index)=z1G fuel ow (at_,S0) ((i:Int),S,R.Machine,R.Kind,R.Index) w w (prinN w.A) (prinN w.B) (prinN w.A && prinN w.B):=by
    unfold zY z2O z2N prinN
    dsimp only
    rw [if_pos (by simpa using hil),zy hw,Option.bind_some,Option.bind_some]
    by_cases h1:w.A.Slot=0<;>by_cases h2:w.B.Slot=0<;>by_cases h3:w.A.Agent>0<;>by_cases h4:w.B.Agent>0<;>simp [h1,h2,h3,h4]
  rw [key]
  unfold z1G z18 z1r z2k wireO
  generalize (4294967296:Int)=B
  dsimp only
  unfold z18 z1r
  dsimp only
  unfold z18
  dsimp only
  have eR:(⟨R.Machine,R.Kind,R.Index⟩:D.Address)=R:=rfl
  simp -implicitDefEqProofs only [eR,zeh]
  cases prinN w.A with
  | true=>
    cases prinN w.B with
    | true=>
      simp -implicitDefEqProofs only [if_true,Bool.and_self]
      cases idx ow w.A.Agent with
      | none=>rfl
      | some o=>
        simp -implicitDefEqProofs only [Option.bind_some]
        cases idx S o with
        | none=>rfl
        | some s=>
          simp -implicitDefEqProofs only [Option.bind_some]
          cases idx at_ w.A.Agent with
          | none=>rfl
          | some x=>
            simp -implicitDefEqProofs only [Option.bind_some]
            cases idx at_ w.B.Agent with
            | none=>rfl
            | some y=>
              simp -implicitDefEqProofs only [Option.bind_some]
              split<;>rfl
    | false=>
      simp -implicitDefEqProofs only [if_true,Bool.and_false,Bool.false_eq_true,if_false]
      cases idx at_ w.A.Agent with
      | none=>rfl
      | some x=>
        simp -implicitDefEqProofs only [Option.bind_some]
        cases setO at_ S R w.B x<;>rfl
  | false=>
    simp -implicitDefEqProofs only [Bool.false_eq_true,if_false,Bool.false_and]
    cases prinN w.B with
    | true=>
      simp -implicitDefEqProofs only [if_true]
      cases idx at_ w.B.Agent with
      | none=>rfl
      | some x=>
        simp -implicitDefEqProofs only [Option.bind_some]
        cases setO at_ S R w.A x<;>rfl
    | false=>
      simp -implicitDefEqProofs only [Bool.false_eq_true,if_false]
      cases ho:idx ow w.A.Agent with
      | none=>rfl
      | some o=>
        simp -implicitDefEqProofs only [Option.bind_some]
        cases idx S o with
        | none=>rfl
        | some s=>
          simp -implicitDefEqProofs only [Option.bind_some]
          by_cases hl:decide ((s.Vars.length:Int)+(([⟨true,false,⟨0,0,0⟩⟩]:List D.ShardVar).length:Int)≤B)=true
          · rw [if_pos hl,if_pos hl]
            change ((Option.map _ (setO at_ (S.set o.toNat ⟨s.Cells,s.Vars++[⟨true,false,⟨0,0,0⟩⟩],s.Redexes⟩) R w.A ⟨o,2,(s.Vars.length:Int)⟩)).bind _)=_
            cases setO at_ (S.set o.toNat ⟨s.Cells,s.Vars++[⟨true,false,⟨0,0,0⟩⟩],s.Redexes⟩) R w.A ⟨o,2,(s.Vars.length:Int)⟩ with
            | none=>rfl
            | some r=>
              simp -implicitDefEqProofs only [Option.map_some,Option.bind_some]
              change ((Option.map _ (setO at_ r.1 r.2 w.B ⟨o,2,(s.Vars.length:Int)⟩)).bind _)=_
              cases setO at_ r.1 r.2 w.B ⟨o,2,(s.Vars.length:Int)⟩<;>rfl
          · rw [if_neg hl,if_neg hl];rfl


structure Inv (n:D.Net) (ow:List Int) (k i:Nat) (at_:List D.Address) (S:List D.Shard) (m:Nat):Prop where
  len:S.length=k
  cell:∀ j a,1≤j→j<i→n.Agents[j]? = some a→∃ (o c:Nat) (s:D.Shard) (x:D.ShardCell),at_[j]? = some ⟨o,1,c⟩∧S[o]? = some s∧s.Cells[c]? = some x∧x.Aux.length=a.Ports.length - 1
  good:∀ s,s∈S→(∀ c,c∈s.Cells→shCellN c=true)∧∀ v,v∈s.Vars→shVarN v=true
  size:sumL D.Shard.sz S≤m
theorem Inv.upd {n:D.Net}{ow:List Int}{k i:Nat}{at_:List D.Address}{S:List D.Shard}{m o d:Nat}{s s2:D.Shard}(h:Inv n ow k i at_ S m) (hs:S[o]? = some s)
    (hc:∀ (c:Nat) (x:D.ShardCell),s.Cells[c]? = some x→∃ x':D.ShardCell,s2.Cells[c]? = some x'∧x'.Aux.length=x.Aux.length) (hg:(∀ c,c∈s2.Cells→shCellN c=true)∧∀ v,v∈s2.Vars→shVarN v=true) (hz:s2.sz≤s.sz+d):
    Inv n ow k i at_ (S.set o s2) (m+d):=by
  refine⟨by rw [List.length_set];exact h.len,fun j a h1 h2 h3=>?_,fun z hz=>?_,?_⟩
  · obtain⟨o',c,s',x,e1,e2,e3,e4⟩:=h.cell j a h1 h2 h3
    have e:=zbr (y:=s2) hs e2
    by_cases ho:o=o'
    · subst ho
      rw [hs] at e2;cases e2
      obtain⟨x',f1,f2⟩:=hc c x e3
      exact⟨o,c,s2,x',e1,by rw [e,if_pos rfl],f1,by rw [f2,e4]⟩
    · exact⟨o',c,s',x,e1,by rw [e,if_neg ho],e3,e4⟩
  · rcases zcL hz with rfl | hz
    · exact hg
    · exact h.good z hz
  · have:=z8c (f:=D.Shard.sz) (y:=s2) hs
    have:=h.size
    omega
theorem zf4 {x:D.ShardCell}{j:Nat}{a:D.Address}(h:shCellN x=true) (hj:j<x.Aux.length):shCellN ⟨x.Kind,x.Level,x.Value,x.Data,x.Aux.set j a⟩=true:=by
  unfold shCellN at h ⊢
  by_cases h0:x.Kind=0
  · rw [if_pos h0,decide_eq_true_eq] at h
    rw [h.2.2.2] at hj
    simp at hj
  · rw [if_neg h0] at h ⊢
    have:agentOf ⟨x.Kind,x.Level,x.Value,x.Data,x.Aux.set j a⟩=agentOf x:=by unfold agentOf;simp
    rw [this]
    exact h
theorem zbO {n:D.Net}{ow:List Int}{k:Nat}{at_:List D.Address}{S:List D.Shard}{R a:D.Address}{m:Nat}{p:D.Port}(h:Inv n ow k n.Agents.length at_ S m) (hp:hasN n.Agents p=true) (hl:n.Agents.length≤1048576) (hz:∀ a,a∈n.Agents→a.Ports.length≤1048576) (hs:prinN p=false):
    ∃ r,setO at_ S R p a=some r∧Inv n ow k n.Agents.length at_ r.1 m∧(∀ (o:Nat) s,S[o]? = some s→∃ s',r.1[o]? = some s'):=by
  obtain⟨p1,p2,b,q,p3,p4,p5,p6,p7,p8⟩:=z8w hp
  unfold setO
  by_cases h0:p.Agent=0
  · rw [if_pos h0]
    exact⟨_,rfl,h,fun o s hs=>⟨s,hs⟩⟩
  · rw [if_neg h0]
    have hslot:1≤p.Slot:=by
      unfold prinN at hs
      by_cases h1:p.Slot=0
      · simp [h1] at hs;omega
      · omega
    obtain⟨o,c,s,x,e1,e2,e3,e4⟩:=h.cell p.Agent.toNat b (by omega) (by omega) p3
    have hb:=hz b (List.mem_of_getElem? p3)
    have ea:idx at_ p.Agent=some ⟨o,1,c⟩:=by rw [z61 p1,e1]
    have es:idx S (o:Int)=some s:=by rw [z61 (by omega)];simpa using e2
    have ec:idx s.Cells (c:Int)=some x:=by rw [z61 (by omega)];simpa using e3
    rw [ea,Option.bind_some]
    dsimp only
    rw [es,Option.bind_some,ec,Option.bind_some,zC (n:=p.Slot - 1) (by omega) (by omega),if_pos ⟨by omega,by omega⟩]
    refine⟨_,rfl,?_,fun o' s' hs'=>?_⟩
    · simp only [Int.toNat_natCast]
      have hgx:=(h.good s (List.mem_of_getElem? e2)).1 x (List.mem_of_getElem? e3)
      have key:=h.upd (d:=0) (s2:=⟨s.Cells.set c ⟨x.Kind,x.Level,x.Value,x.Data,x.Aux.set (p.Slot - 1).toNat a⟩,s.Vars,s.Redexes⟩) e2 (fun c' x' hx'=>by
        have e:=zbr (y:=(⟨x.Kind,x.Level,x.Value,x.Data,x.Aux.set (p.Slot - 1).toNat a⟩:D.ShardCell)) e3 hx'
        refine⟨_,e,?_⟩
        by_cases hcc:c=c'
        · subst hcc
          rw [e3] at hx';cases hx'
          rw [if_pos rfl]
          simp
        · rw [if_neg hcc]) ⟨fun z hz=>by
          rcases zcL hz with rfl | hz
          · exact zf4 hgx (by omega)
          · exact(h.good s (List.mem_of_getElem? e2)).1 z hz,(h.good s (List.mem_of_getElem? e2)).2⟩ (by
          unfold D.Shard.sz szL
          dsimp only
          have e:=z8c (f:=D.ShardCell.sz) (y:=(⟨x.Kind,x.Level,x.Value,x.Data,x.Aux.set (p.Slot - 1).toNat a⟩:D.ShardCell)) e3
          have e9:D.ShardCell.sz ⟨x.Kind,x.Level,x.Value,x.Data,x.Aux.set (p.Slot - 1).toNat a⟩=D.ShardCell.sz x:=by unfold D.ShardCell.sz;simp
          rw [e9] at e
          rw [List.length_set]
          omega)
      rw [Nat.add_zero] at key
      exact key
    · simp only [Int.toNat_natCast]
      exact⟨_,zbr e2 hs'⟩
end Go.E


namespace Go.E
open Go.RowKit Go.Proofs
set_option linter.unusedSimpArgs false
set_option linter.unusedVariables false


theorem foldLoop {α σ S τ ρ:Type}{xs:List α}{body:S→Option (Rd S τ ρ)}{mk:Int→σ→S}{out:σ→τ}{g:σ→α→σ}{p:α→Bool}{J:Nat→σ→Prop}{v:ρ}{s0:σ}{fuel:Nat}
    (hl:xs.length≤maxLen) (hf:18446744073709551616≤fuel) (hJ:J 0 s0)
    (keep:∀ (i:Nat) s x,xs[i]? = some x→p x=true→J i s→J (i+1) (g s x))
    (step:∀ (i:Nat) s x,i<xs.length→xs[i]? = some x→J i s→body (mk i s)=if p x=true then some (.next (mk (w64 (i+1)) (g s x))) else some (.ret v))
    (last:∀ s,J xs.length s→body (mk xs.length s)=some (.brk (out s))):
    iter body fuel (mk 0 s0)=some (if xs.all p=true then .inl (out (xs.foldl g s0)) else .inr v)∧(xs.all p=true→J xs.length (xs.foldl g s0)):=by
  have hm:maxLen=9223372036854775807:=rfl
  obtain⟨o,h2,h3⟩:=z2K (body:=body) (fun i s=>s=mk i ((xs.take i).foldl g s0)∧(xs.take i).all p=true∧J i ((xs.take i).foldl g s0)) xs.length
    (fun o=>o=(if xs.all p=true then .inl (out (xs.foldl g s0)) else .inr v)∧(xs.all p=true→J xs.length (xs.foldl g s0))) (by
    rintro i s hi ⟨rfl,ha,hj⟩
    obtain⟨x,hx⟩:=z5i hi
    have hs:=step i _ x hi hx hj
    cases hp:p x with
    | false=>
      rw [hp,if_neg (by simp)] at hs
      have:xs.all p=false:=by
        rw [List.all_eq_false];exact⟨x,List.mem_of_getElem? hx,by rw [hp];simp⟩
      exact .inr (.inl ⟨_,hs,by rw [this];rfl,fun h=>by rw [this] at h;cases h⟩)
    | true=>
      rw [hp,if_pos rfl] at hs
      refine .inl ⟨_,hs,?_,?_,?_⟩
      · rw [zC (by omega) (by omega),List.take_add_one,hx];simp
      · rw [List.take_add_one,hx];simp [ha,hp]
      · rw [List.take_add_one,hx];simpa using keep i _ x hx hp hj) (by
    rintro s ⟨rfl,ha,hj⟩
    rw [List.take_length] at ha hj
    refine .inr ⟨_,by rw [List.take_length];exact last _ hj,?_,fun _=>hj⟩
    rw [if_pos ha]) (fuel:=fuel) (i:=0) (s:=mk 0 s0) (Nat.zero_le _) (by omega) ⟨rfl,rfl,hJ⟩
  exact⟨by rw [h2,h3.1],h3.2⟩

theorem zcz {n:D.Net}{ow:List Int}{k:Nat}{at_:List D.Address}{S:List D.Shard}{R:D.Address}{m:Nat}{p q:D.Port}(h:Inv n ow k n.Agents.length at_ S m) (hp:hasN n.Agents p=true) (hq:hasN n.Agents q=true) (hl:n.Agents.length≤1048576) (hz:∀ a,a∈n.Agents→a.Ports.length≤1048576) (hm:m≤1048576)
    (ho:∃ (o:Nat) (s:D.Shard),idx ow p.Agent=some (o:Int)∧S[o]? = some s):∃ r,wireO ow at_ S R p q=some r∧Inv n ow k n.Agents.length at_ r.1 (m+1):=by
  obtain⟨o,s,o1,o2⟩:=ho
  have os:idx S (o:Int)=some s:=by rw [z61 (by omega)];simpa using o2
  have hsz:s.sz≤1048576:=Nat.le_trans (z6f (f:=D.Shard.sz) (List.mem_of_getElem? o2)) (Nat.le_trans h.size hm)
  obtain⟨z1,z2,z3,z4⟩:=zbN hsz
  have mono:∀ {S':List D.Shard},Inv n ow k n.Agents.length at_ S' m→Inv n ow k n.Agents.length at_ S' (m+1):=fun h=>⟨h.len,h.cell,h.good,Nat.le_succ_of_le h.size⟩
  have hat:∀ {r:D.Port},hasN n.Agents r=true→prinN r=true→∃ x,idx at_ r.Agent=some x:=fun {r} hr hpr=>by
    obtain⟨p1,p2,b,q',p3,p4,p5,p6,p7,p8⟩:=z8w hr
    have hpos:r.Agent>0:=by
      unfold prinN at hpr
      simp only [Bool.and_eq_true,decide_eq_true_eq] at hpr
      exact hpr.2
    obtain⟨o',c,s',x,e1,_⟩:=h.cell r.Agent.toNat b (by omega) (by omega) p3
    exact⟨_,by rw [z61 p1,e1]⟩
  unfold wireO
  cases hpp:prinN p with
  | true=>
    obtain⟨x,hx⟩:=hat hp hpp
    cases hqq:prinN q with
    | true=>
      obtain⟨y,hy⟩:=hat hq hqq
      rw [if_pos rfl,o1,Option.bind_some,os,Option.bind_some,hx,Option.bind_some,hy,Option.bind_some,if_pos (decide_eq_true (by simp only [List.length_cons,List.length_nil];omega))]
      refine⟨_,rfl,?_⟩
      dsimp only
      rw [Int.toNat_natCast]
      exact h.upd o2 (fun c x hx=>⟨x,hx,rfl⟩) (h.good s (List.mem_of_getElem? o2)) (by unfold D.Shard.sz;simp;omega)
    | false=>
      rw [if_neg (by simp),if_pos rfl,hx,Option.bind_some]
      obtain⟨r,r1,r2,_⟩:=zbO (R:=R) (a:=x) h hq hl hz hqq
      exact⟨r,r1,mono r2⟩
  | false=>
    rw [if_neg (by simp),if_neg (by simp)]
    cases hqq:prinN q with
    | true=>
      obtain⟨y,hy⟩:=hat hq hqq
      rw [if_pos rfl,hy,Option.bind_some]
      obtain⟨r,r1,r2,_⟩:=zbO (R:=R) (a:=y) h hp hl hz hpp
      exact⟨r,r1,mono r2⟩
    | false=>
      rw [if_neg (by simp),o1,Option.bind_some,os,Option.bind_some,if_pos (decide_eq_true (by simp only [List.length_cons,List.length_nil];omega)),Int.toNat_natCast]
      have h2:Inv n ow k n.Agents.length at_ (S.set o ⟨s.Cells,s.Vars++[⟨true,false,⟨0,0,0⟩⟩],s.Redexes⟩) (m+1):=h.upd o2 (fun c x hx=>⟨x,hx,rfl⟩) ⟨(h.good s (List.mem_of_getElem? o2)).1,fun v hv=>by
        rcases List.mem_append.1 hv with hv | hv
        · exact(h.good s (List.mem_of_getElem? o2)).2 v hv
        · rw [List.mem_singleton.1 hv];rfl⟩ (by unfold D.Shard.sz;simp;omega)
      obtain⟨r,r1,r2,_⟩:=zbO (R:=R) (a:=⟨o,2,s.Vars.length⟩) h2 hp hl hz hpp
      rw [r1,Option.bind_some]
      obtain⟨t,t1,t2,_⟩:=zbO (R:=r.2) (a:=⟨o,2,s.Vars.length⟩) r2 hq hl hz hqq
      exact⟨t,t1,t2⟩


def wireT (ow:List Int) (at_:List D.Address) (S:List D.Shard × D.Address) (w:D.Wire):List D.Shard × D.Address:=(wireO ow at_ S.1 S.2 w.A w.B).getD S
def portT (n:D.Net) (ow:List Int) (at_:List D.Address) (S:List D.Shard × D.Address) (p:D.Port):List D.Shard × D.Address:=match portAt n p with
  | some q=>if befN p q=true then(wireO ow at_ S.1 S.2 p q).getD S else S
  | none=>S
theorem zaR {α β σ:Type}{f:α→List β}{g:σ→β→σ}:∀ (xs:List α) (s:σ),(xs.flatMap f).foldl g s=xs.foldl (fun s x=>(f x).foldl g s) s
  | [],s=>rfl
  | x::xs,s=>by rw [List.flatMap_cons,List.foldl_append,List.foldl_cons,zaR xs]
theorem zcn {n:D.Net}{ow:List Int}{at_:List D.Address}{S:List D.Shard × D.Address}:(wiresL n).foldl (wireT ow at_) S=(portsL n).foldl (portT n ow at_) S:=by
  unfold wiresL
  rw [zaR]
  congr 1
  funext s p
  unfold wireAt portT
  cases portAt n p with
  | none=>rfl
  | some q=>
    dsimp only
    by_cases hb:befN p q=true
    · rw [if_pos hb,if_pos hb];rfl
    · rw [if_neg hb,if_neg hb];rfl
theorem zee {n:D.Net}(hn:netN n=true){w:D.Wire}(h:w∈wiresL n):hasN n.Agents w.A=true∧hasN n.Agents w.B=true:=by
  unfold wiresL at h
  obtain⟨p,hp,hw⟩:=List.mem_flatMap.1 h
  have hh:hasN n.Agents p=true:=by
    obtain⟨i,a,k,h1,h2,rfl⟩:=z7c.1 hp
    exact(zcY (l:=n.Agents) (p:=prt i k)).2 ⟨by simp [prt],by simp [prt],a,by simpa [prt] using h1,by simpa [prt] using h2⟩
  unfold wireAt at hw
  cases hq:portAt n p with
  | none=>rw [hq] at hw;simp at hw
  | some q=>
    rw [hq] at hw
    dsimp only at hw
    by_cases hb:befN p q=true
    · rw [if_pos hb,List.mem_singleton] at hw
      subst hw
      exact⟨hh,(zbP hn hh hq).2.1⟩
    · rw [if_neg hb] at hw;simp at hw
def ownsN (n:D.Net) (ow:List Int) (k:Nat):Prop:=ow.length=n.Agents.length∧∀ (j:Nat) (o:Int),ow[j]? = some o→0≤o∧o<(k:Int)
theorem zfh {n:D.Net}{ow:List Int}{k:Nat}{S:List D.Shard}(h:ownsN n ow k) (hS:S.length=k){i:Int}(h0:0≤i) (h1:i.toNat<n.Agents.length):∃ (o:Nat) (s:D.Shard),idx ow i=some (o:Int)∧S[o]? = some s:=by
  obtain⟨o,ho⟩:=z5i (xs:=ow) (i:=i.toNat) (by rw [h.1];exact h1)
  obtain⟨a,b⟩:=h.2 _ _ ho
  obtain⟨s,hs⟩:=z5i (xs:=S) (i:=o.toNat) (by omega)
  exact⟨o.toNat,s,by rw [z61 h0,ho,Int.toNat_of_nonneg a],hs⟩
theorem za9 {n:D.Net}{ow:List Int}{k:Nat}{S:List D.Shard}(h:ownsN n ow k) (hS:S.length=k){p:D.Port}(hp:hasN n.Agents p=true):∃ (o:Nat) (s:D.Shard),idx ow p.Agent=some (o:Int)∧S[o]? = some s:=by
  obtain⟨p1,p2,b,q,p3,_⟩:=z8w hp
  exact zfh h hS p1 (List.getElem?_eq_some_iff.1 p3).1

theorem zc6 {n:D.Net}{ow:List Int}{k:Nat}{at_:List D.Address}{S0 S:List D.Shard}{R:D.Address}{m fuel:Nat}(hf:18446744073709551616≤fuel) (hn:netN n=true) (h:Inv n ow k n.Agents.length at_ S m) (hl:n.Agents.length≤1048576) (hz:∀ a,a∈n.Agents→a.Ports.length≤1048576) (ho:ownsN n ow k) (hm:m+(wiresL n).length≤1048576):
    iter (zY fuel ow (at_,S0) (wiresL n)) fuel (0,S,R.Machine,R.Kind,R.Index)=some (.inl (((wiresL n).foldl (wireT ow at_) (S,R)).1,((wiresL n).foldl (wireT ow at_) (S,R)).2.Machine,((wiresL n).foldl (wireT ow at_) (S,R)).2.Kind,((wiresL n).foldl (wireT ow at_) (S,R)).2.Index))∧
    Inv n ow k n.Agents.length at_ ((wiresL n).foldl (wireT ow at_) (S,R)).1 (m+(wiresL n).length):=by
  have hmx:maxLen=9223372036854775807:=rfl
  have hstep:∀ (i:Nat) (s:List D.Shard × D.Address) w,(wiresL n)[i]? = some w→Inv n ow k n.Agents.length at_ s.1 (m+i)→∃ r,wireO ow at_ s.1 s.2 w.A w.B=some r∧Inv n ow k n.Agents.length at_ r.1 (m+(i+1)):=fun i s w hw hJ=>by
    have hil:=(List.getElem?_eq_some_iff.1 hw).1
    obtain⟨g1,g2⟩:=zee hn (List.mem_of_getElem? hw)
    exact zcz (m:=m+i) hJ g1 g2 hl hz (by omega) (za9 ho hJ.len g1)
  have key:=foldLoop (xs:=wiresL n) (body:=zY fuel ow (at_,S0) (wiresL n)) (mk:=fun i (s:List D.Shard × D.Address)=>(i,s.1,s.2.Machine,s.2.Kind,s.2.Index)) (out:=fun s=>(s.1,s.2.Machine,s.2.Kind,s.2.Index)) (g:=wireT ow at_) (p:=fun _=>true) (J:=fun i s=>Inv n ow k n.Agents.length at_ s.1 (m+i)) (v:=((⟨[],⟨0,0,0⟩⟩:D.Grid),(0:Int))) (s0:=(S,R)) (fuel:=fuel) (by omega) hf h
    (fun i s w hw _ hJ=>by
      obtain⟨r,r1,r2⟩:=hstep i s w hw hJ
      unfold wireT
      rw [r1];exact r2)
    (fun i s w hi hw hJ=>by
      obtain⟨r,r1,r2⟩:=hstep i s w hw hJ
      rw [zcy hw,r1,if_pos rfl]
      unfold wireT
      rw [r1];rfl)
    (fun s _=>by unfold zY;rw [if_neg (by simp)])
  rw [List.all_eq_true.2 (fun _ _=>rfl)] at key
  exact⟨key.1.trans (by rw [if_pos rfl]),key.2 rfl⟩
theorem zci {n:D.Net}{ow:List Int}{k:Nat}{at_:List D.Address}{S:List D.Shard}{R:D.Address}{m fuel:Nat}(hf:18446744073709551616≤fuel) (hn:netN n=true) (h:Inv n ow k n.Agents.length at_ S m) (hl:n.Agents.length≤1048576) (hz:∀ a,a∈n.Agents→a.Ports.length≤1048576) (ho:ownsN n ow k) (hm:m+(portsL n).length≤1048576):
    iter (z1Q fuel n ow (portsL n)) fuel (0,R.Machine,R.Kind,R.Index,S,at_)=some (.inl (((portsL n).foldl (portT n ow at_) (S,R)).2.Machine,((portsL n).foldl (portT n ow at_) (S,R)).2.Kind,((portsL n).foldl (portT n ow at_) (S,R)).2.Index,((portsL n).foldl (portT n ow at_) (S,R)).1,at_)):=by
  have hmx:maxLen=9223372036854775807:=rfl
  have hstep:∀ (i:Nat) (s:List D.Shard × D.Address) p,(portsL n)[i]? = some p→Inv n ow k n.Agents.length at_ s.1 (m+i)→∃ q,portAt n p=some q∧(befN p q=true→∃ r,wireO ow at_ s.1 s.2 p q=some r∧Inv n ow k n.Agents.length at_ r.1 (m+(i+1)))∧∃ (o:Nat) (sh:D.Shard),idx ow p.Agent=some (o:Int)∧s.1[o]? = some sh:=fun i s p hp hJ=>by
    have hil:=(List.getElem?_eq_some_iff.1 hp).1
    have g1:hasN n.Agents p=true:=by
      obtain⟨i,a,k,h1,h2,rfl⟩:=z7c.1 (List.mem_of_getElem? hp)
      exact(zcY (l:=n.Agents) (p:=prt i k)).2 ⟨by simp [prt],by simp [prt],a,by simpa [prt] using h1,by simpa [prt] using h2⟩
    obtain⟨q,hq⟩:=zez g1
    have g2:=(zbP hn g1 hq).2.1
    exact⟨q,hq,fun _=>zcz (m:=m+i) hJ g1 g2 hl hz (by omega) (za9 ho hJ.len g1),za9 ho hJ.len g1⟩
  have key:=foldLoop (xs:=portsL n) (body:=z1Q fuel n ow (portsL n)) (mk:=fun i (s:List D.Shard × D.Address)=>(i,s.2.Machine,s.2.Kind,s.2.Index,s.1,at_)) (out:=fun s=>(s.2.Machine,s.2.Kind,s.2.Index,s.1,at_)) (g:=portT n ow at_) (p:=fun _=>true) (J:=fun i s=>Inv n ow k n.Agents.length at_ s.1 (m+i)) (v:=((⟨[],⟨0,0,0⟩⟩:D.Grid),(0:Int))) (s0:=(S,R)) (fuel:=fuel) (by omega) hf h
    (fun i s p hp _ hJ=>by
      obtain⟨q,q1,q2,_⟩:=hstep i s p hp hJ
      unfold portT
      rw [q1]
      dsimp only
      by_cases hb:befN p q=true
      · obtain⟨r,r1,r2⟩:=q2 hb
        rw [if_pos hb,r1];exact r2
      · rw [if_neg hb]
        exact⟨hJ.len,hJ.cell,hJ.good,Nat.le_trans hJ.size (by omega)⟩)
    (fun i s p hi hp hJ=>by
      obtain⟨q,q1,q2,o,sh,o1,o2⟩:=hstep i s p hp hJ
      have os:idx s.1 (o:Int)=some sh:=by rw [z61 (by omega)];simpa using o2
      have hw:=zcA (fuel:=fuel) (at_:=at_) (R:=s.2) (q:=q) o1 os
      unfold z1Q z3d portT
      dsimp only
      rw [if_pos (by simpa using hi),zy hp,Option.bind_some,z9f,q1,Option.bind_some,zbE,Option.bind_some]
      dsimp only
      by_cases hb:befN p q=true
      · obtain⟨r,r1,r2⟩:=q2 hb
        rw [r1] at hw
        have eR:(⟨s.2.Machine,s.2.Kind,s.2.Index⟩:D.Address)=s.2:=rfl
        rw [if_pos hb,if_pos hb,eR,hw,r1];rfl
      · rw [if_neg hb,if_neg hb];rfl)
    (fun s _=>by unfold z1Q;rw [if_neg (by simp)])
  rw [List.all_eq_true.2 (fun _ _=>rfl)] at key
  exact key.1.trans (by rw [if_pos rfl])
end Go.E


namespace Go.E
open Go.RowKit Go.Proofs
set_option linter.unusedSimpArgs false
set_option linter.unusedVariables false

theorem zbL {α:Type}{f:α→Nat}:∀ (xs ys:List α),sumL f (xs++ys)=sumL f xs+sumL f ys
  | [],ys=>by simp [sumL]
  | x::xs,ys=>by simp only [List.cons_append,sumL,zbL xs ys];omega
theorem zcK {α:Type}{f:α→Nat}{b:Nat}:∀ {xs:List α},(∀ x,x∈xs→f x≤b)→sumL f xs≤b*xs.length
  | [],_=>Nat.le_refl _
  | x::xs,h=>by
    have h1:=h x (by simp)
    have h2:=zcK (xs:=xs) fun y hy=>h y (List.mem_cons_of_mem _ hy)
    simp only [sumL,List.length_cons,Nat.mul_succ]
    omega
def cellOf (a:D.Agent):D.ShardCell:=⟨a.Kind,a.Level,a.Value,a.Data,List.replicate (a.Ports.length - 1) ⟨0,0,0⟩⟩
def addT (s:List D.Address × List D.Shard) (x:D.Agent × Int):List D.Address × List D.Shard:=match s.2[x.2.toNat]? with
  | some h=>(s.1++[⟨x.2,1,h.Cells.length⟩],s.2.set x.2.toNat ⟨h.Cells++[cellOf x.1],h.Vars,h.Redexes⟩)
  | none=>s
def restL (n:D.Net) (ow:List Int):List (D.Agent × Int):=(n.Agents.zip ow).drop 1
theorem zbv {n:D.Net}{ow:List Int}{i:Nat}{x:D.Agent × Int}(h:(restL n ow)[i]? = some x):n.Agents[i+1]? = some x.1∧ow[i+1]? = some x.2:=by
  unfold restL at h
  rw [List.getElem?_drop,List.getElem?_zip_eq_some,Nat.add_comm] at h
  exact h
theorem ze4 {a:D.Agent}(h:agN a=true):a.Data.length≤4:=by
  unfold agN agentN at h
  rw [Bool.and_eq_true,Bool.and_eq_true,Bool.and_eq_true] at h
  have h2:=h.2.2.2
  unfold contentN at h2
  repeat' split at h2
  all_goals simp only [Bool.and_eq_true,decide_eq_true_eq] at h2
  all_goals omega
theorem ze7 {a:D.Agent}(h:agN a=true) (h1:a.Kind≠1):shCellN (cellOf a)=true∧(cellOf a).sz≤7:=by
  have hp:=zc3 h
  have hl:=zea h
  have hd:=ze4 h
  constructor
  · have hk:a.Kind≠0:=by
      intro h0
      unfold agN agentN allowN at h
      rw [h0] at h
      simp at h
    unfold shCellN
    rw [if_neg (by simpa [cellOf] using hk)]
    have e:agN (agentOf (cellOf a))=agN a:=by
      unfold agN agentOf cellOf
      dsimp only
      simp only [List.length_replicate]
      rw [show a.Ports.length - 1+1=a.Ports.length by omega]
    rw [e,h,Bool.and_true]
    exact decide_eq_true h1
  · unfold D.ShardCell.sz cellOf
    dsimp only
    rw [List.length_replicate]
    omega
theorem zcU {n:D.Net}(hn:netN n=true){i:Nat}{a:D.Agent}(ha:n.Agents[i]? = some a):agN a=true∧(1≤i→a.Kind≠1):=by
  unfold netN agentsN at hn
  rw [Bool.and_eq_true,Bool.and_eq_true] at hn
  have h2:=(z7y (xs:=n.Agents) (p:=fun i a=>agN a && ((a.Kind == 1) == (i == 0)))).1 hn.1.2 _ _ ha
  rw [Bool.and_eq_true] at h2
  refine⟨h2.1,fun h1 hk=>?_⟩
  have h3:=h2.2
  rw [hk] at h3
  simp at h3
  omega
theorem z7T {n:D.Net}(hn:netN n=true):1≤n.Agents.length∧n.Agents.length≤600:=by
  unfold netN agentsN at hn
  rw [Bool.and_eq_true,Bool.and_eq_true,decide_eq_true_eq] at hn
  exact hn.1.1
theorem zep {n:D.Net}(hn:netN n=true):(portsL n).length≤2400:=by
  rw [z9S]
  have h:=zcK (f:=fun a:D.Agent=>a.Ports.length) (b:=4) (xs:=n.Agents) fun a ha=>by
    obtain⟨i,hi⟩:=List.getElem?_of_mem ha
    exact zea (zcU hn hi).1
  have:=z7T hn
  omega
structure Inv2 (n:D.Net) (ow:List Int) (k i:Nat) (s:List D.Address × List D.Shard):Prop where
  inv:Inv n ow k (i+1) s.1 s.2 (8*i)
  at_len:s.1.length=i+1
theorem zf7 {n:D.Net}{ow:List Int}{k i:Nat}{s:List D.Address × List D.Shard}{x:D.Agent × Int}(hn:netN n=true) (ho:ownsN n ow k) (h:Inv2 n ow k i s) (hx:(restL n ow)[i]? = some x):
    ∃ (o:Nat) (sh:D.Shard),x.2=(o:Int)∧s.2[o]? = some sh∧addT s x=(s.1++[⟨o,1,sh.Cells.length⟩],s.2.set o ⟨sh.Cells++[cellOf x.1],sh.Vars,sh.Redexes⟩)∧Inv2 n ow k (i+1) (addT s x):=by
  obtain⟨a,o⟩:=x
  obtain⟨h1,h2⟩:=zbv hx
  dsimp only at h1 h2 ⊢
  obtain⟨o1,o2⟩:=ho.2 _ _ h2
  obtain⟨o,rfl⟩:∃ u:Nat,o=(u:Int):=⟨o.toNat,by omega⟩
  obtain⟨sh,hsh⟩:=z5i (xs:=s.2) (i:=o) (by have:=h.inv.len;omega)
  obtain⟨g1,g2⟩:=zcU hn h1
  obtain⟨c1,c2⟩:=ze7 g1 (g2 (by omega))
  have e:addT s (a,(o:Int))=(s.1++[⟨o,1,sh.Cells.length⟩],s.2.set o ⟨sh.Cells++[cellOf a],sh.Vars,sh.Redexes⟩):=by
    unfold addT
    dsimp only
    rw [Int.toNat_natCast,hsh]
  have hgs:=h.inv.good sh (List.mem_of_getElem? hsh)
  have hol:=(List.getElem?_eq_some_iff.1 hsh).1
  have hu:=h.inv.upd (d:=8) (s2:=⟨sh.Cells++[cellOf a],sh.Vars,sh.Redexes⟩) hsh (fun c y hy=>⟨y,by rw [List.getElem?_append_left (List.getElem?_eq_some_iff.1 hy).1];exact hy,rfl⟩) ⟨fun c hc=>by
    rcases List.mem_append.1 hc with hc | hc
    · exact hgs.1 c hc
    · rw [List.mem_singleton.1 hc];exact c1,hgs.2⟩ (by
    unfold D.Shard.sz szL
    dsimp only
    rw [zbL,List.length_append]
    simp only [sumL,List.length_cons,List.length_nil]
    omega)
  refine⟨o,sh,rfl,hsh,e,?_⟩
  rw [e]
  refine⟨⟨hu.len,fun j b j1 j2 hb=>?_,hu.good,by have:=hu.size;omega⟩,by dsimp only;rw [List.length_append,h.at_len];rfl⟩
  dsimp only
  by_cases hj:j<i+1
  · obtain⟨o',c,s',y,e1,e2,e3,e4⟩:=hu.cell j b j1 hj hb
    exact⟨o',c,s',y,by rw [List.getElem?_append_left (by rw [h.at_len];exact hj)];exact e1,e2,e3,e4⟩
  · obtain rfl:j=i+1:=by omega
    rw [h1] at hb
    cases hb
    refine⟨o,sh.Cells.length,⟨sh.Cells++[cellOf a],sh.Vars,sh.Redexes⟩,cellOf a,?_,List.getElem?_set_self hol,?_,by unfold cellOf;simp⟩
    · rw [List.getElem?_append_right (by rw [h.at_len];exact Nat.le_refl _),h.at_len];simp
    · dsimp only
      rw [List.getElem?_append_right (Nat.le_refl _)];simp
def e0:D.Shard:=⟨[],[],[]⟩
theorem zbM {n:D.Net}{ow:List Int}{k:Nat}:Inv2 n ow k 0 ([⟨0,0,0⟩],List.replicate k e0):=by
  refine⟨⟨by simp,fun j a h1 h2=>by omega,fun s hs=>?_,?_⟩,rfl⟩
  · rw [List.eq_of_mem_replicate hs]
    exact⟨fun c hc=>(by cases hc),fun v hv=>(by cases hv)⟩
  · have h:=zcK (f:=D.Shard.sz) (b:=0) (xs:=List.replicate k e0) fun s hs=>by rw [List.eq_of_mem_replicate hs];exact Nat.le_refl _
    dsimp only
    omega
theorem zeq {fuel:Nat}{xs:List Int}(h:xs.length≤1048576):z5x fuel xs=some xs:=by
  unfold z5x
  rw [if_pos (by simp;omega)]
  simp
theorem zcs {fuel:Nat}{xs:List Int}(h:xs.length≤1048576):zt fuel xs=some xs:=by
  unfold zt
  rw [if_pos (by simp;omega)]
  simp
theorem zen {n:D.Net}{ow:List Int}(h:ow.length=n.Agents.length):(restL n ow).length=n.Agents.length - 1:=by
  unfold restL
  rw [List.length_drop,List.length_zip,h,Nat.min_self]
theorem zbH {n:D.Net}{ow:List Int}{k fuel:Nat}(hf:18446744073709551616≤fuel) (hn:netN n=true) (ho:ownsN n ow k):
    iter (z1J fuel n ow) fuel (1,[⟨0,0,0⟩],List.replicate k e0)=some (.inl ((restL n ow).foldl addT ([⟨0,0,0⟩],List.replicate k e0)))∧
    iter (z1d fuel n ow) fuel (0,List.replicate k e0,[⟨0,0,0⟩])=some (.inl (((restL n ow).foldl addT ([⟨0,0,0⟩],List.replicate k e0)).2,((restL n ow).foldl addT ([⟨0,0,0⟩],List.replicate k e0)).1))∧
    Inv2 n ow k (n.Agents.length - 1) ((restL n ow).foldl addT ([⟨0,0,0⟩],List.replicate k e0)):=by
  have hm:maxLen=9223372036854775807:=rfl
  have hlen:=zen ho.1
  have hsz:=z7T hn
  have keep:∀ (i:Nat) (s:List D.Address × List D.Shard) (x:D.Agent × Int),(restL n ow)[i]? = some x→(fun _:D.Agent × Int=>true) x=true→Inv2 n ow k i s→Inv2 n ow k (i+1) (addT s x):=fun i s x hx _ hJ=>by
    obtain⟨o,sh,e1,e2,e3,e4⟩:=zf7 hn ho hJ hx
    exact e4
  have facts:∀ (i:Nat) (s:List D.Address × List D.Shard) (x:D.Agent × Int),(restL n ow)[i]? = some x→Inv2 n ow k i s→∃ (o:Nat) (sh:D.Shard),x.2=(o:Int)∧idx n.Agents ((i:Int)+1)=some x.1∧idx ow ((i:Int)+1)=some (o:Int)∧idx s.2 (o:Int)=some sh∧addT s x=(s.1++[⟨o,1,sh.Cells.length⟩],s.2.set o ⟨sh.Cells++[cellOf x.1],sh.Vars,sh.Redexes⟩)∧s.1.length=i+1∧sh.Cells.length≤4800∧x.1.Data.length≤4∧1≤x.1.Ports.length∧x.1.Ports.length≤4∧i+1<n.Agents.length:=fun i s x hx hJ=>by
    obtain⟨o,sh,e1,e2,e3,e4⟩:=zf7 hn ho hJ hx
    obtain⟨h1,h2⟩:=zbv hx
    have hil:=(List.getElem?_eq_some_iff.1 h1).1
    have hz:sh.sz≤8*i:=Nat.le_trans (z6f (f:=D.Shard.sz) (List.mem_of_getElem? e2)) hJ.inv.size
    have hz2:sh.Cells.length≤sh.sz:=by unfold D.Shard.sz szL;omega
    have ei:((i:Int)+1).toNat=i+1:=by omega
    have g:=(zcU hn h1).1
    have gp:=zc3 g
    exact⟨o,sh,e1,by rw [z61 (by omega),ei,h1],by rw [z61 (by omega),ei,h2,e1],by rw [z61 (by omega),Int.toNat_natCast,e2],e3,hJ.at_len,by omega,ze4 g,by omega,zea g,hil⟩
  have k1:=foldLoop (xs:=restL n ow) (body:=z1J fuel n ow) (mk:=fun i (s:List D.Address × List D.Shard)=>(i+1,s.1,s.2)) (out:=fun s=>s) (g:=addT) (p:=fun _=>true) (J:=fun i s=>Inv2 n ow k i s) (v:=((⟨[],⟨0,0,0⟩⟩:D.Grid),(0:Int))) (s0:=([⟨0,0,0⟩],List.replicate k e0)) (fuel:=fuel) (by omega) hf zbM keep
    (fun i s x hi hx hJ=>by
      obtain⟨o,sh,e1,e2,e3,e4,e5,e6,e7,e8,e9,z,G⟩:=facts i s x hx hJ
      unfold z1J z3U
      dsimp only
      rw [if_pos (decide_eq_true (by omega)),e2,Option.bind_some,e3,Option.bind_some,e4,Option.bind_some,Option.bind_some,if_pos (decide_eq_true (by simp only [List.length_cons,List.length_nil];omega)),Option.bind_some,zeq (by omega),Option.bind_some,
        zC (n:=(x.1.Ports.length:Int) - 1) (by omega) (by omega),if_pos (decide_eq_true (by omega)),if_pos (decide_eq_true (by simp only [List.length_cons,List.length_nil];omega)),if_pos rfl,e5,zC (n:=(i:Int)+1+1) (by omega) (by omega),zC (n:=(i:Int)+1) (by omega) (by omega)]
      dsimp only
      rw [Int.toNat_natCast,show((x.1.Ports.length:Int) - 1).toNat=x.1.Ports.length - 1 by omega]
      rfl)
    (fun s _=>by
      unfold z1J
      dsimp only
      rw [if_neg (by simp only [decide_eq_true_eq];omega)])
  have k2:=foldLoop (xs:=restL n ow) (body:=z1d fuel n ow) (mk:=fun i (s:List D.Address × List D.Shard)=>(i,s.2,s.1)) (out:=fun s=>(s.2,s.1)) (g:=addT) (p:=fun _=>true) (J:=fun i s=>Inv2 n ow k i s) (v:=((⟨[],⟨0,0,0⟩⟩:D.Grid),(0:Int))) (s0:=([⟨0,0,0⟩],List.replicate k e0)) (fuel:=fuel) (by omega) hf zbM keep
    (fun i s x hi hx hJ=>by
      obtain⟨o,sh,e1,e2,e3,e4,e5,e6,e7,e8,e9,z,G⟩:=facts i s x hx hJ
      have ed:((n.Agents.take n.Agents.length).drop (1:Int).toNat).length=n.Agents.length - 1:=by rw [List.take_length,List.length_drop];rfl
      have ex:idx ((n.Agents.take n.Agents.length).drop (1:Int).toNat) (i:Int)=some x.1:=by
        rw [z61 (by omega),Int.toNat_natCast,List.take_length,List.getElem?_drop]
        have:=(zbv hx).1
        rw [show(1:Int).toNat+i=i+1 by omega]
        exact this
      unfold z1d z4t z4r
      dsimp only
      rw [ed,if_pos (decide_eq_true (by omega)),ex,Option.bind_some,zC (n:=(i:Int)+1) (by omega) (by omega),e3,Option.bind_some,e4,Option.bind_some,Option.bind_some,if_pos (decide_eq_true (by simp only [List.length_cons,List.length_nil];omega)),Option.bind_some,zcs (by omega),Option.bind_some,
        zC (n:=(x.1.Ports.length:Int) - 1) (by omega) (by omega),if_pos (decide_eq_true (by omega)),if_pos (decide_eq_true (by simp only [List.length_cons,List.length_nil];omega)),if_pos rfl,e5]
      dsimp only
      rw [Int.toNat_natCast,show((x.1.Ports.length:Int) - 1).toNat=x.1.Ports.length - 1 by omega]
      rfl)
    (fun s _=>by
      have ed:((n.Agents.take n.Agents.length).drop (1:Int).toNat).length=n.Agents.length - 1:=by rw [List.take_length,List.length_drop];rfl
      unfold z1d
      dsimp only
      rw [ed,if_neg (by simp only [decide_eq_true_eq];omega)])
  have ha:(restL n ow).all (fun _=>true)=true:=List.all_eq_true.2 fun _ _=>rfl
  rw [ha,if_pos rfl] at k1 k2
  have k3:=k1.2 rfl
  rw [hlen] at k3
  exact⟨k1.1,k2.1,k3⟩
end Go.E


namespace Go.E
open Go.RowKit Go.Proofs
set_option linter.unusedSimpArgs false
set_option linter.unusedVariables false

def ownB (n:D.Net) (ow:List Int) (k:Int):Bool:=decide (1≤k∧k≤4) && (decide (ow.length=n.Agents.length) && (decide (ow[0]? = some 0) && ow.all fun o=>decide (0≤o∧o≤k - 1)))
theorem zbF {fuel:Nat}{m:Int}{xs:List Int}(hf:18446744073709551616≤fuel) (hl:xs.length≤maxLen):z5E fuel m xs=some (xs.all fun o=>decide (0≤o∧o≤m)):=by
  unfold z5E
  rw [z8y (p:=fun o=>!decide (0≤o∧o≤m)) hf hl (fun n=>by
    unfold z5c
    by_cases h0:n<0
    · rw [if_pos (decide_eq_true h0),decide_eq_false (by omega)];rfl
    · rw [if_neg (by simpa using h0)]
      by_cases h1:n≤m
      · rw [decide_eq_true (show 0≤n∧n≤m by omega),decide_eq_false (by omega)];rfl
      · rw [decide_eq_false (show ¬ (0≤n∧n≤m) by omega),decide_eq_true (by omega)];rfl),Option.bind_some,z7G]
  simp
theorem zby {fuel:Nat}{n:D.Net}{ow:List Int}{k:Int}(hf:18446744073709551616≤fuel) (hl:ow.length≤1048576) (hn:netN n=true):z4J fuel n ow k=some (ownB n ow k):=by
  have hm:maxLen=9223372036854775807:=rfl
  have hs:=z7T hn
  unfold z4J ownB
  by_cases h1:1≤k
  · by_cases h4:k≤4
    · rw [if_pos (decide_eq_true (show k≥1 from h1)),if_pos (decide_eq_true h4),decide_eq_true (show 1≤k∧k≤4 from⟨h1,h4⟩),Bool.true_and]
      by_cases hlen:ow.length=n.Agents.length
      · rw [if_pos (by simp [hlen]),decide_eq_true hlen,Bool.true_and]
        obtain⟨o,ho⟩:=z5i (xs:=ow) (i:=0) (by omega)
        have:idx ow 0=some o:=by rw [z61 (by omega)];exact ho
        rw [this,Option.bind_some,ho]
        by_cases h0:o=0
        · rw [if_pos (by simpa using h0),zbF hf (by omega),Option.bind_some,zC (by omega) (by omega),h0]
          simp
        · rw [if_neg (by simpa using h0)]
          simp [h0]
      · rw [if_neg (fun h=>hlen (by have:=eq_of_beq h;omega)),decide_eq_false hlen];rfl
    · rw [if_pos (decide_eq_true (show k≥1 from h1)),if_neg (by simpa using h4),decide_eq_false (show ¬ (1≤k∧k≤4) by omega)];rfl
  · rw [if_neg (by simp;omega),decide_eq_false (show ¬ (1≤k∧k≤4) by omega)];rfl
def errG (c:Int):D.Grid × Int:=(⟨[],⟨0,0,0⟩⟩,c)
theorem zbx {fuel:Nat}{n:D.Net}{ow:List Int}{k:Int}(hf:18446744073709551616≤fuel) (hz:n.sz≤1048576) (hl:ow.length≤1048576):z2o fuel n ow k=if netN n=true then(if ownB n ow k=true then(z3w fuel n ow k).bind fun r=>some r else some (errG 2)) else some (errG 1):=by
  have hm:maxLen=9223372036854775807:=rfl
  have z1:n.Agents.length≤1048576:=by unfold D.Net.sz szL at hz;omega
  have z3:∀ a,a∈n.Agents→a.Data.length≤maxLen∧a.Ports.length≤maxLen:=fun a ha=>by
    unfold D.Net.sz szL at hz
    have:=z6f (f:=D.Agent.sz) ha
    have h9:a.sz=a.Data.length+(a.Ports.length+0):=rfl
    omega
  unfold z2o
  rw [zev hf z1 z3,Option.bind_some]
  cases hn:netN n with
  | false=>rfl
  | true=>
    have hs:=z7T hn
    rw [if_neg (by simp),if_pos rfl,z5h,Option.bind_some]
    unfold ownB z1L
    by_cases z:1≤k∧k≤4
    · rw [decide_eq_true z,if_neg (by simp),Bool.true_and]
      by_cases hlen:ow.length=n.Agents.length
      · rw [if_neg (by simp [hlen]),decide_eq_true hlen,Bool.true_and]
        obtain⟨o,ho⟩:=z5i (xs:=ow) (i:=0) (by omega)
        have:idx ow 0=some o:=by rw [z61 (by omega)];exact ho
        rw [this,Option.bind_some,ho]
        by_cases h0:o=0
        · rw [if_neg (by simpa using h0),h0,decide_eq_true rfl,Bool.true_and]
          have h:=allLoop (xs:=ow) (body:=z2U fuel ow k) (p:=fun _ o=>decide (0≤o∧o≤k - 1)) (t:=()) (v:=errG 2) (fuel:=fuel) (by omega) hf (fun i x hi hx=>by
            unfold z2U
            rw [if_pos (by simpa using hi),zy hx,Option.bind_some,zC (n:=k - 1) (by omega) (by omega),z5h,Option.bind_some]
            cases decide (0≤x∧x≤k - 1)<;>simp [errG]) (by unfold z2U;rw [if_neg (by simp)])
          have hz2:=ze9 (xs:=ow) (p:=fun o=>decide (0≤o∧o≤k - 1))
          rw [hz2] at h
          rw [h,Option.bind_some]
          cases ow.all fun o=>decide (0≤o∧o≤k - 1) with
          | true=>
            rw [if_pos rfl,if_pos rfl,z8]
            unfold z5y
            rfl
          | false=>rw [if_neg (by simp),if_neg (by simp)];rfl
        · rw [if_pos (by simpa using h0)]
          simp [h0,errG]
      · rw [if_pos (by simp only [bne_iff_ne,ne_eq];omega),decide_eq_false hlen];rfl
    · rw [decide_eq_false z];rfl
theorem z71 {β:Type}{e:β}:∀ k:Nat,((List.range k).flatMap fun _=>[e])=List.replicate k e
  | 0=>rfl
  | k+1=>by rw [List.range_succ,List.flatMap_append,z71 k,List.replicate_succ'];rfl
def fullN (s:D.Shard):Bool:=decide (s.Cells.length≤400∧s.Vars.length≤400∧s.Redexes.length≤400)
def splitR (S:List D.Shard × D.Address):D.Grid × Int:=if S.1.all fullN=true then(⟨S.1,S.2⟩,0) else errG 4
theorem zcW {fuel:Nat}{S:List D.Shard × D.Address}(hf:18446744073709551616≤fuel) (hl:S.1.length≤1048576):z4j fuel (S.1,S.2.Machine,S.2.Kind,S.2.Index)=some (splitR S):=by
  have hm:maxLen=9223372036854775807:=rfl
  unfold z4j
  have h:=allLoop (xs:=S.1) (body:=z2P fuel (S.1,S.2.Machine,S.2.Kind,S.2.Index)) (p:=fun _ s=>fullN s) (t:=()) (v:=errG 4) (fuel:=fuel) (by omega) hf (fun i x hi hx=>by
    unfold z2P z1H fullN
    dsimp only
    rw [if_pos (by simpa using hi),zy hx,Option.bind_some]
    by_cases h1:x.Cells.length≤400
    · by_cases h2:x.Vars.length≤400
      · by_cases h3:x.Redexes.length≤400
        · rw [if_neg (by simp;omega),if_neg (by simp;omega),if_neg (by simp;omega),if_pos (decide_eq_true ⟨h1,h2,h3⟩)]
        · rw [if_neg (by simp;omega),if_neg (by simp;omega),if_pos (by simp;omega),if_neg (by simp;omega)];rfl
      · rw [if_neg (by simp;omega),if_pos (by simp;omega),if_pos rfl,if_neg (by simp;omega)];rfl
    · rw [if_pos (by simp;omega),if_pos rfl,if_neg (by simp;omega)];rfl) (by unfold z2P;dsimp only;rw [if_neg (by simp)])
  rw [ze9] at h
  rw [h,Option.bind_some]
  unfold splitR
  cases S.1.all fullN with
  | true=>rw [if_pos rfl,if_pos rfl,z8];rfl
  | false=>rw [if_neg (by simp),if_neg (by simp)];rfl
theorem zcX {fuel:Nat}{at_:List D.Address}{S:List D.Shard × D.Address}(hf:18446744073709551616≤fuel) (hl:S.1.length≤1048576) (hz:∀ s,s∈S.1→s.sz≤1048576) (hg:∀ s,s∈S.1→(∀ c,c∈s.Cells→shCellN c=true)∧∀ v,v∈s.Vars→shVarN v=true):z4u fuel (S.2.Machine,S.2.Kind,S.2.Index,S.1,at_)=some (splitR S):=by
  have hm:maxLen=9223372036854775807:=rfl
  unfold z4u
  dsimp only
  rw [z9D (p:=fun s=>!fullN s) hf (by omega) (fun s hs=>by
    unfold z4w
    obtain⟨g1,g2⟩:=hg s hs
    rw [zcf hf (hz s hs),Option.bind_some]
    unfold shardN fullN
    rw [List.all_eq_true.2 g1,List.all_eq_true.2 g2,Bool.and_true,Bool.and_true]),z7G,Option.bind_some]
  unfold splitR
  cases S.1.all fullN<;>rfl
def gridOf (n:D.Net) (ow:List Int) (k:Nat):List D.Shard × D.Address:=(wiresL n).foldl (wireT ow ((restL n ow).foldl addT ([⟨0,0,0⟩],List.replicate k e0)).1) (((restL n ow).foldl addT ([⟨0,0,0⟩],List.replicate k e0)).2,⟨0,0,0⟩)
theorem z7P {fuel:Nat}{x:D.Net}{ow:List Int}{k:Int}(hf:18446744073709551616≤fuel) (hs:x.sz≤1048576) (hl:ow.length≤1048576):
    ∃ r:D.Grid × Int,z2o fuel x ow k=some r∧z2v fuel x ow k=some r∧r.1.sz≤10000∧(r.2=0→1≤k∧k≤4∧(r.1.Shards.length:Int)=k):=by
  have hm:maxLen=9223372036854775807:=rfl
  have z1:x.Agents.length≤1048576:=by unfold D.Net.sz szL at hs;omega
  have z4:∀ a,a∈x.Agents→a.Data.length≤1048576∧a.Ports.length≤1048576:=fun a ha=>by
    unfold D.Net.sz szL at hs
    have:=z6f (f:=D.Agent.sz) ha
    have h9:a.sz=a.Data.length+(a.Ports.length+0):=rfl
    omega
  have z2:sumL (fun a:D.Agent=>a.Ports.length) x.Agents≤1048576:=by
    have h1:∀ xs:List D.Agent,sumL (fun a:D.Agent=>a.Ports.length) xs≤sumL D.Agent.sz xs:=by
      intro xs
      induction xs with
      | nil=>exact Nat.le_refl _
      | cons y ys ih=>
          unfold sumL;have:y.Ports.length≤y.sz:=by unfold D.Agent.sz;omega
          omega
    unfold D.Net.sz szL at hs
    exact Nat.le_trans (h1 _) (by omega)
  rw [zbx hf hs hl]
  unfold z2v
  rw [zew hf z1 z2 (fun a ha=>by have:=z4 a ha;omega),Option.bind_some]
  cases hn:netN x with
  | false=>exact⟨_,rfl,rfl,by unfold errG;decide,fun h=>by cases h⟩
  | true=>
    rw [if_pos (c:=true=true) rfl,if_neg (c:=(!true)=true) (by simp),zby hf hl hn,Option.bind_some]
    cases hB:ownB x ow k with
    | false=>exact⟨_,rfl,rfl,by unfold errG;decide,fun h=>by cases h⟩
    | true=>
      have hk:1≤k∧k≤4:=by
        unfold ownB at hB
        rw [Bool.and_eq_true,decide_eq_true_eq] at hB
        exact hB.1
      obtain⟨kn,rfl⟩:∃ u:Nat,k=(u:Int):=⟨k.toNat,by omega⟩
      have ho:ownsN x ow kn:=by
        unfold ownB at hB
        rw [Bool.and_eq_true,Bool.and_eq_true,Bool.and_eq_true,decide_eq_true_eq,decide_eq_true_eq] at hB
        refine⟨hB.2.1,fun j o hj=>?_⟩
        have:=List.all_eq_true.1 hB.2.2.2 o (List.mem_of_getElem? hj)
        rw [decide_eq_true_eq] at this
        omega
      obtain⟨l1,l2,l3⟩:=zbH (k:=kn) hf hn ho
      have hsz:=z7T hn
      have hp:=zep hn
      have hwl:(wiresL x).length≤2400:=by
        have:=z8S (g:=wireAt x) (fun p=>za1) (portsL x)
        unfold wiresL
        omega
      have hI:Inv x ow kn x.Agents.length ((restL x ow).foldl addT ([⟨0,0,0⟩],List.replicate kn e0)).1 ((restL x ow).foldl addT ([⟨0,0,0⟩],List.replicate kn e0)).2 4800:=by
        have h:=l3.inv
        rw [show x.Agents.length - 1+1=x.Agents.length by omega] at h
        exact⟨h.len,h.cell,h.good,Nat.le_trans h.size (by omega)⟩
      have hz:∀ a,a∈x.Agents→a.Ports.length≤1048576:=fun a ha=>(z4 a ha).2
      obtain⟨w1,w2⟩:=zc6 (S0:=((restL x ow).foldl addT ([⟨0,0,0⟩],List.replicate kn e0)).2) (R:=⟨0,0,0⟩) hf hn hI z1 hz ho (by omega)
      have w3:=zci (R:=⟨0,0,0⟩) hf hn hI z1 hz ho (by omega)
      rw [← zcn] at w3
      have hS:z3w fuel x ow (kn:Int)=some (splitR (gridOf x ow kn)):=by
        unfold z3w
        have h:=appLoop (body:=z2Q fuel (kn:Int)) (n:=kn) (mk:=fun i s=>(i,s)) (out:=fun s=>s) (g:=fun _=>[e0]) (s0:=[]) (fuel:=fuel) (by omega) hf (fun i hi=>by
          have hlen:([]++(List.range i).flatMap fun _=>[e0]).length=i:=by rw [List.nil_append,z71,List.length_replicate]
          generalize ([]++(List.range i).flatMap fun _=>[e0])=s at hlen ⊢
          unfold z2Q
          dsimp only
          rw [if_pos (decide_eq_true (by omega)),if_pos (decide_eq_true (by simp only [List.length_cons,List.length_nil];omega))]
          rfl) (by unfold z2Q;rw [if_neg (by simp)])
        rw [List.nil_append,z71] at h
        rw [h,Option.bind_some,z8]
        unfold z5t
        rw [l1,Option.bind_some,z8]
        unfold z5s
        rw [zc5 hf z1 z2,Option.bind_some,w1,Option.bind_some,z8]
        exact zcW hf (by rw [w2.len];omega)
      have hgz:∀ s,s∈(gridOf x ow kn).1→s.sz≤1048576:=fun s hs=>Nat.le_trans (z6f (f:=D.Shard.sz) hs) (Nat.le_trans w2.size (by omega))
      refine⟨splitR (gridOf x ow kn),?_,?_,?_,?_⟩
      · rw [if_pos rfl,hS];rfl
      · rw [if_neg (by simp),if_pos (decide_eq_true (by omega)),if_pos (by decide)]
        unfold z4v
        dsimp only
        rw [if_pos (decide_eq_true (by omega)),Int.toNat_natCast]
        have el2:iter (z1d fuel x ow) fuel (0,List.replicate kn ⟨[],[],[]⟩,List.replicate (1:Int).toNat ⟨0,0,0⟩)=_:=l2
        rw [el2,Option.bind_some,z8]
        unfold z5F
        rw [netPorts hf z1 z2,Option.bind_some]
        dsimp only
        have ew3:=w3
        dsimp only at ew3
        rw [ew3,Option.bind_some,z8]
        exact zcX (S:=gridOf x ow kn) hf (by show(gridOf x ow kn).1.length≤_;unfold gridOf;rw [w2.len];omega) hgz w2.good
      · unfold splitR
        split
        · unfold D.Grid.sz szL
          dsimp only
          have h1:=w2.len
          have h2:=w2.size
          unfold gridOf
          omega
        · unfold errG;decide
      · intro _
        refine⟨hk.1,hk.2,?_⟩
        rename_i hr
        unfold splitR at hr ⊢
        by_cases hf:(gridOf x ow kn).1.all fullN=true
        · rw [if_pos hf]
          have h1:=w2.len
          unfold gridOf
          dsimp only
          omega
        · rw [if_neg hf] at hr
          cases hr
end Go.E


