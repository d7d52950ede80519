/- FamilyOf: the tied card FnExactFamilyOfCardSaid (program and reference agree), from the walk and the plain law; the lemmas that it rests on stand ahead of it, each with its own conditions. Conditions of the claim: the listed variables read as the program's text lays them (the card ties them). -/
import Derived.Test.YtngggnjnenfgbaaGreatDoorRdImplb
import Derived.Test.YtngggnjnenfgbaaGreatDoorFK
import Derived.Test.YtngggnjnenfgbaaGreatDoorRdShare
import Derived.Test.YtngggnjnenfgbaaGreatDoorRows
import Derived.Test.YtngggnjnenfgbaaGreatDoorTie
import Derived.Test.YtngggnjnenfgbaaGreatDoorCards
import Derived.SevenTiedAt
import Derived.LaidMore
import Derived.Stop.LaidErr
import Derived.Stop.Joined
import Derived.MakeChecks
import Derived.Lib.LaidTab
import Derived.Test.YtngggnjnenfgbaaGreatDoorFOb
import Derived.WalkKit
import Derived.ProofKit
import Derived.OpenShut
import Derived.ShutString
import Derived.ChangeOld
import Derived.Below
import Derived.Carry
namespace Go.E
open Go.RowKit Go.Proofs
set_option linter.unusedSimpArgs false
set_option linter.unusedVariables false

def consN (k:Int):Bool:=k == 3 || k == 7 || k == 8 || k == 10 || k == 11
theorem zcX {fuel:Nat}{k:Int}:z3F fuel k=some (consN k):=by
  unfold z3F z1Z z21 z22 z23 consN
  by_cases h3:k=3
  · simp [h3]
  by_cases h7:k=7
  · simp [h7]
  by_cases h8:k=8
  · simp [h8]
  by_cases b:k=10
  · simp [b]
  by_cases d:k=11<;>simp [h3,h7,h8,b,d]
theorem zaE {fuel:Nat}{k:Int}:z3N fuel k=some (consN k):=by
  unfold z3N consN
  by_cases h3:k=3
  · simp [h3]
  by_cases h7:k=7
  · simp [h7]
  by_cases h8:k=8
  · simp [h8]
  by_cases b:k=10
  · simp [b]
  by_cases d:k=11<;>simp [h3,h7,h8,b,d]
def dupN (f k l:Int):Bool:=decide (0≤f∧f≤8) && (allowN k l && (k == 6 || k == 12 || (levelN k && decide (l>f))))
theorem zei {fuel:Nat}{f k l:Int}:z3H fuel f k l=some (dupN f k l):=by
  unfold z3H z25 z24 dupN
  simp only [z55,z73,z9d,Option.bind_some]
  by_cases hf:0≤f∧f≤8
  · simp only [decide_eq_true hf]
    cases allowN k l with
    | false=>rfl
    | true=>
      by_cases h6:k=6
      · simp [h6]
      by_cases b:k=12
      · simp [b]
      cases levelN k<;>simp [h6,b]
  · simp only [decide_eq_false hf];rfl
theorem zbm {fuel:Nat}{f k l:Int}:z3Q fuel f k l=some (dupN f k l):=by
  have hL:z2m fuel f=some (decide (0≤f∧f≤8)):=by
    unfold z2m
    by_cases h1:0≤f
    · rw [if_pos (decide_eq_true (by omega))];simp [h1]
    · rw [if_neg (by simp;omega)];simp [h1]
  unfold z3Q z2f dupN
  simp only [hL,z7R,z9e,Option.bind_some]
  by_cases hf:0≤f∧f≤8
  · simp only [decide_eq_true hf]
    cases allowN k l with
    | false=>rfl
    | true=>
      by_cases h6:k=6
      · simp [h6]
      by_cases b:k=12
      · simp [b]
      cases levelN k<;>simp [h6,b]
  · simp only [decide_eq_false hf];rfl

def ruleN (a la b lb:Int):Int:=
  if a=5 then 4 else if a=4 then(if b=4∧la=lb then 2 else if dupN la b lb=true then 3 else 0) else
  if a=2 then(if b=3∧la=lb then 1 else 0) else if a=6 then(if b=7∨b=8 then 5 else if b=11 then 6 else 0) else
  if a=9 then(if b=10 then 6 else 0) else if a=12 then(if consN b=true then 7 else 0) else 0
theorem zaa {fuel:Nat}{a la b lb:Int}:z3c fuel a la b lb=some (ruleN a la b lb):=by
  unfold z3c z2x z2w z2v ruleN
  simp only [zbm,zaE,Option.bind_some]
  by_cases h5:a=5
  · simp [h5]
  by_cases h4:a=4
  · subst h4
    by_cases hb:b=4<;>by_cases hl:la=lb<;>cases dupN la b lb<;>simp [hb,hl]
  by_cases h2:a=2
  · subst h2
    by_cases hb:b=3<;>by_cases hl:la=lb<;>simp [hb,hl]
  by_cases h6:a=6
  · subst h6
    by_cases hb:b=7
    · simp [hb]
    by_cases hc:b=8
    · simp [hc]
    by_cases hd:b=11<;>simp [hb,hc,hd]
  by_cases h9:a=9
  · subst h9
    by_cases hb:b=10<;>simp [hb]
  by_cases d:a=12
  · subst d
    cases consN b<;>simp
  simp [h5,h4,h2,h6,h9,d]
theorem za9 {fuel:Nat}{a la b lb:Int}:z2k fuel a la b lb=some (ruleN a la b lb):=by
  rw [← zaa (fuel:=fuel)]
  unfold z2k z3c z3w z3v z3u z2x z2w z2v
  simp only [zbm,zaE,zei,zcX,Option.bind_some]
theorem zb5 {a la b lb:Int}(hb:b=10):ruleN a la b lb=6↔a=9:=by
  subst hb
  constructor
  · intro h
    unfold ruleN at h
    by_cases h9:a=9
    · exact h9
    · by_cases h5:a=5
      · simp [h5] at h
      by_cases h4:a=4
      · subst h4
        simp at h
        split at h<;>simp at h
      by_cases h2:a=2
      · simp [h2] at h
      by_cases h6:a=6
      · simp [h6] at h
      by_cases d:a=12
      · subst d
        simp [consN] at h
      simp [h5,h4,h2,h6,h9,d] at h
  · rintro rfl;unfold ruleN;simp
theorem zd9 {la b lb:Int}:ruleN 10 la b lb=0:=by unfold ruleN;simp

def classN (a b:D.Agent):Int:=
  if(a.Kind=9∧b.Kind=10∧a.Value≥(b.Data.length:Int))∨(a.Kind=10∧b.Kind=9∧b.Value≥(a.Data.length:Int)) then 8 else
  if ruleN a.Kind a.Level b.Kind b.Level=0 then(if ruleN b.Kind b.Level a.Kind a.Level=0 then 8 else ruleN b.Kind b.Level a.Kind a.Level) else ruleN a.Kind a.Level b.Kind b.Level
theorem z9h {fuel:Nat}{a b:D.Agent}(ha:allowN a.Kind a.Level=true) (hb:allowN b.Kind b.Level=true) (h1:a.Kind≠1) (h2:b.Kind≠1):z4q fuel a b=some (classN a b):=by
  have hP:z40 fuel a.Kind a.Level b.Kind b.Level=some (if ruleN a.Kind a.Level b.Kind b.Level=0 then(if ruleN b.Kind b.Level a.Kind a.Level=0 then 8 else ruleN b.Kind b.Level a.Kind a.Level) else ruleN a.Kind a.Level b.Kind b.Level):=by
    unfold z40 z4b z2A
    simp only [z73,ha,hb,za9,Option.bind_some]
    by_cases r1:ruleN a.Kind a.Level b.Kind b.Level=0
    · by_cases r2:ruleN b.Kind b.Level a.Kind a.Level=0<;>simp [r1,r2,h1,h2]
    · simp [r1,h1,h2]
  unfold z4q z1R z1Q classN
  rw [hP]
  by_cases a9:a.Kind=9
  · by_cases o:b.Kind=10
    · by_cases hv:a.Value≥(b.Data.length:Int)<;>simp [a9,o,hv]
    · simp [a9,o]
  · by_cases d:a.Kind=10
    · by_cases b9:b.Kind=9
      · by_cases hv:b.Value≥(a.Data.length:Int)<;>simp [d,b9,hv]
      · simp [d,b9]
    · simp [a9,d]

def firstN (a b:D.Agent):Int:=if ruleN a.Kind a.Level b.Kind b.Level=0 then(if ruleN b.Kind b.Level a.Kind a.Level=0 then 0 else 2) else 1
theorem zbJ {fuel:Nat}{a b:D.Agent}(ha:allowN a.Kind a.Level=true) (hb:allowN b.Kind b.Level=true) (h1:a.Kind≠1) (h2:b.Kind≠1):z31 fuel a.Kind a.Level b.Kind b.Level=some (firstN a b):=by
  unfold z31 z4b firstN
  simp only [z73,ha,hb,za9,Option.bind_some]
  by_cases r1:ruleN a.Kind a.Level b.Kind b.Level=0
  · by_cases r2:ruleN b.Kind b.Level a.Kind a.Level=0<;>simp [r1,r2,h1,h2]
  · simp [r1,h1,h2]
theorem zbS {fuel:Nat}{n:D.Net}{x:D.Pair}{a b:D.Agent}(hia:idx n.Agents x.A=some a) (hib:idx n.Agents x.B=some b) (ha:allowN a.Kind a.Level=true) (hb:allowN b.Kind b.Level=true) (h1:a.Kind≠1) (h2:b.Kind≠1):
    ∃ s:Bool,z34 fuel n x=some (classN a b,s)∧(classN a b≠8→s=decide (firstN a b=2)):=by
  have hP:z32 fuel a.Kind a.Level b.Kind b.Level=some (if ruleN a.Kind a.Level b.Kind b.Level≠0 then(ruleN a.Kind a.Level b.Kind b.Level,1) else if ruleN b.Kind b.Level a.Kind a.Level≠0 then(ruleN b.Kind b.Level a.Kind a.Level,2) else(8,0)):=by
    unfold z32 z1V
    simp only [z7R,ha,hb,zaa,Option.bind_some]
    by_cases r1:ruleN a.Kind a.Level b.Kind b.Level=0
    · by_cases r2:ruleN b.Kind b.Level a.Kind a.Level=0<;>simp [r1,r2,h1,h2]
    · simp [r1,h1,h2]
  unfold z34
  rw [hia,Option.bind_some,hib,Option.bind_some]
  unfold z33
  dsimp only
  have h6a:=@zb5 a.Kind a.Level b.Kind b.Level
  have h6b:=@zb5 b.Kind b.Level a.Kind a.Level
  by_cases r1:ruleN a.Kind a.Level b.Kind b.Level=0
  · have o:¬ (a.Kind=9∧b.Kind=10∧a.Value≥(b.Data.length:Int)):=fun h=>by
      have:=(h6a h.2.1).2 h.1
      omega
    by_cases r2:ruleN b.Kind b.Level a.Kind a.Level=0
    · have hQ:z32 fuel a.Kind a.Level b.Kind b.Level=some (8,0):=by rw [hP];simp [r1,r2]
      have d:¬ (a.Kind=10∧b.Kind=9∧b.Value≥(a.Data.length:Int)):=fun h=>by
        have:=(h6b h.1).2 h.2.1
        omega
      have hc:classN a b=8:=by
        unfold classN
        rw [if_neg (fun h=>h.elim o d),if_pos r1,if_pos r2]
      rw [hQ,Option.bind_some,hc]
      exact⟨_,rfl,fun h=>absurd rfl h⟩
    · have hQ:z32 fuel a.Kind a.Level b.Kind b.Level=some (ruleN b.Kind b.Level a.Kind a.Level,2):=by rw [hP];simp [r1,r2]
      rw [hQ,Option.bind_some]
      have hF:decide (firstN a b=2)=true:=by unfold firstN;rw [if_pos r1,if_neg r2];rfl
      generalize hg:ruleN b.Kind b.Level a.Kind a.Level=g at *
      have hc:classN a b=if a.Kind=10∧b.Kind=9∧b.Value≥(a.Data.length:Int) then 8 else g:=by
        unfold classN
        by_cases d:a.Kind=10∧b.Kind=9∧b.Value≥(a.Data.length:Int)
        · rw [if_pos (.inr d),if_pos d]
        · rw [if_neg (fun h=>h.elim o d),if_pos r1,hg,if_neg r2,if_neg d]
      rw [hc]
      unfold z1m zZ
      dsimp only
      by_cases y:a.Kind=10
      · by_cases b9:b.Kind=9
        · have h7:=(h6b y).2 b9
          by_cases hv:b.Value≥(a.Data.length:Int)<;>simp [hF,h7,y,b9,hv]
        · have h7:¬ g=6:=fun h=>b9 ((h6b y).1 h)
          simp [hF,h7,b9]
      · by_cases h7:g=6<;>simp [hF,h7,y]
  · have d:¬ (a.Kind=10∧b.Kind=9∧b.Value≥(a.Data.length:Int)):=fun h=>r1 (by rw [h.1];exact zd9)
    have hQ:z32 fuel a.Kind a.Level b.Kind b.Level=some (ruleN a.Kind a.Level b.Kind b.Level,1):=by rw [hP];simp [r1]
    rw [hQ,Option.bind_some]
    have hF:decide (firstN a b=2)=false:=by unfold firstN;rw [if_neg r1];rfl
    generalize hg:ruleN a.Kind a.Level b.Kind b.Level=g at *
    have hc:classN a b=if a.Kind=9∧b.Kind=10∧a.Value≥(b.Data.length:Int) then 8 else g:=by
      unfold classN
      by_cases o:a.Kind=9∧b.Kind=10∧a.Value≥(b.Data.length:Int)
      · rw [if_pos (.inl o),if_pos o]
      · rw [if_neg (fun h=>h.elim o d),hg,if_neg r1,if_neg o]
    rw [hc]
    unfold z1m zZ
    dsimp only
    by_cases G:b.Kind=10
    · by_cases a9:a.Kind=9
      · have h7:=(h6a G).2 a9
        by_cases hv:a.Value≥(b.Data.length:Int)<;>simp [hF,h7,G,a9,hv]
      · have h7:¬ g=6:=fun h=>a9 ((h6a G).1 h)
        simp [hF,h7,a9]
    · by_cases h7:g=6<;>simp [hF,h7,G]
end Go.E


namespace Go.E
open Go.RowKit Go.Proofs
set_option linter.unusedSimpArgs false
set_option linter.unusedVariables false

theorem zbb {α β:Type}{g:α→List β}(h:∀ x,(g x).length≤1):∀ xs:List α,(xs.flatMap g).length≤xs.length
  | []=>by simp
  | x::xs=>by
    rw [List.flatMap_cons,List.length_append,List.length_cons]
    have:=zbb h xs
    have:=h x
    omega
theorem zb8 {n:D.Net}(hn:netN n=true){i:Nat}{a:D.Agent}(ha:n.Agents[i]? = some a):agN a=true:=by
  unfold netN agentsN at hn
  rw [Bool.and_eq_true,Bool.and_eq_true] at hn
  have h2:=(z6b (xs:=n.Agents) (p:=fun i a=>agN a && ((a.Kind == 1) == (i == 0)))).1 hn.1.2 _ _ ha
  rw [Bool.and_eq_true] at h2
  exact h2.1
theorem zeu {a:D.Agent}(h:agN a=true):1≤a.Ports.length:=by
  unfold agN at h
  rw [Bool.and_eq_true,decide_eq_true_eq] at h
  omega
theorem z8a {n:D.Net}(hn:netN n=true){i:Nat}{a:D.Agent}(ha:n.Agents[i]? = some a):(a.Kind == 1)=decide (i=0):=by
  unfold netN at hn
  rw [Bool.and_eq_true] at hn
  have h1:=hn.1
  unfold agentsN at h1
  rw [Bool.and_eq_true] at h1
  have h2:=(z6b (xs:=n.Agents) (p:=fun i a=>agN a && ((a.Kind == 1) == (i == 0)))).1 h1.2 _ _ ha
  simp only [Nat.zero_add,Bool.and_eq_true] at h2
  have h3:=h2.2
  by_cases h0:i=0
  · subst h0;simpa using h3
  · simp only [h0,decide_false]
    rw [show(i == 0)=false by simpa using h0] at h3
    simpa using h3

theorem zdd {n:D.Net}(hn:netN n=true){p q:D.Port}(hp:hasN n.Agents p=true) (hq:portAt n p=some q):q≠p∧hasN n.Agents q=true∧portAt n q=some p:=by
  unfold netN at hn
  rw [Bool.and_eq_true] at hn
  obtain⟨h1,h2,a,o,h3,h4,h5,h6,h7,h8⟩:=z6t hp
  have hqo:q=o:=by
    unfold portAt at hq
    rw [h4,Option.bind_some,h6] at hq
    exact(Option.some.inj hq).symm
  subst hqo
  have h9:=(z6b (xs:=n.Agents) (p:=fun i a=>a.Ports.zipIdx.all fun y=>chkN n i y.2 y.1)).1 hn.2 _ _ h3
  simp only [Nat.zero_add] at h9
  have b:=(z6b (xs:=a.Ports) (p:=fun k q=>chkN n p.Agent.toNat k q)).1 h9 _ _ h5
  simp only [Nat.zero_add] at b
  have hpe:prt p.Agent.toNat p.Slot.toNat=p:=by
    obtain⟨x,y⟩:=p
    unfold prt
    dsimp only at h1 h2 ⊢
    congr 1<;>omega
  unfold chkN at b
  rw [hpe] at b
  simp only [Bool.and_eq_true,Bool.not_eq_true',decide_eq_false_iff_not,decide_eq_true_eq] at b
  exact⟨b.1,b.2.1,b.2.2⟩
def pairAt (i:Nat) (a:D.Agent):List D.Pair:=match a.Ports[0]? with
  | some q=>if q.Slot=0∧q.Agent>(i:Int)∧a.Kind≠1 then [⟨(i:Int),q.Agent⟩] else []
  | none=>[]
def pairsL (n:D.Net):List D.Pair:=n.Agents.zipIdx.flatMap fun x=>pairAt x.2 x.1
theorem zcp {i:Nat}{a:D.Agent}:(pairAt i a).length≤1:=by
  unfold pairAt
  split
  · split<;>simp
  · simp
theorem z8F {n:D.Net}(k:Nat):((n.Agents.take k).zipIdx.flatMap fun x=>pairAt x.2 x.1).length≤k:=by
  have h:=zbb (g:=fun x:D.Agent × Nat=>pairAt x.2 x.1) (fun x=>zcp) (n.Agents.take k).zipIdx
  rw [List.length_zipIdx,List.length_take] at h
  omega
theorem zbH {fuel:Nat}{n:D.Net}(hf:18446744073709551616≤fuel) (hn:netN n=true) (b:n.Agents.length≤600):z49 fuel n=some (pairsL n):=by
  unfold z49
  have h:=zipLoop (xs:=n.Agents) (body:=z2F fuel n) (mk:=fun i s=>(s,i)) (out:=fun s=>s) (g:=fun i a=>pairAt i a) (s0:=[]) (fuel:=fuel) (by omega) hf (fun i a ha=>by
    have hil:=(List.getElem?_eq_some_iff.1 ha).1
    have hlen:=z8F (n:=n) i
    obtain⟨q,hq⟩:=z35 (zeu (zb8 hn ha))
    simp only [List.nil_append]
    generalize (n.Agents.take i).zipIdx.flatMap (fun x=>pairAt x.2 x.1)=s at hlen ⊢
    unfold z2F pairAt
    dsimp only
    rw [if_pos (by simpa using hil),z1A ha,Option.bind_some,show idx a.Ports 0=some q from z1A (i:=0) hq,Option.bind_some,hq]
    unfold z1J z2E
    dsimp only
    by_cases h1:q.Slot=0
    · by_cases h2:q.Agent>i
      · by_cases h3:a.Kind=1
        · simp [h1,h2,h3]
        · have h9:decide ((s.length:Int)+(([(⟨(i:Int),q.Agent⟩:D.Pair)]:List D.Pair).length:Int)≤4294967296)=true:=by first | (simp;done) | (simp;omega)
          rw [if_pos (by simp [h1]),if_pos (decide_eq_true h2),if_pos (by simpa using h3),if_pos h9,if_pos ⟨h1,h2,h3⟩]
      · simp [h1,h2]
    · simp [h1]) (by
    unfold z2F
    rw [if_neg (by simp)])
  rw [h,Option.bind_some,zq]
  unfold z54
  rfl
theorem zbG {fuel:Nat}{n:D.Net}(hf:18446744073709551616≤fuel) (hn:netN n=true) (b:n.Agents.length≤600) (h1N:1≤n.Agents.length):z4r fuel n=some (pairsL n):=by
  unfold z4r
  obtain⟨r,hr⟩:=z35 (xs:=n.Agents) (i:=0) (by omega)
  have hk:r.Kind=1:=by simpa using z8a hn hr
  obtain⟨o,h,rfl⟩:=z1n (body:=z2R fuel n) (fun i s=>1≤i∧s=((i:Int),(n.Agents.take i).zipIdx.flatMap fun x=>pairAt x.2 x.1)) n.Agents.length (fun o=>o=.inl (pairsL n)) (by
    rintro i s hi ⟨h0,rfl⟩
    obtain⟨a,ha⟩:=z35 hi
    have hlen:=z8F (n:=n) i
    obtain⟨q,hq⟩:=z35 (zeu (zb8 hn ha))
    have hka:a.Kind≠1:=fun e=>by
      have h5:=z8a hn ha
      rw [e] at h5
      simp at h5
      omega
    have d:a.Kind≠0:=fun e=>by
      have h5:=zb8 hn ha
      unfold agN agentN allowN at h5
      simp only [Bool.and_eq_true,decide_eq_true_eq] at h5
      omega
    refine .inl ⟨(w64 ((i:Int)+1),((n.Agents.take i).zipIdx.flatMap fun x=>pairAt x.2 x.1)++pairAt i a),?_,by omega,?_⟩
    · generalize (n.Agents.take i).zipIdx.flatMap (fun x=>pairAt x.2 x.1)=s at hlen ⊢
      unfold z2R pairAt
      dsimp only
      rw [if_pos (by simpa using hi),z1A ha,Option.bind_some,if_neg (by simpa using d),Option.bind_some,show idx a.Ports 0=some q from z1A (i:=0) hq,Option.bind_some,hq]
      unfold z2P z2O z2Q
      dsimp only
      by_cases h1:q.Slot=0
      · by_cases h2:q.Agent>i
        · have h9:decide ((s.length:Int)+(([(⟨(i:Int),q.Agent⟩:D.Pair)]:List D.Pair).length:Int)≤4294967296)=true:=by first | (simp;done) | (simp;omega)
          rw [if_pos (by simp [h1]),if_pos (decide_eq_true h2),if_pos h9,if_pos ⟨h1,h2,hka⟩]
        · simp [h1,h2]
      · simp [h1]
    · rw [zb (by omega) (by omega),z83 ha,List.flatMap_append]
      simp) (by
    rintro s ⟨h0,rfl⟩
    refine .inr ⟨_,?_,rfl⟩
    unfold z2R
    rw [if_neg (by simp),List.take_length]
    rfl) (fuel:=fuel) (i:=1) (s:=(1,([]:List D.Pair))) h1N (by omega) ⟨Nat.le_refl _,by
      have e:=z83 hr
      rw [Nat.zero_add] at e
      rw [e,List.flatMap_append]
      simp [pairAt,hk]
      split<;>rfl⟩
  rw [h,Option.bind_some,zq]
  rfl
theorem zcn {n:D.Net}(hn:netN n=true){x:D.Pair}(h:x∈pairsL n):∃ i j:Nat,x=⟨((i+1:Nat):Int),((j+1:Nat):Int)⟩∧i<j∧i+1<n.Agents.length∧j+1<n.Agents.length:=by
  obtain⟨⟨a,i⟩,h1,h2⟩:=List.mem_flatMap.1 h
  rw [List.mem_zipIdx_iff_getElem?] at h1
  dsimp only at h1 h2
  have hil:=(List.getElem?_eq_some_iff.1 h1).1
  unfold pairAt at h2
  split at h2
  · rename_i q hq
    split at h2
    · rename_i hc
      rw [List.mem_singleton] at h2
      have hi0:i≠0:=fun e=>by
        subst e
        exact hc.2.2 (by simpa using z8a hn h1)
      have hp:hasN n.Agents (prt i 0)=true:=zcy.2 ⟨by simp [prt],by simp [prt],a,by simpa [prt] using h1,by have:=(List.getElem?_eq_some_iff.1 hq).1;simp [prt];omega⟩
      obtain⟨_,h4,_⟩:=zdd hn hp (z9y h1 hq)
      obtain⟨q1,_,b,q3,_⟩:=zcy.1 h4
      have hql:=(List.getElem?_eq_some_iff.1 q3).1
      refine⟨i - 1,q.Agent.toNat - 1,?_,by omega,by omega,by omega⟩
      rw [h2]
      congr 1<;>omega
    · cases h2
  · cases h2
end Go.E


namespace Go.E
open Go.RowKit Go.Proofs
set_option linter.unusedSimpArgs false
set_option linter.unusedVariables false

theorem zco {fuel:Nat}{n:D.Net}{i:Int}(hf:18446744073709551616≤fuel) (hs:n.sz≤1048576):
    ∃ r:D.Pair × Int,z4L fuel n i=some r∧z5m fuel n i=some r∧(r.2=0→netN n=true∧r.1∈pairsL n):=by
  obtain⟨z1,z2,z3⟩:=zer hs
  unfold z4L z5m
  rw [zdc hf z1 z3,zb7 hf z1 z2 z3,Option.bind_some,Option.bind_some]
  cases hn:netN n with
  | false=>rw [if_pos (by simp),if_pos (by simp)];exact⟨_,rfl,rfl,fun h=>by cases h⟩
  | true=>
    obtain⟨h1,b⟩:=z8C hn
    have hpl:=z8F (n:=n) n.Agents.length
    rw [List.take_length] at hpl
    have hpl':(pairsL n).length≤600:=by unfold pairsL;omega
    rw [if_neg (by simp),if_neg (by simp),zbG hf hn b h1,zbH hf hn b,Option.bind_some,Option.bind_some,z55,Option.bind_some,zb (by omega) (by omega)]
    unfold z42
    by_cases h0:i<0
    · rw [if_pos (by simp;omega),if_pos (decide_eq_true h0),if_pos rfl]
      exact⟨_,rfl,rfl,fun h=>by cases h⟩
    · rw [if_neg (show ¬ decide (i<0)=true by simpa using h0)]
      by_cases h2:i≥((pairsL n).length:Int)
      · rw [if_pos (by simp;omega),if_pos (decide_eq_true h2)]
        exact⟨_,rfl,rfl,fun h=>by cases h⟩
      · obtain⟨y,hy⟩:=z35 (xs:=pairsL n) (i:=i.toNat) (by omega)
        have hyi:idx (pairsL n) i=some y:=by rw [z4k (by omega),hy]
        rw [if_neg (by simp;omega),if_neg (by simpa using h2),hyi,Option.bind_some]
        exact⟨_,rfl,rfl,fun _=>⟨rfl,List.mem_of_getElem? hy⟩⟩

def finN (c t k:Int):Int:=if c=1∨c=6∨c=7 then t else if c=5∧k=8 then t else -1
theorem zbR {a b:D.Agent}(h:firstN a b=2):classN b a=classN a b:=by
  unfold firstN at h
  by_cases r1:ruleN a.Kind a.Level b.Kind b.Level=0
  · rw [if_pos r1] at h
    by_cases r2:ruleN b.Kind b.Level a.Kind a.Level=0
    · rw [if_pos r2] at h;cases h
    · unfold classN
      by_cases c:(a.Kind=9∧b.Kind=10∧a.Value≥(b.Data.length:Int))∨(a.Kind=10∧b.Kind=9∧b.Value≥(a.Data.length:Int))
      · rw [if_pos c,if_pos (c.elim (fun h=>.inr ⟨h.2.1,h.1,h.2.2⟩) fun h=>.inl ⟨h.2.1,h.1,h.2.2⟩)]
      · rw [if_neg c,if_neg (fun h=>c (h.elim (fun h=>.inr ⟨h.2.1,h.1,h.2.2⟩) fun h=>.inl ⟨h.2.1,h.1,h.2.2⟩)),if_neg r2,if_pos r1,if_neg r2]
  · rw [if_neg r1] at h;cases h
theorem zcY {fuel:Nat}{n:D.Net}{x:D.Pair}(hn:netN n=true) (hx:x∈pairsL n):∃ c,z1P fuel n x=some c∧z1k fuel n x=some c:=by
  obtain⟨i,j,rfl,_,hi,hj⟩:=zcn hn hx
  obtain⟨a,ha⟩:=z35 hi
  obtain⟨b,hb⟩:=z35 hj
  have hai:=z1A ha
  have hbi:=z1A hb
  have kind:∀ {k:Nat}{d:D.Agent},n.Agents[k+1]? = some d→d.Kind≠1:=fun hd e=>by
    have h5:=z8a hn hd
    rw [e] at h5
    simp at h5
  have allow:∀ {k:Nat}{d:D.Agent},n.Agents[k]? = some d→allowN d.Kind d.Level=true:=fun hd=>by
    have h5:=zb8 hn hd
    unfold agN agentN at h5
    simp only [Bool.and_eq_true] at h5
    exact h5.2.2.1
  have ka:=kind ha
  have kb:=kind hb
  have wa:=allow ha
  have wb:=allow hb
  have hspec:∀ (r:Int × Int) (c:Int) (d:D.Agent),idx n.Agents r.2=some d→(if(c == 1)=true then z1g fuel n r c (c == 1) else(if(c == 6)=true then zY fuel n r c (c == 6) else zY fuel n r c (c == 7)))=some (finN c r.2 d.Kind):=fun r c d hd=>by
    unfold zY z1g finN
    rw [hd,Option.bind_some]
    by_cases c1:c=1
    · simp [c1]
    by_cases c6:c=6
    · simp [c6]
    by_cases c7:c=7
    · simp [c7]
    by_cases c5:c=5
    · by_cases k8:d.Kind=8<;>simp [c5,k8]
    simp [c1,c6,c7,c5]
  have himpl:∀ (r:Int × Bool) (t:Int) (d:D.Agent),idx n.Agents t=some d→zX fuel n r t=some (finN r.1 t d.Kind):=fun r t d hd=>by
    unfold zX z1i z1j finN
    rw [hd,Option.bind_some]
    by_cases c1:r.1=1
    · simp [c1]
    by_cases c6:r.1=6
    · simp [c6]
    by_cases c7:r.1=7
    · simp [c7]
    by_cases c5:r.1=5
    · by_cases k8:d.Kind=8<;>simp [c5,k8]
    simp [c1,c6,c7,c5]
  have h8:∀ t k,finN 8 t k = -1:=fun t k=>by unfold finN;rw [if_neg (by omega),if_neg (by omega)]
  obtain⟨s,hc,hsel⟩:=zbS (fuel:=fuel) (n:=n) (x:=⟨((i+1:Nat):Int),((j+1:Nat):Int)⟩) hai hbi wa wb ka kb
  have hS:z1P fuel n ⟨((i+1:Nat):Int),((j+1:Nat):Int)⟩=some (if firstN a b=2 then finN (classN a b) ((i+1:Nat):Int) a.Kind else finN (classN a b) ((j+1:Nat):Int) b.Kind):=by
    unfold z1P z5f
    dsimp only
    rw [hai,Option.bind_some,hbi,Option.bind_some,zbJ wa wb ka kb,Option.bind_some]
    by_cases h2:firstN a b=2
    · rw [if_pos (show(firstN a b == 2)=true by simpa using h2),if_pos h2,Option.bind_some]
      dsimp only
      rw [hbi,Option.bind_some,hai,Option.bind_some,z9h wb wa kb ka,Option.bind_some,zbR h2]
      exact hspec (((j+1:Nat):Int),((i+1:Nat):Int)) _ a hai
    · rw [if_neg (show ¬ (firstN a b == 2)=true by simpa using h2),if_neg h2,Option.bind_some]
      dsimp only
      rw [hai,Option.bind_some,hbi,Option.bind_some,z9h wa wb ka kb,Option.bind_some]
      exact hspec (((i+1:Nat):Int),((j+1:Nat):Int)) _ b hbi
  refine⟨_,hS,?_⟩
  unfold z1k
  rw [hc,Option.bind_some]
  dsimp only
  by_cases c8:classN a b=8
  · rw [c8,h8,h8,ite_self]
    cases s with
    | true=>rw [if_pos rfl,himpl _ _ a hai];show some (finN 8 _ _)=_;rw [h8]
    | false=>rw [if_neg (by simp),himpl _ _ b hbi];show some (finN 8 _ _)=_;rw [h8]
  · have hs:=hsel c8
    subst hs
    by_cases h2:firstN a b=2
    · rw [if_pos (decide_eq_true h2),if_pos h2,himpl _ _ a hai]
    · rw [if_neg (by simpa using h2),if_neg h2,himpl _ _ b hbi]

def famN (org:List Int) (c:Int):List Int:=pick (fun i=>decide (c≥0) && (org.getD i 0 == c)) org.length
theorem zdh {fuel:Nat}{n:D.Net}{z:Z}{L:List ByteArray}{co:D.Core}{c:Int}(hf:18446744073709551616≤fuel) (hl:z.org.length≤400):
    iter (z1O fuel c (co,imgS n z L)) fuel (0,([]:List Int))=some (.inl (famN z.org c)):=by
  have ho:(co,imgS n z L).2.origins=z.org:=rfl
  obtain⟨o,e1,e2⟩:=z1n (body:=z1O fuel c (co,imgS n z L)) (fun i s=>s.1=(i:Int)∧s.2=pick (fun i=>decide (c≥0) && (z.org.getD i 0 == c)) i) z.org.length (fun o=>o=.inl (famN z.org c)) (by
    rintro i ⟨j,s⟩ hi ⟨h1,h2⟩
    dsimp only at h1 h2
    subst h1;subst h2
    obtain⟨x,hx⟩:=z35 hi
    have hg:z.org.getD i 0=x:=by rw [List.getD_eq_getElem?_getD,hx];rfl
    have hp:=z9z (p:=fun i=>decide (c≥0) && (z.org.getD i 0 == c)) (n:=i)
    have hcap:decide (((pick (fun i=>decide (c≥0) && (z.org.getD i 0 == c)) i).length:Int)+(([(i:Int)]:List Int).length:Int)≤4294967296)=true:=decide_eq_true (by simp only [List.length_cons,List.length_nil];omega)
    refine .inl ⟨(w64 ((i:Int)+1),pick (fun i=>decide (c≥0) && (z.org.getD i 0 == c)) (i+1)),?_,?_,rfl⟩
    · unfold z1O z2N z2M
      dsimp only
      rw [ho,if_pos (decide_eq_true (by omega)),z1A hx,Option.bind_some,zae,hg,if_pos hcap]
      by_cases hc:c≥0
      · rw [if_pos (decide_eq_true hc),decide_eq_true hc,Bool.true_and]
        by_cases b:(x == c)=true
        · rw [if_pos b,if_pos b]
        · rw [if_neg b,if_neg b]
      · rw [if_neg (by simpa using hc),decide_eq_false hc,Bool.false_and,if_neg (by simp),if_neg (by simp)]
    · dsimp only;rw [zb (by omega) (by omega)];rfl) (by
    rintro⟨j,s⟩ ⟨h1,h2⟩
    dsimp only at h1 h2
    subst h1;subst h2
    refine .inr ⟨_,?_,rfl⟩
    unfold z1O
    dsimp only
    rw [ho,if_neg (by simp)]
    rfl) (fuel:=fuel) (i:=0) (s:=(0,[])) (Nat.zero_le _) (by omega) ⟨rfl,rfl⟩
  rw [e1,e2]
theorem zdi {fuel:Nat}{l:List D.Agent}{z:Z}{L:List ByteArray}{c:Int}(hf:18446744073709551616≤fuel) (hl:z.org.length≤400):
    iter (z2L fuel (img l z L) c) fuel (([]:List Int),0)=some (.inl (famN z.org c)):=by
  have ho:(img l z L).origins=z.org:=rfl
  obtain⟨o,e1,e2⟩:=z1n (body:=z2L fuel (img l z L) c) (fun i s=>s.2=(i:Int)∧s.1=pick (fun i=>decide (c≥0) && (z.org.getD i 0 == c)) i) z.org.length (fun o=>o=.inl (famN z.org c)) (by
    rintro i ⟨s,j⟩ hi ⟨h1,h2⟩
    dsimp only at h1 h2
    subst h1;subst h2
    obtain⟨x,hx⟩:=z35 hi
    have hg:z.org.getD i 0=x:=by rw [List.getD_eq_getElem?_getD,hx];rfl
    have hp:=z9z (p:=fun i=>decide (c≥0) && (z.org.getD i 0 == c)) (n:=i)
    have hcap:decide (((pick (fun i=>decide (c≥0) && (z.org.getD i 0 == c)) i).length:Int)+(([(i:Int)]:List Int).length:Int)≤4294967296)=true:=decide_eq_true (by simp only [List.length_cons,List.length_nil];omega)
    refine .inl ⟨(pick (fun i=>decide (c≥0) && (z.org.getD i 0 == c)) (i+1),w64 ((i:Int)+1)),?_,?_,rfl⟩
    · unfold z2L z44 z43
      dsimp only
      rw [ho,if_pos (decide_eq_true (by omega)),z1A hx,Option.bind_some,zae,hg,if_pos hcap]
      by_cases hc:c≥0
      · rw [if_pos (decide_eq_true hc),decide_eq_true hc,Bool.true_and]
        by_cases b:(x == c)=true
        · rw [if_pos b,if_pos b]
        · rw [if_neg b,if_neg b]
      · rw [if_neg (by simpa using hc),decide_eq_false hc,Bool.false_and,if_neg (by simp),if_neg (by simp)]
    · dsimp only;rw [zb (by omega) (by omega)];rfl) (by
    rintro⟨s,j⟩ ⟨h1,h2⟩
    dsimp only at h1 h2
    subst h1;subst h2
    refine .inr ⟨_,?_,rfl⟩
    unfold z2L
    dsimp only
    rw [ho,if_neg (by simp)]
    rfl) (fuel:=fuel) (i:=0) (s:=([],0)) (Nat.zero_le _) (by omega) ⟨rfl,rfl⟩
  rw [e1,e2]

theorem z9v {fuel:Nat}{x:D.Net}{i:Int}(hf:18446744073709551616≤fuel) (_hw:D.Net.wf x) (_hi:I64 i) (hs:x.sz≤1048576):∃ r,z4s fuel x i=some r∧z3P fuel x i=some r∧r.1.length≤1048576:=by
  obtain⟨p,p1,p2,p3⟩:=zco (i:=i) hf hs
  unfold z4s z3P
  rw [p1,p2,Option.bind_some,Option.bind_some]
  by_cases hc:p.2=0
  · rw [if_neg (by simpa using hc),if_neg (by simpa using hc)]
    obtain⟨hn,hm⟩:=p3 hc
    obtain⟨c,c1,c2⟩:=zcY (fuel:=fuel) hn hm
    rw [c1,Option.bind_some]
    have hI:=zd5 hs hf
    have hS:=zd4 hn hf
    rw [if_pos hn] at hI
    unfold z5d z5K
    cases hT:topM x with
    | inl e=>
      rw [hT] at hI hS
      obtain⟨h1,co,w',h2,h3⟩:=hS
      obtain⟨_,r,co',g2⟩:=hI
      rw [h2,g2,Option.bind_some,Option.bind_some,h3]
      dsimp only [Option.elim]
      rw [if_pos (by simpa using h1),if_pos (by simpa using h1),Option.bind_some,Option.bind_some]
      exact⟨_,rfl,rfl,Nat.zero_le _⟩
    | inr y=>
      obtain⟨co,z⟩:=y
      rw [hT] at hI hS
      obtain⟨h1,L,h2,h3⟩:=hS
      obtain⟨_,L',g2,g3⟩:=hI
      have hcode:(imgS x z L).code=0:=rfl
      rw [h3,g3,Option.bind_some,Option.bind_some,hcode,if_neg (by simp),zdh hf h1.org,Option.bind_some,zq]
      dsimp only [Option.elim]
      rw [if_neg (by simp),c2,Option.bind_some,zdi hf h1.org,Option.bind_some,zq]
      unfold z5c z5C
      rw [Option.bind_some,Option.bind_some]
      refine⟨_,rfl,rfl,?_⟩
      have:=z9z (p:=fun i=>decide (c≥0) && (z.org.getD i 0 == c)) (n:=z.org.length)
      have:=h1.org
      show(famN z.org c).length≤1048576
      unfold famN
      omega
  · rw [if_pos (by simpa using hc),if_pos (by simpa using hc)]
    exact⟨_,rfl,rfl,Nat.zero_le _⟩
end Go.E


namespace Go.E
open Go.RowKit Go.Proofs
set_option linter.unusedSimpArgs false
set_option linter.unusedVariables false

theorem lawFamilyOf {x0:D.Net}{x1:Int}(h0:D.Net.wf x0) (h1:I64 x1):∃ fuel,z2J fuel x0 x1=some true:=by
  obtain⟨fuel,hf⟩:∃ n:Nat,18446744073709551616≤n:=⟨_,Nat.le_refl _⟩
  refine⟨fuel,?_⟩
  unfold z2J
  obtain⟨r0,e0,s0⟩:=zbA (l:=(1048576:Int)) hf h0 (by decide) (by omega)
  rw [e0,Option.bind_some]
  rcases s0 with s0 | ⟨s0,t0⟩
  · rw [if_pos (by simp [s0])]
  rw [if_neg (by simp [s0])]
  have z0:D.Net.sz x0≤1048576:=by omega
  obtain⟨r,a0,a1,b0⟩:=z9v hf h0 h1 z0
  have m0:=fun {β:Type}(g:_→Option β)=>z6Y (g:=g) a0
  have m1:=fun {β:Type}(g:_→Option β)=>z6Y (g:=g) a1
  have m2:=fun {β:Type}(g:_→Option β)=>z6Y (g:=g) (zbz hf z0)
  have m3:=fun {β:Type}(g:_→Option β)=>z6Y (g:=g) (zbK hf z0)
  have m4:=fun {β:Type}(g:_→Option β) (k:Int) (h0:0≤k) (h1:k+(ctNet x0:Nat)≤2147483648)=>z6Y (g:=g) (zaj hf z0 h0 h1)
  have c0:=zej (x:=x0)
  have m5:=fun {β:Type}(g:_→Option β)=>z6Y (g:=g) (z7t hf b0)
  have m6:=fun {β:Type}(g:_→Option β) (k:Int) (h0:0≤k) (h1:k+(z5L r.1:Nat)≤2147483648)=>z6Y (g:=g) (z6P hf b0 h0 h1)
  have m7:=fun {β:Type}(g:_→Option β) (k:Int) (h0:0≤k) (h1:k+(z5L r.1:Nat)≤2147483648)=>z6Y (g:=g) (z8R hf b0 h0 h1)
  have d0:=z8T (xs:=r.1)
  simp (disch:=omega) only [↓reduceIte,↓m0,↓m1,↓m2,↓m3,↓m4,↓m5,↓m6,↓m7,lt_f,Bool.not_true,Bool.false_eq_true,bne_self_eq_false]
  simp (disch:=omega) only [↓reduceIte,↓z1f,↓m0,↓m1,↓m2,↓m3,↓m4,↓m5,↓m6,↓m7,lt_f,Bool.not_true,Bool.false_eq_true,bne_self_eq_false]
  simp (disch:=omega) only [↓reduceIte,↓zU,↓m0,↓m1,↓m2,↓m3,↓m4,↓m5,↓m6,↓m7,lt_f,Bool.not_true,Bool.false_eq_true,bne_self_eq_false]
  simp (disch:=omega) only [↓reduceIte,↓z1e,↓m0,↓m1,↓m2,↓m3,↓m4,↓m5,↓m6,↓m7,lt_f,Bool.not_true,Bool.false_eq_true,bne_self_eq_false]
end Go.E


namespace Go.Proofs.YtngggnjnenfgbaaGreatDoor.lawFamilyOf
open Go.ChangeShapes Go.WideShapes Go.ChangeAt Go.RowKit Go.E
set_option linter.unusedVariables false

theorem own:ownKnob Tryz.prog.godebug=none:=by kernel_rfl
theorem door_met (os:Os) (args:Array Value):laidMetH Tryz.prog Rows.fnExactFamilyOfRow.laid ((World.doorLaid Tryz.prog 24 os).forCall (fun _ _=>0) ⟨#[],args,[]⟩).memory:=
  laidMetH_of_parts3 (fuel:=12) (laidMet_of_run' 12 (by kernel_rfl) (by kernel_rfl)) (by kernel_rfl) (by kernel_rfl)
theorem tab_met {W:World}(h:laidMetH Tryz.prog Rows.fnExactFamilyOfRow.laid W):Tab W:=by
  rw [MakeChecks.laidMetH_plain _ _ _ (by kernel_rfl)] at h
  have h2:laidMet Tryz.prog [("internal/strconv.uint64pow10",Rows.laid_internal_strconv_uint64pow10)] W:=h.tail.tail
  rw [show(Rows.laid_internal_strconv_uint64pow10:DataW Unit)=Lib.tabData .u64 Lib.pow10Tab by kernel_rfl] at h2
  exact Lib.tabIs_of_head (g:=0) (t:=172) (e:=165) (n:=20) (by kernel_rfl) (by kernel_rfl) Tryz.underlying172 Tryz.underlying165 (by kernel_rfl) (by kernel_rfl) h2
theorem laidOut:laidOutB Tryz.prog=true:=by kernel_rfl

set_option maxRecDepth 100000 in
theorem lifted (os:Os) (started:os.Started) (H:Type) (enc:TypeId × Value→H):
    ReturnsInHanded {} Tryz.checked os 6 .any (fun w args=>(Rows.fnExactFamilyOfSpec.pre enc Tryz.prog Tryz.f6 [] false w args∧laidMetH Tryz.prog Rows.fnExactFamilyOfRow.laid w)∧sizedMet enc Tryz.prog Tryz.f6 (OpenSpec.ofChange Rows.fnExactFamilyOfSpec) false w args) (Rows.fnExactFamilyOfSpec.post enc Tryz.prog Tryz.f6 false true false false):=by
  refine returnsInHanded_of_change_and (C:=Tryz.checked) (X:=fun w _=>laidMetH Tryz.prog Rows.fnExactFamilyOfRow.laid w) (fun _ _ _ hh h=>h.of_heap hh) own started (by kernel_rfl) Tryz.func6
    (ChangeSpec.witness_shaped (enc:=enc) (C:=Tryz.checked) (os:=os) (X:=fun w _=>laidMetH Tryz.prog Rows.fnExactFamilyOfRow.laid w) false (World.doorLaid Tryz.prog 24 os) #[.agg #[.slice none 0 0],.int .i64 0] 12 rfl (World.shaped_of_RefB (by kernel_rfl) (by kernel_rfl)) (by kernel_rfl) (by kernel_rfl) (by kernel_rfl) (door_met os _)) ?_
  intro W base args ds gs before hval0 hW _ _ hL _
  have hval:∀ (j:Nat) t v,Tryz.f6.params[j]? = some t→args[j]? = some v→Value.okWide Tryz.prog W .any base t v:=hval0
  have hW':=hW
  obtain⟨p,q,hA0,hV,rfl,hfz,hnd⟩:=hW
  have hA:DataW.TrodAll enc Tryz.prog W 0 (fun _=>true) true Tryz.f6.params.toList args.toList ds p:=hA0
  rw [Tryz.params6] at hA hval
  obtain⟨v0,vs0,d0,ds0,p0,q0,hargs,rfl,rfl,h0,r0⟩:=trodAll_cons hA
  obtain⟨v1,vs1,d1,ds1,p1,q1,rfl,rfl,rfl,h1,r1⟩:=trodAll_cons r0
  obtain⟨rfl,rfl,rfl⟩:=trodAll_nil r1
  obtain rfl:args = #[v0,v1]:=by cases args;simp_all
  obtain⟨rfl,rfl⟩:=trodVars_none hV
  have k0:=h0
  have lt0:∀ x∈p0,x.block<W.heap.size:=by obtain⟨m,hm⟩:=k0;exact DataW.trod_lt m _ _ _ hm
  have k1:=h1
  have lt1:∀ x∈p1,x.block<W.heap.size:=by obtain⟨m,hm⟩:=k1;exact DataW.trod_lt m _ _ _ hm
  obtain⟨c0,x0,rfl,g0,w0⟩:=zbU Tryz.underlying24 zeC (hval 0 24 v0 rfl rfl) h0
  obtain⟨x1,rfl,w1⟩:=zeL Tryz.underlying2 (hval 1 2 v1 rfl rfl) h1
  clear hA0 hval0
  obtain⟨fuel,hm⟩:=lawFamilyOf (x0:=x0) (x1:=x1) w0 w1
  refine(laws_FnExactFamilyOf_ok (W:=Base.of W) (Ext.refl _) (tab_met hL) g0 hm).mono ?_
  intro e W' hq
  obtain⟨v,rfl,rfl,hS⟩:=Ret.out hq
  have bel:Below W.heap.size W W':=hS.ext.below
  exact⟨_,rfl,_,_,_,[],_,[],hW',trodAll_mk1 (shut_bool Tryz.underlying4 _),(trodAll_cons_mk (Below.trod laidOut (by kernel_rfl) (of_decide_eq_true (by kernel_rfl)) k0 bel lt0) (trodAll_cons_mk (Below.trod laidOut (by kernel_rfl) (of_decide_eq_true (by kernel_rfl)) k1 bel lt1) trodAll_mk0)),rfl,bel.frame _,fun h=>by cases h⟩

set_option maxRecDepth 100000 in
theorem j1:(Rows.fnExactFamilyOfRow.wf (OpenSpec.ofChange Rows.fnExactFamilyOfSpec))=true:=by kernel_rfl
set_option maxRecDepth 100000 in
theorem j2:(laidOutB Tryz.prog)=true:=by kernel_rfl
set_option maxRecDepth 100000 in
theorem j3:(mapsRowed Tryz.prog)=true:=by kernel_rfl
set_option maxRecDepth 100000 in
theorem j4:(Tryz.f6.params.all (Tryz.prog.readableRec ·))=true:=by kernel_rfl
set_option maxRecDepth 100000 in
theorem j5:(namedTie Tryz.prog Rows.fnExactFamilyOfRow.named Rows.fnExactFamilyOfSpec.vars)=true:=by kernel_rfl
set_option maxRecDepth 100000 in
theorem j6:((Rows.fnExactFamilyOfRow.stops == []))=true:=by kernel_rfl
set_option maxRecDepth 100000 in
theorem j7:((Tryz.prog.stops == []))=true:=by kernel_rfl
set_option maxRecDepth 100000 in
theorem j8:((Rows.fnExactFamilyOfRow.knobs == []))=true:=by kernel_rfl
set_option maxRecDepth 100000 in
theorem j9:((Tryz.prog.stopKnobs == []))=true:=by kernel_rfl
set_option maxRecDepth 100000 in
theorem j10:((Rows.fnExactFamilyOfRow.inPlace == Tryz.prog.inPlace 6))=true:=by kernel_rfl
set_option maxRecDepth 100000 in
theorem j11:((Rows.fnExactFamilyOfRow.unfollowed == Tryz.prog.unfollowed 6))=true:=by kernel_rfl
set_option maxRecDepth 100000 in
theorem j12:((Rows.fnExactFamilyOfRow.recurses == Tryz.prog.recurses 6))=true:=by kernel_rfl
set_option maxRecDepth 100000 in
theorem j13:((Rows.fnExactFamilyOfRow.named == Tryz.prog.varsNamed 6))=true:=by kernel_rfl
set_option maxRecDepth 100000 in
theorem j14:((Rows.fnExactFamilyOfRow.maps == (Tryz.f6.params.toList++Rows.fnExactFamilyOfSpec.plain.varTypes Tryz.prog).any (Tryz.prog.mapsRec ·)))=true:=by kernel_rfl
set_option maxRecDepth 100000 in
theorem j15:((Rows.fnExactFamilyOfRow.ifaces == (Tryz.f6.params.toList++Rows.fnExactFamilyOfSpec.plain.varTypes Tryz.prog).any (Tryz.prog.ifacesRec ·)))=true:=by kernel_rfl
set_option maxRecDepth 100000 in
theorem j16:((Rows.fnExactFamilyOfRow.mapsOut == Tryz.prog.mapsAmong Tryz.f6.resultTypes.toList))=true:=by kernel_rfl
set_option maxRecDepth 100000 in
theorem j17:((Rows.fnExactFamilyOfRow.loops == (Tryz.f6.params.toList++Rows.fnExactFamilyOfSpec.plain.varTypes Tryz.prog).any (Tryz.prog.loopsFrom ·)))=true:=by kernel_rfl
set_option maxRecDepth 100000 in
theorem j18:((Rows.fnExactFamilyOfRow.wideKeys == (Tryz.f6.params.toList++Rows.fnExactFamilyOfSpec.plain.varTypes Tryz.prog++Tryz.f6.resultTypes.toList).any (Tryz.prog.wideKeysFrom ·)))=true:=by kernel_rfl
set_option maxRecDepth 100000 in
theorem j19:(Rows.fnExactFamilyOfSpec.vars.all (Tryz.prog.varReadable ·))=true:=by kernel_rfl
set_option maxRecDepth 100000 in
theorem j20:(Tryz.f6.resultTypes.all (fun t=>Tryz.prog.readableRec t && decide (t<Tryz.prog.types.size)))=true:=by kernel_rfl
set_option maxRecDepth 100000 in
theorem j21:((Rows.fnExactFamilyOfRow.ifacesOut == Tryz.f6.resultTypes.toList.any (Tryz.prog.ifacesRec ·)))=true:=by kernel_rfl
set_option maxRecDepth 100000 in
theorem j22:((Rows.fnExactFamilyOfRow.loopsOut == Tryz.f6.resultTypes.toList.any (Tryz.prog.loopsFrom ·)))=true:=by kernel_rfl
set_option maxRecDepth 100000 in
theorem j23:((Rows.fnExactFamilyOfRow.plainKeys == Tryz.prog.plainKeys))=true:=by kernel_rfl
set_option maxRecDepth 100000 in
theorem j24:(Rows.fnExactFamilyOfRow.shortTexts.isNone)=true:=by kernel_rfl
set_option maxRecDepth 100000 in
theorem j25:(Tryz.prog.stopsHeard)=true:=by kernel_rfl
set_option maxRecDepth 100000 in
theorem j26:(Tryz.prog.mayEnter)=true:=by kernel_rfl
set_option maxRecDepth 100000 in
theorem j27:((Rows.fnExactFamilyOfRow.lifted == Tryz.prog.liftsFinal))=true:=by kernel_rfl
set_option maxRecDepth 100000 in
theorem j28:((Tryz.prog.make == some Rows.fnExactFamilyOfRow.make))=true:=by kernel_rfl
set_option maxRecDepth 100000 in
theorem j29:((Rows.fnExactFamilyOfRow.kinds == (if Rows.fnExactFamilyOfRow.domain.isEmpty then [] else Tryz.f6.params.toList.map fun t=>match Tryz.prog.underlying t with | some (.int k)=>some k | _=>none)))=true:=by kernel_rfl
set_option maxRecDepth 100000 in
theorem j30:((Rows.fnExactFamilyOfRow.pinned == Rows.fnExactFamilyOfRow.pinnedBy))=true:=by kernel_rfl
set_option maxRecDepth 100000 in
theorem j31:((Rows.fnExactFamilyOfRow.veiled == (Tryz.f6.params.toList++Rows.fnExactFamilyOfSpec.plain.varTypes Tryz.prog++Tryz.f6.resultTypes.toList).any (Tryz.prog.veiledRec ·)))=true:=by kernel_rfl
set_option maxRecDepth 100000 in
theorem j32:(Rows.fnExactFamilyOfRow.veiledFits Tryz.prog Tryz.f6.params.toList (Tryz.f6.params.toList++Rows.fnExactFamilyOfSpec.plain.varTypes Tryz.prog++Tryz.f6.resultTypes.toList))=true:=by kernel_rfl
set_option maxRecDepth 100000 in
theorem closed:joinedFacts Tryz.prog 6 Tryz.f6 Rows.fnExactFamilyOfSpec Rows.fnExactFamilyOfRow=true:=by
  unfold joinedFacts
  simp only [Bool.and_eq_true]
  exact⟨⟨⟨⟨⟨⟨⟨⟨⟨⟨⟨⟨⟨⟨⟨⟨⟨⟨⟨⟨⟨⟨⟨⟨⟨⟨⟨⟨⟨⟨⟨j1,j2⟩,j3⟩,j4⟩,j5⟩,j6⟩,j7⟩,j8⟩,j9⟩,j10⟩,j11⟩,j12⟩,j13⟩,j14⟩,j15⟩,j16⟩,j17⟩,j18⟩,j19⟩,j20⟩,j21⟩,j22⟩,j23⟩,j24⟩,j25⟩,j26⟩,j27⟩,j28⟩,j29⟩,j30⟩,j31⟩,j32⟩
set_option maxRecDepth 100000 in
theorem wraps:Tryz.f6.isWrapper Tryz.prog Rows.fnExactFamilyOfRow.wrapper Rows.fnExactFamilyOfRow.mainSum:=by
  unfold Func.isWrapper;first | (rw [if_pos (by decide +kernel)];kernel_rfl) | (rw [if_neg (by decide +kernel)];exact⟨rfl,rfl⟩)
theorem instd:Tryz.f6.isInstance Tryz.prog Rows.fnExactFamilyOfRow.origin Rows.fnExactFamilyOfRow.targs:=of_decide_eq_true (by kernel_rfl)

set_option maxRecDepth 100000 in
theorem over:Rows.fnExactFamilyOfRow.holds Tryz.pinned (OpenSpec.ofChange Rows.fnExactFamilyOfSpec):=
  OpenClaim.holds_of_wide 6 Tryz.f6 rfl rfl rfl rfl rfl rfl rfl ⟨rfl,rfl,rfl,rfl,rfl⟩ rfl rfl rfl rfl rfl (by kernel_rfl) Tryz.func6 closed instd wraps
    (fun os started H enc _=>lifted os started H enc)

set_option maxRecDepth 100000 in
theorem proved:Rows.FnExactFamilyOfCardSaid:=
  Claim7.holds_tied_plain_at .later [] [.data,.data,.data] true (true,"dc161d386cc6954d56ed14786d5d9191bd1e1af4332ce236ec48314a7c8af4b6") false
    over (fun _ h=>by cases h) (by kernel_rfl) (fun _ h=>by cases h) fnExactFamilyOf_row_tie rfl ⟨rfl,rfl⟩ (by kernel_rfl) rfl
    (fun f fn hf hfn=>by
      obtain rfl:f=6:=Option.some.inj ((show Tryz.prog.funcNamed "loop.example/g01074/laws.FnExactFamilyOf" = some 6 by kernel_rfl).symm.trans hf) |>.symm
      obtain rfl:fn=Tryz.f6:=(Option.some.inj (Tryz.func6.symm.trans hfn)).symm
      exact⟨by kernel_rfl,fun j t ht=>by
        rw [Tryz.params6] at ht
        have hm:t∈[24,2]:=by simpa using Array.mem_of_getElem? ht
        have hall:([24,2].all fun u=>!Tryz.prog.wantsStandIn u)=true:=by kernel_rfl
        exact(show Tryz.prog.wantsStandIn t=false by simpa using List.all_eq_true.1 hall t hm)⟩)
    (by kernel_rfl)
#print axioms proved
end Go.Proofs.YtngggnjnenfgbaaGreatDoor.lawFamilyOf

