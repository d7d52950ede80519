/- The program's reading is the plain one: variables, the node's shape, the count of nodes. Conditions: the net is valid. -/
import Derived.Test.YtngggnjnenfgbaaDoorRdImplb
namespace Go.E
open Go.RowKit Go.Proofs
set_option linter.unusedSimpArgs false
set_option linter.unusedVariables false

theorem z8Y {fuel:Nat}{x y:SS}{lev:Int}(hf:18446744073709551616≤fuel) (hx:x.length=9) (hy:y.length=9) (h0:0≤lev) (h8:lev≤8):
    z1b fuel x y lev=some (decide (x.take lev.toNat=y.take lev.toNat)):=by
  unfold z1b
  obtain⟨o,h1,h2⟩:=z2G (body:=zJ fuel x y lev) (fun i s=>s=(i:Int)∧x.take i=y.take i) lev.toNat (fun o=>aft o (z23 fuel)=some (decide (x.take lev.toNat=y.take lev.toNat))) (by
    rintro i s hi ⟨rfl,ht⟩
    obtain⟨u,hu⟩:=z3J (xs:=x) (i:=i) (by omega)
    obtain⟨v,hv⟩:=z3J (xs:=y) (i:=i) (by omega)
    have hb:zJ fuel x y lev (i:Int)=if(!(decide (u=v)))=true then some (.ret false) else some (.next (w64 ((i:Int)+1))):=by
      unfold zJ z4e
      rw [if_pos (decide_eq_true (by omega)),if_pos (decide_eq_true (by omega)),z2H hu,Option.bind_some,if_pos (decide_eq_true (by omega)),z2H hv,Option.bind_some,Option.bind_some]
    rw [hb]
    by_cases huv:u=v
    · rw [if_neg (by simp [huv])]
      refine .inl ⟨_,rfl,by rw [zd (by omega) (by omega)];rfl,?_⟩
      rw [List.take_add_one,List.take_add_one,hu,hv,ht,huv]
    · rw [if_pos (by simp [huv])]
      refine .inr (.inl ⟨false,rfl,?_⟩)
      show some false=_
      rw [decide_eq_false]
      intro e
      have:=congrArg (fun q=>q[i]?) e
      simp only [List.getElem?_take,hu,hv,if_pos hi] at this
      exact huv (Option.some.inj this)) (by
    rintro s ⟨rfl,ht⟩
    refine .inr ⟨(),?_,?_⟩
    · unfold zJ
      rw [if_neg (by simp;omega)]
    · show some true=_
      rw [decide_eq_true ht]) (fuel:=fuel) (i:=0) (s:=0) (Nat.zero_le _) (by omega) ⟨rfl,rfl⟩
  rw [h1,Option.bind_some,h2]

theorem z5C {l:List D.Agent}{lam:Int}{ss:SS}:∀ {bs:BS}{k:Nat}{j:Int},varM l lam ss bs k=some j→0≤j
  | [],_,_,h=>by cases h
  | b::bs,k,j,h=>by
    unfold varM at h
    split at h
    · cases h;omega
    · exact z5C h
theorem z9S {fuel:Nat}{R:D.reading}{lam:Int}{a:D.Agent}{ss:SS}{bs:BS}(hf:18446744073709551616≤fuel) (ha:idx R.Net.Agents lam=some a) (h0:0≤a.Level) (h8:a.Level≤8) (hs:ss.length=9) (hb:∀ b,b∈bs→b.2.length=9) (hl:bs.length≤1000):
    z1c fuel R lam ss bs=some (match varM R.Net.Agents lam ss bs 0 with | some k=>k | none=>-1):=by
  have hlev:levelAt R.Net.Agents lam=a.Level.toNat:=by unfold levelAt;rw [ha]
  have key:∀ (bs:BS) (k:Nat) (fu:Nat),(∀ b,b∈bs→b.2.length=9)→bs.length<fu→k+bs.length≤1000→
      iter (zq fuel R lam ss) fu (bs,(k:Int))=some (match varM R.Net.Agents lam ss bs k with | some k'=>.inr k' | none=>.inl ()):=by
    intro bs
    induction bs with
    | nil=>
      intro k fu _ hfu _
      obtain⟨fu,rfl⟩:∃ f',fu=f'+1:=⟨fu - 1,by simp at hfu;omega⟩
      have:zq fuel R lam ss (([]:BS),(k:Int))=some (.brk ()):=by
        unfold zq
        rw [if_neg (by simp)]
      simp only [iter,this]
      rfl
    | cons b bs ih=>
      intro k fu hb hfu hk
      simp only [List.length_cons] at hfu hk
      obtain⟨fu,rfl⟩:∃ f',fu=f'+1:=⟨fu - 1,by omega⟩
      have hbody:zq fuel R lam ss ((b::bs,(k:Int)):BS × Int)=if b.1=lam∧ss.take a.Level.toNat=b.2.take a.Level.toNat then some (.ret (k:Int)) else some (.next (bs,w64 ((k:Int)+1))):=by
        unfold zq
        rw [if_pos (by simp)]
        show((some b).bind fun y66=>_)=_
        rw [Option.bind_some]
        by_cases h1:b.1=lam
        · rw [if_pos (by simpa using h1),ha,Option.bind_some,z8Y hf hs (hb b (by simp)) h0 h8,Option.bind_some]
          unfold zK
          by_cases h2:ss.take a.Level.toNat=b.2.take a.Level.toNat
          · rw [if_pos (c:=b.1=lam∧_) ⟨h1,h2⟩,if_pos (decide_eq_true h2)]
          · rw [if_neg (c:=b.1=lam∧_) (fun h=>h2 h.2),decide_eq_false h2,if_neg Bool.false_ne_true]
            rfl
        · rw [if_neg (by simpa using h1),if_neg (fun h=>h1 h.1)]
          unfold zK
          rw [if_neg (by simp)]
          rfl
      simp only [iter,hbody]
      unfold varM
      rw [hlev]
      by_cases h:b.1=lam∧ss.take a.Level.toNat=b.2.take a.Level.toNat
      · rw [if_pos h,if_pos h]
      · rw [if_neg h,if_neg h]
        dsimp only
        rw [zd (by omega) (by omega)]
        have:=ih (k+1) fu (fun b' hb'=>hb b' (by simp [hb'])) (by omega) (by omega)
        exact_mod_cast this
  unfold z1c
  have:=key bs 0 fuel hb (by omega) (by omega)
  rw [show((0:Int))=((0:Nat):Int) from rfl,this,Option.bind_some]
  cases varM R.Net.Agents lam ss bs 0<;>rfl

theorem zb4 {fuel:Nat}{a:D.Agent}(hf:18446744073709551616≤fuel) (h1:1≤a.Ports.length) (h2:a.Ports.length≤4):iter (z10 fuel a) fuel ([],1)=some (.inl (numsFrom (a.Ports.length - 1))):=by
  obtain⟨o,e1,e2⟩:=z2G (body:=z10 fuel a) (fun i s=>s.1=numsFrom i∧s.2=(i:Int)+1) (a.Ports.length - 1) (fun o=>o=.inl (numsFrom (a.Ports.length - 1))) (by
    rintro i ⟨s,j⟩ hi ⟨g1,g2⟩
    dsimp only at g1 g2
    subst g1;subst g2
    refine .inl ⟨(numsFrom i++[(i:Int)+1],w64 ((i:Int)+1+1)),?_,?_,?_⟩
    · unfold z10
      dsimp only
      rw [if_pos (decide_eq_true (by omega)),if_pos (decide_eq_true (by rw [z7d];simp;omega))]
    · unfold numsFrom;rw [List.range_succ,List.map_append];rfl
    · dsimp only;rw [zd (by omega) (by omega)];omega) (by
    rintro⟨s,j⟩ ⟨g1,g2⟩
    dsimp only at g1 g2
    subst g1;subst g2
    refine .inr ⟨_,?_,rfl⟩
    unfold z10
    dsimp only
    rw [if_neg (by simp;omega)]) (fuel:=fuel) (i:=0) (s:=([],1)) (Nat.zero_le _) (by omega) ⟨rfl,rfl⟩
  rw [e1,e2]

theorem z8M {fuel:Nat}{R:D.reading}{a:D.Agent}{p:D.Port}{ss:SS}{bs:BS}(hf:18446744073709551616≤fuel) (ha:idx R.Net.Agents p.Agent=some a) (hag:agN a=true) (hs:ss.length=9) (hb:∀ b,b∈bs→b.2.length=9) (hl:bs.length≤1000):
    match shapeM R.Net.Agents a p ss bs with
    | some (kd,v,d,sl)=>z1g fuel R p ss bs=some (⟨kd,v,d,[]⟩,sl,true)
    | none=>∃ c s,z1g fuel R p ss bs=some (c,s,false):=by
  have hfa:=z3R hag
  have hpos:1≤a.Ports.length:=by
    unfold agN at hag
    rw [Bool.and_eq_true] at hag
    have:=of_decide_eq_true hag.1
    omega
  have hcl:zH fuel a.Data=some a.Data:=by
    unfold zH
    rw [if_pos (decide_eq_true (by simp;omega))]
    rfl
  unfold shapeM z1g
  rw [ha,Option.bind_some]
  unfold z1d
  by_cases h2:a.Kind=2
  · rw [if_pos h2,if_pos (show(a.Kind == 2)=true by simpa using h2)]
    by_cases s0:p.Slot=0
    · rw [if_pos s0,if_pos (show(p.Slot == 0)=true by simpa using s0)]
    rw [if_neg s0,if_neg (show ¬ (p.Slot == 0)=true by simpa using s0),if_pos (show(a.Kind == 2)=true by simpa using h2)]
    unfold zZ
    by_cases s1:p.Slot=1
    · rw [if_pos s1,if_pos (show(p.Slot == 1)=true by simpa using s1),z9S hf ha hfa.1 hfa.2.1 hs hb hl,Option.bind_some]
      cases hv:varM R.Net.Agents p.Agent ss bs 0 with
      | none=>
        unfold z3G
        exact⟨_,_,rfl⟩
      | some k=>
        unfold z3G
        dsimp only [Option.map_some]
        rw [Option.bind_some,decide_eq_true (by have:=z5C hv;omega)]
    · rw [if_neg s1,if_neg (show ¬ (p.Slot == 1)=true by simpa using s1),if_neg (show ¬ (a.Kind == 3)=true by simp [h2])]
      unfold zY zM zv zm zj zc
      simp [h2]
  rw [if_neg h2,if_neg (show ¬ (a.Kind == 2)=true by simpa using h2),if_neg Bool.false_ne_true,if_neg (show ¬ (a.Kind == 2)=true by simpa using h2)]
  unfold zZ
  rw [if_neg Bool.false_ne_true]
  unfold zY
  by_cases h3:a.Kind=3
  · rw [if_pos h3,if_pos (show(a.Kind == 3)=true by simpa using h3)]
    by_cases s2:p.Slot=2
    · rw [if_pos s2,if_pos (show(p.Slot == 2)=true by simpa using s2)]
    · rw [if_neg s2,if_neg (show ¬ (p.Slot == 2)=true by simpa using s2),if_neg (show ¬ (a.Kind == 6)=true by simp [h3])]
      unfold zM zv zm zj zc
      simp [h3]
  rw [if_neg h3,if_neg (show ¬ (a.Kind == 3)=true by simpa using h3),if_neg Bool.false_ne_true]
  by_cases h6:a.Kind=6
  · rw [if_pos h6,if_pos (show(a.Kind == 6)=true by simpa using h6)]
    rfl
  rw [if_neg h6,if_neg (show ¬ (a.Kind == 6)=true by simpa using h6)]
  unfold zM
  by_cases h7:a.Kind=7
  · rw [if_pos h7,if_pos (show(a.Kind == 7)=true by simpa using h7)]
    by_cases s2:p.Slot=2
    · rw [if_pos s2,if_pos (show(p.Slot == 2)=true by simpa using s2)]
    · rw [if_neg s2,if_neg (show ¬ (p.Slot == 2)=true by simpa using s2),if_neg (show ¬ (a.Kind == 8)=true by simp [h7])]
      unfold zv zm zj zc
      simp [h7]
  rw [if_neg h7,if_neg (show ¬ (a.Kind == 7)=true by simpa using h7),if_neg Bool.false_ne_true]
  unfold zv
  by_cases h8:a.Kind=8
  · rw [if_pos h8,if_pos (show(a.Kind == 8)=true by simpa using h8)]
    by_cases s2:p.Slot=1
    · rw [if_pos s2,if_pos (show(p.Slot == 1)=true by simpa using s2)]
    · rw [if_neg s2,if_neg (show ¬ (p.Slot == 1)=true by simpa using s2),if_neg (show ¬ (a.Kind == 9)=true by simp [h8])]
      unfold zm zj zc
      simp [h8]
  rw [if_neg h8,if_neg (show ¬ (a.Kind == 8)=true by simpa using h8),if_neg Bool.false_ne_true]
  unfold zm
  by_cases h9:a.Kind=9
  · rw [if_pos h9,if_pos (show(a.Kind == 9)=true by simpa using h9)]
    by_cases s2:p.Slot=0
    · rw [if_pos s2,if_pos (show(p.Slot == 0)=true by simpa using s2),zb4 hf hpos hfa.2.2.2.2.2.2.2.2.2.2]
      rfl
    · rw [if_neg s2,if_neg (show ¬ (p.Slot == 0)=true by simpa using s2),if_neg (show ¬ (a.Kind == 10)=true by simp [h9])]
      unfold zj zc
      simp [h9]
  rw [if_neg h9,if_neg (show ¬ (a.Kind == 9)=true by simpa using h9),if_neg Bool.false_ne_true]
  unfold zj
  by_cases o:a.Kind=10
  · rw [if_pos o,if_pos (show(a.Kind == 10)=true by simpa using o)]
    by_cases s2:p.Slot=1
    · rw [if_pos s2,if_pos (show(p.Slot == 1)=true by simpa using s2),hcl]
      rfl
    · rw [if_neg s2,if_neg (show ¬ (p.Slot == 1)=true by simpa using s2),if_neg (show ¬ (a.Kind == 11)=true by simp [o])]
      unfold zc
      simp [o]
  rw [if_neg o,if_neg (show ¬ (a.Kind == 10)=true by simpa using o),if_neg Bool.false_ne_true]
  unfold zc
  by_cases y:a.Kind=11
  · rw [if_pos y,if_pos (show(a.Kind == 11)=true by simpa using y)]
    by_cases s2:p.Slot=1
    · rw [if_pos s2,if_pos (show(p.Slot == 1)=true by simpa using s2),hcl]
      rfl
    · rw [if_neg s2,if_neg (show ¬ (p.Slot == 1)=true by simpa using s2),if_neg (show ¬ (a.Kind == 12)=true by simp [y])]
      exact⟨_,_,rfl⟩
  rw [if_neg y,if_neg (show ¬ (a.Kind == 11)=true by simpa using y),if_neg Bool.false_ne_true]
  by_cases G:a.Kind=12
  · rw [if_pos G,if_pos (show(a.Kind == 12)=true by simpa using G)]
    rfl
  · rw [if_neg G,if_neg (show ¬ (a.Kind == 12)=true by simpa using G)]
    exact⟨_,_,rfl⟩

theorem z7Q {fuel:Nat}{l:List D.Agent}{z:Z}{L:List ByteArray}{ag dep:Int}{lab:ByteArray}(ho:z.org.length≤400) (hL:L.length≤400):
    z1o fuel (img l z L) ag lab dep=if z.org.length≥400∨dep>80 then some (4,img l z L) else some (0,img l ⟨z.st,z.ent,z.org++[ag]⟩ (L++[lab])):=by
  have bad:zQ fuel (img l z L) ag lab true=some (4,img l z L):=by unfold zQ;rw [if_pos rfl]
  unfold z1o
  by_cases h1:z.org.length=400
  · rw [if_pos (by simp [img,h1]),bad,if_pos (.inl (by omega))]
  · rw [if_neg (by simp [img];omega)]
    by_cases h2:dep>80
    · rw [decide_eq_true h2,bad,if_pos (.inr h2)]
    · rw [decide_eq_false h2,if_neg (by omega)]
      unfold zQ img
      dsimp only
      rw [if_neg (by simp),if_pos (decide_eq_true (by simp;omega)),if_pos (decide_eq_true (by simp;omega)),zd (by omega) (by omega),List.length_append]
      rfl
end Go.E


namespace Go.E
open Go.RowKit Go.Proofs
set_option linter.unusedSimpArgs false
set_option linter.unusedVariables false


def OutI (l:List D.Agent) (st:Nat) (o:Option (D.Core × Int × D.reading)):Int ⊕ (D.Core × Z)→Prop
  | .inl c=>c≠0∧∃ co r',o=some (co,c,r')
  | .inr (co,z')=>ZOk l z'∧st≤z'.st∧∃ L':List ByteArray,L'.length=z'.org.length∧o=some (co,0,img l z' L')

theorem zbq {fuel:Nat}{x0:D.reading}{s:Int × Int × Int × (List Int) × (List Int) × (List ByteArray) × (List D.Core)}{co:Int × Int × (List Int) × (List D.Core)}{c:Int}{t:Int × Int × (List Int) × (List Int) × (List ByteArray)}(h:c≠0):
    ∃ r',zE fuel x0 s (co,c,t)=some (.ret ((⟨0,0,[],[]⟩:D.Core),c,r')):=by
  unfold zE
  rw [if_pos (by simpa using h)]
  exact⟨_,rfl⟩
theorem zbp {fuel:Nat}{x0:D.reading}{i st no:Int}{og ti:List Int}{la:List ByteArray}{cs:List D.Core}{k v:Int}{d:List Int}{ks:List D.Core}{e2 n2:Int}{o2 t2:List Int}{l2:List ByteArray}(h:cs.length≤10):
    zE fuel x0 (i,st,no,og,ti,la,cs) ((k,v,d,ks),0,e2,n2,o2,t2,l2)=some (.next (w64 (i+1),e2,n2,o2,t2,l2,cs++[⟨k,v,d,ks⟩])):=by
  unfold zE
  rw [if_neg (by simp),if_pos (decide_eq_true (by simp;omega))]
theorem z9C {fuel:Nat}{n:D.Net}(hn:netN n=true){a:D.Agent}{s1:SS}{bs1:BS}{M:Z→D.Port→Int ⊕ (D.Core × Z)}{recf:D.reading→D.Port→SS→BS→Int→Option (D.Core × Int × D.reading)}{z0:Z}{L0:List ByteArray}{x4:Int}{st0:Nat}
    {lab:ByteArray}{p1:D.Port}(ha:idx n.Agents p1.Agent=some a){u:Int × Int × Int × (List Int) × (List Int) × (List ByteArray)}{c0:D.Core}{slots:List Int}{w:Int × Int × (List Int) × (List Int) × (List ByteArray) × (List D.Core)}
    (hsl:slots.length≤3)
    (hrec:∀ z q L,hasN n.Agents q=true→st0≤z.st→ZOk n.Agents z→L.length=z.org.length→OutI n.Agents z.st (recf (img n.Agents z L) q s1 bs1 (w64 (x4+1))) (M z q)):
    ∀ (rest pre:List Int) (z:Z) (L:List ByteArray) (cs:List D.Core) (fu:Nat),slots=pre++rest→(∀ s,s∈rest→0≤s∧s<a.Ports.length)→st0≤z.st→ZOk n.Agents z→L.length=z.org.length→cs.length+rest.length≤10→rest.length<fu→
      match kidsM M a rest z cs with
      | .inl c=>c≠0∧∃ co r',iter (zk fuel (img n.Agents z0 L0) x4 recf (lab,s1,p1.Agent,u) (c0,slots,true) (bs1,w)) fu ((pre.length:Int),(z.st:Int),(z.org.length:Int),z.org,timesOf n.Agents z.ent,L,cs)=some (.inr (co,c,r'))
      | .inr (cs',z')=>ZOk n.Agents z'∧z.st≤z'.st∧∃ L':List ByteArray,L'.length=z'.org.length∧iter (zk fuel (img n.Agents z0 L0) x4 recf (lab,s1,p1.Agent,u) (c0,slots,true) (bs1,w)) fu ((pre.length:Int),(z.st:Int),(z.org.length:Int),z.org,timesOf n.Agents z.ent,L,cs)=some (.inl ((z'.st:Int),(z'.org.length:Int),z'.org,timesOf n.Agents z'.ent,L',cs')):=by
  intro rest
  induction rest with
  | nil=>
    intro pre z L cs fu he _ hst hz hL hc hfu
    obtain⟨fu,rfl⟩:∃ f',fu=f'+1:=⟨fu - 1,by simp at hfu;omega⟩
    have hb:zk fuel (img n.Agents z0 L0) x4 recf (lab,s1,p1.Agent,u) (c0,slots,true) (bs1,w) ((pre.length:Int),(z.st:Int),(z.org.length:Int),z.org,timesOf n.Agents z.ent,L,cs)=some (.brk ((z.st:Int),(z.org.length:Int),z.org,timesOf n.Agents z.ent,L,cs)):=by
      unfold zk
      rw [if_neg (by rw [he];simp)]
    exact⟨hz,Nat.le_refl _,L,hL,by simp only [iter,hb]⟩
  | cons s rest ih=>
    intro pre z L cs fu he hs hst hz hL hc hfu
    simp only [List.length_cons] at hfu hc
    obtain⟨fu,rfl⟩:∃ f',fu=f'+1:=⟨fu - 1,by omega⟩
    obtain⟨g0,g1⟩:=hs s (by simp)
    obtain⟨q,hq⟩:=z3J (xs:=a.Ports) (i:=s.toNat) (by omega)
    have hqi:idx a.Ports s=some q:=by rw [z3m g0,hq]
    have hat:idx slots (pre.length:Int)=some s:=by rw [z3m (by omega),he];simp
    have hlen:pre.length<slots.length:=by rw [he];simp
    have hR:=hrec z q L (z5G hn ha hqi) hst hz hL
    have hpe:zN fuel (⟨n.Agents⟩:D.Net) (⟨p1.Agent,s⟩:D.Port)=some q:=by
      rw [z54];unfold portAt;dsimp only;rw [ha,Option.bind_some,hqi]
    have hb:zk fuel (img n.Agents z0 L0) x4 recf (lab,s1,p1.Agent,u) (c0,slots,true) (bs1,w) ((pre.length:Int),(z.st:Int),(z.org.length:Int),z.org,timesOf n.Agents z.ent,L,cs)=
        (recf (img n.Agents z L) q s1 bs1 (w64 (x4+1))).bind fun b=>zE fuel (img n.Agents z0 L0) ((pre.length:Int),(z.st:Int),(z.org.length:Int),z.org,timesOf n.Agents z.ent,L,cs) ((b.1.Kind,b.1.Value,b.1.Data,b.1.Kids),b.2.1,b.2.2.entered,b.2.2.nodes,b.2.2.origins,b.2.2.times,b.2.2.labels):=by
      unfold zk
      rw [if_pos (decide_eq_true (by dsimp only;omega))]
      dsimp only
      rw [hat,Option.bind_some]
      have hx:(img n.Agents z0 L0).Net.Agents=n.Agents:=rfl
      have hI:(⟨(⟨n.Agents⟩:D.Net),(z.st:Int),(z.org.length:Int),z.org,timesOf n.Agents z.ent,L⟩:D.reading)=img n.Agents z L:=rfl
      rw [hx,hpe,Option.bind_some,hI]
    unfold kidsM
    rw [hqi]
    dsimp only
    cases hM:M z q with
    | inl c=>
      rw [hM] at hR
      obtain⟨c0',co,r',e⟩:=hR
      rw [e,Option.bind_some] at hb
      obtain⟨r2,e2⟩:=zbq (fuel:=fuel) (x0:=img n.Agents z0 L0) (s:=((pre.length:Int),(z.st:Int),(z.org.length:Int),z.org,timesOf n.Agents z.ent,L,cs)) (co:=(co.Kind,co.Value,co.Data,co.Kids)) (t:=(r'.entered,r'.nodes,r'.origins,r'.times,r'.labels)) c0'
      have d:=hb.trans e2
      simp only [iter,d]
      exact⟨c0',_,r2,rfl⟩
    | inr x=>
      obtain⟨co,z'⟩:=x
      rw [hM] at hR
      obtain⟨hz',hle,L',hL',e⟩:=hR
      rw [e,Option.bind_some] at hb
      have d:=hb.trans (zbp (by omega))
      rw [zd (by omega) (by omega)] at d
      have hp1:(img n.Agents z' L').entered=(z'.st:Int):=rfl
      have hp2:(img n.Agents z' L').nodes=(z'.org.length:Int):=rfl
      have hp3:(img n.Agents z' L').origins=z'.org:=rfl
      have hp4:(img n.Agents z' L').times=timesOf n.Agents z'.ent:=rfl
      have hp5:(img n.Agents z' L').labels=L':=rfl
      have hp6:(⟨co.Kind,co.Value,co.Data,co.Kids⟩:D.Core)=co:=by cases co;rfl
      rw [hp1,hp2,hp3,hp4,hp5,hp6] at d
      simp only [iter,d]
      have hc1:(((pre++[s]).length:Nat):Int)=(pre.length:Int)+1:=by simp
      have:=ih (pre++[s]) z' L' (cs++[co]) fu (by rw [he];simp) (fun s' h'=>hs s' (by simp [h'])) (by omega) hz' hL' (by simp;omega) (by omega)
      rw [hc1] at this
      cases hk:kidsM M a rest z' (cs++[co]) with
      | inl c=>
        rw [hk] at this
        exact this
      | inr y=>
        obtain⟨cs',z''⟩:=y
        rw [hk] at this
        obtain⟨h1,h2,L'',h3,h4⟩:=this
        exact⟨h1,by omega,L'',h3,h4⟩


def GoodI (n:D.Net) (k:Nat) (M:SS→BS→Z→D.Port→Int ⊕ (D.Core × Z)) (f:D.reading→D.Port→SS→BS→Int→Option (D.Core × Int × D.reading)):Prop:=
  ∀ ss bs z p L,hasN n.Agents p=true→SsOk z.st ss→BsOk n.Agents bs→bs.length+k≤81→ZOk n.Agents z→L.length=z.org.length→OutI n.Agents z.st (f (img n.Agents z L) p ss bs (81 - (k:Int))) (M ss bs z p)

theorem z7D {fuel:Nat}{n:D.Net}(hn:netN n=true) (hf:18446744073709551616≤fuel){k:Nat}{M:SS→BS→Z→D.Port→Int ⊕ (D.Core × Z)}{recf:D.reading→D.Port→SS→BS→Int→Option (D.Core × Int × D.reading)}
    (hk:k≤81) (hrec:k=0∨GoodI n (k - 1) M recf):GoodI n k (stepM n.Agents k M) (z18 fuel recf):=by
  rintro ss bs z p L hp hs hbs hbl hz hL
  have hlen:=z6S hn
  unfold stepM z18
  have hW:=z97 (fuel:=fuel) hn (z0:=z) (L0:=L) (L:=L) (4000 - z.st) z p ss (⟨#[]⟩:ByteArray) fuel (by have:=hz.st;omega) hp hs hz.ent hz.len (Nat.zero_le _) (by omega)
  have hO:=z84 hn (4000 - z.st) z p ss (by have:=hz.st;omega) hp hs hz.ent
  have hLn:=@z66 n.Agents (4000 - z.st) z p ss hz.len
  cases hw:walkM n.Agents (4000 - z.st) z p ss with
  | inl c=>
    rw [hw] at hW hO
    obtain⟨co,r',e⟩:=hW
    have e':iter (za fuel (img n.Agents z L)) fuel ((⟨#[]⟩:ByteArray),ss,p.Agent,p.Slot,(img n.Agents z L).entered,(img n.Agents z L).nodes,(img n.Agents z L).origins,(img n.Agents z L).times,(img n.Agents z L).labels)=some (.inr (co,c,r')):=e
    rw [e',Option.bind_some]
    exact⟨by rcases hO with h | h<;>omega,co,r',rfl⟩
  | inr x=>
    obtain⟨z1,p1,s1⟩:=x
    rw [hw] at hW hO
    obtain⟨lab,hlab,e⟩:=hW
    obtain⟨hp1,O,hst1,hlt1,he1,Y,a,ha,h4⟩:=hO
    have hz1:ZOk n.Agents z1:=⟨hst1,hLn hw,he1,by rw [Y];exact hz.org⟩
    have hL1:L.length=z1.org.length:=by rw [Y];exact hL
    have e':iter (za fuel (img n.Agents z L)) fuel ((⟨#[]⟩:ByteArray),ss,p.Agent,p.Slot,(img n.Agents z L).entered,(img n.Agents z L).nodes,(img n.Agents z L).origins,(img n.Agents z L).times,(img n.Agents z L).labels)=some (.inl (lab,s1,p1.Agent,p1.Slot,(z1.st:Int),(z1.org.length:Int),z1.org,timesOf n.Agents z1.ent,L)):=e
    rw [e',Option.bind_some,zR]
    clear e e'
    dsimp only
    rw [ha]
    dsimp only
    have hag:=z4u hn ha
    have hfa:=z3R hag
    have hSh:=z8M (fuel:=fuel) (R:=img n.Agents z1 L) (p:=p1) (ss:=s1) (bs:=bs) hf ha hag O.1 (fun b hb=>(hbs b hb).1.1) (by omega)
    unfold z2V
    dsimp only
    have hN:(img n.Agents z L).Net.Agents=n.Agents:=rfl
    have hN1:(img n.Agents z1 L).Net.Agents=n.Agents:=rfl
    rw [hN1] at hSh
    rw [hN]
    have hI:(⟨(⟨n.Agents⟩:D.Net),(z1.st:Int),(z1.org.length:Int),z1.org,timesOf n.Agents z1.ent,L⟩:D.reading)=img n.Agents z1 L:=rfl
    have hP:(⟨p1.Agent,p1.Slot⟩:D.Port)=p1:=rfl
    rw [hI,hP]
    cases hsh:shapeM n.Agents a p1 s1 bs with
    | none=>
      rw [hsh] at hSh
      obtain⟨c,s,e⟩:=hSh
      rw [e,Option.bind_some]
      dsimp only
      rw [if_pos (by simp)]
      exact⟨by decide,_,_,rfl⟩
    | some y=>
      obtain⟨kd,v,d,slots⟩:=y
      rw [hsh] at hSh
      dsimp only at hSh ⊢
      obtain⟨q1,q2,q3,q4,q5,q6,q7⟩:=z6r hag hsh
      rw [hSh,Option.bind_some]
      dsimp only
      rw [if_neg (by simp),z7Q hz1.org (by rw [hL1];exact hz1.org)]
      by_cases hfull:z1.org.length≥400∨k=0
      · rw [if_pos hfull,if_pos (hfull.imp id fun h=>by omega),Option.bind_some]
        dsimp only
        rw [if_pos (by simp)]
        exact⟨by decide,_,_,rfl⟩
      · rw [if_neg hfull,if_neg (fun h=>hfull (h.imp id fun h=>by omega)),Option.bind_some]
        dsimp only
        rw [if_neg (by simp),ha,Option.bind_some]
        have hgood:GoodI n (k - 1) M recf:=hrec.resolve_left fun h=>hfull (.inr h)
        have hdep:w64 (81 - (k:Int)+1)=81 - ((k - 1:Nat):Int):=by
          rw [zd (by omega) (by omega)]
          have:((k - 1:Nat):Int)=(k:Int) - 1:=by omega
          omega
        have hz2:ZOk n.Agents ⟨z1.st,z1.ent,z1.org++[p1.Agent]⟩:=⟨hz1.st,hz1.len,hz1.ent,by have:=not_or.1 hfull;simp;omega⟩
        have kids:∀ (bs1:BS) (w:Int × Int × (List Int) × (List Int) × (List ByteArray) × (List D.Core)) (u:Int × Int × Int × (List Int) × (List Int) × (List ByteArray)),BsOk n.Agents bs1→bs1.length≤bs.length+1→∀ (z2:Z) (L2:List ByteArray) (cs:List D.Core),z1.st≤z2.st→ZOk n.Agents z2→L2.length=z2.org.length→cs.length≤5→
            match kidsM (M s1 bs1) a slots z2 cs with
            | .inl c=>c≠0∧∃ co r',iter (zk fuel (img n.Agents z L) (81 - (k:Int)) recf (lab,s1,p1.Agent,u) ((⟨kd,v,d,[]⟩:D.Core),slots,true) (bs1,w)) fuel ((0:Int),(z2.st:Int),(z2.org.length:Int),z2.org,timesOf n.Agents z2.ent,L2,cs)=some (.inr (co,c,r'))
            | .inr (cs',z')=>ZOk n.Agents z'∧z2.st≤z'.st∧∃ L':List ByteArray,L'.length=z'.org.length∧iter (zk fuel (img n.Agents z L) (81 - (k:Int)) recf (lab,s1,p1.Agent,u) ((⟨kd,v,d,[]⟩:D.Core),slots,true) (bs1,w)) fuel ((0:Int),(z2.st:Int),(z2.org.length:Int),z2.org,timesOf n.Agents z2.ent,L2,cs)=some (.inl ((z'.st:Int),(z'.org.length:Int),z'.org,timesOf n.Agents z'.ent,L',cs')):=fun bs1 w u H hb1l z2 L2 cs G hz2 hL2 hcs=>
          z9C hn (st0:=z1.st) ha q1 (fun z' q L' h1 h2 h3 h4'=>by
            rw [hdep]
            exact hgood s1 bs1 z' q L' h1 (O.mono h2) H (by omega) h3 h4') slots [] z2 L2 cs fuel rfl q2 G hz2 hL2 (by omega) (by omega)
        have fin:∀ (bs1:BS) (z2:Z) (L2:List ByteArray) (cs:List D.Core),BsOk n.Agents bs1→bs1.length≤bs.length+1→z1.st≤z2.st→ZOk n.Agents z2→L2.length=z2.org.length→cs.length≤5→
            OutI n.Agents z.st (z17 fuel (img n.Agents z L) (81 - (k:Int)) recf (lab,s1,p1.Agent,p1.Slot,(z1.st:Int),(z1.org.length:Int),z1.org,timesOf n.Agents z1.ent,L) ((⟨kd,v,d,[]⟩:D.Core),slots,true) (bs1,(z2.st:Int),(z2.org.length:Int),z2.org,timesOf n.Agents z2.ent,L2,cs))
              (match kidsM (M s1 bs1) a slots z2 cs with
              | .inl c=>.inl c
              | .inr (cs,z2)=>.inr (⟨kd,v,d,cs⟩,z2)):=fun bs1 z2 L2 cs H hb1l G hz2 hL2 hcs=>by
          have:=kids bs1 ((z2.st:Int),(z2.org.length:Int),z2.org,timesOf n.Agents z2.ent,L2,cs) (p1.Slot,(z1.st:Int),(z1.org.length:Int),z1.org,timesOf n.Agents z1.ent,L) H hb1l z2 L2 cs G hz2 hL2 hcs
          unfold z17
          dsimp only
          cases hkk:kidsM (M s1 bs1) a slots z2 cs with
          | inl c=>
            rw [hkk] at this
            obtain⟨h1,co,r',h2⟩:=this
            rw [h2,Option.bind_some]
            exact⟨h1,co,r',rfl⟩
          | inr y=>
            obtain⟨cs',z'⟩:=y
            rw [hkk] at this
            obtain⟨h1,h2,L',h3,h4'⟩:=this
            rw [h4',Option.bind_some]
            exact⟨h1,by omega,L',h3,rfl⟩
        by_cases h8:a.Kind=8
        · rw [if_pos h8,if_pos (show(a.Kind == 8)=true by simpa using h8)]
          obtain⟨_,_,_,_,g3,_,_,_,g7,_⟩:=z5b hp1
          have hpa:=(z5b hp1).1
          obtain⟨t,t1,t2⟩:=z7q (fuel:=fuel) (x:=p1.Agent) (by omega) (by omega)
          have d1:(⟨#[46,120,59]⟩:ByteArray).size=3:=rfl
          rw [t1,Option.bind_some,if_pos (decide_eq_true (by rw [d1];omega))]
          have hI2:(⟨(⟨n.Agents⟩:D.Net),(img n.Agents ⟨z1.st,z1.ent,z1.org++[p1.Agent]⟩ (L++[lab])).entered,(img n.Agents ⟨z1.st,z1.ent,z1.org++[p1.Agent]⟩ (L++[lab])).nodes,(img n.Agents ⟨z1.st,z1.ent,z1.org++[p1.Agent]⟩ (L++[lab])).origins,(img n.Agents ⟨z1.st,z1.ent,z1.org++[p1.Agent]⟩ (L++[lab])).times,(img n.Agents ⟨z1.st,z1.ent,z1.org++[p1.Agent]⟩ (L++[lab])).labels⟩:D.reading)=img n.Agents ⟨z1.st,z1.ent,z1.org++[p1.Agent]⟩ (L++[lab]):=rfl
          rw [hI2,z7Q hz2.org (by have:=hz2.org;simp at this ⊢;omega)]
          by_cases hfull2:z1.org.length≥399∨k≤1
          · rw [if_pos hfull2,if_pos (hfull2.imp (fun h=>by simp;omega) fun h=>by rw [hdep];omega),Option.bind_some]
            dsimp only
            rw [if_pos (by simp)]
            exact⟨by decide,_,_,rfl⟩
          · have hn2:=not_or.1 hfull2
            rw [if_neg hfull2,if_neg (fun h=>hfull2 (h.imp (fun h=>by simp at h;omega) fun h=>by rw [hdep] at h;omega)),Option.bind_some]
            dsimp only
            rw [if_neg (by simp)]
            obtain⟨x,hx⟩:=z3J (xs:=a.Data) (i:=0) (by have:=(q4 h8).2;omega)
            have hxi:idx a.Data 0=some x:=by rw [z3m (by omega)];exact hx
            rw [hxi,Option.bind_some]
            unfold z3H
            rw [Option.bind_some,if_pos (decide_eq_true (by simp))]
            dsimp only
            exact fin bs ⟨z1.st,z1.ent,z1.org++[p1.Agent]++[-1]⟩ (L++[lab]++[t++⟨#[46,120,59]⟩]) [⟨2,x,[],[]⟩] hbs (by omega) (Nat.le_refl _) ⟨hz1.st,hz1.len,hz1.ent,by simp;omega⟩ (by simp [hL1]) (by simp)
        · rw [if_neg h8,if_neg (show ¬ (a.Kind == 8)=true by simpa using h8)]
          unfold z1i
          by_cases o:kd=4
          · rw [if_pos o,if_pos (show(kd == 4)=true by simpa using o)]
            refine fin ((p1.Agent,s1)::bs) ⟨z1.st,z1.ent,z1.org++[p1.Agent]⟩ (L++[lab]) [] (fun b hb=>?_) (by simp) (Nat.le_refl _) hz2 (by simp [hL1]) (by simp)
            rcases List.mem_cons.1 hb with rfl | hb
            · exact⟨O.mono hst1,a,ha⟩
            · exact hbs b hb
          · rw [if_neg o,if_neg (show ¬ (kd == 4)=true by simpa using o)]
            exact fin bs ⟨z1.st,z1.ent,z1.org++[p1.Agent]⟩ (L++[lab]) [] hbs (by omega) (Nat.le_refl _) hz2 (by simp [hL1]) (by simp)

theorem z7M {fuel:Nat}{n:D.Net}(hn:netN n=true) (hf:18446744073709551616≤fuel):∀ (k d:Nat),k≤81→k<d→GoodI n k (readM n.Agents k) (z1M fuel d)
  | 0,0,_,h=>by omega
  | k+1,0,_,h=>by omega
  | 0,d+1,_,_=>z7D hn hf (by omega) (.inl rfl)
  | k+1,d+1,hk,h=>z7D hn hf hk (.inr (z7M hn hf k d (by omega) (by omega)))
end Go.E


namespace Go.E
open Go.RowKit Go.Proofs
set_option linter.unusedSimpArgs false
set_option linter.unusedVariables false


theorem z9y (xs:List Int):(strOfNums xs).size=xs.length:=by simp [strOfNums,ByteArray.size]
theorem z8A {fuel:Nat}:∀ (n:Nat) (x:Int) (ds:List Int) (fu:Nat),0≤x→x<10 ^ n→n≤18→n<fu→ds.length+n≤20→
    ∃ ds':List Int,iter (z1m fuel) fu (x,ds)=some (.inl ds')∧ds'.length≤20
  | n,x,ds,0,_,_,_,h,_=>by omega
  | 0,x,ds,fu+1,h0,h1,_,_,h3=>by
    have:x=0:=by simp at h1;omega
    subst this
    exact⟨ds,by simp only [iter];unfold z1m;rw [if_neg (by simp)],by omega⟩
  | n+1,x,ds,fu+1,h0,h1,hn,h2,h3=>by
    have hp:(10:Int) ^ (n+1)=10*10 ^ n:=by rw [Int.pow_succ];omega
    rw [hp] at h1
    have hx:x<9223372036854775807:=by
      have:(10:Int) ^ n≤10 ^ 17:=by exact_mod_cast Nat.pow_le_pow_right (by decide:0<10) (by omega:n≤17)
      omega
    by_cases hz:x=0
    · subst hz
      exact⟨ds,by simp only [iter];unfold z1m;rw [if_neg (by simp)],by omega⟩
    · have hb:z1m fuel (x,ds)=some (.next (x / 10,ds++[IntKind.u8.wrap (w64 (48+x % 10))])):=by
        unfold z1m z2E
        dsimp only
        rw [if_pos (by simpa using hz),Int.tmod_eq_emod_of_nonneg h0,Int.tdiv_eq_ediv_of_nonneg h0,if_neg (by simp;omega),if_pos (decide_eq_true (by simp;omega)),zd (n:=x / 10) (by omega) (by omega)]
      obtain⟨ds',e1,e2⟩:=z8A (fuel:=fuel) n (x / 10) (ds++[IntKind.u8.wrap (w64 (48+x % 10))]) fu (by omega) (by omega) (by omega) (by omega) (by simp;omega)
      exact⟨ds',by simp only [iter,hb];exact e1,e2⟩
theorem z8p {fuel:Nat}{t:List Int}(ht:t.length≤30):∀ (n:Nat) (acc:List Int) (fu:Nat),n≤t.length→acc.length+n≤30→n<fu→
    ∃ r:List Int,iter (z1R fuel t) fu ((n:Int) - 1,acc)=some (.inl r)∧r.length=acc.length+n
  | n,acc,0,_,_,h=>by omega
  | 0,acc,fu+1,_,_,_=>⟨acc,by simp only [iter];unfold z1R;rw [if_neg (by simp)],rfl⟩
  | n+1,acc,fu+1,h1,h2,h3=>by
    obtain⟨x,hx⟩:=z3J (xs:=t) (i:=n) (by omega)
    have hb:z1R fuel t (((n+1:Nat):Int) - 1,acc)=some (.next ((n:Int) - 1,acc++[x])):=by
      unfold z1R
      dsimp only
      rw [show((n+1:Nat):Int) - 1=(n:Int) by omega,if_pos (decide_eq_true (by omega)),z2H hx,Option.bind_some,if_pos (decide_eq_true (by simp;omega)),zd (by omega) (by omega)]
    obtain⟨r,e1,e2⟩:=z8p ht n (acc++[x]) fu (by omega) (by simp;omega) (by omega)
    exact⟨r,by simp only [iter,hb];exact e1,by rw [e2];simp;omega⟩
theorem z7p {fuel:Nat}{x:Int}(hf:18446744073709551616≤fuel) (h0:0≤x) (h1:x≤1048576):∃ t,z2g fuel x=some t∧t.size≤21:=by
  unfold z2g
  obtain⟨ds,e1,e2⟩:=z8A (fuel:=fuel) 10 x [] fuel h0 (by omega) (by omega) (by omega) (by simp)
  rw [e1,Option.bind_some,zR]
  have j2:∀ t:List Int,t.length≤21→∃ r,z1Q fuel x t=some r∧r.size≤21:=fun t ht=>by
    unfold z1Q z2F
    rw [if_neg (by simp;omega),zd (by omega) (by omega)]
    obtain⟨r,g1,g2⟩:=z8p (fuel:=fuel) (t:=t) (by omega) t.length [] fuel (Nat.le_refl _) (by simp;omega) (by omega)
    rw [g1,Option.bind_some,zR]
    exact⟨_,rfl,by rw [z9y,g2];simp;omega⟩
  unfold z44
  by_cases hz:x=0
  · rw [if_pos (by simpa using hz),if_pos (decide_eq_true (by simp;omega))]
    exact j2 _ (by simp;omega)
  · rw [if_neg (by simpa using hz)]
    exact j2 _ (by omega)
theorem z6Y {fuel:Nat}{p:D.Port}(hf:18446744073709551616≤fuel) (h0:0≤p.Agent) (h1:p.Agent≤1048576) (h2:0≤p.Slot) (h3:p.Slot≤1048576):∃ t,z35 fuel p=some t∧t.size≤44:=by
  obtain⟨s,e1,e2⟩:=z7p (fuel:=fuel) (x:=p.Agent) hf h0 h1
  obtain⟨t,g1,g2⟩:=z7p (fuel:=fuel) (x:=p.Slot) hf h2 h3
  have d1:(⟨#[46]⟩:ByteArray).size=1:=rfl
  have d2:(⟨#[59]⟩:ByteArray).size=1:=rfl
  unfold z35
  rw [e1,Option.bind_some,if_pos (decide_eq_true (by rw [d1];omega)),g1,Option.bind_some,if_pos (decide_eq_true (by rw [ByteArray.size_append,d1];omega)),if_pos (decide_eq_true (by rw [ByteArray.size_append,ByteArray.size_append,d1,d2];omega))]
  exact⟨_,rfl,by rw [ByteArray.size_append,ByteArray.size_append,ByteArray.size_append,d1,d2];omega⟩


def rev (ss:SS):SS:=ss.map List.reverse
theorem z6w {ss:SS}:(rev ss).length=ss.length:=by simp [rev]
theorem zbD {ss:SS}{i:Int}{s:List Int}(h:idx ss i=some s):idx (rev ss) i=some s.reverse:=by
  obtain⟨h0,h1⟩:=z1N h
  rw [z3m h0]
  unfold rev
  rw [List.getElem?_map,h1]
  rfl
theorem z9w {ss:SS}{i:Nat}{s:List Int}:(rev ss).set i s.reverse=rev (ss.set i s):=by unfold rev;rw [List.map_set]
theorem z6a {ss:SS}{n:Nat}:(rev ss).take n=rev (ss.take n):=by unfold rev;rw [List.map_take]
theorem zbh {x y:SS}(h:rev x=rev y):x=y:=by
  unfold rev at h
  exact(List.map_inj_right (fun a b=>List.reverse_inj.1)).1 h
theorem z7c {fuel:Nat}{xs:List Int}(hl:xs.length≤1048576):z25 fuel xs=some xs:=by unfold z25;rw [if_pos (decide_eq_true (by simp only [List.length_nil];omega))];rfl
theorem z8o {fuel:Nat}{xs:SS}{i:Int}{s:List Int}(hl:xs.length=9) (h0:0≤i) (h8:i≤8):z3n fuel xs i s=some (xs.set i.toNat s):=by
  unfold z3n
  rw [if_pos (decide_eq_true (by simp [hl])),if_pos (decide_eq_true (by simp [hl];omega))]
  rfl
theorem z6W {fuel:Nat}{xs:SS}{i:Int}(hl:xs.length=9) (h0:0≤i) (h8:i≤8):z2u fuel xs i=some (xs.take i.toNat):=by
  unfold z2u
  rw [if_pos (decide_eq_true (by omega)),List.drop_zero]
theorem z9q {fuel:Nat}{xs ys:List Int}(hf:18446744073709551616≤fuel) (hl:xs.length≤maxLen):z3x fuel xs ys=some (decide (xs=ys)):=by
  unfold z3x
  exact eqWhole hl hf rfl (fun i a b hi ha hb=>by
    unfold z3p
    rw [if_pos (by simpa using hi),z2H ha,Option.bind_some,z2H hb,Option.bind_some]
    by_cases h:a=b<;>simp [h]) (by unfold z3p;rw [if_neg (by simp)])
theorem z87 {fuel:Nat}{xs ys:SS}(hf:18446744073709551616≤fuel) (hl:xs.length≤maxLen) (hs:∀ s,s∈xs→s.length≤maxLen):z1y fuel xs ys=some (decide (xs=ys)):=by
  unfold z1y
  exact eqWhole hl hf rfl (fun i a b hi ha hb=>by
    unfold z1L
    rw [if_pos (by simpa using hi),z2H ha,Option.bind_some,z2H hb,Option.bind_some,z9q hf (hs a (List.mem_of_getElem? ha)),Option.bind_some]
    by_cases h:a=b<;>simp [h]) (by unfold z1L;rw [if_neg (by simp)])


def imgS (n:D.Net) (z:Z) (L:List ByteArray):D.l16Walk:=⟨n,z.st,z.org.length,z.ent,z.org,L,0⟩
theorem z4U {fuel:Nat}{n:D.Net}{a b:Int}{c d:List Int}{e:List ByteArray}{k:Int}:zw fuel ⟨n,a,b,c,d,e,0⟩ k=some ((⟨0,0,[],[]⟩:D.Core),⟨n,a,b,c,d,e,k⟩):=by
  unfold zw
  rw [if_pos (by simp)]

theorem z96 {fuel:Nat}{n:D.Net}(hn:netN n=true) (hf:18446744073709551616≤fuel){z0:Z}{L:List ByteArray}:∀ (k:Nat) (z:Z) (p:D.Port) (ss:SS) (lab:ByteArray) (fu:Nat),z.st+k=4000→hasN n.Agents p=true→SsOk z.st ss→z.ent.length≤z.st→lab.size≤44*z.st→k<fu→
    match walkM n.Agents k z p ss with
    | .inl c=>∃ co w',iter (z6 fuel (imgS n z0 L)) fu (rev ss,lab,p.Agent,p.Slot,(z.st:Int),z.ent)=some (.inr (co,w'))∧w'.code=c
    | .inr (z',p',ss')=>∃ lab':ByteArray,lab'.size≤176000∧iter (z6 fuel (imgS n z0 L)) fu (rev ss,lab,p.Agent,p.Slot,(z.st:Int),z.ent)=some (.inl (rev ss',lab',p'.Agent,p'.Slot,(z'.st:Int),z'.ent)):=by
  intro k
  induction k with
  | zero=>
    rintro z ⟨pa,ps⟩ ss lab fu hk hp hs hl hlab hfu
    obtain⟨fu,rfl⟩:∃ f',fu=f'+1:=⟨fu - 1,by omega⟩
    obtain⟨h1,h2,a',q',g1,g2,g3,g4,g5,g6⟩:=z5b hp
    have hlen:=(z6S hn).2
    have hfa:=z3R (z4u hn g2)
    have hpo:=hfa.2.2.2.2.2.2.2.2.2.2
    obtain⟨tx,t1,t2⟩:=z6Y (fuel:=fuel) (p:=⟨pa,ps⟩) hf h1 (by dsimp only at g5 ⊢;omega) h2 (by dsimp only at g6 ⊢;omega)
    obtain⟨w',hc,hb⟩:∃ w':D.l16Walk,w'.code=4∧z6 fuel (imgS n z0 L) (rev ss,lab,pa,ps,(z.st:Int),z.ent)=some (.ret ((⟨0,0,[],[]⟩:D.Core),w')):=by
      unfold z6 imgS
      dsimp only
      rw [if_neg (by simp),t1,Option.bind_some,if_pos (decide_eq_true (by omega)),zd (n:=(z.st:Int)+1) (by omega) (by omega),if_pos (decide_eq_true (by omega)),z4U,Option.bind_some]
      exact⟨_,rfl,rfl⟩
    unfold walkM
    exact⟨⟨0,0,[],[]⟩,w',by simp only [iter,hb],hc⟩
  | succ k ih=>
    rintro z ⟨pa,ps⟩ ss lab fu hk hp hs hl hlab hfu
    obtain⟨fu,rfl⟩:∃ f',fu=f'+1:=⟨fu - 1,by omega⟩
    obtain⟨a,q0,ha,hq0,_⟩:=z4V hp
    dsimp only at ha
    have hag:=z4u hn ha
    have hfa:=z3R hag
    obtain⟨h1,h2,a',q',g1,g2,g3,g4,g5,g6⟩:=z5b hp
    rw [ha] at g2
    obtain rfl:=Option.some.inj g2
    have hlen:=(z6S hn).2
    obtain⟨tx,t1,t2⟩:=z6Y (fuel:=fuel) (p:=⟨pa,ps⟩) hf h1 (by dsimp only at g5 ⊢;omega) h2 (by dsimp only at g6 ⊢;omega)
    have hsz:(lab++tx).size≤44*(z.st+1):=by rw [ByteArray.size_append];omega
    have hl':=z7o (a:=a) (p:=⟨pa,ps⟩) hl
    have hbody:z6 fuel (imgS n z0 L) (rev ss,lab,pa,ps,(z.st:Int),z.ent)=zL fuel (imgS n z0 L) (rev ss,lab,pa,ps,(z.st:Int),z.ent) tx a (entZ a ⟨pa,ps⟩ z).ent:=by
      have hcap:decide ((z.ent.length:Int)+(([pa]:List Int).length:Int)≤4294967296)=true:=decide_eq_true (by simp;omega)
      unfold z6
      dsimp only
      have hc0:(imgS n z0 L).code=0:=rfl
      have hn0:(imgS n z0 L).n=n:=rfl
      rw [hc0,hn0,if_neg (by simp),t1,Option.bind_some,if_pos (decide_eq_true (by omega)),zd (n:=(z.st:Int)+1) (by omega) (by omega),if_neg (by simp;omega),ha,Option.bind_some]
      by_cases b:a.Kind=2
      · rw [if_neg (by simp [b])]
        unfold zV
        by_cases d:ps=1
        · rw [if_neg (by simp [d])]
          have:(entZ a ⟨pa,ps⟩ z).ent=z.ent:=by unfold entZ;dsimp only;rw [if_pos ⟨b,d⟩]
          rw [this]
        · rw [if_pos (by simpa using d)]
          dsimp only
          rw [if_pos hcap]
          have:(entZ a ⟨pa,ps⟩ z).ent=z.ent++[pa]:=by unfold entZ;dsimp only;rw [if_neg (fun h=>d h.2)]
          rw [this]
      · rw [if_pos (by simpa using b)]
        unfold zV
        dsimp only
        rw [if_pos rfl,if_pos hcap]
        have:(entZ a ⟨pa,ps⟩ z).ent=z.ent++[pa]:=by unfold entZ;dsimp only;rw [if_neg (fun h=>b h.1)]
        rw [this]
    have hst':w64 ((z.st:Int)+1)=((entZ a ⟨pa,ps⟩ z).st:Int):=by rw [zd (by omega) (by omega)];rfl
    unfold walkM
    rw [ha]
    dsimp only
    by_cases h4:a.Kind=4
    · rw [if_neg (by simpa using h4)]
      obtain⟨s,hsi,hso⟩:=hs.at hfa.1 hfa.2.1
      rw [hsi]
      dsimp only
      have hpl:=hfa.2.2.1 h4
      have hn0:(imgS n z0 L).n=n:=rfl
      have hbody2:z6 fuel (imgS n z0 L) (rev ss,lab,pa,ps,(z.st:Int),z.ent)=
          if ps>0 then(match idx a.Ports 0 with
            | none=>none
            | some q=>some (.next (rev (ss.set a.Level.toNat (ps::s)),lab++tx,q.Agent,q.Slot,((entZ a ⟨pa,ps⟩ z).st:Int),(entZ a ⟨pa,ps⟩ z).ent))) else match s with
          | []=>some (.ret ((⟨0,0,[],[]⟩:D.Core),⟨n,((entZ a ⟨pa,ps⟩ z).st:Int),(z0.org.length:Int),(entZ a ⟨pa,ps⟩ z).ent,z0.org,L,13⟩))
          | t::s'=>(match idx a.Ports t with
            | none=>none
            | some q=>some (.next (rev (ss.set a.Level.toNat s'),lab++tx,q.Agent,q.Slot,((entZ a ⟨pa,ps⟩ z).st:Int),(entZ a ⟨pa,ps⟩ z).ent))):=by
        rw [hbody]
        unfold zL
        dsimp only
        rw [if_neg (by simpa using h4),zbD hsi,Option.bind_some]
        by_cases hsl:ps>0
        · rw [if_pos (decide_eq_true hsl),if_pos hsl,z7c (by have:=hso.1;simp;omega),Option.bind_some,if_pos (decide_eq_true (by have:=hso.1;simp;omega)),z8o (by rw [z6w];exact hs.1) hfa.1 hfa.2.1,Option.bind_some]
          unfold z1J zW
          have:s.reverse++[ps]=(ps::s).reverse:=by simp
          rw [this,z9w,hst']
          cases idx a.Ports 0<;>rfl
        · rw [if_neg (by simpa using hsl),if_neg hsl]
          cases s with
          | nil=>
            rw [if_pos (by simp)]
            unfold imgS
            dsimp only
            rw [z4U,Option.bind_some,hst']
          | cons t s'=>
            have hsl':=hso.1
            simp only [List.length_cons] at hsl'
            rw [if_neg (by simp;omega)]
            have e1:w64 ((((t::s').reverse.length:Nat):Int) - 1)=(s'.length:Int):=by rw [zd (by simp) (by simp;omega)];simp
            rw [e1]
            have e2:idx (t::s').reverse (s'.length:Int)=some t:=by
              rw [z3m (by omega)]
              simp
            rw [e2,Option.bind_some,if_pos (decide_eq_true (by simp;omega))]
            have e3:((t::s').reverse.take (s'.length:Int).toNat).drop 0=s'.reverse:=by simp
            rw [e3,z7c (by simp;omega),Option.bind_some,z8o (by rw [z6w];exact hs.1) hfa.1 hfa.2.1,Option.bind_some,z9w,hst']
            unfold zW
            dsimp only
            cases idx a.Ports t<;>rfl
      have go:∀ (t:Int) (s':List Int) (q:D.Port),idx a.Ports t=some q→StOk (z.st+1) s'→
          match walkM n.Agents k (entZ a ⟨pa,ps⟩ z) q (ss.set a.Level.toNat s') with
          | .inl c=>∃ co w',iter (z6 fuel (imgS n z0 L)) fu (rev (ss.set a.Level.toNat s'),lab++tx,q.Agent,q.Slot,((entZ a ⟨pa,ps⟩ z).st:Int),(entZ a ⟨pa,ps⟩ z).ent)=some (.inr (co,w'))∧w'.code=c
          | .inr (z',p',ss')=>∃ lab':ByteArray,lab'.size≤176000∧iter (z6 fuel (imgS n z0 L)) fu (rev (ss.set a.Level.toNat s'),lab++tx,q.Agent,q.Slot,((entZ a ⟨pa,ps⟩ z).st:Int),(entZ a ⟨pa,ps⟩ z).ent)=some (.inl (rev ss',lab',p'.Agent,p'.Slot,(z'.st:Int),z'.ent)):=fun t s' q hq hs'=>
        ih (entZ a ⟨pa,ps⟩ z) q (ss.set a.Level.toNat s') (lab++tx) fu (by show z.st+1+k=4000;omega) (z5G hn ha hq) ((hs.mono (Nat.le_succ _)).set hs' _) hl' hsz (by omega)
      by_cases hsl:ps>0
      · rw [if_pos hsl] at hbody2 ⊢
        obtain⟨q,hq⟩:=z3J (xs:=a.Ports) (i:=(0:Int).toNat) (by omega)
        have hqi:idx a.Ports 0=some q:=by rw [z3m (by omega),hq]
        rw [hqi] at hbody2 ⊢
        dsimp only at hbody2 ⊢
        simp only [iter,hbody2]
        exact go 0 (ps::s) q hqi ⟨by simp;exact hso.1,fun t ht=>by
          rcases List.mem_cons.1 ht with h | h
          · dsimp only at g6;omega
          · exact hso.2 t h⟩
      · rw [if_neg hsl] at hbody2 ⊢
        cases s with
        | nil=>
          dsimp only at hbody2 ⊢
          simp only [iter,hbody2]
          exact⟨_,_,rfl,rfl⟩
        | cons t s'=>
          have ht:=hso.2 t (by simp)
          obtain⟨q,hq⟩:=z3J (xs:=a.Ports) (i:=t.toNat) (by omega)
          have hqi:idx a.Ports t=some q:=by rw [z3m (by omega),hq]
          dsimp only at hbody2 ⊢
          rw [hqi] at hbody2 ⊢
          dsimp only at hbody2 ⊢
          simp only [iter,hbody2]
          exact go t s' q hqi ⟨by have:=hso.1;simp at this;omega,fun u hu=>hso.2 u (by simp [hu])⟩
    · rw [if_pos (by simpa using h4)]
      have hbody3:z6 fuel (imgS n z0 L) (rev ss,lab,pa,ps,(z.st:Int),z.ent)=some (.brk (rev ss,lab++tx,pa,ps,((entZ a ⟨pa,ps⟩ z).st:Int),(entZ a ⟨pa,ps⟩ z).ent)):=by
        rw [hbody]
        unfold zL
        dsimp only
        rw [if_pos (by simpa using h4),hst']
      simp only [iter,hbody3]
      exact⟨_,by omega,rfl⟩
end Go.E


namespace Go.E
open Go.RowKit Go.Proofs
set_option linter.unusedSimpArgs false
set_option linter.unusedVariables false


def binS (l:List D.Agent) (bs:BS):List D.l16Binder:=(bs.map fun b=>(⟨b.1,(rev b.2).take (levelAt l b.1)⟩:D.l16Binder)).reverse
theorem z6e {l:List D.Agent}{bs:BS}:(binS l bs).length=bs.length:=by simp [binS]
theorem z9O {l:List D.Agent}{b:Int × SS}{bs:BS}:binS l (b::bs)=binS l bs++[⟨b.1,(rev b.2).take (levelAt l b.1)⟩]:=by simp [binS]

theorem z9R {fuel:Nat}{w:D.l16Walk}{lam:Int}{a:D.Agent}{ss:SS}{bs:BS}(hf:18446744073709551616≤fuel) (ha:idx w.n.Agents lam=some a) (h0:0≤a.Level) (h8:a.Level≤8) (hs:ss.length=9) (hb:∀ b,b∈bs→SsOk 4000 b.2) (hl:bs.length≤1000):
    z19 fuel w lam (rev ss) (binS w.n.Agents bs)=some ((match varM w.n.Agents lam ss bs 0 with | some k=>k | none=>-1),w):=by
  have hlev:levelAt w.n.Agents lam=a.Level.toNat:=by unfold levelAt;rw [ha]

  have key:∀ (bs pre:BS) (k:Nat) (fu:Nat),(∀ b,b∈bs→SsOk 4000 b.2)→bs.length<fu→k+bs.length≤1000→pre.length=k→
      iter (zp fuel w lam (binS w.n.Agents (pre++bs)) ((rev ss).take a.Level.toNat)) fu ((bs.length:Int) - 1)=some (match varM w.n.Agents lam ss bs k with | some k'=>.inr (k',w) | none=>.inl ()):=by
    intro bs
    induction bs with
    | nil=>
      intro pre k fu _ hfu _ _
      obtain⟨fu,rfl⟩:∃ f',fu=f'+1:=⟨fu - 1,by simp at hfu;omega⟩
      have:zp fuel w lam (binS w.n.Agents (pre++[])) ((rev ss).take a.Level.toNat) ((([]:BS).length:Int) - 1)=some (.brk ()):=by
        unfold zp
        rw [if_neg (by simp)]
      simp only [iter,this]
      rfl
    | cons b bs ih=>
      intro pre k fu hb hfu hk hpk
      simp only [List.length_cons] at hfu hk
      obtain⟨fu,rfl⟩:∃ f',fu=f'+1:=⟨fu - 1,by omega⟩
      have hat:(binS w.n.Agents (pre++b::bs))[bs.length]? = some ⟨b.1,(rev b.2).take (levelAt w.n.Agents b.1)⟩:=by
        unfold binS
        rw [List.map_append,List.reverse_append,List.map_cons,List.reverse_cons,List.append_assoc]
        rw [List.getElem?_append_right (by simp)]
        simp
      have hlen:(binS w.n.Agents (pre++b::bs)).length=k+bs.length+1:=by rw [z6e];simp;omega
      have hbody:zp fuel w lam (binS w.n.Agents (pre++b::bs)) ((rev ss).take a.Level.toNat) ((((b::bs).length:Nat):Int) - 1)=if b.1=lam∧ss.take a.Level.toNat=b.2.take a.Level.toNat then some (.ret ((k:Int),w)) else some (.next ((bs.length:Int) - 1)):=by
        have hi:(((b::bs).length:Nat):Int) - 1=(bs.length:Int):=by simp
        rw [hi]
        unfold zp
        rw [if_pos (decide_eq_true (by omega)),z2H hat,Option.bind_some]
        have j2:∀ t,zG fuel w (binS w.n.Agents (pre++b::bs)) (bs.length:Int) t=if t=true then some (.ret ((k:Int),w)) else some (.next ((bs.length:Int) - 1)):=fun t=>by
          unfold zG
          rw [hlen,zd (n:=((k+bs.length+1:Nat):Int) - 1) (by omega) (by omega),zd (n:=((k+bs.length+1:Nat):Int) - 1 - (bs.length:Int)) (by omega) (by omega),zd (n:=(bs.length:Int) - 1) (by omega) (by omega)]
          rw [show((k+bs.length+1:Nat):Int) - 1 - (bs.length:Int)=(k:Int) by omega]
        by_cases h1:b.1=lam
        · rw [if_pos (by simpa using h1),Option.bind_some]
          have hb':=hb b (by simp)
          rw [z87 hf (by simp only [List.length_take,z6w,hb'.1,maxLen];omega) (fun s h=>by
            have h2:=List.mem_of_mem_take h
            unfold rev at h2
            obtain⟨u,h3,rfl⟩:=List.mem_map.1 h2
            have:=(hb'.2 u h3).1
            simp only [List.length_reverse,maxLen];omega),Option.bind_some,j2,h1,hlev]
          by_cases h2:ss.take a.Level.toNat=b.2.take a.Level.toNat
          · rw [if_pos (decide_eq_true (by rw [z6a,z6a,h2])),if_pos (show lam=lam∧_ from⟨rfl,h2⟩)]
          · rw [if_neg (show ¬ decide _=true from fun h=>h2 (by have:=of_decide_eq_true h;rw [z6a,z6a] at this;exact(zbh this).symm)),if_neg (show ¬ (lam=lam∧_) from fun h=>h2 h.2)]
        · rw [if_neg (by simpa using h1),j2,if_neg (by simp),if_neg (fun h=>h1 h.1)]
      simp only [iter,hbody]
      unfold varM
      rw [hlev]
      by_cases h:b.1=lam∧ss.take a.Level.toNat=b.2.take a.Level.toNat
      · rw [if_pos h,if_pos h]
      · rw [if_neg h,if_neg h]
        dsimp only
        have:=ih (pre++[b]) (k+1) fu (fun b' hb'=>hb b' (by simp [hb'])) (by omega) (by omega) (by simp [hpk])
        rw [List.append_assoc] at this
        exact_mod_cast this
  unfold z19
  rw [ha,Option.bind_some,z6W (by rw [z6w];exact hs) h0 h8,Option.bind_some,z6e,zd (by omega) (by omega)]
  have:=key bs [] 0 fuel hb (by omega) (by omega) rfl
  rw [List.nil_append] at this
  rw [this,Option.bind_some]
  cases varM w.n.Agents lam ss bs 0<;>rfl


theorem zb3 {fuel:Nat}{a:D.Agent}(hf:18446744073709551616≤fuel) (h1:1≤a.Ports.length) (h2:a.Ports.length≤4):iter (z1P fuel a) fuel (1,([]:List Int))=some (.inl (numsFrom (a.Ports.length - 1))):=by
  obtain⟨o,e1,e2⟩:=z2G (body:=z1P fuel a) (fun i s=>s.2=numsFrom i∧s.1=(i:Int)+1) (a.Ports.length - 1) (fun o=>o=.inl (numsFrom (a.Ports.length - 1))) (by
    rintro i ⟨j,s⟩ hi ⟨g1,g2⟩
    dsimp only at g1 g2
    subst g1;subst g2
    refine .inl ⟨(w64 ((i:Int)+1+1),numsFrom i++[(i:Int)+1]),?_,?_,?_⟩
    · unfold z1P
      dsimp only
      rw [if_pos (decide_eq_true (by omega)),if_pos (decide_eq_true (by rw [z7d];simp;omega))]
    · unfold numsFrom;rw [List.range_succ,List.map_append];rfl
    · dsimp only;rw [zd (by omega) (by omega)];omega) (by
    rintro⟨j,s⟩ ⟨g1,g2⟩
    dsimp only at g1 g2
    subst g1;subst g2
    refine .inr ⟨_,?_,rfl⟩
    unfold z1P
    dsimp only
    rw [if_neg (by simp;omega)]) (fuel:=fuel) (i:=0) (s:=(1,[])) (Nat.zero_le _) (by omega) ⟨rfl,rfl⟩
  rw [e1,e2]


def planM (a:D.Agent) (sl:Int):Int × List Int:=
  if a.Kind=2 then(if sl=0 then(4,[2]) else if sl=1 then(1,[]) else(0,[]))
  else if a.Kind=3 then(if sl=2 then(5,[0,1]) else(0,[]))
  else if a.Kind=6 then(2,[])
  else if a.Kind=7 then(if sl=2 then(3,[0,1]) else(0,[]))
  else if a.Kind=8 then(if sl=1 then(3,[0]) else(0,[]))
  else if a.Kind=9 then(if sl=0 then(8,numsFrom (a.Ports.length - 1)) else(0,[]))
  else if a.Kind=10 then(if sl=1 then(9,[0]) else(0,[]))
  else if a.Kind=11 then(if sl=1 then(10,[0]) else(0,[]))
  else if a.Kind=12 then(11,[])
  else(0,[])
theorem z6y {fuel:Nat}{a:D.Agent}{sl:Int}(hf:18446744073709551616≤fuel) (hag:agN a=true):z3v fuel a sl=some (planM a sl):=by
  have hfa:=z3R hag
  have hpos:1≤a.Ports.length:=by
    unfold agN at hag
    rw [Bool.and_eq_true] at hag
    have:=of_decide_eq_true hag.1
    omega
  have hcon:=zb3 (fuel:=fuel) (a:=a) hf hpos hfa.2.2.2.2.2.2.2.2.2.2
  unfold planM z3v z2t z2s z2r z2q z2p z2o z2n z2m
  rw [hcon]
  generalize hN:numsFrom (a.Ports.length - 1)=N
  unfold z43
  by_cases k2:a.Kind=2
  · by_cases s0:sl=0<;>by_cases s1:sl=1<;>simp [k2,s0,s1]
  by_cases k3:a.Kind=3
  · by_cases s0:sl=2<;>simp [k3,s0]
  by_cases k6:a.Kind=6
  · simp [k6]
  by_cases k7:a.Kind=7
  · by_cases s0:sl=2<;>simp [k7,s0]
  by_cases k8:a.Kind=8
  · by_cases s0:sl=1<;>simp [k8,s0]
  by_cases k9:a.Kind=9
  · by_cases s0:sl=0<;>simp [k9,s0,aft]
  by_cases b:a.Kind=10
  · by_cases s0:sl=1<;>simp [b,s0]
  by_cases d:a.Kind=11
  · by_cases s0:sl=1<;>simp [d,s0]
  by_cases k:a.Kind=12
  · simp [k]
  simp [k2,k3,k6,k7,k8,k9,b,d,k]

def orNone {α β:Type}(o:Option α) (x:β) (f:α→β):β:=match o with
  | none=>x
  | some a=>f a
theorem z1v {α β:Type}{x:β}{f:α→β}:orNone none x f=x:=rfl
theorem z1j {α β:Type}{a:α}{x:β}{f:α→β}:orNone (some a) x f=f a:=rfl

theorem zbr {fuel:Nat}{n:D.Net}{z:Z}{L:List ByteArray}{z0:Z}{a:D.Agent}{p:D.Port}{ss:SS}{bs:BS}{lab:ByteArray}{x4:Int}{recf:D.l16Walk→D.Port→(List (List Int))→(List D.l16Binder)→Int→Option (D.Core × D.l16Walk)}
    (hf:18446744073709551616≤fuel) (ha:idx n.Agents p.Agent=some a) (hag:agN a=true) (hs:ss.length=9) (hb:∀ b,b∈bs→SsOk 4000 b.2) (hl:bs.length≤1000) (ho:z.org=z0.org):
    zn fuel (imgS n z0 L) (binS n.Agents bs) x4 recf (rev ss,lab,p.Agent,p.Slot,(z.st:Int),z.ent)=
      orNone (shapeM n.Agents a p ss bs) (some ((⟨0,0,[],[]⟩:D.Core),⟨n,z.st,z.org.length,z.ent,z.org,L,13⟩))
      fun y=>zC fuel (imgS n z0 L) x4 recf (rev ss,lab,p.Agent,p.Slot,(z.st:Int),z.ent) a (y.1,y.2.2.2)
          (binS n.Agents (if y.1=4 then(p.Agent,ss)::bs else bs),y.2.1,y.2.2.1,(z.st:Int),(z.org.length:Int),0,z.ent,z.org,L):=by
  have hfa:=z3R hag
  have hlev:levelAt n.Agents p.Agent=a.Level.toNat:=by unfold levelAt;rw [ha]
  have hn0:(imgS n z0 L).n=n:=rfl
  have hI:(imgS n z0 L).code=0∧(imgS n z0 L).nodes=(z.org.length:Int)∧(imgS n z0 L).origins=z.org∧(imgS n z0 L).labels=L:=by rw [ho];exact⟨rfl,rfl,rfl,rfl⟩
  obtain⟨i1,i2,i3,i4⟩:=hI
  have nop:planM a p.Slot=(0,[])→zn fuel (imgS n z0 L) (binS n.Agents bs) x4 recf (rev ss,lab,p.Agent,p.Slot,(z.st:Int),z.ent)=some ((⟨0,0,[],[]⟩:D.Core),⟨n,z.st,z.org.length,z.ent,z.org,L,13⟩):=fun hp=>by
    unfold zn
    dsimp only
    rw [hn0,ha,Option.bind_some,z6y hf hag,Option.bind_some,hp]
    dsimp only
    rw [if_pos (by simp),i1,i2,i3,i4,z4U,Option.bind_some]
  have own:z25 fuel a.Data=some a.Data:=z7c (by have:=hfa.2.2.2.2.2.2.2.2.2.1;omega)
  have yes:∀ kd slots v d,planM a p.Slot=(kd,slots)→(kd=2∨kd=3∨kd=8∨kd=11)∧v=a.Value∧d=[]∨(kd=9∨kd=10)∧v=0∧d=a.Data∨(kd=4∨kd=5)∧v=0∧d=[]→zn fuel (imgS n z0 L) (binS n.Agents bs) x4 recf (rev ss,lab,p.Agent,p.Slot,(z.st:Int),z.ent)=
      zC fuel (imgS n z0 L) x4 recf (rev ss,lab,p.Agent,p.Slot,(z.st:Int),z.ent) a (kd,slots)
          (binS n.Agents (if kd=4 then(p.Agent,ss)::bs else bs),v,d,(z.st:Int),(z.org.length:Int),0,z.ent,z.org,L):=fun kd slots v d hp hk=>by
    unfold zn
    dsimp only
    rw [hn0,ha,Option.bind_some,z6y hf hag,Option.bind_some,hp]
    dsimp only
    rcases hk with⟨hk,rfl,rfl⟩ | ⟨hk,rfl,rfl⟩ | ⟨hk,rfl,rfl⟩
    · rw [if_neg (show ¬ kd=4 by omega)]
      rcases hk with rfl | rfl | rfl | rfl
      · rw [if_neg (by decide),if_neg (by decide),if_pos (by decide)]
        unfold z8
        rw [if_pos (by decide)]
        unfold z7
        rw [i1,i2,i3,i4]
      · rw [if_neg (by decide),if_neg (by decide),if_neg (by decide),if_pos (by decide)]
        unfold zb z8
        rw [if_pos (by decide)]
        unfold z7
        rw [i1,i2,i3,i4]
      · rw [if_neg (by decide),if_neg (by decide),if_neg (by decide),if_neg (by decide),if_pos (by decide)]
        unfold zi zb z8
        rw [if_pos (by decide)]
        unfold z7
        rw [i1,i2,i3,i4]
      · rw [if_neg (by decide),if_neg (by decide),if_neg (by decide),if_neg (by decide),if_neg (by decide)]
        unfold zi zb z8
        rw [if_pos (by decide)]
        unfold z7
        rw [i1,i2,i3,i4]
    · rw [if_neg (show ¬ kd=4 by omega)]
      rcases hk with rfl | rfl
      · rw [if_neg (by decide),if_neg (by decide),if_neg (by decide),if_neg (by decide),if_neg (by decide)]
        unfold zi zb z8
        dsimp only
        rw [if_neg (by decide),if_pos (by decide)]
        unfold zB
        rw [if_pos (by decide),own,Option.bind_some]
        unfold zA z7
        rw [i1,i2,i3,i4]
      · rw [if_neg (by decide),if_neg (by decide),if_neg (by decide),if_neg (by decide),if_neg (by decide)]
        unfold zi zb z8
        dsimp only
        rw [if_neg (by decide),if_neg (by decide)]
        unfold zB
        rw [if_pos (by decide),own,Option.bind_some]
        unfold zA z7
        rw [i1,i2,i3,i4]
    · rcases hk with rfl | rfl
      · have hlow:=z6W (fuel:=fuel) (xs:=rev ss) (i:=a.Level) (by rw [z6w];exact hs) hfa.1 hfa.2.1
        have hc1:(binS n.Agents bs).length≤4294967296:=by rw [z6e];omega
        have hc2:((binS n.Agents bs).length:Int)+1≤4294967296:=by rw [z6e];omega
        rw [if_pos rfl,z9O,hlev]
        rw [if_neg (by decide),if_neg (by decide),if_neg (by decide),if_neg (by decide),if_neg (by decide)]
        unfold zi zb z8 zB
        dsimp only
        rw [if_neg (by decide),if_neg (by decide),if_neg (by decide),if_pos (by decide),if_pos (decide_eq_true (by simp only [List.length_nil];omega)),hlow,Option.bind_some,List.nil_append,if_pos (decide_eq_true (by simp only [List.length_cons,List.length_nil];omega))]
        unfold z1K zX zA z7
        rw [i1,i2,i3,i4]
      · rw [if_neg (show ¬ (5:Int)=4 by omega)]
        rw [if_neg (by decide),if_neg (by decide),if_neg (by decide),if_neg (by decide),if_neg (by decide)]
        unfold zi zb z8
        dsimp only
        rw [if_neg (by decide),if_neg (by decide)]
        unfold zB
        dsimp only
        rw [if_neg (by decide),if_neg (by decide)]
        unfold zX zA z7
        rw [i1,i2,i3,i4]
  have vark:planM a p.Slot=(1,[])→zn fuel (imgS n z0 L) (binS n.Agents bs) x4 recf (rev ss,lab,p.Agent,p.Slot,(z.st:Int),z.ent)=
      orNone (varM n.Agents p.Agent ss bs 0) (some ((⟨0,0,[],[]⟩:D.Core),⟨n,z.st,z.org.length,z.ent,z.org,L,13⟩))
      fun k=>zC fuel (imgS n z0 L) x4 recf (rev ss,lab,p.Agent,p.Slot,(z.st:Int),z.ent) a (1,[])
          (binS n.Agents bs,k,[],(z.st:Int),(z.org.length:Int),0,z.ent,z.org,L):=fun hp=>by
    unfold zn
    dsimp only
    rw [hn0,ha,Option.bind_some,z6y hf hag,Option.bind_some,hp]
    dsimp only
    rw [if_neg (by simp),if_pos (by simp),i1,i2,i3,i4]
    have hv:=z9R (fuel:=fuel) (w:=⟨n,z.st,z.org.length,z.ent,z.org,L,0⟩) (lam:=p.Agent) (ss:=ss) (bs:=bs) hf ha hfa.1 hfa.2.1 hs hb hl
    rw [hv,Option.bind_some]
    cases hvar:varM n.Agents p.Agent ss bs 0 with
    | none=>
      dsimp only
      rw [if_pos (by simp),z4U,Option.bind_some,z1v]
    | some k=>
      dsimp only
      rw [if_neg (by have:=z5C hvar;simp;omega),z1j]
  unfold shapeM
  unfold planM at nop yes vark
  by_cases k2:a.Kind=2
  · rw [if_pos k2] at nop yes vark ⊢
    by_cases s0:p.Slot=0
    · rw [if_pos s0] at yes ⊢
      rw [z1j]
      exact yes _ _ _ _ rfl (by simp)
    rw [if_neg s0] at nop vark ⊢
    by_cases s1:p.Slot=1
    · rw [if_pos s1] at vark ⊢
      rw [vark rfl]
      cases varM n.Agents p.Agent ss bs 0 with
      | none=>rw [Option.map_none,z1v,z1v]
      | some k=>rw [Option.map_some,z1j,z1j,if_neg (show ¬ (1:Int)=4 by omega)]
    rw [if_neg s1] at nop ⊢
    rw [z1v]
    exact nop rfl
  rw [if_neg k2] at nop yes ⊢
  by_cases k3:a.Kind=3
  · rw [if_pos k3] at nop yes ⊢
    by_cases s0:p.Slot=2
    · rw [if_pos s0] at yes ⊢
      rw [z1j]
      exact yes _ _ _ _ rfl (by simp)
    · rw [if_neg s0] at nop ⊢
      rw [z1v]
      exact nop rfl
  rw [if_neg k3] at nop yes ⊢
  by_cases k6:a.Kind=6
  · rw [if_pos k6] at yes ⊢
    rw [z1j]
    exact yes _ _ _ _ rfl (by simp)
  rw [if_neg k6] at nop yes ⊢
  by_cases k7:a.Kind=7
  · rw [if_pos k7] at nop yes ⊢
    by_cases s0:p.Slot=2
    · rw [if_pos s0] at yes ⊢
      rw [z1j]
      exact yes _ _ _ _ rfl (by simp)
    · rw [if_neg s0] at nop ⊢
      rw [z1v]
      exact nop rfl
  rw [if_neg k7] at nop yes ⊢
  by_cases k8:a.Kind=8
  · rw [if_pos k8] at nop yes ⊢
    by_cases s0:p.Slot=1
    · rw [if_pos s0] at yes ⊢
      rw [z1j]
      exact yes _ _ _ _ rfl (by simp)
    · rw [if_neg s0] at nop ⊢
      rw [z1v]
      exact nop rfl
  rw [if_neg k8] at nop yes ⊢
  by_cases k9:a.Kind=9
  · rw [if_pos k9] at nop yes ⊢
    by_cases s0:p.Slot=0
    · rw [if_pos s0] at yes ⊢
      rw [z1j]
      exact yes _ _ _ _ rfl (by simp)
    · rw [if_neg s0] at nop ⊢
      rw [z1v]
      exact nop rfl
  rw [if_neg k9] at nop yes ⊢
  by_cases o:a.Kind=10
  · rw [if_pos o] at nop yes ⊢
    by_cases s0:p.Slot=1
    · rw [if_pos s0] at yes ⊢
      rw [z1j]
      exact yes _ _ _ _ rfl (by simp)
    · rw [if_neg s0] at nop ⊢
      rw [z1v]
      exact nop rfl
  rw [if_neg o] at nop yes ⊢
  by_cases G:a.Kind=11
  · rw [if_pos G] at nop yes ⊢
    by_cases s0:p.Slot=1
    · rw [if_pos s0] at yes ⊢
      rw [z1j]
      exact yes _ _ _ _ rfl (by simp)
    · rw [if_neg s0] at nop ⊢
      rw [z1v]
      exact nop rfl
  rw [if_neg G] at nop yes ⊢
  by_cases H:a.Kind=12
  · rw [if_pos H] at yes ⊢
    rw [z1j]
    exact yes _ _ _ _ rfl (by simp)
  rw [if_neg H] at nop ⊢
  rw [z1v]
  exact nop rfl
end Go.E


namespace Go.E
open Go.RowKit Go.Proofs
set_option linter.unusedSimpArgs false
set_option linter.unusedVariables false


def OutS (n:D.Net) (st:Nat) (o:Option (D.Core × D.l16Walk)):Int ⊕ (D.Core × Z)→Prop
  | .inl c=>c≠0∧∃ co w',o=some (co,w')∧w'.code=c
  | .inr (co,z')=>ZOk n.Agents z'∧st≤z'.st∧∃ L':List ByteArray,L'.length=z'.org.length∧o=some (co,imgS n z' L')

def DeadS (f:D.l16Walk→D.Port→SS→List D.l16Binder→Int→Option (D.Core × D.l16Walk)):Prop:=
  ∀ w p ss bs d,w.code≠0→f w p ss bs d=some ((⟨0,0,[],[]⟩:D.Core),w)

theorem zbE {fuel:Nat}{n:D.Net}{z0:Z}{L0:List ByteArray}{x4:Int}{recf:D.l16Walk→D.Port→SS→List D.l16Binder→Int→Option (D.Core × D.l16Walk)}{s1:SS}{t:ByteArray × Int × Int × Int × (List Int)}{a:D.Agent}{kd:Int}{slots:List Int}{bsS:List D.l16Binder}{t2:Int × (List Int) × Int × Int × Int × (List Int) × (List Int) × (List ByteArray)}
    {i st no code:Int}{cs:List D.Core}{en og:List Int}{la:List ByteArray}{s:Int}{q:D.Port}{co:D.Core}{w':D.l16Walk}
    (hi:i<slots.length) (hat:idx slots i=some s) (hq:idx a.Ports s=some q) (hr:recf ⟨n,st,no,en,og,la,code⟩ q s1 bsS (w64 (x4+1))=some (co,w')) (hc:cs.length≤10):
    zf fuel (imgS n z0 L0) x4 recf (s1,t) a (kd,slots) (bsS,t2) (i,cs,st,no,code,en,og,la)=some (.next (w64 (i+1),cs++[co],w'.steps,w'.nodes,w'.code,w'.entered,w'.origins,w'.labels)):=by
  have hn0:(imgS n z0 L0).n=n:=rfl
  unfold zf
  rw [if_pos (decide_eq_true hi),hat,Option.bind_some,hq,Option.bind_some,hn0,hr,Option.bind_some,if_pos (decide_eq_true (by simp only [List.length_cons,List.length_nil];omega))]
  unfold z1Z
  rfl
theorem zbd {fuel:Nat}{x0:D.l16Walk}{x4:Int}{recf:D.l16Walk→D.Port→SS→List D.l16Binder→Int→Option (D.Core × D.l16Walk)}{d:(List (List Int)) × ByteArray × Int × Int × Int × (List Int)}{a:D.Agent}{kd:Int}{slots:List Int}{b:(List D.l16Binder) × Int × (List Int) × Int × Int × Int × (List Int) × (List Int) × (List ByteArray)}
    {i st no code:Int}{cs:List D.Core}{en og:List Int}{la:List ByteArray}(hi:¬ i<slots.length):
    zf fuel x0 x4 recf d a (kd,slots) b (i,cs,st,no,code,en,og,la)=some (.brk (cs,st,no,code,en,og,la)):=by
  unfold zf
  rw [if_neg (by simpa using hi)]

theorem z9D {fuel:Nat}{n:D.Net}{z0:Z}{L0:List ByteArray}{x4:Int}{recf:D.l16Walk→D.Port→SS→List D.l16Binder→Int→Option (D.Core × D.l16Walk)}{s1:SS}{t:ByteArray × Int × Int × Int × (List Int)}{a:D.Agent}{kd:Int}{slots:List Int}{bsS:List D.l16Binder}{t2:Int × (List Int) × Int × Int × Int × (List Int) × (List Int) × (List ByteArray)}
    (hd:DeadS recf) (hsl:slots.length≤3){st no code:Int}{en og:List Int}{la:List ByteArray}(hc:code≠0):
    ∀ (rest pre:List Int) (cs:List D.Core) (fu:Nat),slots=pre++rest→(∀ s,s∈rest→0≤s∧s<a.Ports.length)→cs.length+rest.length≤10→rest.length<fu→
      ∃ cs',iter (zf fuel (imgS n z0 L0) x4 recf (s1,t) a (kd,slots) (bsS,t2)) fu ((pre.length:Int),cs,st,no,code,en,og,la)=some (.inl (cs',st,no,code,en,og,la)):=by
  intro rest
  induction rest with
  | nil=>
    intro pre cs fu he _ _ hfu
    obtain⟨fu,rfl⟩:∃ f',fu=f'+1:=⟨fu - 1,by simp at hfu;omega⟩
    refine⟨cs,?_⟩
    simp only [iter]
    rw [zbd (by rw [he];simp)]
  | cons s rest ih=>
    intro pre cs fu he hs hl hfu
    simp only [List.length_cons] at hfu hl
    obtain⟨fu,rfl⟩:∃ f',fu=f'+1:=⟨fu - 1,by omega⟩
    obtain⟨g0,g1⟩:=hs s (by simp)
    obtain⟨q,hq⟩:=z3J (xs:=a.Ports) (i:=s.toNat) (by omega)
    have hqi:idx a.Ports s=some q:=by rw [z3m g0,hq]
    have hat:idx slots (pre.length:Int)=some s:=by rw [z3m (by omega),he];simp
    have hlen:pre.length<slots.length:=by rw [he];simp
    have hb:=zbE (fuel:=fuel) (n:=n) (z0:=z0) (L0:=L0) (x4:=x4) (s1:=s1) (t:=t) (kd:=kd) (bsS:=bsS) (t2:=t2) (i:=(pre.length:Int)) (cs:=cs) (by omega) hat hqi (hd ⟨n,st,no,en,og,la,code⟩ q s1 bsS (w64 (x4+1)) hc) (by omega)
    rw [zd (by omega) (by omega)] at hb
    obtain⟨cs',h⟩:=ih (pre++[s]) (cs++[⟨0,0,[],[]⟩]) fu (by rw [he];simp) (fun s' h'=>hs s' (by simp [h'])) (by simp;omega) (by omega)
    have hc1:(((pre++[s]).length:Nat):Int)=(pre.length:Int)+1:=by simp
    rw [hc1] at h
    refine⟨cs',?_⟩
    simp only [iter,hb]
    exact h

theorem z9B {fuel:Nat}{n:D.Net}(hn:netN n=true){a:D.Agent}{s1:SS}{bs1:BS}{M:Z→D.Port→Int ⊕ (D.Core × Z)}{recf:D.l16Walk→D.Port→SS→List D.l16Binder→Int→Option (D.Core × D.l16Walk)}{z0:Z}{L0:List ByteArray}{x4:Int}{st0:Nat}{pa:Int}(ha:idx n.Agents pa=some a)
    {t:ByteArray × Int × Int × Int × (List Int)}{kd:Int}{slots:List Int}{t2:Int × (List Int) × Int × Int × Int × (List Int) × (List Int) × (List ByteArray)}
    (hd:DeadS recf) (hsl:slots.length≤3)
    (hrec:∀ z q L,hasN n.Agents q=true→st0≤z.st→ZOk n.Agents z→L.length=z.org.length→OutS n z.st (recf (imgS n z L) q (rev s1) (binS n.Agents bs1) (w64 (x4+1))) (M z q)):
    ∀ (rest pre:List Int) (z:Z) (L:List ByteArray) (cs:List D.Core) (fu:Nat),slots=pre++rest→(∀ s,s∈rest→0≤s∧s<a.Ports.length)→st0≤z.st→ZOk n.Agents z→L.length=z.org.length→cs.length+rest.length≤10→rest.length<fu→
      match kidsM M a rest z cs with
      | .inl c=>c≠0∧∃ cs' st no en og la,iter (zf fuel (imgS n z0 L0) x4 recf (rev s1,t) a (kd,slots) (binS n.Agents bs1,t2)) fu ((pre.length:Int),cs,(z.st:Int),(z.org.length:Int),0,z.ent,z.org,L)=some (.inl (cs',st,no,c,en,og,la))
      | .inr (cs',z')=>ZOk n.Agents z'∧z.st≤z'.st∧∃ L':List ByteArray,L'.length=z'.org.length∧iter (zf fuel (imgS n z0 L0) x4 recf (rev s1,t) a (kd,slots) (binS n.Agents bs1,t2)) fu ((pre.length:Int),cs,(z.st:Int),(z.org.length:Int),0,z.ent,z.org,L)=some (.inl (cs',(z'.st:Int),(z'.org.length:Int),0,z'.ent,z'.org,L')):=by
  intro rest
  induction rest with
  | nil=>
    intro pre z L cs fu he _ hst hz hL hc hfu
    obtain⟨fu,rfl⟩:∃ f',fu=f'+1:=⟨fu - 1,by simp at hfu;omega⟩
    refine⟨hz,Nat.le_refl _,L,hL,?_⟩
    simp only [iter]
    rw [zbd (by rw [he];simp)]
  | cons s rest ih=>
    intro pre z L cs fu he hs hst hz hL hc hfu
    simp only [List.length_cons] at hfu hc
    obtain⟨fu,rfl⟩:∃ f',fu=f'+1:=⟨fu - 1,by omega⟩
    obtain⟨g0,g1⟩:=hs s (by simp)
    obtain⟨q,hq⟩:=z3J (xs:=a.Ports) (i:=s.toNat) (by omega)
    have hqi:idx a.Ports s=some q:=by rw [z3m g0,hq]
    have hat:idx slots (pre.length:Int)=some s:=by rw [z3m (by omega),he];simp
    have hlen:pre.length<slots.length:=by rw [he];simp
    have hR:=hrec z q L (z5G hn ha hqi) hst hz hL
    have hc1:(((pre++[s]).length:Nat):Int)=(pre.length:Int)+1:=by simp
    have hw1:w64 ((pre.length:Int)+1)=(pre.length:Int)+1:=zd (by omega) (by omega)
    have hb:=fun co w' (hr:recf (imgS n z L) q (rev s1) (binS n.Agents bs1) (w64 (x4+1))=some (co,w'))=>zbE (fuel:=fuel) (n:=n) (z0:=z0) (L0:=L0) (x4:=x4) (s1:=rev s1) (t:=t) (kd:=kd) (bsS:=binS n.Agents bs1) (t2:=t2) (i:=(pre.length:Int)) (cs:=cs) (by omega) hat hqi hr (by omega)
    rw [hw1] at hb
    unfold kidsM
    rw [hqi]
    dsimp only
    cases hM:M z q with
    | inl c=>
      rw [hM] at hR
      obtain⟨c0',co,w',e,e2⟩:=hR
      have b:=hb co w' e
      rw [e2] at b
      obtain⟨cs',h⟩:=z9D (fuel:=fuel) (n:=n) (z0:=z0) (L0:=L0) (x4:=x4) (s1:=rev s1) (t:=t) (a:=a) (kd:=kd) (slots:=slots) (bsS:=binS n.Agents bs1) (t2:=t2) hd hsl (st:=w'.steps) (no:=w'.nodes) (en:=w'.entered) (og:=w'.origins) (la:=w'.labels) c0' rest (pre++[s]) (cs++[co]) fu (by rw [he];simp) (fun s' h'=>hs s' (by simp [h'])) (by simp;omega) (by omega)
      rw [hc1] at h
      refine⟨c0',cs',w'.steps,w'.nodes,w'.entered,w'.origins,w'.labels,?_⟩
      simp only [iter,b]
      exact h
    | inr x=>
      obtain⟨co,z'⟩:=x
      rw [hM] at hR
      obtain⟨hz',hle,L',hL',e⟩:=hR
      have b:=hb co _ e
      have hp1:(imgS n z' L').steps=(z'.st:Int):=rfl
      have hp2:(imgS n z' L').nodes=(z'.org.length:Int):=rfl
      have hp3:(imgS n z' L').code=0:=rfl
      have hp4:(imgS n z' L').entered=z'.ent:=rfl
      have hp5:(imgS n z' L').origins=z'.org:=rfl
      have hp6:(imgS n z' L').labels=L':=rfl
      rw [hp1,hp2,hp3,hp4,hp5,hp6] at b
      simp only [iter,b]
      have:=ih (pre++[s]) z' L' (cs++[co]) fu (by rw [he];simp) (fun s' h'=>hs s' (by simp [h'])) (by omega) hz' hL' (by simp;omega) (by omega)
      rw [hc1] at this
      cases hk:kidsM M a rest z' (cs++[co]) with
      | inl c=>
        rw [hk] at this
        exact this
      | inr y=>
        obtain⟨cs',z''⟩:=y
        rw [hk] at this
        obtain⟨h1,h2,L'',h3,h4⟩:=this
        exact⟨h1,by omega,L'',h3,h4⟩

theorem z7P {fuel:Nat}{n:D.Net}{z:Z}{L:List ByteArray}{ag dep:Int}{lab:ByteArray}(ho:z.org.length≤400) (hL:L.length≤400):
    z1k fuel ⟨n,z.st,z.org.length,z.ent,z.org,L,0⟩ ag dep lab=some (decide (z.org.length<400∧dep≤80),imgS n ⟨z.st,z.ent,z.org++[ag]⟩ (L++[lab])):=by
  have hnode:w64 ((z.org.length:Int)+1)=(((z.org++[ag]).length:Nat):Int):=by rw [zd (by omega) (by omega)];simp
  have hlen:(z.org++[ag]).length=z.org.length+1:=by simp
  unfold z1k imgS
  dsimp only
  rw [if_pos (decide_eq_true (by simp only [List.length_cons,List.length_nil];omega)),if_pos (decide_eq_true (by simp only [List.length_cons,List.length_nil];omega)),hnode,hlen]
  by_cases h:z.org.length<400
  · rw [if_pos (decide_eq_true (by omega))]
    have:decide (z.org.length<400∧dep≤80)=decide (dep≤80):=by simp [h]
    rw [this]
  · rw [if_neg (by simp;omega)]
    have:decide (z.org.length<400∧dep≤80)=false:=by simp [h]
    rw [this]
end Go.E


namespace Go.E
open Go.RowKit Go.Proofs
set_option linter.unusedSimpArgs false
set_option linter.unusedVariables false


def GoodS (n:D.Net) (k:Nat) (M:SS→BS→Z→D.Port→Int ⊕ (D.Core × Z)) (f:D.l16Walk→D.Port→SS→List D.l16Binder→Int→Option (D.Core × D.l16Walk)):Prop:=
  ∀ ss bs z p L,hasN n.Agents p=true→SsOk z.st ss→BsOk n.Agents bs→bs.length+k≤81→ZOk n.Agents z→L.length=z.org.length→OutS n z.st (f (imgS n z L) p (rev ss) (binS n.Agents bs) (81 - (k:Int))) (M ss bs z p)

theorem z9J {fuel:Nat}{recf:D.l16Walk→D.Port→SS→List D.l16Binder→Int→Option (D.Core × D.l16Walk)}(hf:18446744073709551616≤fuel):DeadS (zF fuel recf):=by
  intro w p ss bs d hc
  unfold zF
  obtain⟨fu,hfu⟩:∃ fu,fuel=fu+1:=⟨fuel - 1,by omega⟩
  have hb:z6 fuel w (ss,(⟨#[]⟩:ByteArray),p.Agent,p.Slot,w.steps,w.entered)=some (.ret ((⟨0,0,[],[]⟩:D.Core),w)):=by
    unfold z6
    rw [if_pos (by simpa using hc)]
  have hi:iter (z6 fuel w) fuel (ss,(⟨#[]⟩:ByteArray),p.Agent,p.Slot,w.steps,w.entered)=some (.inr ((⟨0,0,[],[]⟩:D.Core),w)):=by
    generalize z6 fuel w=b at hb ⊢
    subst hfu
    simp only [iter,hb]
  rw [hi,Option.bind_some]
  rfl

theorem z7C {fuel:Nat}{n:D.Net}(hn:netN n=true) (hf:18446744073709551616≤fuel){k:Nat}{M:SS→BS→Z→D.Port→Int ⊕ (D.Core × Z)}{recf:D.l16Walk→D.Port→SS→List D.l16Binder→Int→Option (D.Core × D.l16Walk)}
    (hk:k≤81) (hrec:k=0∨GoodS n (k - 1) M recf∧DeadS recf):GoodS n k (stepM n.Agents k M) (zF fuel recf):=by
  rintro ss bs z p L hp hs hbs hbl hz hL
  have hlen:=z6S hn
  unfold stepM zF
  have hW:=z96 (fuel:=fuel) hn hf (z0:=z) (L:=L) (4000 - z.st) z p ss (⟨#[]⟩:ByteArray) fuel (by have:=hz.st;omega) hp hs hz.len (Nat.zero_le _) (by omega)
  have hO:=z84 hn (4000 - z.st) z p ss (by have:=hz.st;omega) hp hs hz.ent
  have hLn:=@z66 n.Agents (4000 - z.st) z p ss hz.len
  have a0:(imgS n z L).steps=(z.st:Int):=rfl
  have hs1':(imgS n z L).entered=z.ent:=rfl
  rw [a0,hs1']
  cases hw:walkM n.Agents (4000 - z.st) z p ss with
  | inl c=>
    rw [hw] at hW hO
    obtain⟨co,w',e,e2⟩:=hW
    rw [e,Option.bind_some]
    exact⟨by rcases hO with h | h<;>omega,co,w',rfl,e2⟩
  | inr x=>
    obtain⟨z1,p1,s1⟩:=x
    rw [hw] at hW hO
    obtain⟨lab,hlab,e⟩:=hW
    obtain⟨hp1,H,hst1,hlt1,he1,G,a,ha,h4⟩:=hO
    have hz1:ZOk n.Agents z1:=⟨hst1,hLn hw,he1,by rw [G];exact hz.org⟩
    have hL1:L.length=z1.org.length:=by rw [G];exact hL
    rw [e,Option.bind_some,zR]
    clear e
    have hag:=z4u hn ha
    have hfa:=z3R hag
    have hSh:=zbr (fuel:=fuel) (n:=n) (z:=z1) (L:=L) (z0:=z) (lab:=lab) (x4:=81 - (k:Int)) (recf:=recf) hf ha hag H.1 (fun b hb=>(hbs b hb).1) (show bs.length≤1000 by omega) G
    rw [hSh]
    clear hSh
    dsimp only
    rw [ha]
    dsimp only
    cases hsh:shapeM n.Agents a p1 s1 bs with
    | none=>
      rw [z1v]
      exact⟨by decide,_,_,rfl,rfl⟩
    | some y=>
      obtain⟨kd,v,d,slots⟩:=y
      rw [z1j]
      obtain⟨q1,q2,q3,q4,q5,q6,q7⟩:=z6r hag hsh
      have hn0:(imgS n z L).n=n:=rfl

      have fin:∀ (bs1:BS) (rest2:Int × (List Int) × Int × Int × Int × (List Int) × (List Int) × (List ByteArray)) (z2:Z) (L2:List ByteArray) (cs:List D.Core),k≠0→rest2.1=v→rest2.2.1=d→BsOk n.Agents bs1→bs1.length≤bs.length+1→z1.st≤z2.st→ZOk n.Agents z2→L2.length=z2.org.length→cs.length≤5→
          OutS n z.st (z16 fuel (imgS n z L) (81 - (k:Int)) recf (rev s1,lab,p1.Agent,p1.Slot,(z1.st:Int),z1.ent) a (kd,slots) (binS n.Agents bs1,rest2) ((z2.st:Int),(z2.org.length:Int),0,z2.ent,z2.org,L2,cs))
            (match kidsM (M s1 bs1) a slots z2 cs with
            | .inl c=>.inl c
            | .inr (cs,z2)=>.inr (⟨kd,v,d,cs⟩,z2)):=fun bs1 rest2 z2 L2 cs o hv hd Y hb1l O hz2 hL2 hcs=>by
        obtain⟨hgood,hdead⟩:=hrec.resolve_left o
        have hdep:w64 (81 - (k:Int)+1)=81 - ((k - 1:Nat):Int):=by
          rw [zd (by omega) (by omega)]
          have:((k - 1:Nat):Int)=(k:Int) - 1:=by omega
          omega
        have:=z9B (fuel:=fuel) hn (st0:=z1.st) (s1:=s1) (bs1:=bs1) (M:=M s1 bs1) (recf:=recf) (z0:=z) (L0:=L) (x4:=81 - (k:Int)) ha (t:=(lab,p1.Agent,p1.Slot,(z1.st:Int),z1.ent)) (kd:=kd) (t2:=rest2) hdead q1 (fun z' q L' h1 h2 h3 h4'=>by
            rw [hdep]
            exact hgood s1 bs1 z' q L' h1 (H.mono h2) Y (by omega) h3 h4') slots [] z2 L2 cs fuel rfl q2 O hz2 hL2 (by omega) (by omega)
        unfold z16
        cases hkk:kidsM (M s1 bs1) a slots z2 cs with
        | inl c=>
          rw [hkk] at this
          obtain⟨h1,cs',st,no,en,og,la,h2⟩:=this
          have h2':iter (zf fuel (imgS n z L) (81 - (k:Int)) recf (rev s1,lab,p1.Agent,p1.Slot,(z1.st:Int),z1.ent) a (kd,slots) (binS n.Agents bs1,rest2)) fuel ((0:Int),cs,(z2.st:Int),(z2.org.length:Int),0,z2.ent,z2.org,L2)=_:=h2
          dsimp only
          rw [h2',Option.bind_some,zR]
          unfold z21
          exact⟨h1,_,_,rfl,rfl⟩
        | inr y=>
          obtain⟨cs',z'⟩:=y
          rw [hkk] at this
          obtain⟨h1,h2,L',h3,h4'⟩:=this
          have h2':iter (zf fuel (imgS n z L) (81 - (k:Int)) recf (rev s1,lab,p1.Agent,p1.Slot,(z1.st:Int),z1.ent) a (kd,slots) (binS n.Agents bs1,rest2)) fuel ((0:Int),cs,(z2.st:Int),(z2.org.length:Int),0,z2.ent,z2.org,L2)=_:=h4'
          dsimp only
          rw [h2',Option.bind_some,zR]
          unfold z21
          dsimp only
          rw [hn0,hv,hd]
          exact⟨h1,by omega,L',h3,rfl⟩
      unfold zC
      dsimp only
      rw [hn0,z7P hz1.org (by rw [hL1];exact hz1.org),Option.bind_some]
      by_cases hfull:z1.org.length≥400∨k=0
      · rw [if_pos hfull,decide_eq_false (by rintro⟨h1,h2⟩;rcases hfull with h | h<;>omega),if_pos (by simp)]
        unfold imgS
        dsimp only
        rw [z4U,Option.bind_some]
        exact⟨by decide,_,_,rfl,rfl⟩
      · have hnf:=not_or.1 hfull
        have o:=hnf.2
        rw [if_neg hfull,decide_eq_true (by omega),if_neg (by simp)]
        have hz2:ZOk n.Agents ⟨z1.st,z1.ent,z1.org++[p1.Agent]⟩:=⟨hz1.st,hz1.len,hz1.ent,by simp;omega⟩
        by_cases h8:a.Kind=8
        · have hkd:kd≠4:=(q4 h8).1
          rw [if_pos h8,if_pos (show(a.Kind == 8)=true by simpa using h8),if_neg (show ¬ kd=4 from hkd)]
          obtain⟨_,_,_,_,g3,_,_,_,g7,_⟩:=z5b hp1
          have hpa:=(z5b hp1).1
          obtain⟨t,t1,t2⟩:=z7p (fuel:=fuel) (x:=p1.Agent) hf (by omega) (by omega)
          have d1:(⟨#[46,120,59]⟩:ByteArray).size=3:=rfl
          have hdep:w64 (81 - (k:Int)+1)=82 - (k:Int):=by rw [zd (by omega) (by omega)];omega
          rw [t1,Option.bind_some,if_pos (decide_eq_true (by rw [d1];omega))]
          have hI2:(⟨n,(imgS n ⟨z1.st,z1.ent,z1.org++[p1.Agent]⟩ (L++[lab])).steps,(imgS n ⟨z1.st,z1.ent,z1.org++[p1.Agent]⟩ (L++[lab])).nodes,(imgS n ⟨z1.st,z1.ent,z1.org++[p1.Agent]⟩ (L++[lab])).entered,(imgS n ⟨z1.st,z1.ent,z1.org++[p1.Agent]⟩ (L++[lab])).origins,(imgS n ⟨z1.st,z1.ent,z1.org++[p1.Agent]⟩ (L++[lab])).labels,(imgS n ⟨z1.st,z1.ent,z1.org++[p1.Agent]⟩ (L++[lab])).code⟩:D.l16Walk)=⟨n,(Z.mk z1.st z1.ent (z1.org++[p1.Agent])).st,((Z.mk z1.st z1.ent (z1.org++[p1.Agent])).org.length:Int),(Z.mk z1.st z1.ent (z1.org++[p1.Agent])).ent,(Z.mk z1.st z1.ent (z1.org++[p1.Agent])).org,L++[lab],0⟩:=rfl
          rw [hI2,z7P hz2.org (by have:=hz2.org;simp at this ⊢;omega),Option.bind_some,hdep]
          have hlen2:(Z.mk z1.st z1.ent (z1.org++[p1.Agent])).org.length=z1.org.length+1:=by simp
          rw [hlen2]
          by_cases hfull2:z1.org.length≥399∨k≤1
          · rw [if_pos hfull2,decide_eq_false (by rintro⟨h1,h2⟩;rcases hfull2 with h | h<;>omega),if_pos (by simp)]
            unfold imgS
            dsimp only
            rw [z4U,Option.bind_some]
            exact⟨by decide,_,_,rfl,rfl⟩
          · have hn2:=not_or.1 hfull2
            rw [if_neg hfull2,decide_eq_true (by omega),if_neg (by simp)]
            obtain⟨x,hx⟩:=z3J (xs:=a.Data) (i:=0) (by have:=(q4 h8).2;omega)
            have hxi:idx a.Data 0=some x:=by rw [z3m (by omega)];exact hx
            rw [hxi,Option.bind_some]
            unfold z4W
            rw [Option.bind_some,if_pos (decide_eq_true (by simp))]
            dsimp only
            exact fin bs _ ⟨z1.st,z1.ent,z1.org++[p1.Agent]++[-1]⟩ (L++[lab]++[t++⟨#[46,120,59]⟩]) [⟨2,x,[],[]⟩] o rfl rfl hbs (by omega) (Nat.le_refl _) ⟨hz1.st,hz1.len,hz1.ent,by simp;omega⟩ (by simp [hL1]) (by simp)
        · rw [if_neg h8,if_neg (show ¬ (a.Kind == 8)=true by simpa using h8)]
          refine fin (if kd=4 then(p1.Agent,s1)::bs else bs) _ ⟨z1.st,z1.ent,z1.org++[p1.Agent]⟩ (L++[lab]) [] o rfl rfl (fun b hb=>?_) (by split<;>simp) (Nat.le_refl _) hz2 (by simp [hL1]) (by simp)
          split at hb
          · rcases List.mem_cons.1 hb with rfl | hb
            · exact⟨H.mono hst1,a,ha⟩
            · exact hbs b hb
          · exact hbs b hb

theorem z9K {fuel:Nat}(hf:18446744073709551616≤fuel) (d:Nat):DeadS (zU fuel (d+1)):=z9J hf
theorem z7L {fuel:Nat}{n:D.Net}(hn:netN n=true) (hf:18446744073709551616≤fuel):∀ (k d:Nat),k≤81→k<d→GoodS n k (readM n.Agents k) (zU fuel d)
  | 0,0,_,h=>by omega
  | k+1,0,_,h=>by omega
  | 0,d+1,_,_=>z7C hn hf (by omega) (.inl rfl)
  | k+1,d+1,hk,h=>by
    obtain⟨d,rfl⟩:∃ d',d=d'+1:=⟨d - 1,by omega⟩
    exact z7C hn hf hk (.inr ⟨z7L hn hf k (d+1) (by omega) (by omega),z9K hf d⟩)
end Go.E


