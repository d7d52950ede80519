/- Reading a net back, told plainly: the walk through fans, the nodes, the whole reading; what a valid net gives for it. Conditions: the net is valid. -/
import Derived.Test.YtngggnjnenfgbaaGreatDoorOkNet
import Derived.Test.YtngggnjnenfgbaaGreatDoorFT
namespace Go.E
open Go.RowKit Go.Proofs
set_option linter.unusedSimpArgs false
set_option linter.unusedVariables false


theorem z5L {n:D.Net}{p:D.Port}(h:hasN n.Agents p=true):∃ a q,idx n.Agents p.Agent=some a∧idx a.Ports p.Slot=some q∧portAt n p=some q:=by
  obtain⟨_,_,a,q,_,h4,_,h6,_⟩:=z65 h
  exact⟨a,q,h4,h6,by unfold portAt;rw [h4,Option.bind_some,h6]⟩
theorem z6A {n:D.Net}(hn:netN n=true){i j:Int}{a:D.Agent}{q:D.Port}(ha:idx n.Agents i=some a) (hq:idx a.Ports j=some q):hasN n.Agents q=true:=by
  unfold netN at hn
  rw [Bool.and_eq_true] at hn
  obtain⟨h1,h2⟩:=z6 ha
  obtain⟨h3,h4⟩:=z6 hq
  have h5:=hn.2
  rw [z6v (xs:=n.Agents) (p:=fun i a=>a.Ports.zipIdx.all fun y=>chkN n i y.2 y.1)] at h5
  have h6:=h5 _ _ h2
  rw [z6v (p:=fun k p=>chkN n (0+i.toNat) k p)] at h6
  have h7:=h6 _ _ h4
  unfold chkN at h7
  rw [Bool.and_eq_true,Bool.and_eq_true] at h7
  exact h7.2.1
theorem z4X {n:D.Net}(hn:netN n=true){i:Int}{a:D.Agent}(ha:idx n.Agents i=some a):agN a=true:=by
  unfold netN agentsN at hn
  rw [Bool.and_eq_true,Bool.and_eq_true] at hn
  obtain⟨h1,h2⟩:=z6 ha
  have h5:=hn.1.2
  rw [z6v (xs:=n.Agents) (p:=fun i a=>agN a && ((a.Kind == 1) == (i == 0)))] at h5
  have h6:=h5 _ _ h2
  rw [Bool.and_eq_true] at h6
  exact h6.1
theorem z7U {n:D.Net}(hn:netN n=true):1≤n.Agents.length∧n.Agents.length≤600:=by
  unfold netN agentsN at hn
  rw [Bool.and_eq_true,Bool.and_eq_true] at hn
  simpa using hn.1.1


theorem z4f {a:D.Agent}(h:agN a=true):0≤a.Level∧a.Level≤8∧
    (a.Kind=4→a.Ports.length=3)∧(a.Kind=2→a.Ports.length=3)∧(a.Kind=3→a.Ports.length=3)∧(a.Kind=7→a.Ports.length=3)∧
    (a.Kind=8→a.Ports.length=2∧a.Data.length=1)∧(a.Kind=10→a.Ports.length=2)∧(a.Kind=11→a.Ports.length=2)∧a.Data.length≤4∧a.Ports.length≤4:=by
  unfold agN agentN at h
  rw [Bool.and_eq_true,Bool.and_eq_true,Bool.and_eq_true] at h
  obtain⟨h0,h1,h2,h3⟩:=h
  have hl:0≤a.Level∧a.Level≤8:=by
    unfold allowN at h2
    rw [Bool.and_eq_true,Bool.or_eq_true,Bool.and_eq_true] at h2
    rcases h2.2 with h | h
    · have:a.Level=0:=by simpa using h
      omega
    · simpa using h.2
  have hp:=of_decide_eq_true h1
  have hk:∀ k,a.Kind=k→k≠9→portsN k 0=a.Ports.length:=fun k hk h9=>by
    rw [hk,if_neg h9] at hp
    exact hp
  have kk:1≤a.Kind∧a.Kind≤12:=by
    unfold allowN at h2
    rw [Bool.and_eq_true] at h2
    simpa using h2.1
  refine⟨hl.1,hl.2,fun h=>?_,fun h=>?_,fun h=>?_,fun h=>?_,fun h=>⟨?_,?_⟩,fun h=>?_,fun h=>?_,?_,?_⟩
  · have:=hk 4 h (by decide);simp [portsN] at this;omega
  · have:=hk 2 h (by decide);simp [portsN] at this;omega
  · have:=hk 3 h (by decide);simp [portsN] at this;omega
  · have:=hk 7 h (by decide);simp [portsN] at this;omega
  · have:=hk 8 h (by decide);simp [portsN] at this;omega
  · rw [h] at h3;unfold contentN at h3;simp at h3;omega
  · have:=hk 10 h (by decide);simp [portsN] at this;omega
  · have:=hk 11 h (by decide);simp [portsN] at this;omega
  · unfold contentN at h3
    rcases kinds a.Kind with hh | hh
    · rcases hh with hh | hh | hh | hh | hh | hh | hh | hh | hh | hh | hh | hh<;>rw [hh] at h3<;>simp [-List.length_eq_zero_iff] at h3<;>omega
    · exact absurd kk hh
  · rcases kinds a.Kind with hh | hh
    · rcases hh with hh | hh | hh | hh | hh | hh | hh | hh | hh | hh | hh | hh<;>rw [hh] at hp<;>simp [portsN] at hp<;>(try split at hp)<;>omega
    · exact absurd kk hh


abbrev SS:=List (List Int)
abbrev BS:=List (Int × SS)

structure Z where
  st:Nat
  ent:List Int
  org:List Int

def entZ (a:D.Agent) (p:D.Port) (z:Z):Z:=⟨z.st+1,if a.Kind=2∧p.Slot=1 then z.ent else z.ent++[p.Agent],z.org⟩


def walkM (l:List D.Agent):Nat→Z→D.Port→SS→Int ⊕ (Z × D.Port × SS)
  | 0,_,_,_=>.inl 4
  | n+1,z,p,ss=>match idx l p.Agent with
    | none=>.inl 99
    | some a=>if a.Kind≠4 then .inr (entZ a p z,p,ss) else match idx ss a.Level with
      | none=>.inl 99
      | some s=>if p.Slot>0 then(match idx a.Ports 0 with
          | none=>.inl 99
          | some q=>walkM l n (entZ a p z) q (ss.set a.Level.toNat (p.Slot::s))) else match s with
        | []=>.inl 13
        | t::s'=>match idx a.Ports t with
          | none=>.inl 99
          | some q=>walkM l n (entZ a p z) q (ss.set a.Level.toNat s')

def levelAt (l:List D.Agent) (i:Int):Nat:=match idx l i with
  | some a=>a.Level.toNat
  | none=>0

def varM (l:List D.Agent) (lam:Int) (ss:SS):BS→Nat→Option Int
  | [],_=>none
  | b::bs,k=>if b.1=lam∧ss.take (levelAt l lam)=b.2.take (levelAt l lam) then some k else varM l lam ss bs (k+1)

def numsFrom (n:Nat):List Int:=(List.range n).map fun(i:Nat)=>((i:Int)+1)

def shapeM (l:List D.Agent) (a:D.Agent) (p:D.Port) (ss:SS) (bs:BS):Option (Int × Int × List Int × List Int):=
  if a.Kind=2 then(if p.Slot=0 then some (4,0,[],[2]) else if p.Slot=1 then(varM l p.Agent ss bs 0).map (fun k=>(1,k,[],[])) else none)
  else if a.Kind=3 then(if p.Slot=2 then some (5,0,[],[0,1]) else none)
  else if a.Kind=6 then some (2,a.Value,[],[])
  else if a.Kind=7 then(if p.Slot=2 then some (3,a.Value,[],[0,1]) else none)
  else if a.Kind=8 then(if p.Slot=1 then some (3,a.Value,[],[0]) else none)
  else if a.Kind=9 then(if p.Slot=0 then some (8,a.Value,[],numsFrom (a.Ports.length - 1)) else none)
  else if a.Kind=10 then(if p.Slot=1 then some (9,0,a.Data,[0]) else none)
  else if a.Kind=11 then(if p.Slot=1 then some (10,0,a.Data,[0]) else none)
  else if a.Kind=12 then some (11,a.Value,[],[])
  else none


def kidsM (rec:Z→D.Port→Int ⊕ (D.Core × Z)) (a:D.Agent):List Int→Z→List D.Core→Int ⊕ (List D.Core × Z)
  | [],z,cs=>.inr (cs,z)
  | s::ss,z,cs=>match idx a.Ports s with
    | none=>.inl 99
    | some q=>match rec z q with
      | .inl c=>.inl c
      | .inr (c,z')=>kidsM rec a ss z' (cs++[c])


def stepM (l:List D.Agent) (k:Nat) (rec:SS→BS→Z→D.Port→Int ⊕ (D.Core × Z)) (ss:SS) (bs:BS) (z:Z) (p:D.Port):Int ⊕ (D.Core × Z):=
  match walkM l (4000 - z.st) z p ss with
  | .inl c=>.inl c
  | .inr (z1,p1,s1)=>match idx l p1.Agent with
    | none=>.inl 99
    | some a=>match shapeM l a p1 s1 bs with
      | none=>.inl 13
      | some (kd,v,d,slots)=>
        if z1.org.length≥400∨k=0 then .inl 4 else
        if a.Kind=8 then
          (if z1.org.length≥399∨k≤1 then .inl 4 else match idx a.Data 0 with
            | none=>.inl 99
            | some x=>match kidsM (rec s1 bs) a slots ⟨z1.st,z1.ent,z1.org++[p1.Agent]++[-1]⟩ [⟨2,x,[],[]⟩] with
              | .inl c=>.inl c
              | .inr (cs,z2)=>.inr (⟨kd,v,d,cs⟩,z2))
        else match kidsM (rec s1 (if kd=4 then(p1.Agent,s1)::bs else bs)) a slots ⟨z1.st,z1.ent,z1.org++[p1.Agent]⟩ [] with
          | .inl c=>.inl c
          | .inr (cs,z2)=>.inr (⟨kd,v,d,cs⟩,z2)
def readM (l:List D.Agent):Nat→SS→BS→Z→D.Port→Int ⊕ (D.Core × Z)
  | 0=>stepM l 0 fun _ _ _ _=>.inl 99
  | k+1=>stepM l (k+1) (readM l k)


def StOk (n:Nat) (s:List Int):Prop:=s.length≤n∧∀ t,t∈s→t=1∨t=2
def SsOk (n:Nat) (ss:SS):Prop:=ss.length=9∧∀ s,s∈ss→StOk n s
def BsOk (l:List D.Agent) (bs:BS):Prop:=∀ b,b∈bs→SsOk 4000 b.2∧∃ a,idx l b.1=some a
def EntOk (l:List D.Agent) (es:List Int):Prop:=∀ e,e∈es→0≤e∧e.toNat<l.length
structure ZOk (l:List D.Agent) (z:Z):Prop where
  st:z.st≤4000
  len:z.ent.length≤z.st
  ent:EntOk l z.ent
  org:z.org.length≤400

theorem SsOk.mono {n m:Nat}{ss:SS}(h:SsOk n ss) (hm:n≤m):SsOk m ss:=⟨h.1,fun s hs=>⟨Nat.le_trans (h.2 s hs).1 hm,(h.2 s hs).2⟩⟩
theorem SsOk.set {n:Nat}{ss:SS}{s:List Int}(h:SsOk n ss) (hs:StOk n s) (i:Nat):SsOk n (ss.set i s):=⟨by rw [List.length_set];exact h.1,fun t ht=>by
  rcases List.mem_or_eq_of_mem_set ht with h1 | h1
  · exact h.2 t h1
  · rw [h1];exact hs⟩
theorem SsOk.at {n:Nat}{ss:SS}{i:Int}(h:SsOk n ss) (h0:0≤i) (h8:i≤8):∃ s,idx ss i=some s∧StOk n s:=by
  obtain⟨s,hs⟩:=z3p (xs:=ss) (i:=i.toNat) (by rw [h.1];omega)
  exact⟨s,by rw [z3O h0,hs],h.2 s (List.mem_of_getElem? hs)⟩

theorem zbv {l:List D.Agent}{a:D.Agent}{p:D.Port}{z:Z}(ha:idx l p.Agent=some a) (he:EntOk l z.ent):EntOk l (entZ a p z).ent:=by
  unfold entZ
  dsimp only
  split
  · exact he
  · intro e h
    rcases List.mem_append.1 h with h | h
    · exact he e h
    · simp only [List.mem_singleton] at h
      subst h
      obtain⟨h0,h1⟩:=z6 ha
      exact⟨h0,(List.getElem?_eq_some_iff.1 h1).1⟩


theorem z8x {a:D.Agent}{p:D.Port}{z:Z}(h:z.ent.length≤z.st):(entZ a p z).ent.length≤(entZ a p z).st:=by
  unfold entZ
  dsimp only
  split
  · omega
  · simp;omega
theorem z6X {l:List D.Agent}:∀ (k:Nat) (z:Z) (p:D.Port) (ss:SS),z.ent.length≤z.st→∀ {z' p' ss'},walkM l k z p ss=.inr (z',p',ss')→z'.ent.length≤z'.st
  | 0,_,_,_,_,_,_,_,h=>by cases h
  | k+1,z,p,ss,hz,z',p',ss',h=>by
    unfold walkM at h
    split at h
    · cases h
    · rename_i a ha
      have he:=z8x (a:=a) (p:=p) hz
      split at h
      · cases h;exact he
      · split at h
        · cases h
        · split at h
          · split at h
            · cases h
            · exact z6X k _ _ _ he h
          · split at h
            · cases h
            · split at h
              · cases h
              · exact z6X k _ _ _ he h
theorem z9m {n:D.Net}(hn:netN n=true):∀ (k:Nat) (z:Z) (p:D.Port) (ss:SS),z.st+k=4000→hasN n.Agents p=true→SsOk z.st ss→EntOk n.Agents z.ent→
    match walkM n.Agents k z p ss with
    | .inl c=>c=4∨c=13
    | .inr (z',p',ss')=>hasN n.Agents p'=true∧SsOk z'.st ss'∧z'.st≤4000∧z.st<z'.st∧EntOk n.Agents z'.ent∧z'.org=z.org∧∃ a,idx n.Agents p'.Agent=some a∧a.Kind≠4
  | 0,z,p,ss,_,_,_,_=>.inl rfl
  | k+1,z,p,ss,hk,hp,hs,he=>by
    obtain⟨a,q0,ha,hq0,_⟩:=z5L hp
    have hf:=z4f (z4X hn ha)
    unfold walkM
    rw [ha]
    dsimp only
    have hE:=zbv (z:=z) ha he
    by_cases h4:a.Kind=4
    · rw [if_neg (by simpa using h4)]
      obtain⟨s,hsi,hso⟩:=hs.at hf.1 hf.2.1
      rw [hsi]
      dsimp only
      have hpl:=hf.2.2.1 h4
      have key:∀ (t:Int) (s':List Int),(t=0∨t=1∨t=2)→StOk (z.st+1) s'→match (match idx a.Ports t with
          | none=>(.inl 99:Int ⊕ (Z × D.Port × SS))
          | some q=>walkM n.Agents k (entZ a p z) q (ss.set a.Level.toNat s')) with
          | .inl c=>c=4∨c=13
          | .inr (z',p',ss')=>hasN n.Agents p'=true∧SsOk z'.st ss'∧z'.st≤4000∧z.st<z'.st∧EntOk n.Agents z'.ent∧z'.org=z.org∧∃ a,idx n.Agents p'.Agent=some a∧a.Kind≠4:=fun t s' ht hs'=>by
        obtain⟨q,hq⟩:=z3p (xs:=a.Ports) (i:=t.toNat) (by omega)
        have hqi:idx a.Ports t=some q:=by rw [z3O (by omega),hq]
        rw [hqi]
        dsimp only
        have ih:=z9m hn k (entZ a p z) q (ss.set a.Level.toNat s') (by show z.st+1+k=4000;omega) (z6A hn ha hqi) ((hs.mono (Nat.le_succ _)).set hs' _) hE
        cases hw:walkM n.Agents k (entZ a p z) q (ss.set a.Level.toNat s') with
        | inl c=>rw [hw] at ih;exact ih
        | inr x=>
          obtain⟨z',p',ss'⟩:=x
          rw [hw] at ih
          obtain⟨i1,i2,i3,i4,i5,i6,i7⟩:=ih
          exact⟨i1,i2,i3,by have:z.st+1<z'.st:=i4;omega,i5,i6,i7⟩
      by_cases hsl:p.Slot>0
      · rw [if_pos hsl]
        refine key 0 (p.Slot::s) (.inl rfl) ⟨by simp;exact hso.1,fun t ht=>?_⟩
        rcases List.mem_cons.1 ht with h | h
        · obtain⟨_,_,a',_,_,g4,_,_,_,g8⟩:=z65 hp
          rw [ha] at g4
          obtain rfl:=Option.some.inj g4
          omega
        · exact hso.2 t h
      · rw [if_neg hsl]
        cases s with
        | nil=>exact .inr rfl
        | cons t s'=>
          have ht:=hso.2 t (by simp)
          exact key t s' (by omega) ⟨by have:=hso.1;simp at this;omega,fun u hu=>hso.2 u (by simp [hu])⟩
    · rw [if_pos h4]
      exact⟨hp,hs.mono (Nat.le_succ _),by show z.st+1≤4000;omega,Nat.lt_succ_self _,hE,rfl,a,ha,h4⟩

theorem zbR {n:Nat}{x:Int}(h:x∈numsFrom n):1≤x∧x≤n:=by
  unfold numsFrom at h
  obtain⟨i,hi,rfl⟩:=List.mem_map.1 h
  have:=List.mem_range.1 hi
  omega
theorem z8n (n:Nat):(numsFrom n).length=n:=by simp [numsFrom]


theorem z7k {l:List D.Agent}{a:D.Agent}(hf:agN a=true){p:D.Port}{ss:SS}{bs:BS}{kd v:Int}{d slots:List Int}(h:shapeM l a p ss bs=some (kd,v,d,slots)):
    slots.length≤3∧(∀ s,s∈slots→0≤s∧s<a.Ports.length)∧(kd=4→a.Kind=2)∧(a.Kind=8→kd≠4∧a.Data.length=1)∧d.length≤4∧1≤kd∧kd≤11:=by
  obtain⟨_,_,f4,f2,f3,f7,f8,f10,f11,fd,fp⟩:=z4f hf
  unfold shapeM at h
  split at h
  · rename_i hk
    have:=f2 hk
    split at h
    · cases h;exact⟨by simp,fun s hs=>by simp at hs;omega,fun _=>hk,fun h=>by omega,by simp,by decide,by decide⟩
    · split at h
      · cases hv:varM l p.Agent ss bs 0 with
        | none=>rw [hv] at h;cases h
        | some k=>rw [hv] at h;cases h;exact⟨by simp,fun s hs=>by simp at hs,fun h=>by omega,fun h=>by omega,by simp,by decide,by decide⟩
      · cases h
  split at h
  · rename_i _ hk
    have:=f3 hk
    split at h
    · cases h;exact⟨by simp,fun s hs=>by simp at hs;omega,fun h=>by omega,fun h=>by omega,by simp,by decide,by decide⟩
    · cases h
  split at h
  · cases h;exact⟨by simp,fun s hs=>by simp at hs,fun h=>by omega,fun h=>by omega,by simp,by decide,by decide⟩
  split at h
  · rename_i _ _ _ hk
    have:=f7 hk
    split at h
    · cases h;exact⟨by simp,fun s hs=>by simp at hs;omega,fun h=>by omega,fun h=>by omega,by simp,by decide,by decide⟩
    · cases h
  split at h
  · rename_i _ _ _ _ hk
    have:=f8 hk
    split at h
    · cases h;exact⟨by simp,fun s hs=>by simp at hs;omega,fun h=>by omega,fun _=>⟨by decide,this.2⟩,by simp,by decide,by decide⟩
    · cases h
  split at h
  · rename_i _ _ _ _ _ hk
    split at h
    · cases h
      refine⟨by rw [z8n];omega,fun s hs=>?_,fun h=>by omega,fun h=>by omega,by simp,by decide,by decide⟩
      have:=zbR hs
      omega
    · cases h
  split at h
  · rename_i _ _ _ _ _ _ hk
    have:=f10 hk
    split at h
    · cases h;exact⟨by simp,fun s hs=>by simp at hs;omega,fun h=>by omega,fun h=>by omega,fd,by decide,by decide⟩
    · cases h
  split at h
  · rename_i _ _ _ _ _ _ _ hk
    have:=f11 hk
    split at h
    · cases h;exact⟨by simp,fun s hs=>by simp at hs;omega,fun h=>by omega,fun h=>by omega,fd,by decide,by decide⟩
    · cases h
  split at h
  · cases h;exact⟨by simp,fun s hs=>by simp at hs,fun h=>by omega,fun h=>by omega,by simp,by decide,by decide⟩
  · cases h
end Go.E


namespace Go.E
open Go.RowKit Go.Proofs
set_option linter.unusedSimpArgs false
set_option linter.unusedVariables false


def timesOf (l:List D.Agent) (es:List Int):List Int:=l.zipIdx.map fun x=>if x.1.Kind=4 then 0 else((es.count (x.2:Int):Nat):Int)
theorem z4Z {l:List D.Agent}{es:List Int}:(timesOf l es).length=l.length:=by simp [timesOf]
theorem z67 {l:List D.Agent}{es:List Int}{i:Nat}{a:D.Agent}(ha:l[i]? = some a):(timesOf l es)[i]? = some (if a.Kind=4 then 0 else((es.count (i:Int):Nat):Int)):=by
  unfold timesOf
  rw [List.getElem?_map,List.getElem?_zipIdx,ha]
  simp
theorem zaU {l:List D.Agent}:timesOf l []=List.replicate l.length 0:=by
  apply List.ext_getElem?
  intro i
  rw [List.getElem?_replicate]
  rcases Nat.lt_or_ge i l.length with h | h
  · obtain⟨a,ha⟩:=z3p h
    rw [z67 ha,if_pos h]
    simp
  · rw [if_neg (by omega),List.getElem?_eq_none (by rw [z4Z];exact h)]
theorem zaV {l:List D.Agent}{es:List Int}{p:Int}{a:D.Agent}(ha:idx l p=some a) (h4:a.Kind=4):timesOf l (es++[p])=timesOf l es:=by
  apply List.ext_getElem?
  intro i
  rcases Nat.lt_or_ge i l.length with h | h
  · obtain⟨b,hb⟩:=z3p h
    rw [z67 hb,z67 hb]
    by_cases hk:b.Kind=4
    · rw [if_pos hk,if_pos hk]
    · rw [if_neg hk,if_neg hk,List.count_append]
      have:¬ p=(i:Int):=fun e=>by
        rw [e,z21 hb] at ha
        cases ha
        exact hk h4
      simp [this]
  · rw [List.getElem?_eq_none (by rw [z4Z];exact h),List.getElem?_eq_none (by rw [z4Z];exact h)]
theorem zaT {l:List D.Agent}{es:List Int}{p:Int}{a:D.Agent}(ha:idx l p=some a) (h4:a.Kind≠4):
    idx (timesOf l es) p=some ((es.count p:Nat):Int)∧(timesOf l es).set p.toNat (((es.count p:Nat):Int)+1)=timesOf l (es++[p]):=by
  obtain⟨h0,h1⟩:=z6 ha
  have hp:((p.toNat:Nat):Int)=p:=by omega
  have hl:=(List.getElem?_eq_some_iff.1 h1).1
  refine⟨by rw [z3O h0,z67 h1,if_neg h4,hp],?_⟩
  apply List.ext_getElem?
  intro i
  rcases Nat.lt_or_ge i l.length with h | h
  · obtain⟨b,hb⟩:=z3p h
    rw [z67 hb]
    by_cases hi:i=p.toNat
    · subst hi
      rw [List.getElem?_set_self (by rw [z4Z];exact hl)]
      rw [h1] at hb
      cases hb
      rw [if_neg h4,hp,List.count_append]
      simp
    · rw [List.getElem?_set_ne (by omega),z67 hb]
      by_cases hk:b.Kind=4
      · rw [if_pos hk,if_pos hk]
      · rw [if_neg hk,if_neg hk,List.count_append]
        have:¬ p=(i:Int):=fun e=>hi (by omega)
        simp [this]
  · rw [List.getElem?_eq_none (by rw [List.length_set,z4Z];exact h),List.getElem?_eq_none (by rw [z4Z];exact h)]


def img (l:List D.Agent) (z:Z) (L:List ByteArray):D.reading:=⟨⟨l⟩,z.st,z.org.length,z.org,timesOf l z.ent,L⟩


theorem z8z {fuel:Nat}{x:Int}(h0:-9223372036854775808≤x) (h1:x≤9223372036854775807):∃ t,z2B fuel x=some t∧t.size≤21:=by
  unfold z2B z36
  rw [if_pos ⟨rfl,h0,h1⟩,Option.bind_some]
  exact⟨_,rfl,by rw [ByteArray.size,List.size_toArray];exact Lib.itoa_length_le x h0 h1⟩
theorem zar {fuel:Nat}{p:D.Port}(h0:0≤p.Agent) (h1:p.Agent≤1048576) (h2:0≤p.Slot) (h3:p.Slot≤1048576):∃ t,z3h fuel p=some t∧t.size≤44:=by
  obtain⟨s,e1,e2⟩:=z8z (fuel:=fuel) (x:=p.Agent) (by omega) (by omega)
  obtain⟨t,g1,g2⟩:=z8z (fuel:=fuel) (x:=p.Slot) (by omega) (by omega)
  have d1:(⟨#[46]⟩:ByteArray).size=1:=rfl
  have d2:(⟨#[59]⟩:ByteArray).size=1:=rfl
  unfold z3h
  rw [e1,Option.bind_some,if_pos (decide_eq_true (by rw [d1];omega)),g1,Option.bind_some,if_pos (decide_eq_true (by rw [ByteArray.size_append,d1];omega)),if_pos (decide_eq_true (by rw [ByteArray.size_append,ByteArray.size_append,d1,d2];omega))]
  exact⟨_,rfl,by rw [ByteArray.size_append,ByteArray.size_append,ByteArray.size_append,d1,d2];omega⟩

theorem z81 {fuel:Nat}{l:List D.Agent}{z:Z}{L:List ByteArray}{p:D.Port}{a:D.Agent}(ha:idx l p.Agent=some a) (hst:z.st≤4000) (he:EntOk l z.ent) (hl:z.ent.length≤4000):
    z1V fuel (img l z L) p=if z.st=4000 then some (4,⟨⟨l⟩,4001,z.org.length,z.org,timesOf l z.ent,L⟩) else some (0,img l (entZ a p z) L):=by
  unfold z1V z13 img
  dsimp only
  rw [z8 (n:=(z.st:Int)+1) (by omega) (by omega)]
  by_cases h:z.st=4000
  · rw [if_pos (decide_eq_true (by omega)),if_pos h,h];rfl
  · rw [if_neg (by simp;omega),if_neg h,ha,Option.bind_some]
    have hc:z.ent.count p.Agent≤z.ent.length:=List.count_le_length
    by_cases h4:a.Kind=4
    · have hent:timesOf l (entZ a p z).ent=timesOf l z.ent:=by
        unfold entZ
        dsimp only
        rw [if_neg (by rw [h4];rintro⟨h,_⟩;cases h)]
        exact zaV ha h4
      rw [if_neg (by simp [h4]),if_neg (by simp),hent]
      rfl
    · obtain⟨t1,t2⟩:=zaT (es:=z.ent) ha h4
      obtain⟨i0,i1⟩:=z6 ha
      have i2:=(List.getElem?_eq_some_iff.1 i1).1
      have go:(if true=true then((idx (timesOf l z.ent) p.Agent).bind fun b=>(if decide (0≤p.Agent∧p.Agent.toNat<(timesOf l z.ent).length)=true then some ((0:Int),(⟨(⟨l⟩:D.Net),(z.st:Int)+1,z.org.length,z.org,((timesOf l z.ent).set p.Agent.toNat (w64 (b+1))),L⟩:D.reading)) else none)) else some (0,(⟨(⟨l⟩:D.Net),(z.st:Int)+1,z.org.length,z.org,timesOf l z.ent,L⟩:D.reading)))=some (0,⟨⟨l⟩,(z.st:Int)+1,z.org.length,z.org,timesOf l (z.ent++[p.Agent]),L⟩):=by
        rw [if_pos rfl,t1,Option.bind_some,if_pos (decide_eq_true ⟨i0,by rw [z4Z];exact i2⟩),z8 (by omega) (by omega),t2]
      rw [if_pos (by simpa using h4)]
      by_cases h2:a.Kind=2
      · rw [if_pos (by simpa using h2)]
        by_cases h1:p.Slot=1
        · rw [if_neg (by simp [h1])]
          have:(entZ a p z).ent=z.ent:=by unfold entZ;dsimp only;rw [if_pos ⟨h2,h1⟩]
          rw [this];rfl
        · have h1':(!(p.Slot == 1))=true:=by simpa using h1
          rw [h1',go]
          have:(entZ a p z).ent=z.ent++[p.Agent]:=by unfold entZ;dsimp only;rw [if_neg (fun h=>h1 h.2)]
          rw [this];rfl
      · rw [if_neg (by simpa using h2),go]
        have:(entZ a p z).ent=z.ent++[p.Agent]:=by unfold entZ;dsimp only;rw [if_neg (fun h=>h2 h.1)]
        rw [this];rfl

def fanR (R:D.reading) (a:D.Agent) (p:D.Port) (ss:SS) (s:List Int):Option (D.Port × Bool × D.reading × SS):=
  if p.Slot>0 then(match idx a.Ports 0 with
    | none=>none
    | some q=>some (q,true,R,ss.set a.Level.toNat (p.Slot::s))) else match s with
    | []=>some (⟨0,0⟩,false,R,ss)
    | t::s'=>match idx a.Ports t with
      | none=>none
      | some q=>some (q,true,R,ss.set a.Level.toNat s')
theorem zbW {fuel:Nat}{n:D.Net}(hn:netN n=true){z:Z}{L:List ByteArray}{p:D.Port}{ss:SS}{a:D.Agent}(ha:idx n.Agents p.Agent=some a){s:List Int}(hsi:idx ss a.Level=some s):
    z1G fuel (img n.Agents z L) p ss=fanR (img n.Agents z L) a p ss s:=by
  have hf:=z4f (z4X hn ha)
  have hb:decide (0≤a.Level∧a.Level.toNat<9)=true:=decide_eq_true (by omega)
  have hpe:∀ t:Int,zQ fuel (⟨n.Agents⟩:D.Net) (⟨p.Agent,t⟩:D.Port)=idx a.Ports t:=fun t=>by
    rw [z5V];unfold portAt;dsimp only;rw [ha,Option.bind_some]
  unfold z1G fanR img
  dsimp only
  rw [ha,Option.bind_some]
  by_cases hsl:p.Slot>0
  · rw [if_pos (decide_eq_true hsl),if_pos hsl,if_pos hb,hsi,Option.bind_some,if_pos hb,hpe]
    cases idx a.Ports 0<;>rfl
  · rw [if_neg (by simpa using hsl),if_neg hsl,if_pos hb,hsi,Option.bind_some]
    cases s with
    | nil=>rfl
    | cons t s'=>
      rw [if_neg (by simp)]
      show((some t).bind fun y86=>_)=_
      rw [Option.bind_some,if_pos hb,hpe]
      dsimp only
      cases idx a.Ports t<;>rfl
end Go.E


namespace Go.E
open Go.RowKit Go.Proofs
set_option linter.unusedSimpArgs false
set_option linter.unusedVariables false

theorem zaG {fuel:Nat}{n:D.Net}(hn:netN n=true){z0:Z}{L0 L:List ByteArray}:∀ (k:Nat) (z:Z) (p:D.Port) (ss:SS) (lab:ByteArray) (fu:Nat),z.st+k=4000→hasN n.Agents p=true→SsOk z.st ss→EntOk n.Agents z.ent→z.ent.length≤z.st→lab.size≤44*z.st→k<fu→
    match walkM n.Agents k z p ss with
    | .inl c=>∃ r',iter (zc fuel (img n.Agents z0 L0)) fu (lab,ss,p.Agent,p.Slot,(z.st:Int),(z.org.length:Int),z.org,timesOf n.Agents z.ent,L)=some (.inr ((⟨0,0,[],[]⟩:D.Core),c,r'))
    | .inr (z',p',ss')=>∃ lab':ByteArray,lab'.size≤176000∧iter (zc fuel (img n.Agents z0 L0)) fu (lab,ss,p.Agent,p.Slot,(z.st:Int),(z.org.length:Int),z.org,timesOf n.Agents z.ent,L)=some (.inl (lab',ss',p'.Agent,p'.Slot,(z'.st:Int),(z'.org.length:Int),z'.org,timesOf n.Agents z'.ent,L)):=by
  intro k
  induction k with
  | zero=>
    rintro z ⟨pa,ps⟩ ss lab fu hk hp hs he hl hlab hfu
    obtain⟨fu,rfl⟩:∃ f',fu=f'+1:=⟨fu - 1,by omega⟩
    obtain⟨a,q0,ha,_,_⟩:=z5L hp
    have hE:=z81 (fuel:=fuel) (L:=L) ha (by omega) he (by omega)
    rw [if_pos (show z.st=4000 by omega)] at hE
    unfold img at hE
    obtain⟨r',hb⟩:∃ r',zc fuel (img n.Agents z0 L0) (lab,ss,pa,ps,(z.st:Int),(z.org.length:Int),z.org,timesOf n.Agents z.ent,L)=some (.ret ((⟨0,0,[],[]⟩:D.Core),4,r')):=by
      unfold zc img
      dsimp only
      rw [hE,Option.bind_some,if_pos (by simp)]
      exact⟨_,rfl⟩
    unfold walkM
    exact⟨r',by simp only [iter,hb]⟩
  | succ k ih=>
    rintro z ⟨pa,ps⟩ ss lab fu hk hp hs he hl hlab hfu
    obtain⟨fu,rfl⟩:∃ f',fu=f'+1:=⟨fu - 1,by omega⟩
    obtain⟨a,q0,ha,hq0,_⟩:=z5L hp
    dsimp only at ha
    have hag:=z4X hn ha
    have hf:=z4f hag
    have hE:=z81 (fuel:=fuel) (L:=L) (p:=⟨pa,ps⟩) ha (by omega) he (by omega)
    rw [if_neg (show ¬ z.st=4000 by omega)] at hE
    obtain⟨h1,h2,a',q',g1,g2,g3,g4,g5,g6⟩:=z65 hp
    rw [ha] at g2
    obtain rfl:=Option.some.inj g2
    have hlen:=(z7U hn).2
    obtain⟨tx,t1,t2⟩:=zar (fuel:=fuel) (p:=⟨pa,ps⟩) h1 (by dsimp only at g5 ⊢;omega) h2 (by dsimp only at g6 ⊢;omega)
    have hsz:(lab++tx).size≤44*(z.st+1):=by rw [ByteArray.size_append];omega
    have hE':=zbv (p:=⟨pa,ps⟩) (z:=z) ha he
    have hl':=z8x (a:=a) (p:=⟨pa,ps⟩) hl
    have hbody:zc fuel (img n.Agents z0 L0) (lab,ss,pa,ps,(z.st:Int),(z.org.length:Int),z.org,timesOf n.Agents z.ent,L)=
        if(a.Kind != 4)=true then some (.brk ((lab++tx),ss,pa,ps,((entZ a ⟨pa,ps⟩ z).st:Int),(z.org.length:Int),z.org,timesOf n.Agents (entZ a ⟨pa,ps⟩ z).ent,L)) else
        ((z1G fuel (img n.Agents (entZ a ⟨pa,ps⟩ z) L) ⟨pa,ps⟩ ss).bind fun b=>(if(!b.2.1)=true then some (.ret ((⟨0,0,[],[]⟩:D.Core),13,(⟨(⟨n.Agents⟩:D.Net),b.2.2.1.entered,b.2.2.1.nodes,b.2.2.1.origins,b.2.2.1.times,b.2.2.1.labels⟩:D.reading))) else some (.next ((lab++tx),b.2.2.2,b.1.Agent,b.1.Slot,b.2.2.1.entered,b.2.2.1.nodes,b.2.2.1.origins,b.2.2.1.times,b.2.2.1.labels)))):=by
      unfold img at hE
      unfold zc img
      dsimp only
      rw [hE,Option.bind_some]
      rw [if_neg (by simp),t1,Option.bind_some,if_pos (decide_eq_true (by omega)),ha,Option.bind_some]
      rfl
    unfold walkM
    rw [ha]
    dsimp only
    simp only [iter]
    rw [hbody]
    by_cases h4:a.Kind=4
    · rw [if_neg (by simpa using h4),if_neg (by simpa using h4)]
      obtain⟨s,hsi,hso⟩:=hs.at hf.1 hf.2.1
      rw [zbW hn ha hsi,hsi]
      dsimp only
      unfold fanR
      have hpl:=hf.2.2.1 h4
      have go:∀ (t:Int) (s':List Int) (q:D.Port),idx a.Ports t=some q→StOk (z.st+1) s'→
          match walkM n.Agents k (entZ a ⟨pa,ps⟩ z) q (ss.set a.Level.toNat s') with
          | .inl c=>∃ r',iter (zc fuel (img n.Agents z0 L0)) fu ((lab++tx),ss.set a.Level.toNat s',q.Agent,q.Slot,((entZ a ⟨pa,ps⟩ z).st:Int),((entZ a ⟨pa,ps⟩ z).org.length:Int),(entZ a ⟨pa,ps⟩ z).org,timesOf n.Agents (entZ a ⟨pa,ps⟩ z).ent,L)=some (.inr ((⟨0,0,[],[]⟩:D.Core),c,r'))
          | .inr (z',p',ss')=>∃ lab':ByteArray,lab'.size≤176000∧iter (zc fuel (img n.Agents z0 L0)) fu ((lab++tx),ss.set a.Level.toNat s',q.Agent,q.Slot,((entZ a ⟨pa,ps⟩ z).st:Int),((entZ a ⟨pa,ps⟩ z).org.length:Int),(entZ a ⟨pa,ps⟩ z).org,timesOf n.Agents (entZ a ⟨pa,ps⟩ z).ent,L)=some (.inl (lab',ss',p'.Agent,p'.Slot,(z'.st:Int),(z'.org.length:Int),z'.org,timesOf n.Agents z'.ent,L)):=fun t s' q hq hs'=>
        ih (entZ a ⟨pa,ps⟩ z) q (ss.set a.Level.toNat s') (lab++tx) fu (by show z.st+1+k=4000;omega) (z6A hn ha hq) ((hs.mono (Nat.le_succ _)).set hs' _) hE' hl' hsz (by omega)
      by_cases hsl:ps>0
      · rw [if_pos hsl,if_pos hsl]
        obtain⟨q,hq⟩:=z3p (xs:=a.Ports) (i:=(0:Int).toNat) (by omega)
        have hqi:idx a.Ports 0=some q:=by rw [z3O (by omega),hq]
        rw [hqi]
        dsimp only
        rw [Option.bind_some,if_neg (by simp)]
        dsimp only
        exact go 0 (ps::s) q hqi ⟨by simp;exact hso.1,fun t ht=>by
          rcases List.mem_cons.1 ht with h | h
          · dsimp only at g6;omega
          · exact hso.2 t h⟩
      · rw [if_neg hsl,if_neg hsl]
        cases s with
        | nil=>
          dsimp only
          rw [Option.bind_some,if_pos (by simp)]
          exact⟨_,rfl⟩
        | cons t s'=>
          have ht:=hso.2 t (by simp)
          obtain⟨q,hq⟩:=z3p (xs:=a.Ports) (i:=t.toNat) (by omega)
          have hqi:idx a.Ports t=some q:=by rw [z3O (by omega),hq]
          dsimp only
          rw [hqi]
          dsimp only
          rw [Option.bind_some,if_neg (by simp)]
          dsimp only
          exact go t s' q hqi ⟨by have:=hso.1;simp at this;omega,fun u hu=>hso.2 u (by simp [hu])⟩
    · rw [if_pos (by simpa using h4),if_pos (by simpa using h4)]
      exact⟨_,by omega,rfl⟩
end Go.E


namespace Go.E
open Go.RowKit Go.Proofs
set_option linter.unusedSimpArgs false
set_option linter.unusedVariables false

theorem zax {fuel:Nat}{x y:SS}{lev:Int}(hf:18446744073709551616≤fuel) (hx:x.length=9) (hy:y.length=9) (h0:0≤lev) (h8:lev≤8):
    z1h fuel x y lev=some (decide (x.take lev.toNat=y.take lev.toNat)):=by
  unfold z1h
  obtain⟨o,h1,h2⟩:=z1A (body:=zM fuel x y lev) (fun i s=>s=(i:Int)∧x.take i=y.take i) lev.toNat (fun o=>aft o (z2j fuel)=some (decide (x.take lev.toNat=y.take lev.toNat))) (by
    rintro i s hi ⟨rfl,ht⟩
    obtain⟨u,hu⟩:=z3p (xs:=x) (i:=i) (by omega)
    obtain⟨v,hv⟩:=z3p (xs:=y) (i:=i) (by omega)
    have hb:zM fuel x y lev (i:Int)=if(!(decide (u=v)))=true then some (.ret false) else some (.next (w64 ((i:Int)+1))):=by
      unfold zM z4Q
      rw [if_pos (decide_eq_true (by omega)),if_pos (decide_eq_true (by omega)),z21 hu,Option.bind_some,if_pos (decide_eq_true (by omega)),z21 hv,Option.bind_some,Option.bind_some]
    rw [hb]
    by_cases huv:u=v
    · rw [if_neg (by simp [huv])]
      refine .inl ⟨_,rfl,by rw [z8 (by omega) (by omega)];rfl,?_⟩
      rw [List.take_add_one,List.take_add_one,hu,hv,ht,huv]
    · rw [if_pos (by simp [huv])]
      refine .inr (.inl ⟨false,rfl,?_⟩)
      show some false=_
      rw [decide_eq_false]
      intro e
      have:=congrArg (fun q=>q[i]?) e
      simp only [List.getElem?_take,hu,hv,if_pos hi] at this
      exact huv (Option.some.inj this)) (by
    rintro s ⟨rfl,ht⟩
    refine .inr ⟨(),?_,?_⟩
    · unfold zM
      rw [if_neg (by simp;omega)]
    · show some true=_
      rw [decide_eq_true ht]) (fuel:=fuel) (i:=0) (s:=0) (Nat.zero_le _) (by omega) ⟨rfl,rfl⟩
  rw [h1,Option.bind_some,h2]

theorem z6w {l:List D.Agent}{lam:Int}{ss:SS}:∀ {bs:BS}{k:Nat}{j:Int},varM l lam ss bs k=some j→0≤j
  | [],_,_,h=>by cases h
  | b::bs,k,j,h=>by
    unfold varM at h
    split at h
    · cases h;omega
    · exact z6w h
theorem zbJ {fuel:Nat}{R:D.reading}{lam:Int}{a:D.Agent}{ss:SS}{bs:BS}(hf:18446744073709551616≤fuel) (ha:idx R.Net.Agents lam=some a) (h0:0≤a.Level) (h8:a.Level≤8) (hs:ss.length=9) (hb:∀ b,b∈bs→b.2.length=9) (hl:bs.length≤1000):
    z1i fuel R lam ss bs=some (match varM R.Net.Agents lam ss bs 0 with | some k=>k | none=>-1):=by
  have hlev:levelAt R.Net.Agents lam=a.Level.toNat:=by unfold levelAt;rw [ha]
  have key:∀ (bs:BS) (k:Nat) (fu:Nat),(∀ b,b∈bs→b.2.length=9)→bs.length<fu→k+bs.length≤1000→
      iter (zr fuel R lam ss) fu (bs,(k:Int))=some (match varM R.Net.Agents lam ss bs k with | some k'=>.inr k' | none=>.inl ()):=by
    intro bs
    induction bs with
    | nil=>
      intro k fu _ hfu _
      obtain⟨fu,rfl⟩:∃ f',fu=f'+1:=⟨fu - 1,by simp at hfu;omega⟩
      have:zr fuel R lam ss (([]:BS),(k:Int))=some (.brk ()):=by
        unfold zr
        rw [if_neg (by simp)]
      simp only [iter,this]
      rfl
    | cons b bs ih=>
      intro k fu hb hfu hk
      simp only [List.length_cons] at hfu hk
      obtain⟨fu,rfl⟩:∃ f',fu=f'+1:=⟨fu - 1,by omega⟩
      have hbody:zr fuel R lam ss ((b::bs,(k:Int)):BS × Int)=if b.1=lam∧ss.take a.Level.toNat=b.2.take a.Level.toNat then some (.ret (k:Int)) else some (.next (bs,w64 ((k:Int)+1))):=by
        unfold zr
        rw [if_pos (by simp)]
        show((some b).bind fun y66=>_)=_
        rw [Option.bind_some]
        by_cases h1:b.1=lam
        · rw [if_pos (by simpa using h1),ha,Option.bind_some,zax hf hs (hb b (by simp)) h0 h8,Option.bind_some]
          unfold zN
          by_cases h2:ss.take a.Level.toNat=b.2.take a.Level.toNat
          · rw [if_pos (c:=b.1=lam∧_) ⟨h1,h2⟩,if_pos (decide_eq_true h2)]
          · rw [if_neg (c:=b.1=lam∧_) (fun h=>h2 h.2),decide_eq_false h2,if_neg Bool.false_ne_true]
            rfl
        · rw [if_neg (by simpa using h1),if_neg (fun h=>h1 h.1)]
          unfold zN
          rw [if_neg (by simp)]
          rfl
      simp only [iter,hbody]
      unfold varM
      rw [hlev]
      by_cases h:b.1=lam∧ss.take a.Level.toNat=b.2.take a.Level.toNat
      · rw [if_pos h,if_pos h]
      · rw [if_neg h,if_neg h]
        dsimp only
        rw [z8 (by omega) (by omega)]
        have:=ih (k+1) fu (fun b' hb'=>hb b' (by simp [hb'])) (by omega) (by omega)
        exact_mod_cast this
  unfold z1i
  have:=key bs 0 fuel hb (by omega) (by omega)
  rw [show((0:Int))=((0:Nat):Int) from rfl,this,Option.bind_some]
  cases varM R.Net.Agents lam ss bs 0<;>rfl

theorem zcQ {fuel:Nat}{a:D.Agent}(hf:18446744073709551616≤fuel) (h1:1≤a.Ports.length) (h2:a.Ports.length≤4):iter (z12 fuel a) fuel ([],1)=some (.inl (numsFrom (a.Ports.length - 1))):=by
  obtain⟨o,e1,e2⟩:=z1A (body:=z12 fuel a) (fun i s=>s.1=numsFrom i∧s.2=(i:Int)+1) (a.Ports.length - 1) (fun o=>o=.inl (numsFrom (a.Ports.length - 1))) (by
    rintro i ⟨s,j⟩ hi ⟨g1,g2⟩
    dsimp only at g1 g2
    subst g1;subst g2
    refine .inl ⟨(numsFrom i++[(i:Int)+1],w64 ((i:Int)+1+1)),?_,?_,?_⟩
    · unfold z12
      dsimp only
      rw [if_pos (decide_eq_true (by omega)),if_pos (decide_eq_true (by rw [z8n];simp;omega))]
    · unfold numsFrom;rw [List.range_succ,List.map_append];rfl
    · dsimp only;rw [z8 (by omega) (by omega)];omega) (by
    rintro⟨s,j⟩ ⟨g1,g2⟩
    dsimp only at g1 g2
    subst g1;subst g2
    refine .inr ⟨_,?_,rfl⟩
    unfold z12
    dsimp only
    rw [if_neg (by simp;omega)]) (fuel:=fuel) (i:=0) (s:=([],1)) (Nat.zero_le _) (by omega) ⟨rfl,rfl⟩
  rw [e1,e2]

theorem zah {fuel:Nat}{R:D.reading}{a:D.Agent}{p:D.Port}{ss:SS}{bs:BS}(hf:18446744073709551616≤fuel) (ha:idx R.Net.Agents p.Agent=some a) (hag:agN a=true) (hs:ss.length=9) (hb:∀ b,b∈bs→b.2.length=9) (hl:bs.length≤1000):
    match shapeM R.Net.Agents a p ss bs with
    | some (kd,v,d,sl)=>z1o fuel R p ss bs=some (⟨kd,v,d,[]⟩,sl,true)
    | none=>∃ c s,z1o fuel R p ss bs=some (c,s,false):=by
  have hfa:=z4f hag
  have hpos:1≤a.Ports.length:=by
    unfold agN at hag
    rw [Bool.and_eq_true] at hag
    have:=of_decide_eq_true hag.1
    omega
  have hcl:zL fuel a.Data=some a.Data:=by
    unfold zL
    rw [if_pos (decide_eq_true (by simp;omega))]
    rfl
  unfold shapeM z1o
  rw [ha,Option.bind_some]
  unfold z1j
  by_cases h2:a.Kind=2
  · rw [if_pos h2,if_pos (show(a.Kind == 2)=true by simpa using h2)]
    by_cases s0:p.Slot=0
    · rw [if_pos s0,if_pos (show(p.Slot == 0)=true by simpa using s0)]
    rw [if_neg s0,if_neg (show ¬ (p.Slot == 0)=true by simpa using s0),if_pos (show(a.Kind == 2)=true by simpa using h2)]
    unfold z11
    by_cases s1:p.Slot=1
    · rw [if_pos s1,if_pos (show(p.Slot == 1)=true by simpa using s1),zbJ hf ha hfa.1 hfa.2.1 hs hb hl,Option.bind_some]
      cases hv:varM R.Net.Agents p.Agent ss bs 0 with
      | none=>
        unfold z4d
        exact⟨_,_,rfl⟩
      | some k=>
        unfold z4d
        dsimp only [Option.map_some]
        rw [Option.bind_some,decide_eq_true (by have:=z6w hv;omega)]
    · rw [if_neg s1,if_neg (show ¬ (p.Slot == 1)=true by simpa using s1),if_neg (show ¬ (a.Kind == 3)=true by simp [h2])]
      unfold z10 zP zw zn zk ze
      simp [h2]
  rw [if_neg h2,if_neg (show ¬ (a.Kind == 2)=true by simpa using h2),if_neg Bool.false_ne_true,if_neg (show ¬ (a.Kind == 2)=true by simpa using h2)]
  unfold z11
  rw [if_neg Bool.false_ne_true]
  unfold z10
  by_cases h3:a.Kind=3
  · rw [if_pos h3,if_pos (show(a.Kind == 3)=true by simpa using h3)]
    by_cases s2:p.Slot=2
    · rw [if_pos s2,if_pos (show(p.Slot == 2)=true by simpa using s2)]
    · rw [if_neg s2,if_neg (show ¬ (p.Slot == 2)=true by simpa using s2),if_neg (show ¬ (a.Kind == 6)=true by simp [h3])]
      unfold zP zw zn zk ze
      simp [h3]
  rw [if_neg h3,if_neg (show ¬ (a.Kind == 3)=true by simpa using h3),if_neg Bool.false_ne_true]
  by_cases h6:a.Kind=6
  · rw [if_pos h6,if_pos (show(a.Kind == 6)=true by simpa using h6)]
    rfl
  rw [if_neg h6,if_neg (show ¬ (a.Kind == 6)=true by simpa using h6)]
  unfold zP
  by_cases h7:a.Kind=7
  · rw [if_pos h7,if_pos (show(a.Kind == 7)=true by simpa using h7)]
    by_cases s2:p.Slot=2
    · rw [if_pos s2,if_pos (show(p.Slot == 2)=true by simpa using s2)]
    · rw [if_neg s2,if_neg (show ¬ (p.Slot == 2)=true by simpa using s2),if_neg (show ¬ (a.Kind == 8)=true by simp [h7])]
      unfold zw zn zk ze
      simp [h7]
  rw [if_neg h7,if_neg (show ¬ (a.Kind == 7)=true by simpa using h7),if_neg Bool.false_ne_true]
  unfold zw
  by_cases h8:a.Kind=8
  · rw [if_pos h8,if_pos (show(a.Kind == 8)=true by simpa using h8)]
    by_cases s2:p.Slot=1
    · rw [if_pos s2,if_pos (show(p.Slot == 1)=true by simpa using s2)]
    · rw [if_neg s2,if_neg (show ¬ (p.Slot == 1)=true by simpa using s2),if_neg (show ¬ (a.Kind == 9)=true by simp [h8])]
      unfold zn zk ze
      simp [h8]
  rw [if_neg h8,if_neg (show ¬ (a.Kind == 8)=true by simpa using h8),if_neg Bool.false_ne_true]
  unfold zn
  by_cases h9:a.Kind=9
  · rw [if_pos h9,if_pos (show(a.Kind == 9)=true by simpa using h9)]
    by_cases s2:p.Slot=0
    · rw [if_pos s2,if_pos (show(p.Slot == 0)=true by simpa using s2),zcQ hf hpos hfa.2.2.2.2.2.2.2.2.2.2]
      rfl
    · rw [if_neg s2,if_neg (show ¬ (p.Slot == 0)=true by simpa using s2),if_neg (show ¬ (a.Kind == 10)=true by simp [h9])]
      unfold zk ze
      simp [h9]
  rw [if_neg h9,if_neg (show ¬ (a.Kind == 9)=true by simpa using h9),if_neg Bool.false_ne_true]
  unfold zk
  by_cases o:a.Kind=10
  · rw [if_pos o,if_pos (show(a.Kind == 10)=true by simpa using o)]
    by_cases s2:p.Slot=1
    · rw [if_pos s2,if_pos (show(p.Slot == 1)=true by simpa using s2),hcl]
      rfl
    · rw [if_neg s2,if_neg (show ¬ (p.Slot == 1)=true by simpa using s2),if_neg (show ¬ (a.Kind == 11)=true by simp [o])]
      unfold ze
      simp [o]
  rw [if_neg o,if_neg (show ¬ (a.Kind == 10)=true by simpa using o),if_neg Bool.false_ne_true]
  unfold ze
  by_cases y:a.Kind=11
  · rw [if_pos y,if_pos (show(a.Kind == 11)=true by simpa using y)]
    by_cases s2:p.Slot=1
    · rw [if_pos s2,if_pos (show(p.Slot == 1)=true by simpa using s2),hcl]
      rfl
    · rw [if_neg s2,if_neg (show ¬ (p.Slot == 1)=true by simpa using s2),if_neg (show ¬ (a.Kind == 12)=true by simp [y])]
      exact⟨_,_,rfl⟩
  rw [if_neg y,if_neg (show ¬ (a.Kind == 11)=true by simpa using y),if_neg Bool.false_ne_true]
  by_cases G:a.Kind=12
  · rw [if_pos G,if_pos (show(a.Kind == 12)=true by simpa using G)]
    rfl
  · rw [if_neg G,if_neg (show ¬ (a.Kind == 12)=true by simpa using G)]
    exact⟨_,_,rfl⟩

theorem z91 {fuel:Nat}{l:List D.Agent}{z:Z}{L:List ByteArray}{ag dep:Int}{lab:ByteArray}(ho:z.org.length≤400) (hL:L.length≤400):
    z1x fuel (img l z L) ag lab dep=if z.org.length≥400∨dep>80 then some (4,img l z L) else some (0,img l ⟨z.st,z.ent,z.org++[ag]⟩ (L++[lab])):=by
  have bad:zT fuel (img l z L) ag lab true=some (4,img l z L):=by unfold zT;rw [if_pos rfl]
  unfold z1x
  by_cases h1:z.org.length=400
  · rw [if_pos (by simp [img,h1]),bad,if_pos (.inl (by omega))]
  · rw [if_neg (by simp [img];omega)]
    by_cases h2:dep>80
    · rw [decide_eq_true h2,bad,if_pos (.inr h2)]
    · rw [decide_eq_false h2,if_neg (by omega)]
      unfold zT img
      dsimp only
      rw [if_neg (by simp),if_pos (decide_eq_true (by simp;omega)),if_pos (decide_eq_true (by simp;omega)),z8 (by omega) (by omega),List.length_append]
      rfl
end Go.E


namespace Go.E
open Go.RowKit Go.Proofs
set_option linter.unusedSimpArgs false
set_option linter.unusedVariables false


def OutI (l:List D.Agent) (st:Nat) (o:Option (D.Core × Int × D.reading)):Int ⊕ (D.Core × Z)→Prop
  | .inl c=>c≠0∧∃ r',o=some ((⟨0,0,[],[]⟩:D.Core),c,r')
  | .inr (co,z')=>ZOk l z'∧st≤z'.st∧∃ L':List ByteArray,L'.length=z'.org.length∧o=some (co,0,img l z' L')

theorem zd8 {fuel:Nat}{x0:D.reading}{s:Int × Int × Int × (List Int) × (List Int) × (List ByteArray) × (List D.Core)}{co:Int × Int × (List Int) × (List D.Core)}{c:Int}{t:Int × Int × (List Int) × (List Int) × (List ByteArray)}(h:c≠0):
    ∃ r',zH fuel x0 s (co,c,t)=some (.ret ((⟨0,0,[],[]⟩:D.Core),c,r')):=by
  unfold zH
  rw [if_pos (by simpa using h)]
  exact⟨_,rfl⟩
theorem zd7 {fuel:Nat}{x0:D.reading}{i st no:Int}{og ti:List Int}{la:List ByteArray}{cs:List D.Core}{k v:Int}{d:List Int}{ks:List D.Core}{e2 n2:Int}{o2 t2:List Int}{l2:List ByteArray}(h:cs.length≤10):
    zH fuel x0 (i,st,no,og,ti,la,cs) ((k,v,d,ks),0,e2,n2,o2,t2,l2)=some (.next (w64 (i+1),e2,n2,o2,t2,l2,cs++[⟨k,v,d,ks⟩])):=by
  unfold zH
  rw [if_neg (by simp),if_pos (decide_eq_true (by simp;omega))]
theorem zba {fuel:Nat}{n:D.Net}(hn:netN n=true){a:D.Agent}{s1:SS}{bs1:BS}{M:Z→D.Port→Int ⊕ (D.Core × Z)}{recf:D.reading→D.Port→SS→BS→Int→Option (D.Core × Int × D.reading)}{z0:Z}{L0:List ByteArray}{x4:Int}{st0:Nat}
    {lab:ByteArray}{p1:D.Port}(ha:idx n.Agents p1.Agent=some a){u:Int × Int × Int × (List Int) × (List Int) × (List ByteArray)}{c0:D.Core}{slots:List Int}{w:Int × Int × (List Int) × (List Int) × (List ByteArray) × (List D.Core)}
    (hsl:slots.length≤3)
    (hrec:∀ z q L,hasN n.Agents q=true→st0≤z.st→ZOk n.Agents z→L.length=z.org.length→OutI n.Agents z.st (recf (img n.Agents z L) q s1 bs1 (w64 (x4+1))) (M z q)):
    ∀ (rest pre:List Int) (z:Z) (L:List ByteArray) (cs:List D.Core) (fu:Nat),slots=pre++rest→(∀ s,s∈rest→0≤s∧s<a.Ports.length)→st0≤z.st→ZOk n.Agents z→L.length=z.org.length→cs.length+rest.length≤10→rest.length<fu→
      match kidsM M a rest z cs with
      | .inl c=>c≠0∧∃ r',iter (zm fuel (img n.Agents z0 L0) x4 recf (lab,s1,p1.Agent,u) (c0,slots,true) (bs1,w)) fu ((pre.length:Int),(z.st:Int),(z.org.length:Int),z.org,timesOf n.Agents z.ent,L,cs)=some (.inr ((⟨0,0,[],[]⟩:D.Core),c,r'))
      | .inr (cs',z')=>ZOk n.Agents z'∧z.st≤z'.st∧∃ L':List ByteArray,L'.length=z'.org.length∧iter (zm fuel (img n.Agents z0 L0) x4 recf (lab,s1,p1.Agent,u) (c0,slots,true) (bs1,w)) fu ((pre.length:Int),(z.st:Int),(z.org.length:Int),z.org,timesOf n.Agents z.ent,L,cs)=some (.inl ((z'.st:Int),(z'.org.length:Int),z'.org,timesOf n.Agents z'.ent,L',cs')):=by
  intro rest
  induction rest with
  | nil=>
    intro pre z L cs fu he _ hst hz hL hc hfu
    obtain⟨fu,rfl⟩:∃ f',fu=f'+1:=⟨fu - 1,by simp at hfu;omega⟩
    have hb:zm fuel (img n.Agents z0 L0) x4 recf (lab,s1,p1.Agent,u) (c0,slots,true) (bs1,w) ((pre.length:Int),(z.st:Int),(z.org.length:Int),z.org,timesOf n.Agents z.ent,L,cs)=some (.brk ((z.st:Int),(z.org.length:Int),z.org,timesOf n.Agents z.ent,L,cs)):=by
      unfold zm
      rw [if_neg (by rw [he];simp)]
    exact⟨hz,Nat.le_refl _,L,hL,by simp only [iter,hb]⟩
  | cons s rest ih=>
    intro pre z L cs fu he hs hst hz hL hc hfu
    simp only [List.length_cons] at hfu hc
    obtain⟨fu,rfl⟩:∃ f',fu=f'+1:=⟨fu - 1,by omega⟩
    obtain⟨g0,g1⟩:=hs s (by simp)
    obtain⟨q,hq⟩:=z3p (xs:=a.Ports) (i:=s.toNat) (by omega)
    have hqi:idx a.Ports s=some q:=by rw [z3O g0,hq]
    have hat:idx slots (pre.length:Int)=some s:=by rw [z3O (by omega),he];simp
    have hlen:pre.length<slots.length:=by rw [he];simp
    have hR:=hrec z q L (z6A hn ha hqi) hst hz hL
    have hpe:zQ fuel (⟨n.Agents⟩:D.Net) (⟨p1.Agent,s⟩:D.Port)=some q:=by
      rw [z5V];unfold portAt;dsimp only;rw [ha,Option.bind_some,hqi]
    have hb:zm fuel (img n.Agents z0 L0) x4 recf (lab,s1,p1.Agent,u) (c0,slots,true) (bs1,w) ((pre.length:Int),(z.st:Int),(z.org.length:Int),z.org,timesOf n.Agents z.ent,L,cs)=
        (recf (img n.Agents z L) q s1 bs1 (w64 (x4+1))).bind fun b=>zH fuel (img n.Agents z0 L0) ((pre.length:Int),(z.st:Int),(z.org.length:Int),z.org,timesOf n.Agents z.ent,L,cs) ((b.1.Kind,b.1.Value,b.1.Data,b.1.Kids),b.2.1,b.2.2.entered,b.2.2.nodes,b.2.2.origins,b.2.2.times,b.2.2.labels):=by
      unfold zm
      rw [if_pos (decide_eq_true (by dsimp only;omega))]
      dsimp only
      rw [hat,Option.bind_some]
      have hx:(img n.Agents z0 L0).Net.Agents=n.Agents:=rfl
      have hI:(⟨(⟨n.Agents⟩:D.Net),(z.st:Int),(z.org.length:Int),z.org,timesOf n.Agents z.ent,L⟩:D.reading)=img n.Agents z L:=rfl
      rw [hx,hpe,Option.bind_some,hI]
    unfold kidsM
    rw [hqi]
    dsimp only
    cases hM:M z q with
    | inl c=>
      rw [hM] at hR
      obtain⟨c0',r',e⟩:=hR
      rw [e,Option.bind_some] at hb
      obtain⟨r2,e2⟩:=zd8 (fuel:=fuel) (x0:=img n.Agents z0 L0) (s:=((pre.length:Int),(z.st:Int),(z.org.length:Int),z.org,timesOf n.Agents z.ent,L,cs)) (co:=((0:Int),(0:Int),([]:List Int),([]:List D.Core))) (t:=(r'.entered,r'.nodes,r'.origins,r'.times,r'.labels)) c0'
      have d:=hb.trans e2
      simp only [iter,d]
      exact⟨c0',r2,rfl⟩
    | inr x=>
      obtain⟨co,z'⟩:=x
      rw [hM] at hR
      obtain⟨hz',hle,L',hL',e⟩:=hR
      rw [e,Option.bind_some] at hb
      have d:=hb.trans (zd7 (by omega))
      rw [z8 (by omega) (by omega)] at d
      have hp1:(img n.Agents z' L').entered=(z'.st:Int):=rfl
      have hp2:(img n.Agents z' L').nodes=(z'.org.length:Int):=rfl
      have hp3:(img n.Agents z' L').origins=z'.org:=rfl
      have hp4:(img n.Agents z' L').times=timesOf n.Agents z'.ent:=rfl
      have hp5:(img n.Agents z' L').labels=L':=rfl
      have hp6:(⟨co.Kind,co.Value,co.Data,co.Kids⟩:D.Core)=co:=by cases co;rfl
      rw [hp1,hp2,hp3,hp4,hp5,hp6] at d
      simp only [iter,d]
      have hc1:(((pre++[s]).length:Nat):Int)=(pre.length:Int)+1:=by simp
      have:=ih (pre++[s]) z' L' (cs++[co]) fu (by rw [he];simp) (fun s' h'=>hs s' (by simp [h'])) (by omega) hz' hL' (by simp;omega) (by omega)
      rw [hc1] at this
      cases hk:kidsM M a rest z' (cs++[co]) with
      | inl c=>
        rw [hk] at this
        exact this
      | inr y=>
        obtain⟨cs',z''⟩:=y
        rw [hk] at this
        obtain⟨h1,h2,L'',h3,h4⟩:=this
        exact⟨h1,by omega,L'',h3,h4⟩


def GoodI (n:D.Net) (k:Nat) (M:SS→BS→Z→D.Port→Int ⊕ (D.Core × Z)) (f:D.reading→D.Port→SS→BS→Int→Option (D.Core × Int × D.reading)):Prop:=
  ∀ ss bs z p L,hasN n.Agents p=true→SsOk z.st ss→BsOk n.Agents bs→bs.length+k≤81→ZOk n.Agents z→L.length=z.org.length→OutI n.Agents z.st (f (img n.Agents z L) p ss bs (81 - (k:Int))) (M ss bs z p)

theorem z8N {fuel:Nat}{n:D.Net}(hn:netN n=true) (hf:18446744073709551616≤fuel){k:Nat}{M:SS→BS→Z→D.Port→Int ⊕ (D.Core × Z)}{recf:D.reading→D.Port→SS→BS→Int→Option (D.Core × Int × D.reading)}
    (hk:k≤81) (hrec:k=0∨GoodI n (k - 1) M recf):GoodI n k (stepM n.Agents k M) (z1d fuel recf):=by
  rintro ss bs z p L hp hs hbs hbl hz hL
  have hlen:=z7U hn
  unfold stepM z1d
  have hW:=zaG (fuel:=fuel) hn (z0:=z) (L0:=L) (L:=L) (4000 - z.st) z p ss (⟨#[]⟩:ByteArray) fuel (by have:=hz.st;omega) hp hs hz.ent hz.len (Nat.zero_le _) (by omega)
  have hO:=z9m hn (4000 - z.st) z p ss (by have:=hz.st;omega) hp hs hz.ent
  have hLn:=@z6X n.Agents (4000 - z.st) z p ss hz.len
  cases hw:walkM n.Agents (4000 - z.st) z p ss with
  | inl c=>
    rw [hw] at hW hO
    obtain⟨r',e⟩:=hW
    have e':iter (zc fuel (img n.Agents z L)) fuel ((⟨#[]⟩:ByteArray),ss,p.Agent,p.Slot,(img n.Agents z L).entered,(img n.Agents z L).nodes,(img n.Agents z L).origins,(img n.Agents z L).times,(img n.Agents z L).labels)=some (.inr ((⟨0,0,[],[]⟩:D.Core),c,r')):=e
    rw [e',Option.bind_some]
    exact⟨by rcases hO with h | h<;>omega,r',rfl⟩
  | inr x=>
    obtain⟨z1,p1,s1⟩:=x
    rw [hw] at hW hO
    obtain⟨lab,hlab,e⟩:=hW
    obtain⟨hp1,O,hst1,hlt1,he1,Y,a,ha,h4⟩:=hO
    have hz1:ZOk n.Agents z1:=⟨hst1,hLn hw,he1,by rw [Y];exact hz.org⟩
    have hL1:L.length=z1.org.length:=by rw [Y];exact hL
    have e':iter (zc fuel (img n.Agents z L)) fuel ((⟨#[]⟩:ByteArray),ss,p.Agent,p.Slot,(img n.Agents z L).entered,(img n.Agents z L).nodes,(img n.Agents z L).origins,(img n.Agents z L).times,(img n.Agents z L).labels)=some (.inl (lab,s1,p1.Agent,p1.Slot,(z1.st:Int),(z1.org.length:Int),z1.org,timesOf n.Agents z1.ent,L)):=e
    rw [e',Option.bind_some,zx]
    clear e e'
    dsimp only
    rw [ha]
    dsimp only
    have hag:=z4X hn ha
    have hfa:=z4f hag
    have hSh:=zah (fuel:=fuel) (R:=img n.Agents z1 L) (p:=p1) (ss:=s1) (bs:=bs) hf ha hag O.1 (fun b hb=>(hbs b hb).1.1) (by omega)
    unfold z3o
    dsimp only
    have hN:(img n.Agents z L).Net.Agents=n.Agents:=rfl
    have hN1:(img n.Agents z1 L).Net.Agents=n.Agents:=rfl
    rw [hN1] at hSh
    rw [hN]
    have hI:(⟨(⟨n.Agents⟩:D.Net),(z1.st:Int),(z1.org.length:Int),z1.org,timesOf n.Agents z1.ent,L⟩:D.reading)=img n.Agents z1 L:=rfl
    have hP:(⟨p1.Agent,p1.Slot⟩:D.Port)=p1:=rfl
    rw [hI,hP]
    cases hsh:shapeM n.Agents a p1 s1 bs with
    | none=>
      rw [hsh] at hSh
      obtain⟨c,s,e⟩:=hSh
      rw [e,Option.bind_some]
      dsimp only
      rw [if_pos (by simp)]
      exact⟨by decide,_,rfl⟩
    | some y=>
      obtain⟨kd,v,d,slots⟩:=y
      rw [hsh] at hSh
      dsimp only at hSh ⊢
      obtain⟨q1,q2,q3,q4,q5,q6,q7⟩:=z7k hag hsh
      rw [hSh,Option.bind_some]
      dsimp only
      rw [if_neg (by simp),z91 hz1.org (by rw [hL1];exact hz1.org)]
      by_cases hfull:z1.org.length≥400∨k=0
      · rw [if_pos hfull,if_pos (hfull.imp id fun h=>by omega),Option.bind_some]
        dsimp only
        rw [if_pos (by simp)]
        exact⟨by decide,_,rfl⟩
      · rw [if_neg hfull,if_neg (fun h=>hfull (h.imp id fun h=>by omega)),Option.bind_some]
        dsimp only
        rw [if_neg (by simp),ha,Option.bind_some]
        have hgood:GoodI n (k - 1) M recf:=hrec.resolve_left fun h=>hfull (.inr h)
        have hdep:w64 (81 - (k:Int)+1)=81 - ((k - 1:Nat):Int):=by
          rw [z8 (by omega) (by omega)]
          have:((k - 1:Nat):Int)=(k:Int) - 1:=by omega
          omega
        have hz2:ZOk n.Agents ⟨z1.st,z1.ent,z1.org++[p1.Agent]⟩:=⟨hz1.st,hz1.len,hz1.ent,by have:=not_or.1 hfull;simp;omega⟩
        have kids:∀ (bs1:BS) (w:Int × Int × (List Int) × (List Int) × (List ByteArray) × (List D.Core)) (u:Int × Int × Int × (List Int) × (List Int) × (List ByteArray)),BsOk n.Agents bs1→bs1.length≤bs.length+1→∀ (z2:Z) (L2:List ByteArray) (cs:List D.Core),z1.st≤z2.st→ZOk n.Agents z2→L2.length=z2.org.length→cs.length≤5→
            match kidsM (M s1 bs1) a slots z2 cs with
            | .inl c=>c≠0∧∃ r',iter (zm fuel (img n.Agents z L) (81 - (k:Int)) recf (lab,s1,p1.Agent,u) ((⟨kd,v,d,[]⟩:D.Core),slots,true) (bs1,w)) fuel ((0:Int),(z2.st:Int),(z2.org.length:Int),z2.org,timesOf n.Agents z2.ent,L2,cs)=some (.inr ((⟨0,0,[],[]⟩:D.Core),c,r'))
            | .inr (cs',z')=>ZOk n.Agents z'∧z2.st≤z'.st∧∃ L':List ByteArray,L'.length=z'.org.length∧iter (zm fuel (img n.Agents z L) (81 - (k:Int)) recf (lab,s1,p1.Agent,u) ((⟨kd,v,d,[]⟩:D.Core),slots,true) (bs1,w)) fuel ((0:Int),(z2.st:Int),(z2.org.length:Int),z2.org,timesOf n.Agents z2.ent,L2,cs)=some (.inl ((z'.st:Int),(z'.org.length:Int),z'.org,timesOf n.Agents z'.ent,L',cs')):=fun bs1 w u H hb1l z2 L2 cs G hz2 hL2 hcs=>
          zba hn (st0:=z1.st) ha q1 (fun z' q L' h1 h2 h3 h4'=>by
            rw [hdep]
            exact hgood s1 bs1 z' q L' h1 (O.mono h2) H (by omega) h3 h4') slots [] z2 L2 cs fuel rfl q2 G hz2 hL2 (by omega) (by omega)
        have fin:∀ (bs1:BS) (z2:Z) (L2:List ByteArray) (cs:List D.Core),BsOk n.Agents bs1→bs1.length≤bs.length+1→z1.st≤z2.st→ZOk n.Agents z2→L2.length=z2.org.length→cs.length≤5→
            OutI n.Agents z.st (z1a fuel (img n.Agents z L) (81 - (k:Int)) recf (lab,s1,p1.Agent,p1.Slot,(z1.st:Int),(z1.org.length:Int),z1.org,timesOf n.Agents z1.ent,L) ((⟨kd,v,d,[]⟩:D.Core),slots,true) (bs1,(z2.st:Int),(z2.org.length:Int),z2.org,timesOf n.Agents z2.ent,L2,cs))
              (match kidsM (M s1 bs1) a slots z2 cs with
              | .inl c=>.inl c
              | .inr (cs,z2)=>.inr (⟨kd,v,d,cs⟩,z2)):=fun bs1 z2 L2 cs H hb1l G hz2 hL2 hcs=>by
          have:=kids bs1 ((z2.st:Int),(z2.org.length:Int),z2.org,timesOf n.Agents z2.ent,L2,cs) (p1.Slot,(z1.st:Int),(z1.org.length:Int),z1.org,timesOf n.Agents z1.ent,L) H hb1l z2 L2 cs G hz2 hL2 hcs
          unfold z1a
          dsimp only
          cases hkk:kidsM (M s1 bs1) a slots z2 cs with
          | inl c=>
            rw [hkk] at this
            obtain⟨h1,r',h2⟩:=this
            rw [h2,Option.bind_some]
            exact⟨h1,r',rfl⟩
          | inr y=>
            obtain⟨cs',z'⟩:=y
            rw [hkk] at this
            obtain⟨h1,h2,L',h3,h4'⟩:=this
            rw [h4',Option.bind_some]
            exact⟨h1,by omega,L',h3,rfl⟩
        by_cases h8:a.Kind=8
        · rw [if_pos h8,if_pos (show(a.Kind == 8)=true by simpa using h8)]
          obtain⟨_,_,_,_,g3,_,_,_,g7,_⟩:=z65 hp1
          have hpa:=(z65 hp1).1
          obtain⟨t,t1,t2⟩:=z8z (fuel:=fuel) (x:=p1.Agent) (by omega) (by omega)
          have d1:(⟨#[46,120,59]⟩:ByteArray).size=3:=rfl
          rw [t1,Option.bind_some,if_pos (decide_eq_true (by rw [d1];omega))]
          have hI2:(⟨(⟨n.Agents⟩:D.Net),(img n.Agents ⟨z1.st,z1.ent,z1.org++[p1.Agent]⟩ (L++[lab])).entered,(img n.Agents ⟨z1.st,z1.ent,z1.org++[p1.Agent]⟩ (L++[lab])).nodes,(img n.Agents ⟨z1.st,z1.ent,z1.org++[p1.Agent]⟩ (L++[lab])).origins,(img n.Agents ⟨z1.st,z1.ent,z1.org++[p1.Agent]⟩ (L++[lab])).times,(img n.Agents ⟨z1.st,z1.ent,z1.org++[p1.Agent]⟩ (L++[lab])).labels⟩:D.reading)=img n.Agents ⟨z1.st,z1.ent,z1.org++[p1.Agent]⟩ (L++[lab]):=rfl
          rw [hI2,z91 hz2.org (by have:=hz2.org;simp at this ⊢;omega)]
          by_cases hfull2:z1.org.length≥399∨k≤1
          · rw [if_pos hfull2,if_pos (hfull2.imp (fun h=>by simp;omega) fun h=>by rw [hdep];omega),Option.bind_some]
            dsimp only
            rw [if_pos (by simp)]
            exact⟨by decide,_,rfl⟩
          · have hn2:=not_or.1 hfull2
            rw [if_neg hfull2,if_neg (fun h=>hfull2 (h.imp (fun h=>by simp at h;omega) fun h=>by rw [hdep] at h;omega)),Option.bind_some]
            dsimp only
            rw [if_neg (by simp)]
            obtain⟨x,hx⟩:=z3p (xs:=a.Data) (i:=0) (by have:=(q4 h8).2;omega)
            have hxi:idx a.Data 0=some x:=by rw [z3O (by omega)];exact hx
            rw [hxi,Option.bind_some]
            unfold z4e
            rw [Option.bind_some,if_pos (decide_eq_true (by simp))]
            dsimp only
            exact fin bs ⟨z1.st,z1.ent,z1.org++[p1.Agent]++[-1]⟩ (L++[lab]++[t++⟨#[46,120,59]⟩]) [⟨2,x,[],[]⟩] hbs (by omega) (Nat.le_refl _) ⟨hz1.st,hz1.len,hz1.ent,by simp;omega⟩ (by simp [hL1]) (by simp)
        · rw [if_neg h8,if_neg (show ¬ (a.Kind == 8)=true by simpa using h8)]
          unfold z1q
          by_cases o:kd=4
          · rw [if_pos o,if_pos (show(kd == 4)=true by simpa using o)]
            refine fin ((p1.Agent,s1)::bs) ⟨z1.st,z1.ent,z1.org++[p1.Agent]⟩ (L++[lab]) [] (fun b hb=>?_) (by simp) (Nat.le_refl _) hz2 (by simp [hL1]) (by simp)
            rcases List.mem_cons.1 hb with rfl | hb
            · exact⟨O.mono hst1,a,ha⟩
            · exact hbs b hb
          · rw [if_neg o,if_neg (show ¬ (kd == 4)=true by simpa using o)]
            exact fin bs ⟨z1.st,z1.ent,z1.org++[p1.Agent]⟩ (L++[lab]) [] hbs (by omega) (Nat.le_refl _) hz2 (by simp [hL1]) (by simp)

theorem z8W {fuel:Nat}{n:D.Net}(hn:netN n=true) (hf:18446744073709551616≤fuel):∀ (k d:Nat),k≤81→k<d→GoodI n k (readM n.Agents k) (z1Z fuel d)
  | 0,0,_,h=>by omega
  | k+1,0,_,h=>by omega
  | 0,d+1,_,_=>z8N hn hf (by omega) (.inl rfl)
  | k+1,d+1,hk,h=>z8N hn hf hk (.inr (z8W hn hf k d (by omega) (by omega)))
end Go.E


namespace Go.E
open Go.RowKit Go.Proofs
set_option linter.unusedSimpArgs false
set_option linter.unusedVariables false


theorem zb5 (xs:List Int):(strOfNums xs).size=xs.length:=by simp [strOfNums,ByteArray.size]
theorem za1 {fuel:Nat}:∀ (n:Nat) (x:Int) (ds:List Int) (fu:Nat),0≤x→x<10 ^ n→n≤18→n<fu→ds.length+n≤20→
    ∃ ds':List Int,iter (z1t fuel) fu (x,ds)=some (.inl ds')∧ds'.length≤20
  | n,x,ds,0,_,_,_,h,_=>by omega
  | 0,x,ds,fu+1,h0,h1,_,_,h3=>by
    have:x=0:=by simp at h1;omega
    subst this
    exact⟨ds,by simp only [iter];unfold z1t;rw [if_neg (by simp)],by omega⟩
  | n+1,x,ds,fu+1,h0,h1,hn,h2,h3=>by
    have hp:(10:Int) ^ (n+1)=10*10 ^ n:=by rw [Int.pow_succ];omega
    rw [hp] at h1
    have hx:x<9223372036854775807:=by
      have:(10:Int) ^ n≤10 ^ 17:=by exact_mod_cast Nat.pow_le_pow_right (by decide:0<10) (by omega:n≤17)
      omega
    by_cases hz:x=0
    · subst hz
      exact⟨ds,by simp only [iter];unfold z1t;rw [if_neg (by simp)],by omega⟩
    · have hb:z1t fuel (x,ds)=some (.next (x / 10,ds++[IntKind.u8.wrap (w64 (48+x % 10))])):=by
        unfold z1t z2Z
        dsimp only
        rw [if_pos (by simpa using hz),Int.tmod_eq_emod_of_nonneg h0,Int.tdiv_eq_ediv_of_nonneg h0,if_neg (by simp;omega),if_pos (decide_eq_true (by simp;omega)),z8 (n:=x / 10) (by omega) (by omega)]
      obtain⟨ds',e1,e2⟩:=za1 (fuel:=fuel) n (x / 10) (ds++[IntKind.u8.wrap (w64 (48+x % 10))]) fu (by omega) (by omega) (by omega) (by omega) (by simp;omega)
      exact⟨ds',by simp only [iter,hb];exact e1,e2⟩
theorem z9N {fuel:Nat}{t:List Int}(ht:t.length≤30):∀ (n:Nat) (acc:List Int) (fu:Nat),n≤t.length→acc.length+n≤30→n<fu→
    ∃ r:List Int,iter (z25 fuel t) fu ((n:Int) - 1,acc)=some (.inl r)∧r.length=acc.length+n
  | n,acc,0,_,_,h=>by omega
  | 0,acc,fu+1,_,_,_=>⟨acc,by simp only [iter];unfold z25;rw [if_neg (by simp)],rfl⟩
  | n+1,acc,fu+1,h1,h2,h3=>by
    obtain⟨x,hx⟩:=z3p (xs:=t) (i:=n) (by omega)
    have hb:z25 fuel t (((n+1:Nat):Int) - 1,acc)=some (.next ((n:Int) - 1,acc++[x])):=by
      unfold z25
      dsimp only
      rw [show((n+1:Nat):Int) - 1=(n:Int) by omega,if_pos (decide_eq_true (by omega)),z21 hx,Option.bind_some,if_pos (decide_eq_true (by simp;omega)),z8 (by omega) (by omega)]
    obtain⟨r,e1,e2⟩:=z9N ht n (acc++[x]) fu (by omega) (by simp;omega) (by omega)
    exact⟨r,by simp only [iter,hb];exact e1,by rw [e2];simp;omega⟩
theorem z8y {fuel:Nat}{x:Int}(hf:18446744073709551616≤fuel) (h0:0≤x) (h1:x≤1048576):∃ t,z2z fuel x=some t∧t.size≤21:=by
  unfold z2z
  obtain⟨ds,e1,e2⟩:=za1 (fuel:=fuel) 10 x [] fuel h0 (by omega) (by omega) (by omega) (by simp)
  rw [e1,Option.bind_some,zx]
  have j2:∀ t:List Int,t.length≤21→∃ r,z24 fuel x t=some r∧r.size≤21:=fun t ht=>by
    unfold z24 z30
    rw [if_neg (by simp;omega),z8 (by omega) (by omega)]
    obtain⟨r,g1,g2⟩:=z9N (fuel:=fuel) (t:=t) (by omega) t.length [] fuel (Nat.le_refl _) (by simp;omega) (by omega)
    rw [g1,Option.bind_some,zx]
    exact⟨_,rfl,by rw [zb5,g2];simp;omega⟩
  unfold z4D
  by_cases hz:x=0
  · rw [if_pos (by simpa using hz),if_pos (decide_eq_true (by simp;omega))]
    exact j2 _ (by simp;omega)
  · rw [if_neg (by simpa using hz)]
    exact j2 _ (by omega)
theorem z80 {fuel:Nat}{p:D.Port}(hf:18446744073709551616≤fuel) (h0:0≤p.Agent) (h1:p.Agent≤1048576) (h2:0≤p.Slot) (h3:p.Slot≤1048576):∃ t,z3A fuel p=some t∧t.size≤44:=by
  obtain⟨s,e1,e2⟩:=z8y (fuel:=fuel) (x:=p.Agent) hf h0 h1
  obtain⟨t,g1,g2⟩:=z8y (fuel:=fuel) (x:=p.Slot) hf h2 h3
  have d1:(⟨#[46]⟩:ByteArray).size=1:=rfl
  have d2:(⟨#[59]⟩:ByteArray).size=1:=rfl
  unfold z3A
  rw [e1,Option.bind_some,if_pos (decide_eq_true (by rw [d1];omega)),g1,Option.bind_some,if_pos (decide_eq_true (by rw [ByteArray.size_append,d1];omega)),if_pos (decide_eq_true (by rw [ByteArray.size_append,ByteArray.size_append,d1,d2];omega))]
  exact⟨_,rfl,by rw [ByteArray.size_append,ByteArray.size_append,ByteArray.size_append,d1,d2];omega⟩


def rev (ss:SS):SS:=ss.map List.reverse
theorem z7q {ss:SS}:(rev ss).length=ss.length:=by simp [rev]
theorem zdi {ss:SS}{i:Int}{s:List Int}(h:idx ss i=some s):idx (rev ss) i=some s.reverse:=by
  obtain⟨h0,h1⟩:=z6 h
  rw [z3O h0]
  unfold rev
  rw [List.getElem?_map,h1]
  rfl
theorem zb3 {ss:SS}{i:Nat}{s:List Int}:(rev ss).set i s.reverse=rev (ss.set i s):=by unfold rev;rw [List.map_set]
theorem z71 {ss:SS}{n:Nat}:(rev ss).take n=rev (ss.take n):=by unfold rev;rw [List.map_take]
theorem zd0 {x y:SS}(h:rev x=rev y):x=y:=by
  unfold rev at h
  exact(List.map_inj_right (fun a b=>List.reverse_inj.1)).1 h
theorem z8m {fuel:Nat}{xs:List Int}(hl:xs.length≤1048576):z2k fuel xs=some xs:=by unfold z2k;rw [if_pos (decide_eq_true (by simp only [List.length_nil];omega))];rfl
theorem z9M {fuel:Nat}{xs:SS}{i:Int}{s:List Int}(hl:xs.length=9) (h0:0≤i) (h8:i≤8):z3P fuel xs i s=some (xs.set i.toNat s):=by
  unfold z3P
  rw [if_pos (decide_eq_true (by simp [hl])),if_pos (decide_eq_true (by simp [hl];omega))]
  rfl
theorem z7Z {fuel:Nat}{xs:SS}{i:Int}(hl:xs.length=9) (h0:0≤i) (h8:i≤8):z2P fuel xs i=some (xs.take i.toNat):=by
  unfold z2P
  rw [if_pos (decide_eq_true (by omega)),List.drop_zero]
theorem zaX {fuel:Nat}{xs ys:List Int}(hf:18446744073709551616≤fuel) (hl:xs.length≤maxLen):z42 fuel xs ys=some (decide (xs=ys)):=by
  unfold z42
  exact eqWhole hl hf rfl (fun i a b hi ha hb=>by
    unfold z3R
    rw [if_pos (by simpa using hi),z21 ha,Option.bind_some,z21 hb,Option.bind_some]
    by_cases h:a=b<;>simp [h]) (by unfold z3R;rw [if_neg (by simp)])
theorem z9q {fuel:Nat}{xs ys:SS}(hf:18446744073709551616≤fuel) (hl:xs.length≤maxLen) (hs:∀ s,s∈xs→s.length≤maxLen):z1L fuel xs ys=some (decide (xs=ys)):=by
  unfold z1L
  exact eqWhole hl hf rfl (fun i a b hi ha hb=>by
    unfold z1Y
    rw [if_pos (by simpa using hi),z21 ha,Option.bind_some,z21 hb,Option.bind_some,zaX hf (hs a (List.mem_of_getElem? ha)),Option.bind_some]
    by_cases h:a=b<;>simp [h]) (by unfold z1Y;rw [if_neg (by simp)])


def imgS (n:D.Net) (z:Z) (L:List ByteArray):D.l16Walk:=⟨n,z.st,z.org.length,z.ent,z.org,L,0⟩
theorem z5H {fuel:Nat}{n:D.Net}{a b:Int}{c d:List Int}{e:List ByteArray}{k:Int}:zy fuel ⟨n,a,b,c,d,e,0⟩ k=some ((⟨0,0,[],[]⟩:D.Core),⟨n,a,b,c,d,e,k⟩):=by
  unfold zy
  rw [if_pos (by simp)]

theorem zaF {fuel:Nat}{n:D.Net}(hn:netN n=true) (hf:18446744073709551616≤fuel){z0:Z}{L:List ByteArray}:∀ (k:Nat) (z:Z) (p:D.Port) (ss:SS) (lab:ByteArray) (fu:Nat),z.st+k=4000→hasN n.Agents p=true→SsOk z.st ss→z.ent.length≤z.st→lab.size≤44*z.st→k<fu→
    match walkM n.Agents k z p ss with
    | .inl c=>∃ co w',iter (z7 fuel (imgS n z0 L)) fu (rev ss,lab,p.Agent,p.Slot,(z.st:Int),z.ent)=some (.inr (co,w'))∧w'.code=c
    | .inr (z',p',ss')=>∃ lab':ByteArray,lab'.size≤176000∧iter (z7 fuel (imgS n z0 L)) fu (rev ss,lab,p.Agent,p.Slot,(z.st:Int),z.ent)=some (.inl (rev ss',lab',p'.Agent,p'.Slot,(z'.st:Int),z'.ent)):=by
  intro k
  induction k with
  | zero=>
    rintro z ⟨pa,ps⟩ ss lab fu hk hp hs hl hlab hfu
    obtain⟨fu,rfl⟩:∃ f',fu=f'+1:=⟨fu - 1,by omega⟩
    obtain⟨h1,h2,a',q',g1,g2,g3,g4,g5,g6⟩:=z65 hp
    have hlen:=(z7U hn).2
    have hfa:=z4f (z4X hn g2)
    have hpo:=hfa.2.2.2.2.2.2.2.2.2.2
    obtain⟨tx,t1,t2⟩:=z80 (fuel:=fuel) (p:=⟨pa,ps⟩) hf h1 (by dsimp only at g5 ⊢;omega) h2 (by dsimp only at g6 ⊢;omega)
    obtain⟨w',hc,hb⟩:∃ w':D.l16Walk,w'.code=4∧z7 fuel (imgS n z0 L) (rev ss,lab,pa,ps,(z.st:Int),z.ent)=some (.ret ((⟨0,0,[],[]⟩:D.Core),w')):=by
      unfold z7 imgS
      dsimp only
      rw [if_neg (by simp),t1,Option.bind_some,if_pos (decide_eq_true (by omega)),z8 (n:=(z.st:Int)+1) (by omega) (by omega),if_pos (decide_eq_true (by omega)),z5H,Option.bind_some]
      exact⟨_,rfl,rfl⟩
    unfold walkM
    exact⟨⟨0,0,[],[]⟩,w',by simp only [iter,hb],hc⟩
  | succ k ih=>
    rintro z ⟨pa,ps⟩ ss lab fu hk hp hs hl hlab hfu
    obtain⟨fu,rfl⟩:∃ f',fu=f'+1:=⟨fu - 1,by omega⟩
    obtain⟨a,q0,ha,hq0,_⟩:=z5L hp
    dsimp only at ha
    have hag:=z4X hn ha
    have hfa:=z4f hag
    obtain⟨h1,h2,a',q',g1,g2,g3,g4,g5,g6⟩:=z65 hp
    rw [ha] at g2
    obtain rfl:=Option.some.inj g2
    have hlen:=(z7U hn).2
    obtain⟨tx,t1,t2⟩:=z80 (fuel:=fuel) (p:=⟨pa,ps⟩) hf h1 (by dsimp only at g5 ⊢;omega) h2 (by dsimp only at g6 ⊢;omega)
    have hsz:(lab++tx).size≤44*(z.st+1):=by rw [ByteArray.size_append];omega
    have hl':=z8x (a:=a) (p:=⟨pa,ps⟩) hl
    have hbody:z7 fuel (imgS n z0 L) (rev ss,lab,pa,ps,(z.st:Int),z.ent)=zO fuel (imgS n z0 L) (rev ss,lab,pa,ps,(z.st:Int),z.ent) tx a (entZ a ⟨pa,ps⟩ z).ent:=by
      have hcap:decide ((z.ent.length:Int)+(([pa]:List Int).length:Int)≤4294967296)=true:=decide_eq_true (by simp;omega)
      unfold z7
      dsimp only
      have hc0:(imgS n z0 L).code=0:=rfl
      have hn0:(imgS n z0 L).n=n:=rfl
      rw [hc0,hn0,if_neg (by simp),t1,Option.bind_some,if_pos (decide_eq_true (by omega)),z8 (n:=(z.st:Int)+1) (by omega) (by omega),if_neg (by simp;omega),ha,Option.bind_some]
      by_cases b:a.Kind=2
      · rw [if_neg (by simp [b])]
        unfold zX
        by_cases d:ps=1
        · rw [if_neg (by simp [d])]
          have:(entZ a ⟨pa,ps⟩ z).ent=z.ent:=by unfold entZ;dsimp only;rw [if_pos ⟨b,d⟩]
          rw [this]
        · rw [if_pos (by simpa using d)]
          dsimp only
          rw [if_pos hcap]
          have:(entZ a ⟨pa,ps⟩ z).ent=z.ent++[pa]:=by unfold entZ;dsimp only;rw [if_neg (fun h=>d h.2)]
          rw [this]
      · rw [if_pos (by simpa using b)]
        unfold zX
        dsimp only
        rw [if_pos rfl,if_pos hcap]
        have:(entZ a ⟨pa,ps⟩ z).ent=z.ent++[pa]:=by unfold entZ;dsimp only;rw [if_neg (fun h=>b h.1)]
        rw [this]
    have hst':w64 ((z.st:Int)+1)=((entZ a ⟨pa,ps⟩ z).st:Int):=by rw [z8 (by omega) (by omega)];rfl
    unfold walkM
    rw [ha]
    dsimp only
    by_cases h4:a.Kind=4
    · rw [if_neg (by simpa using h4)]
      obtain⟨s,hsi,hso⟩:=hs.at hfa.1 hfa.2.1
      rw [hsi]
      dsimp only
      have hpl:=hfa.2.2.1 h4
      have hn0:(imgS n z0 L).n=n:=rfl
      have hbody2:z7 fuel (imgS n z0 L) (rev ss,lab,pa,ps,(z.st:Int),z.ent)=
          if ps>0 then(match idx a.Ports 0 with
            | none=>none
            | some q=>some (.next (rev (ss.set a.Level.toNat (ps::s)),lab++tx,q.Agent,q.Slot,((entZ a ⟨pa,ps⟩ z).st:Int),(entZ a ⟨pa,ps⟩ z).ent))) else match s with
          | []=>some (.ret ((⟨0,0,[],[]⟩:D.Core),⟨n,((entZ a ⟨pa,ps⟩ z).st:Int),(z0.org.length:Int),(entZ a ⟨pa,ps⟩ z).ent,z0.org,L,13⟩))
          | t::s'=>(match idx a.Ports t with
            | none=>none
            | some q=>some (.next (rev (ss.set a.Level.toNat s'),lab++tx,q.Agent,q.Slot,((entZ a ⟨pa,ps⟩ z).st:Int),(entZ a ⟨pa,ps⟩ z).ent))):=by
        rw [hbody]
        unfold zO
        dsimp only
        rw [if_neg (by simpa using h4),zdi hsi,Option.bind_some]
        by_cases hsl:ps>0
        · rw [if_pos (decide_eq_true hsl),if_pos hsl,z8m (by have:=hso.1;simp;omega),Option.bind_some,if_pos (decide_eq_true (by have:=hso.1;simp;omega)),z9M (by rw [z7q];exact hs.1) hfa.1 hfa.2.1,Option.bind_some]
          unfold z1W zY
          have:s.reverse++[ps]=(ps::s).reverse:=by simp
          rw [this,zb3,hst']
          cases idx a.Ports 0<;>rfl
        · rw [if_neg (by simpa using hsl),if_neg hsl]
          cases s with
          | nil=>
            rw [if_pos (by simp)]
            unfold imgS
            dsimp only
            rw [z5H,Option.bind_some,hst']
          | cons t s'=>
            have hsl':=hso.1
            simp only [List.length_cons] at hsl'
            rw [if_neg (by simp;omega)]
            have e1:w64 ((((t::s').reverse.length:Nat):Int) - 1)=(s'.length:Int):=by rw [z8 (by simp) (by simp;omega)];simp
            rw [e1]
            have e2:idx (t::s').reverse (s'.length:Int)=some t:=by
              rw [z3O (by omega)]
              simp
            rw [e2,Option.bind_some,if_pos (decide_eq_true (by simp;omega))]
            have e3:((t::s').reverse.take (s'.length:Int).toNat).drop 0=s'.reverse:=by simp
            rw [e3,z8m (by simp;omega),Option.bind_some,z9M (by rw [z7q];exact hs.1) hfa.1 hfa.2.1,Option.bind_some,zb3,hst']
            unfold zY
            dsimp only
            cases idx a.Ports t<;>rfl
      have go:∀ (t:Int) (s':List Int) (q:D.Port),idx a.Ports t=some q→StOk (z.st+1) s'→
          match walkM n.Agents k (entZ a ⟨pa,ps⟩ z) q (ss.set a.Level.toNat s') with
          | .inl c=>∃ co w',iter (z7 fuel (imgS n z0 L)) fu (rev (ss.set a.Level.toNat s'),lab++tx,q.Agent,q.Slot,((entZ a ⟨pa,ps⟩ z).st:Int),(entZ a ⟨pa,ps⟩ z).ent)=some (.inr (co,w'))∧w'.code=c
          | .inr (z',p',ss')=>∃ lab':ByteArray,lab'.size≤176000∧iter (z7 fuel (imgS n z0 L)) fu (rev (ss.set a.Level.toNat s'),lab++tx,q.Agent,q.Slot,((entZ a ⟨pa,ps⟩ z).st:Int),(entZ a ⟨pa,ps⟩ z).ent)=some (.inl (rev ss',lab',p'.Agent,p'.Slot,(z'.st:Int),z'.ent)):=fun t s' q hq hs'=>
        ih (entZ a ⟨pa,ps⟩ z) q (ss.set a.Level.toNat s') (lab++tx) fu (by show z.st+1+k=4000;omega) (z6A hn ha hq) ((hs.mono (Nat.le_succ _)).set hs' _) hl' hsz (by omega)
      by_cases hsl:ps>0
      · rw [if_pos hsl] at hbody2 ⊢
        obtain⟨q,hq⟩:=z3p (xs:=a.Ports) (i:=(0:Int).toNat) (by omega)
        have hqi:idx a.Ports 0=some q:=by rw [z3O (by omega),hq]
        rw [hqi] at hbody2 ⊢
        dsimp only at hbody2 ⊢
        simp only [iter,hbody2]
        exact go 0 (ps::s) q hqi ⟨by simp;exact hso.1,fun t ht=>by
          rcases List.mem_cons.1 ht with h | h
          · dsimp only at g6;omega
          · exact hso.2 t h⟩
      · rw [if_neg hsl] at hbody2 ⊢
        cases s with
        | nil=>
          dsimp only at hbody2 ⊢
          simp only [iter,hbody2]
          exact⟨_,_,rfl,rfl⟩
        | cons t s'=>
          have ht:=hso.2 t (by simp)
          obtain⟨q,hq⟩:=z3p (xs:=a.Ports) (i:=t.toNat) (by omega)
          have hqi:idx a.Ports t=some q:=by rw [z3O (by omega),hq]
          dsimp only at hbody2 ⊢
          rw [hqi] at hbody2 ⊢
          dsimp only at hbody2 ⊢
          simp only [iter,hbody2]
          exact go t s' q hqi ⟨by have:=hso.1;simp at this;omega,fun u hu=>hso.2 u (by simp [hu])⟩
    · rw [if_pos (by simpa using h4)]
      have hbody3:z7 fuel (imgS n z0 L) (rev ss,lab,pa,ps,(z.st:Int),z.ent)=some (.brk (rev ss,lab++tx,pa,ps,((entZ a ⟨pa,ps⟩ z).st:Int),(entZ a ⟨pa,ps⟩ z).ent)):=by
        rw [hbody]
        unfold zO
        dsimp only
        rw [if_pos (by simpa using h4),hst']
      simp only [iter,hbody3]
      exact⟨_,by omega,rfl⟩
end Go.E


