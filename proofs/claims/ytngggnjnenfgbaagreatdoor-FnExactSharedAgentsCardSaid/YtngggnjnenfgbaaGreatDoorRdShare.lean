/- SharedAgents: both sides pick the agents that are entered more than once. Conditions: none but the argument's own size. -/
import Derived.Test.YtngggnjnenfgbaaGreatDoorRdTop
namespace Go.E
open Go.RowKit Go.Proofs
set_option linter.unusedSimpArgs false
set_option linter.unusedVariables false


def cntL (n:Nat) (es:List Int):List Int:=(List.range n).map fun(i:Nat)=>((es.count (i:Int):Nat):Int)
theorem z7N {n:Nat}{es:List Int}:(cntL n es).length=n:=by simp [cntL]
theorem z9g {n:Nat}{es:List Int}{i:Nat}(h:i<n):(cntL n es)[i]? = some ((es.count (i:Int):Nat):Int):=by
  unfold cntL
  rw [List.getElem?_map,List.getElem?_range h]
  rfl
theorem zcU {n:Nat}:cntL n []=List.replicate n 0:=by
  apply List.ext_getElem?
  intro i
  rw [List.getElem?_replicate]
  rcases Nat.lt_or_ge i n with h | h
  · rw [z9g h,if_pos h];simp
  · rw [if_neg (by omega),List.getElem?_eq_none (by rw [z7N];exact h)]
theorem zcT {n:Nat}{es:List Int}{p:Int}(h0:0≤p) (h1:p.toNat<n):
    idx (cntL n es) p=some ((es.count p:Nat):Int)∧(cntL n es).set p.toNat (((es.count p:Nat):Int)+1)=cntL n (es++[p]):=by
  have hp:((p.toNat:Nat):Int)=p:=by omega
  refine⟨by rw [z3C h0,z9g h1,hp],?_⟩
  apply List.ext_getElem?
  intro i
  rcases Nat.lt_or_ge i n with h | h
  · rw [z9g h]
    by_cases hi:i=p.toNat
    · subst hi
      rw [List.getElem?_set_self (by rw [z7N];exact h1),hp,List.count_append]
      simp
    · rw [List.getElem?_set_ne (by omega),z9g h,List.count_append]
      have:¬ p=(i:Int):=fun e=>hi (by omega)
      simp [this]
  · rw [List.getElem?_eq_none (by rw [List.length_set,z7N];exact h),List.getElem?_eq_none (by rw [z7N];exact h)]


def pick (p:Nat→Bool) (n:Nat):List Int:=((List.range n).filter p).map fun(i:Nat)=>(i:Int)
theorem z8X {p:Nat→Bool}{n:Nat}:pick p (n+1)=if p n=true then pick p n++[(n:Int)] else pick p n:=by
  unfold pick
  rw [List.range_succ,List.filter_append,List.map_append]
  by_cases h:p n=true
  · rw [if_pos h];simp [h]
  · rw [if_neg h];simp [h]
theorem z8n {p:Nat→Bool}{n:Nat}:(pick p n).length≤n:=by
  unfold pick
  rw [List.length_map]
  exact Nat.le_trans (List.length_filter_le _ _) (by simp)
theorem z9c {fuel:Nat}{n:Nat}{r:D.Core × D.l16Walk}{es:List Int}(hf:18446744073709551616≤fuel) (hr:r.2.entered=es) (hl:es.length≤4000) (ho:∀ e,e∈es→0≤e∧e.toNat<n):
    iter (z1f fuel r) fuel (0,List.replicate n 0)=some (.inl (cntL n es)):=by
  obtain⟨o,e1,e2⟩:=z1v (body:=z1f fuel r) (fun i s=>s.1=(i:Int)∧s.2=cntL n (es.take i)) es.length (fun o=>o=.inl (cntL n es)) (by
    rintro i ⟨j,s⟩ hi ⟨h1,h2⟩
    dsimp only at h1 h2
    subst h1;subst h2
    obtain⟨x,hx⟩:=z3v hi
    obtain⟨x0,x1⟩:=ho x (List.mem_of_getElem? hx)
    obtain⟨c1,c2⟩:=zcT (n:=n) (es:=es.take i) x0 x1
    have hc:(es.take i).count x≤(es.take i).length:=List.count_le_length
    have hc2:(es.take i).length≤4000:=by rw [List.length_take];omega
    refine .inl ⟨(w64 ((i:Int)+1),cntL n (es.take (i+1))),?_,?_,rfl⟩
    · unfold z1f
      dsimp only
      rw [hr,if_pos (decide_eq_true (by omega)),z28 hx,Option.bind_some,c1,Option.bind_some,if_pos (decide_eq_true ⟨x0,by rw [z7N];exact x1⟩),z8 (n:=(((es.take i).count x:Nat):Int)+1) (by omega) (by omega),c2,List.take_add_one,hx]
      rfl
    · dsimp only;rw [z8 (by omega) (by omega)];rfl) (by
    rintro⟨j,s⟩ ⟨h1,h2⟩
    dsimp only at h1 h2
    subst h1;subst h2
    refine .inr ⟨_,?_,rfl⟩
    unfold z1f
    dsimp only
    rw [hr,if_neg (by simp),List.take_length]) (fuel:=fuel) (i:=0) (s:=(0,List.replicate n 0)) (Nat.zero_le _) (by omega) ⟨rfl,by rw [List.take_zero,zcU]⟩
  rw [e1,e2]

def shareN (l:List D.Agent) (es:List Int):List Int:=pick (fun i=>decide ((timesOf l es).getD i 0>1)) l.length

theorem zad {fuel:Nat}{x:D.Net}{es:List Int}(hf:18446744073709551616≤fuel) (hl:x.Agents.length≤600):z2w fuel x (cntL x.Agents.length es)=some (shareN x.Agents es,0):=by
  have hrep:(List.replicate (x.Agents.length:Int).toNat (0:Int)).length=x.Agents.length:=by simp
  unfold z2w
  obtain⟨o,e1,e2⟩:=z1v (body:=z1B fuel x (cntL x.Agents.length es)) (fun i s=>s.1=(i:Int)∧s.2=pick (fun i=>decide ((timesOf x.Agents es).getD i 0>1)) i) x.Agents.length (fun o=>o=.inl (shareN x.Agents es)) (by
    rintro i ⟨j,s⟩ hi ⟨h1,h2⟩
    dsimp only at h1 h2
    subst h1;subst h2
    obtain⟨a,ha⟩:=z3v hi
    have ht:(timesOf x.Agents es).getD i 0=if a.Kind=4 then 0 else((es.count (i:Int):Nat):Int):=by rw [List.getD_eq_getElem?_getD,z5F ha];rfl
    have hp:=z8n (p:=fun i=>decide ((timesOf x.Agents es).getD i 0>1)) (n:=i)
    refine .inl ⟨(w64 ((i:Int)+1),pick (fun i=>decide ((timesOf x.Agents es).getD i 0>1)) (i+1)),?_,?_,rfl⟩
    · unfold z1B z1A z1z
      dsimp only
      rw [hrep,if_pos (decide_eq_true (by omega)),z28 (z9g hi),Option.bind_some,z28 ha,Option.bind_some,z8X,ht]
      by_cases hc:((es.count (i:Int):Nat):Int)>1
      · rw [if_pos (decide_eq_true hc)]
        by_cases h4:a.Kind=4
        · rw [if_neg (by simp [h4]),if_pos h4,if_neg (by simp)]
        · rw [if_pos (by simpa using h4),if_pos (decide_eq_true (by simp only [List.length_cons,List.length_nil];omega)),if_neg h4,if_pos (decide_eq_true hc)]
      · rw [if_neg (by simpa using hc),if_neg (by simp)]
        by_cases h4:a.Kind=4
        · rw [if_pos h4,if_neg (by simp)]
        · rw [if_neg h4,if_neg (by simpa using hc)]
    · dsimp only;rw [z8 (by omega) (by omega)];rfl) (by
    rintro⟨j,s⟩ ⟨h1,h2⟩
    dsimp only at h1 h2
    subst h1;subst h2
    refine .inr ⟨_,?_,rfl⟩
    unfold z1B
    dsimp only
    rw [hrep,if_neg (by simp)]
    rfl) (fuel:=fuel) (i:=0) (s:=(0,[])) (Nat.zero_le _) (by omega) ⟨rfl,rfl⟩
  rw [e1,e2,Option.bind_some]
  rfl

theorem zae {fuel:Nat}{l:List D.Agent}{z:Z}{L:List ByteArray}(hf:18446744073709551616≤fuel) (hl:l.length≤600):((iter (z1h fuel (img l z L)) fuel ([],0)).bind fun o=>aft o (z3u fuel))=some (shareN l z.ent,0):=by
  have ht:(img l z L).times=timesOf l z.ent:=rfl
  obtain⟨o,e1,e2⟩:=z1v (body:=z1h fuel (img l z L)) (fun i s=>s.2=(i:Int)∧s.1=pick (fun i=>decide ((timesOf l z.ent).getD i 0>1)) i) l.length (fun o=>o=.inl (shareN l z.ent)) (by
    rintro i ⟨s,j⟩ hi ⟨h1,h2⟩
    dsimp only at h1 h2
    subst h1;subst h2
    obtain⟨t,hti⟩:=z3v (xs:=timesOf l z.ent) (i:=i) (by rw [z42];exact hi)
    have hg:(timesOf l z.ent).getD i 0=t:=by rw [List.getD_eq_getElem?_getD,hti];rfl
    have hp:=z8n (p:=fun i=>decide ((timesOf l z.ent).getD i 0>1)) (n:=i)
    refine .inl ⟨(pick (fun i=>decide ((timesOf l z.ent).getD i 0>1)) (i+1),w64 ((i:Int)+1)),?_,?_,rfl⟩
    · unfold z1h z1D
      dsimp only
      rw [ht,z42,if_pos (decide_eq_true (by omega)),z28 hti,Option.bind_some,z8X,hg]
      by_cases hc:t>1
      · rw [if_pos (decide_eq_true hc),if_pos (decide_eq_true (by simp only [List.length_cons,List.length_nil];omega)),if_pos (decide_eq_true hc)]
      · rw [if_neg (by simpa using hc),if_neg (by simpa using hc)]
    · dsimp only;rw [z8 (by omega) (by omega)];rfl) (by
    rintro⟨s,j⟩ ⟨h1,h2⟩
    dsimp only at h1 h2
    subst h1;subst h2
    refine .inr ⟨_,?_,rfl⟩
    unfold z1h
    dsimp only
    rw [ht,z42,if_neg (by simp)]
    rfl) (fuel:=fuel) (i:=0) (s:=([],0)) (Nat.zero_le _) (by omega) ⟨rfl,rfl⟩
  rw [e1,e2,Option.bind_some]
  rfl

theorem z6D {fuel:Nat}{x:D.Net}(hf:18446744073709551616≤fuel) (_hw:D.Net.wf x) (hs:x.sz≤1048576):∃ r,z2q fuel x=some r∧z1M fuel x=some r∧r.1.length≤1048576:=by
  obtain⟨z1,z2,z3⟩:=zb2 hs
  have hI:=z9G hs hf
  unfold z2q z1M
  rw [z9M hf z1 z3,Option.bind_some]
  cases hn:netN x with
  | false=>
    rw [hn,if_neg (by simp)] at hI
    rw [hI,Option.bind_some,if_pos (by simp)]
    exact⟨_,rfl,rfl,Nat.zero_le _⟩
  | true=>
    have hS:=z9E hn hf
    have hlen:=(z7x hn).2
    rw [hn,if_pos rfl] at hI
    rw [if_neg (by simp)]
    cases hT:topM x with
    | inl c=>
      rw [hT] at hI hS
      obtain⟨h1,co,w',h2,h3⟩:=hS
      obtain⟨_,r,co',g2⟩:=hI
      rw [h2,g2,Option.bind_some,Option.bind_some,h3]
      dsimp only [Option.elim]
      rw [if_pos (by simpa using h1),if_pos (by simpa using h1)]
      exact⟨_,rfl,rfl,Nat.zero_le _⟩
    | inr y=>
      obtain⟨co,z⟩:=y
      rw [hT] at hI hS
      obtain⟨h1,L,h2,h3⟩:=hS
      obtain⟨_,L',g2,g3⟩:=hI
      have hc:(imgS x z L).code=0:=rfl
      have hln:(x.Agents.length:Int).toNat=x.Agents.length:=by omega
      rw [h3,g3,Option.bind_some,Option.bind_some,hc,if_neg (by simp),if_pos (decide_eq_true (by omega)),hln,z9c (es:=z.ent) hf rfl (by have:=h1.len;have:=h1.st;omega) h1.ent,Option.bind_some,zt,zad hf hlen]
      dsimp only [Option.elim]
      rw [if_neg (by simp),zae hf hlen]
      exact⟨_,rfl,rfl,by have:=z8n (p:=fun i=>decide ((timesOf x.Agents z.ent).getD i 0>1)) (n:=x.Agents.length);show(shareN x.Agents z.ent).length≤1048576;unfold shareN;omega⟩
end Go.E


