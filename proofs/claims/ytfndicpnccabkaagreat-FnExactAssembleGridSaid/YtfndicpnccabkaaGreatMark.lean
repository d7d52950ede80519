/- Both sides' nets of cells and statements are the same. Conditions: each port stands in one half statement, each variable in two; the parts are small. -/
import Derived.Test.YtfndicpnccabkaaGreatNetK
import Derived.Test.YtfndicpnccabkaaGreatLoops
namespace Go.E
open Go.RowKit Go.Proofs
set_option linter.unusedSimpArgs false
set_option linter.unusedVariables false

structure Ctx (lv:Lv) (S:List Key):Prop where
  chain:Chain S
  mem:∀ k∈allP lv,k∈S
  memS:∀ k∈S,k.1≠2→k∈allP lv
  nodup:(allP lv).Nodup
  tag:∀ x∈lv,x.1.1≠0∧x.1.1≠2
  len:S.length≤1000000
  small:lv.length≤100000
  cells:∀ x∈lv,x.2.sz≤1048576∧x.2.Aux.length≤3∧x.2.Data.length≤4
section
variable {lv:Lv}{S:List Key}
theorem Ctx.ids (h:Ctx lv S):(lv.map (·.1)).Nodup:=zg2 (by have:=h.nodup;unfold allP at this;exact(List.nodup_cons.1 this).2)
theorem Ctx.tag0 (h:Ctx lv S):∀ x∈lv,x.1.1≠0:=fun x hx=>(h.tag x hx).1
theorem Ctx.tagP (h:Ctx lv S){k:Key}(hk:k∈allP lv):k.1≠2:=by
  rcases z83 hk with rfl | ⟨j,x,s,hj,_,rfl⟩
  · decide
  · exact(h.tag x (List.mem_of_getElem? hj)).2
theorem Ctx.endP (h:Ctx lv S){k:Key}(hk:k∈allP lv):endK S k∈allP lv∧endK S (endK S k)=k:=by
  have h1:=h.mem k hk
  have h2:=h.tagP hk
  obtain⟨a,b⟩:=zmq h.chain h1 h2
  exact⟨h.memS _ a b,zmr h.chain h1 h2⟩

theorem zjK (h:Ctx lv S){x:Int}(h0:0≤x) (h1:x<(netF lv S).length) (y:Int):y∈nxN (netF lv S) x↔∃ k∈allP lv,(portKey lv k).Agent=x∧y=(portKey lv (endK S k)).Agent:=by
  have hl:(netF lv S).length=lv.length+1:=zaU
  rw [hl] at h1
  by_cases hx:x=0
  · subst hx
    have e:nxN (netF lv S) 0=[(portKey lv (endK S keyR)).Agent]:=by
      have hr:keyR∈allP lv:=List.mem_cons_self
      unfold nxN netF netK
      show [(eP lv S (allP lv) keyR).Agent]=_
      unfold eP
      rw [if_pos hr]
    rw [e,List.mem_singleton]
    constructor
    · rintro rfl
      exact⟨keyR,List.mem_cons_self,rfl,rfl⟩
    · rintro⟨k,hk,ha,rfl⟩
      rcases z83 hk with rfl | ⟨j,q,s,hj,hs,rfl⟩
      · rfl
      · rw [z89 (h.tag0 q (List.mem_of_getElem? hj)),zaN h.ids hj] at ha
        simp only at ha
        omega
  · obtain⟨j,hjx⟩:∃ j:Nat,x=((j+1:Nat):Int):=⟨x.toNat - 1,by omega⟩
    subst hjx
    obtain⟨q,hq⟩:=z1r (xs:=lv) (i:=j) (by omega)
    have hqm:=List.mem_of_getElem? hq
    have e:nxN (netF lv S) ((j+1:Nat):Int)=(List.range (q.2.Aux.length+1)).map fun s=>(portKey lv (endK S (keyI q.1 s))).Agent:=by
      have hag:(netF lv S)[(((j+1:Nat):Int)).toNat]? = some (agK (eP lv S (allP lv)) q):=by
        rw [Int.toNat_natCast]
        unfold netF netK
        rw [List.getElem?_cons_succ,List.getElem?_map,hq];rfl
      rw [ziH hag]
      unfold agK
      rw [List.map_map]
      apply List.map_congr_left
      intro s hs
      show(eP lv S (allP lv) (keyI q.1 s)).Agent=_
      unfold eP
      rw [if_pos (zfh hq (by have:=List.mem_range.1 hs;omega))]
    rw [e,List.mem_map]
    constructor
    · rintro⟨s,hs,rfl⟩
      refine⟨keyI q.1 s,zfh hq (by have:=List.mem_range.1 hs;omega),?_,rfl⟩
      rw [z89 (h.tag0 q hqm),zaN h.ids hq]
    · rintro⟨k,hk,ha,rfl⟩
      rcases z83 hk with rfl | ⟨j',q',s,hj',hs,rfl⟩
      · have:(portKey lv keyR).Agent=0:=rfl
        rw [this] at ha
        omega
      · rw [z89 (h.tag0 q' (List.mem_of_getElem? hj')),zaN h.ids hj'] at ha
        simp only at ha
        obtain rfl:j'=j:=by omega
        rw [hq] at hj'
        cases hj'
        exact⟨s,List.mem_range.2 (by omega),rfl⟩
theorem zht (h:Ctx lv S){k:Key}(hk:k∈allP lv):0≤(portKey lv k).Agent∧(portKey lv k).Agent<(netF lv S).length:=by
  have hl:(netF lv S).length=lv.length+1:=zaU
  rw [hl]
  rcases z83 hk with rfl | ⟨j,q,s,hj,hs,rfl⟩
  · have:(portKey lv keyR).Agent=0:=rfl
    rw [this];omega
  · have:=(List.getElem?_eq_some_iff.1 hj).1
    rw [z89 (h.tag0 q (List.mem_of_getElem? hj)),zaN h.ids hj]
    simp only
    omega
theorem zjJ (h:Ctx lv S) (hb:lv.length+1≤600):NetOk (netF lv S) where
  graph:=by
    refine⟨fun x h0 h1 y hy=>?_,fun x h0 h1 y hy=>?_⟩
    · obtain⟨k,hk,ha,rfl⟩:=(zjK h h0 h1 y).1 hy
      exact zht h (h.endP hk).1
    · obtain⟨k,hk,ha,rfl⟩:=(zjK h h0 h1 y).1 hy
      obtain⟨e1,e2⟩:=h.endP hk
      obtain⟨r1,r2⟩:=zht h e1
      rw [zjK h r1 r2]
      exact⟨endK S k,e1,rfl,by rw [e2];exact ha.symm⟩
  one:=by unfold netF;rw [zaU];omega
  len:=by unfold netF;rw [zaU];omega
  ports a ha:=by
    unfold netF netK at ha
    rcases List.mem_cons.1 ha with rfl | ha
    · simp
    · obtain⟨x,hx,rfl⟩:=List.mem_map.1 ha
      have:=(h.cells x hx).2.1
      unfold agK
      simp only [List.length_map,List.length_range]
      omega
  data a ha:=by
    unfold netF netK at ha
    rcases List.mem_cons.1 ha with rfl | ha
    · simp
    · obtain⟨x,hx,rfl⟩:=List.mem_map.1 ha
      exact(h.cells x hx).2.2


theorem znj {fuel:Nat}{g:D.Grid}{more:List D.ShardCell}{L M:D.l27Links}{at_:List Int}(hf:18446744073709551616≤fuel) (hI:Items g more L at_) (hR:Run g more L M S) (h:Ctx (lvG g more) S):
    ∃ M',z6D fuel M=some (if 600<(lvG g more).length+1 then(⟨[]⟩,4,M') else(⟨canN (netF (lvG g more) S)⟩,0,M')):=by
  have hlv:=h.small
  have hag:M.agents=netK (lvG g more) (fun _=>⟨0,0⟩):=by rw [hR.agents,hI.pa.agents,← zhz,zdo]
  have hpo:M.ports=(allP (lvG g more)).map (portKey (lvG g more)):=by rw [hR.ports,hI.pa.ports,← zhz,ziy h.ids h.tag0]
  have hpl:M.ports.length=(allP (lvG g more)).length:=by rw [hpo,List.length_map]
  have hall:allK g more=allP (lvG g more)++varK g.Shards:=by unfold allK;rw [zbA]
  have hport:∀ (y:Nat) key,(allK g more)[y]? = some key→(y<M.ports.length↔key.1≠2):=by
    intro y key hy
    rw [hpl]
    rw [hall] at hy
    constructor
    · intro hlt
      rw [List.getElem?_append_left hlt] at hy
      exact h.tagP (List.mem_of_getElem? hy)
    · intro hne
      rcases Nat.lt_or_ge y (allP (lvG g more)).length with hlt | hge
      · exact hlt
      · rw [List.getElem?_append_right hge] at hy
        exact absurd (zez (List.mem_of_getElem? hy)) hne
  unfold z6D
  by_cases hbig:600<(lvG g more).length+1
  · rw [if_pos (by rw [hag,zaU];simp only [decide_eq_true_eq];omega)]
    exact⟨M,by rw [if_pos hbig]⟩
  rw [if_neg (by rw [hag,zaU];simp only [decide_eq_true_eq];omega)]
  have hPl:(allP (lvG g more)).length≤1000000:=by
    have h1:=h.nodup.length_le_of_subset (l₂:=S) (fun k hk=>h.mem k hk)
    have h2:=h.len
    omega
  obtain⟨o,e1,rfl⟩:=zc (body:=z5A fuel M) (fun i st=>st=((i:Int),netK (lvG g more) (eP (lvG g more) S ((allP (lvG g more)).take i)))) (allP (lvG g more)).length (fun o=>o=.inl (netF (lvG g more) S)) (by
    rintro i st hi rfl
    obtain⟨k,hk⟩:=z1r hi
    have hkm:=List.mem_of_getElem? hk
    obtain⟨a,s,ag,p1,p2,p3,p4⟩:=zjH h.ids h.tag0 (e:=eP (lvG g more) S ((allP (lvG g more)).take i)) hkm (portKey (lvG g more) (endK S k))
    rw [zmw] at p4
    have hx:(allK g more)[i]? = some k:=by rw [hall,List.getElem?_append_left hi];exact hk
    obtain⟨y,y1,y2⟩:=zh5 (L:=⟨[],M.ports,[],[],M.ends,M.pairs⟩) hf z8B hR.endsX hR.pairsX h.chain hport h.len hx (h.mem k hkm) (h.tagP hkm)
    have hyp:=(hport y _ y2).2 (h.tagP (h.endP hkm).1)
    have hy3:M.ports[y]? = some (portKey (lvG g more) (endK S k)):=by
      rw [hall,List.getElem?_append_left (by rw [← hpl];exact hyp)] at y2
      rw [hpo,List.getElem?_map,y2];rfl
    refine .inl ⟨(w64 ((i:Int)+1),netK (lvG g more) (eP (lvG g more) S ((allP (lvG g more)).take i++[k]))),?_,by rw [z7 (by omega) (by omega),List.take_add_one,hk];rfl⟩
    unfold z5A
    dsimp only
    rw [if_pos (by rw [hpl];simpa using hi),z8 (x:=portKey (lvG g more) k) (by rw [hpo,List.getElem?_map,hk];rfl),Option.bind_some,p1]
    dsimp only
    rw [z8 p2,Option.bind_some,y1,Option.bind_some,z8 hy3,Option.bind_some,if_pos (by simp only [decide_eq_true_eq,Int.toNat_natCast];omega),Int.toNat_natCast,Int.toNat_natCast,p4]) (by
    rintro st rfl
    rw [List.take_length]
    refine .inr ⟨_,?_,rfl⟩
    unfold z5A
    rw [if_neg (by rw [hpl];simp)]
    rfl) (fuel:=fuel) (i:=0) (s:=(0,M.agents)) (Nat.zero_le _) (by omega) (by rw [hag,List.take_zero,zmv];rfl)
  rw [e1,Option.bind_some,z6]
  unfold z8j
  rw [zo4 hf (zjJ h (by omega)),Option.bind_some]
  exact⟨_,by rw [if_neg hbig]⟩
end
end Go.E


namespace Go.E
open Go.RowKit Go.Proofs
set_option linter.unusedSimpArgs false
set_option linter.unusedVariables false


structure Adr (lv:Lv) (S:List Key) (T:List D.statement) (th:Key→D.thing) (ad:Id→D.Address):Prop where
  things:Things S T th
  root:th keyR=⟨noneN,0,true⟩
  cell:∀ x∈lv,∀ s:Nat,th (keyI x.1 s)=⟨ad x.1,(s:Int),decide (0<s) || ((ad x.1).Kind != 1)⟩
  nodup:(noneN::lv.map fun x=>ad x.1).Nodup
def PlacedA (M:List (D.Address × Int)) (l:List D.Address) (k:Nat):Prop:=∀ a,mget M a=if a∈l.take k then some ((l.idxOf a:Nat):Int) else none
theorem zde {M:List (D.Address × Int)}{l:List D.Address}{k:Nat}{x:D.Address}(hn:l.Nodup) (h:PlacedA M l k) (hx:l[k]? = some x):PlacedA (mput M x k) l (k+1):=by
  have hi:l.idxOf x=k:=by
    obtain⟨h1,rfl⟩:=List.getElem?_eq_some_iff.1 hx
    exact hn.idxOf_getElem k h1
  intro y
  rw [z9v,List.take_add_one,hx,h y]
  by_cases hxy:x=y
  · subst hxy
    rw [if_pos rfl,if_pos (by simp),hi]
  · rw [if_neg hxy]
    have:(y∈l.take k++(some x).toList)↔y∈l.take k:=by simp [Ne.symm hxy]
    simp only [this]
section
variable {lv:Lv}{S:List Key}{T:List D.statement}{th:Key→D.thing}{ad:Id→D.Address}
def adrs (lv:Lv) (ad:Id→D.Address):List D.Address:=noneN::lv.map fun x=>ad x.1

theorem ziB (h:Ctx lv S) (hA:Adr lv S T th ad){M:List (D.Address × Int)}(hM:PlacedA M (adrs lv ad) (lv.length+1)){k:Key}(hk:k∈allP lv):
    (⟨(mget M (th k).at_).getD 0,(th k).slot⟩:D.Port)=portKey lv k:=by
  have hlen:(adrs lv ad).length=lv.length+1:=by unfold adrs;simp
  have hget:∀ {i:Nat}{a:D.Address},(adrs lv ad)[i]? = some a→(mget M a).getD 0=(i:Int):=by
    intro i a ha
    have hi:(adrs lv ad).idxOf a=i:=by
      obtain⟨h1,rfl⟩:=List.getElem?_eq_some_iff.1 ha
      exact List.Nodup.idxOf_getElem (by unfold adrs;exact hA.nodup) i h1
    rw [hM a,← hlen,List.take_length,if_pos (List.mem_of_getElem? ha),hi];rfl
  rcases z83 hk with rfl | ⟨j,x,s,hj,hs,rfl⟩
  · rw [hA.root]
    have:=hget (i:=0) (a:=noneN) rfl
    dsimp only
    rw [this];rfl
  · have hxm:=List.mem_of_getElem? hj
    rw [hA.cell x hxm s,z89 (h.tag0 x hxm),zaN h.ids hj]
    dsimp only
    rw [hget (i:=j+1) (a:=ad x.1) (by unfold adrs;rw [List.getElem?_cons_succ,List.getElem?_map,hj];rfl)]
theorem zn5 {fuel:Nat}{a:D.Address}{s:Nat}:z5v fuel a (s:Int)=some ⟨a,(s:Int),decide (0<s) || (a.Kind != 1)⟩:=by
  unfold z5v
  by_cases h:0<s
  · rw [if_pos (by simpa using h),decide_eq_true h];rfl
  · obtain rfl:s=0:=by omega
    rw [if_neg (by simp),decide_eq_false (by omega)];rfl

theorem zhG {fuel:Nat}{M:List (D.Address × Int)}{E:List (D.thing × List Int)}{z1 z2:List D.Agent}{pre ks:List Key}{i:Nat}{a:D.Address}{x118:D.Agent}(hf:18446744073709551616≤fuel) (h:Ctx lv S) (hA:Adr lv S T th ad)
    (hM:PlacedA M (adrs lv ad) (lv.length+1)) (hE:EndsT E (flatT T)) (hks:∀ (s:Nat) k,ks[s]? = some k→k∈allP lv∧portKey lv k=⟨(i:Int),(s:Int)⟩∧th k=⟨a,(s:Int),decide (0<s) || (a.Kind != 1)⟩) (hlen:x118.Ports.length=ks.length) (hsm:ks.length≤100000):
    iter (z2V fuel (M,z1) ⟨T,E⟩ ((i:Int),z2) a x118) fuel (0,netK lv (eP lv S pre))=some (.inl (netK lv (eP lv S (pre++ks)))):=by
  obtain⟨o,e1,rfl⟩:=zc (body:=z2V fuel (M,z1) ⟨T,E⟩ ((i:Int),z2) a x118) (fun s st=>st=((s:Int),netK lv (eP lv S (pre++ks.take s)))) ks.length (fun o=>o=.inl (netK lv (eP lv S (pre++ks)))) (by
    rintro s st hs rfl
    obtain⟨k,hk⟩:=z1r hs
    obtain⟨k1,k2,k3⟩:=hks s k hk
    obtain⟨a',s',ag,p1,p2,p3,p4⟩:=zjH h.ids h.tag0 (e:=eP lv S (pre++ks.take s)) k1 (portKey lv (endK S k))
    rw [zmw] at p4
    rw [k2] at p1
    simp only [D.Port.mk.injEq,Int.natCast_inj] at p1
    obtain⟨rfl,rfl⟩:=p1
    have hac:=zhi (fuel:=fuel) hf hE hA.things h.chain h.len (h.mem k k1) (h.tagP k1)
    have hpp:=ziB h hA hM (h.endP k1).1
    refine .inl ⟨(w64 ((s:Int)+1),netK lv (eP lv S (pre++ks.take s++[k]))),?_,by rw [z7 (by omega) (by omega),List.take_add_one,hk,← List.append_assoc];rfl⟩
    unfold z2V
    dsimp only
    rw [if_pos (by rw [hlen];simpa using hs),zn5,← k3,Option.bind_some,hac,Option.bind_some,z8 p2,Option.bind_some,if_pos (by simp only [decide_eq_true_eq,Int.toNat_natCast];omega),hpp,Int.toNat_natCast,Int.toNat_natCast,p4]) (by
    rintro st rfl
    rw [List.take_length]
    refine .inr ⟨_,?_,rfl⟩
    unfold z2V
    rw [if_neg (by rw [hlen];simp)]) (fuel:=fuel) (i:=0) (s:=(0,netK lv (eP lv S pre))) (Nat.zero_le _) (by omega) (by simp)
  exact e1
def preK (lv:Lv):Nat→List Key
  | 0=>[]
  | j+1=>keyR::keysL (lv.take j)
theorem znk {fuel:Nat}(hf:18446744073709551616≤fuel) (h:Ctx lv S) (hA:Adr lv S T th ad) (hb:lv.length+1≤600):
    z6x fuel (lv.map (·.2)) (lv.map fun x=>ad x.1) T=some ⟨canN (netF lv S)⟩:=by
  have hTl:T.length≤1000000:=by
    have h1:=zdD (T:=T)
    rw [hA.things.flat,List.length_map] at h1
    have:=h.len
    omega
  unfold z6x
  rw [if_pos (by simp)]
  obtain⟨o,e1,M,rfl,hM⟩:=zc (body:=z4y fuel (lv.map (·.2)) (lv.map fun x=>ad x.1)) (fun i st=>∃ M,st=((i:Int),M,netK (lv.take i) (fun _=>⟨0,0⟩))∧PlacedA M (adrs lv ad) (i+1)) lv.length (fun o=>∃ M,o=.inl (M,netK lv (fun _=>⟨0,0⟩))∧PlacedA M (adrs lv ad) (lv.length+1)) (by
    rintro i _ hi ⟨M,rfl,hM⟩
    obtain⟨x,hx⟩:=z1r hi
    have hxm:=List.mem_of_getElem? hx
    have hlt:(netK (lv.take i) (fun _=>(⟨0,0⟩:D.Port))).length=i+1:=by rw [zaU,List.length_take];omega
    have hsn:netK (lv.take (i+1)) (fun _=>(⟨0,0⟩:D.Port))=netK (lv.take i) (fun _=>⟨0,0⟩)++[agentOf x.2]:=by
      rw [← zdo,← zdo,List.take_add_one,hx,List.map_append,List.map_append];rfl
    refine .inl ⟨(w64 ((i:Int)+1),mput M (ad x.1) ((i+1:Nat):Int),netK (lv.take (i+1)) (fun _=>⟨0,0⟩)),?_,_,by rw [z7 (by omega) (by omega)];rfl,zde (by unfold adrs;exact hA.nodup) hM (by unfold adrs;rw [List.getElem?_cons_succ,List.getElem?_map,hx];rfl)⟩
    unfold z4y
    dsimp only
    rw [if_pos (by simp;omega),z8 (x:=x.2) (by rw [List.getElem?_map,hx];rfl),Option.bind_some,z8 (x:=ad x.1) (by rw [List.getElem?_map,hx];rfl),Option.bind_some,zbb (h.cells x hxm).1,Option.bind_some,if_pos (by rw [hlt];simp only [List.length_singleton,decide_eq_true_eq];omega),hlt,hsn]) (by
    rintro _ ⟨M,rfl,hM⟩
    rw [List.take_length]
    refine .inr ⟨_,?_,M,rfl,hM⟩
    unfold z4y
    rw [if_neg (by simp)]) (fuel:=fuel) (i:=0) (s:=(0,mput [] (⟨0,0,0⟩:D.Address) 0,[⟨1,0,0,[],List.replicate (1:Int).toNat ⟨0,0⟩⟩])) (Nat.zero_le _) (by omega) ⟨_,rfl,by
      have:=zde (M:=[]) (l:=adrs lv ad) (k:=0) (x:=noneN) (by unfold adrs;exact hA.nodup) (fun a=>by simp [mget]) rfl
      exact this⟩
  rw [e1,Option.bind_some,z6]
  unfold z7J
  obtain⟨E,a1,hE⟩:=zfg (fuel:=fuel) hf hTl
  rw [a1,Option.bind_some,if_pos (by simp;omega)]
  dsimp only
  have hcat:[(⟨0,0,0⟩:D.Address)]++(lv.map fun x=>ad x.1)=adrs lv ad:=rfl
  have hal:(adrs lv ad).length=lv.length+1:=by unfold adrs;simp
  obtain⟨o,e2,rfl⟩:=zc (body:=z4x fuel (lv.map fun x=>ad x.1) (M,netK lv (fun _=>⟨0,0⟩)) ⟨T,E⟩) (fun i st=>st=((i:Int),netK lv (eP lv S (preK lv i)))) (lv.length+1) (fun o=>o=.inl (netF lv S)) (by
    rintro i st hi rfl
    refine .inl ⟨(w64 ((i:Int)+1),netK lv (eP lv S (preK lv (i+1)))),?_,by rw [z7 (by omega) (by omega)];rfl⟩
    unfold z4x
    rw [hcat]
    dsimp only
    rw [if_pos (by rw [hal];simp only [decide_eq_true_eq];omega)]
    cases i with
    | zero=>
      have hfr:=zhG (fuel:=fuel) (M:=M) (E:=E) (z1:=netK lv (fun _=>⟨0,0⟩)) (z2:=netK lv (eP lv S (preK lv 0))) (pre:=[]) (ks:=[keyR]) (i:=0) (a:=noneN) (x118:=⟨1,0,0,[],[eP lv S (preK lv 0) keyR]⟩) hf h hA hM hE (by
        intro s k hk
        cases s with
        | zero=>
          cases hk
          exact⟨List.mem_cons_self,rfl,hA.root⟩
        | succ s=>simp at hk) rfl (by simp)
      rw [z8 (x:=noneN) (by rfl),Option.bind_some,z8 (x:=(⟨1,0,0,[],[eP lv S (preK lv 0) keyR]⟩:D.Agent)) (by rfl),Option.bind_some]
      have e9:preK lv 0=[]:=rfl
      rw [e9] at hfr ⊢
      rw [hfr,Option.bind_some,z6]
      unfold z68
      rfl
    | succ j=>
      obtain⟨x,hx⟩:=z1r (xs:=lv) (i:=j) (by omega)
      have hxm:=List.mem_of_getElem? hx
      have hfr:=zhG (fuel:=fuel) (M:=M) (E:=E) (z1:=netK lv (fun _=>⟨0,0⟩)) (z2:=netK lv (eP lv S (preK lv (j+1)))) (pre:=preK lv (j+1)) (ks:=keysX x) (i:=j+1) (a:=ad x.1) (x118:=agK (eP lv S (preK lv (j+1))) x) hf h hA hM hE (by
        intro s k hk
        unfold keysX at hk
        rw [List.getElem?_map] at hk
        rcases Nat.lt_or_ge s (x.2.Aux.length+1) with hs | hs
        · rw [List.getElem?_range hs] at hk
          cases hk
          refine⟨zfh hx (by omega),?_,hA.cell x hxm s⟩
          rw [z89 (h.tag0 x hxm),zaN h.ids hx]
        · rw [List.getElem?_eq_none (by simpa using hs)] at hk
          cases hk) (by unfold agK keysX;simp) (by have:=(h.cells x hxm).2.1;unfold keysX;simp;omega)
      rw [z8 (x:=ad x.1) (by unfold adrs;rw [List.getElem?_cons_succ,List.getElem?_map,hx];rfl),Option.bind_some,z8 (x:=agK (eP lv S (preK lv (j+1))) x) (by unfold netK;rw [List.getElem?_cons_succ,List.getElem?_map,hx];rfl),Option.bind_some,hfr,Option.bind_some,z6]
      unfold z68
      have e9:preK lv (j+1)++keysX x=preK lv (j+1+1):=by
        show(keyR::keysL (lv.take j))++keysX x=keyR::keysL (lv.take (j+1))
        rw [List.take_add_one,hx,zcd,List.cons_append]
        simp [keysL]
      rw [e9]) (by
    rintro st rfl
    refine .inr ⟨_,?_,rfl⟩
    unfold z4x
    rw [hcat]
    dsimp only
    rw [if_neg (by rw [hal];simp)]
    have e9:preK lv (lv.length+1)=allP lv:=by show keyR::keysL (lv.take lv.length)=keyR::keysL lv;rw [List.take_length]
    rw [e9];rfl) (fuel:=fuel) (i:=0) (s:=(0,netK lv (fun _=>⟨0,0⟩))) (Nat.zero_le _) (by omega) (by
      have e9:preK lv 0=[]:=rfl
      rw [e9,zmv];rfl)
  rw [e2,Option.bind_some,z6]
  unfold z7H
  rw [zo5 hf (zjJ h hb),Option.bind_some]
end
end Go.E


namespace Go.E
open Go.RowKit Go.Proofs
set_option linter.unusedSimpArgs false
set_option linter.unusedVariables false

theorem zg8 {α β:Type}{f:Nat→α→List β}{xs:List α}{y:β}:y∈fl f xs xs.length↔∃ (i:Nat) (x:α),xs[i]? = some x∧y∈f i x:=by
  unfold fl
  rw [List.take_length,List.mem_flatMap]
  constructor
  · rintro⟨⟨x,i⟩,h1,h2⟩
    rw [List.mem_zipIdx_iff_getElem?] at h1
    exact⟨i,x,h1,h2⟩
  · rintro⟨i,x,h1,h2⟩
    exact⟨(x,i),by rw [List.mem_zipIdx_iff_getElem?];exact h1,h2⟩
theorem zak {α β:Type}{f f':Nat→α→List β}{xs:List α}(h:∀ i x,xs[i]? = some x→f i x=f' i x):fl f xs xs.length=fl f' xs xs.length:=by
  have key:∀ n,n≤xs.length→fl f xs n=fl f' xs n:=by
    intro n
    induction n with
    | zero=>intro _;rw [z8o,z8o]
    | succ n ih=>
      intro hn
      obtain⟨x,hx⟩:=z1r (xs:=xs) (i:=n) (by omega)
      rw [z81 hx,z81 hx,ih (by omega),h n x hx]
  exact key _ (Nat.le_refl _)
theorem zg9 {α β γ:Type}{f:Nat→α→List β}{xs:List α}{h:β→γ}{n:Nat}:(fl f xs n).map h=fl (fun i x=>(f i x).map h) xs n:=by
  unfold fl
  rw [List.map_flatMap]


def goodK (g:D.Grid) (k:Key):Prop:=k.1=2→∃ s v,g.Shards[k.2.1]? = some s∧s.Vars[k.2.2.1]? = some v∧v.Used=true∧k.2.2.2=0
theorem z9A {g:D.Grid}{a:D.Address}(h:aliveN g a=true):goodK g (keyA a):=by
  obtain⟨h1,h2,s,hs,h3⟩:=z9N h
  unfold keyA goodK
  rcases h3 with⟨k1,c,c1,c2⟩ | ⟨k2,v,v1,v2⟩
  · rw [if_pos k1];intro e;cases e
  · rw [if_neg (by omega)]
    intro _
    exact⟨s,v,hs,v1,v2,rfl⟩
theorem ziQ {g:D.Grid}{t m i:Nat}{c:D.ShardCell}(ht:t≠2) (h:c.Aux.all (aliveN g)=true):∀ k∈cellS t m i c,goodK g k:=by
  intro k hk
  unfold cellS at hk
  obtain⟨j,a,ha,hk⟩:=zg8.1 hk
  unfold auxK at hk
  rcases List.mem_cons.1 hk with rfl | hk
  · intro e;exact absurd e ht
  · rw [List.mem_singleton] at hk
    subst hk
    exact z9A (List.all_eq_true.1 h a (List.mem_of_getElem? ha))
theorem zk1 {g:D.Grid}(h:gridA g=true):∀ k∈gridS g,goodK g k:=by
  unfold gridA at h
  rw [Bool.and_eq_true] at h
  obtain⟨h1,h2⟩:=h
  intro k hk
  unfold gridS rootS at hk
  rcases List.mem_append.1 hk with hk | hk
  · rcases List.mem_cons.1 hk with rfl | hk
    · intro e;cases e
    · rw [List.mem_singleton] at hk
      subst hk
      exact z9A h1
  · obtain⟨m,s,hs,hk⟩:=zg8.1 hk
    have h3:=z74.1 h2 m s hs
    rw [Nat.zero_add] at h3
    unfold shardA at h3
    rw [Bool.and_eq_true,Bool.and_eq_true] at h3
    obtain⟨a1,a2,a3⟩:=h3
    unfold shardS at hk
    rcases List.mem_append.1 hk with hk | hk
    · obtain⟨i,c,hc,hk⟩:=zg8.1 hk
      exact ziQ (by decide) (List.all_eq_true.1 a1 c (List.mem_of_getElem? hc)) k hk
    · rcases List.mem_append.1 hk with hk | hk
      · obtain⟨i,r,hr,hk⟩:=zg8.1 hk
        have:=List.all_eq_true.1 a2 r (List.mem_of_getElem? hr)
        rw [Bool.and_eq_true] at this
        unfold redK at hk
        rcases List.mem_cons.1 hk with rfl | hk
        · exact z9A this.1
        · rw [List.mem_singleton] at hk;subst hk;exact z9A this.2
      · obtain⟨i,v,hv,hk⟩:=zg8.1 hk
        have:=z74.1 a3 i v hv
        rw [Nat.zero_add] at this
        unfold fullA at this
        unfold fullK at hk
        split at hk
        · rename_i hF
          rw [hF,Bool.not_true,Bool.false_or,Bool.and_eq_true] at this
          rcases List.mem_cons.1 hk with rfl | hk
          · have:=z9A this.1
            unfold keyA at this
            rw [if_neg (by simp)] at this
            simpa using this
          · rw [List.mem_singleton] at hk;subst hk;exact z9A this.2
        · cases hk


def thG (ad3:Nat→D.Address) (k:Key):D.thing:=if k.1=0 then⟨noneN,0,true⟩ else if k.1=1 then⟨⟨(k.2.1:Int),1,(k.2.2.1:Int)⟩,(k.2.2.2:Int),decide (0<k.2.2.2)⟩ else if k.1=2 then⟨⟨(k.2.1:Int),2,(k.2.2.1:Int)⟩,0,false⟩ else⟨ad3 k.2.2.1,(k.2.2.2:Int),true⟩
section
variable {ad3:Nat→D.Address}{g:D.Grid}
theorem zcZ {a:D.Address}(h:aliveN g a=true):thG ad3 (keyA a)=thA a:=by
  obtain⟨h1,h2,s,hs,h3⟩:=z9N h
  obtain⟨am,ak,ai⟩:=a
  unfold keyA thA thG
  dsimp only at h1 h2 h3 ⊢
  rcases h3 with⟨k1,_⟩ | ⟨k2,_⟩
  · subst k1
    have e:(if(1:Int)=1 then((1,am.toNat,ai.toNat,0):Key) else(2,am.toNat,ai.toNat,0))=(1,am.toNat,ai.toNat,0):=if_pos rfl
    rw [e]
    dsimp only
    rw [if_neg (by decide),if_pos rfl,Int.toNat_of_nonneg h1,Int.toNat_of_nonneg h2];rfl
  · subst k2
    have e:(if(2:Int)=1 then((1,am.toNat,ai.toNat,0):Key) else(2,am.toNat,ai.toNat,0))=(2,am.toNat,ai.toNat,0):=if_neg (by decide)
    rw [e]
    dsimp only
    rw [if_neg (by decide),if_neg (by decide),if_pos rfl,Int.toNat_of_nonneg h1,Int.toNat_of_nonneg h2]
theorem zdC {α:Type}{f:Nat→α→List D.statement}{xs:List α}{n:Nat}:flatT (fl f xs n)=fl (fun i x=>flatT (f i x)) xs n:=zc4
theorem zaX {a b:List D.statement}:flatT (a++b)=flatT a++flatT b:=by unfold flatT;rw [List.flatMap_append]
theorem zk4 {m i:Nat}{c:D.ShardCell}(h:c.Aux.all (aliveN g)=true):flatT (cellT m i c)=(cellS 1 m i c).map (thG ad3):=by
  unfold cellT cellS
  rw [zdC,zg9]
  refine zak fun k a ha=>?_
  have:=zcZ (ad3:=ad3) (List.all_eq_true.1 h a (List.mem_of_getElem? ha))
  unfold auxT auxK flatT
  simp only [List.flatMap_cons,List.flatMap_nil,List.append_nil,List.map_cons,List.map_nil,this]
  rw [show thG ad3 (1,m,i,k+1)=⟨⟨(m:Int),1,(i:Int)⟩,(k:Int)+1,true⟩ by unfold thG;simp]
theorem znu {r:D.ShardRedex}{i:Nat}(h1:aliveN g r.A=true) (h2:aliveN g r.B=true):flatT (redT i r)=(redK i r).map (thG ad3):=by
  unfold redT redK flatT
  simp only [List.flatMap_cons,List.flatMap_nil,List.append_nil,List.map_cons,List.map_nil,zcZ (ad3:=ad3) h1,zcZ (ad3:=ad3) h2]
theorem zk3 {m i:Nat}{v:D.ShardVar}(h:fullA g m i v=true):flatT (fullT m i v)=(fullK m i v).map (thG ad3):=by
  unfold fullA at h
  unfold fullT fullK
  split
  · rename_i hF
    rw [hF,Bool.not_true,Bool.false_or,Bool.and_eq_true] at h
    unfold flatT
    simp only [List.flatMap_cons,List.flatMap_nil,List.append_nil,List.map_cons,List.map_nil,zcZ (ad3:=ad3) h.2]
    rw [show thG ad3 (2,m,i,0)=thA ⟨(m:Int),2,(i:Int)⟩ by unfold thG thA;simp]
  · rfl
theorem zk2 (h:gridA g=true):flatT (gridT g)=(gridS g).map (thG ad3):=by
  unfold gridA at h
  rw [Bool.and_eq_true] at h
  obtain⟨h1,h2⟩:=h
  unfold gridT gridS
  rw [zaX,List.map_append,zdC,zg9]
  congr 1
  · unfold rootT rootS flatT
    simp only [List.flatMap_cons,List.flatMap_nil,List.append_nil,List.map_cons,List.map_nil,zcZ (ad3:=ad3) h1]
    rfl
  · refine zak fun m s hs=>?_
    have h3:=z74.1 h2 m s hs
    rw [Nat.zero_add] at h3
    unfold shardA at h3
    rw [Bool.and_eq_true,Bool.and_eq_true] at h3
    obtain⟨a1,a2,a3⟩:=h3
    unfold shardT shardS
    rw [zaX,zaX,List.map_append,List.map_append,zdC,zdC,zdC,zg9,zg9,zg9]
    congr 1
    · exact zak fun i c hc=>zk4 (List.all_eq_true.1 a1 c (List.mem_of_getElem? hc))
    · congr 1
      · refine zak fun i r hr=>?_
        have:=List.all_eq_true.1 a2 r (List.mem_of_getElem? hr)
        rw [Bool.and_eq_true] at this
        exact znu this.1 this.2
      · refine zak fun i v hv=>?_
        have:=z74.1 a3 i v hv
        rw [Nat.zero_add] at this
        exact zk3 this
end


theorem zmz {c:D.ShardCell}(h:shCellN c=true):c.Data.length≤4:=by
  unfold shCellN at h
  split at h
  · rw [decide_eq_true_eq] at h
    rw [h.2.2.1];simp
  · rw [Bool.and_eq_true] at h
    have h2:=h.2
    unfold agN agentN agentOf at h2
    rw [Bool.and_eq_true,Bool.and_eq_true] at h2
    have h3:=h2.2.2
    unfold contentN at h3
    dsimp only at h3
    repeat' split at h3
    all_goals simp only [Bool.and_eq_true,decide_eq_true_eq] at h3
    all_goals omega
theorem zdt {g:D.Grid}{more:List D.ShardCell}{x:Id × D.ShardCell}(h:x∈lvG g more):x.2.Kind≠0∧((∃ (m i:Nat) (s:D.Shard),x.1=(1,m,i)∧g.Shards[m]? = some s∧s.Cells[i]? = some x.2)∨∃ i:Nat,x.1=(3,0,i)∧more[i]? = some x.2):=by
  have row:∀ {t m:Nat}{cs:List D.ShardCell},x∈lvR t m cs→x.2.Kind≠0∧∃ i:Nat,x.1=(t,m,i)∧cs[i]? = some x.2:=by
    intro t m cs hx
    unfold lvR at hx
    obtain⟨⟨c,i⟩,h1,h2⟩:=List.mem_flatMap.1 hx
    rw [List.mem_zipIdx_iff_getElem?] at h1
    dsimp only at h1 h2
    split at h2
    · cases h2
    · rename_i k0
      rw [List.mem_singleton] at h2
      subst h2
      exact⟨k0,i,rfl,h1⟩
  unfold lvG at h
  rcases List.mem_append.1 h with h | h
  · obtain⟨⟨s,m⟩,h1,h2⟩:=List.mem_flatMap.1 h
    rw [List.mem_zipIdx_iff_getElem?] at h1
    obtain⟨k0,i,e1,e2⟩:=row h2
    exact⟨k0,.inl ⟨m,i,s,e1,h1,e2⟩⟩
  · obtain⟨k0,i,e1,e2⟩:=row h
    exact⟨k0,.inr ⟨i,e1,e2⟩⟩
theorem zoH {g:D.Grid}{more:List D.ShardCell}(hS:Small g) (hM:more.length≤20000):(lvG g more).length≤21600:=by
  have row:∀ {t m:Nat}{cs:List D.ShardCell},(lvR t m cs).length≤cs.length:=by
    intro t m cs
    have e:lvR t m cs=fl (fun i c=>if c.Kind=0 then [] else [((t,m,i),c)]) cs cs.length:=by unfold lvR fl;rw [List.take_length]
    rw [e]
    have:=z8i (f:=fun i (c:D.ShardCell)=>if c.Kind=0 then([]:Lv) else [((t,m,i),c)]) (xs:=cs) (b:=1) (fun i c _=>by split<;>simp) cs.length (Nat.le_refl _)
    omega
  have hn:=hS.n
  unfold lvG
  have e:(g.Shards.zipIdx.flatMap fun x=>lvR 1 x.2 x.1.Cells)=fl (fun m (s:D.Shard)=>lvR 1 m s.Cells) g.Shards g.Shards.length:=by unfold fl;rw [List.take_length]
  have h1:=z8i (f:=fun m (s:D.Shard)=>lvR 1 m s.Cells) (xs:=g.Shards) (b:=400) (fun m s hs=>by
    have:=(hS.s s (List.mem_of_getElem? hs)).1
    have:=row (t:=1) (m:=m) (cs:=s.Cells)
    omega) g.Shards.length (Nat.le_refl _)
  have h2:=row (t:=3) (m:=0) (cs:=more)
  rw [List.length_append,e]
  omega
theorem zcE {g:D.Grid}{more:List D.ShardCell}{Q:List (List Int)}{S:List Key}(hP:PairsX (allK g more) Q S){k:Key}(hk:k∈S):k∈allK g more:=by
  obtain⟨h,hh⟩:=List.getElem?_of_mem hk
  obtain⟨h1,h2⟩:=hP
  have hl:=(List.getElem?_eq_some_iff.1 hh).1
  obtain⟨x,y,a,b,e1,e2,e3,e4,e5⟩:=h2 (h / 2) (by omega)
  by_cases hev:h % 2=0
  · rw [show 2*(h / 2)=h by omega,hh] at e4
    cases e4
    exact List.mem_of_getElem? e2
  · rw [show 2*(h / 2)+1=h by omega,hh] at e5
    cases e5
    exact List.mem_of_getElem? e3
theorem zoJ {g:D.Grid}{more:List D.ShardCell}{L M:D.l27Links}{S:List Key}(hS:Small g) (hM:moreOk more) (hM2:∀ c∈more,shCellN c=true) (hR:Run g more L M S) (hc:countsN g more S=true) (hgood:∀ k∈S,goodK g k) (hlen:S.length≤1000000):Ctx (lvG g more) S:=by
  have hall:allK g more=allP (lvG g more)++varK g.Shards:=by unfold allK;rw [zbA]
  unfold countsN at hc
  rw [Bool.and_eq_true,zbA,List.all_eq_true] at hc
  obtain⟨c1,c2⟩:=hc
  have hone:∀ k∈allP (lvG g more),S.count k=1:=fun k hk=>by simpa using c1 k hk
  have hmS:∀ k∈S,k.1≠2→k∈allP (lvG g more):=fun k hk ht=>by
    have:=zcE hR.pairsX hk
    rw [hall] at this
    rcases List.mem_append.1 this with h | h
    · exact h
    · exact absurd (zez h) ht
  have htag:∀ x∈lvG g more,x.1.1≠0∧x.1.1≠2:=fun x hx=>by
    rcases (zdt hx).2 with⟨m,i,s,e,_⟩ | ⟨i,e,_⟩<;>rw [e]<;>exact⟨by simp,by simp⟩
  refine⟨⟨by have:=hR.pairsX.1;omega,fun k hk ht=>hone k (hmS k hk ht),fun k hk ht=>?_⟩,fun k hk=>?_,hmS,?_,htag,hlen,?_,fun x hx=>?_⟩
  · obtain⟨s,v,g1,g2,g3,g4⟩:=hgood k hk ht
    have h3:=z74.1 c2 k.2.1 s g1
    unfold varC at h3
    rw [Nat.zero_add] at h3
    have h4:=(z74 (p:=fun i (v:D.ShardVar)=>!v.Used || decide (S.count (2,k.2.1,i,0)=2))).1 h3 k.2.2.1 v g2
    rw [Nat.zero_add,g3] at h4
    have h5:S.count (2,k.2.1,k.2.2.1,0)=2:=by simpa using h4
    obtain⟨a,b,c,d⟩:=k
    simp only at ht g4 h5
    subst ht;subst g4
    exact h5
  · exact List.count_pos_iff.1 (by rw [hone k hk];decide)
  · have:=z8B (g:=g) (more:=more)
    rw [hall] at this
    exact(List.nodup_append.1 this).1
  · have:=zoH hS hM.1
    omega
  · rcases (zdt hx).2 with⟨m,i,s,_,e1,e2⟩ | ⟨i,_,e1⟩
    · obtain⟨a1,a2,a3,a4,a5⟩:=hS.s s (List.mem_of_getElem? e1)
      obtain⟨b1,b2,b3⟩:=a4 _ (List.mem_of_getElem? e2)
      exact⟨b1,b2,zmz b3⟩
    · have hm:=List.mem_of_getElem? e1
      exact⟨(hM.2 _ hm).1,(hM.2 _ hm).2,zmz (hM2 _ hm)⟩


def adI (ad3:Nat→D.Address) (d:Id):D.Address:=if d.1=1 then⟨(d.2.1:Int),1,(d.2.2:Int)⟩ else ad3 d.2.2
theorem zdT {g:D.Grid}{more:List D.ShardCell}{k:Key}(h:k∈allK g more):k=keyR∨(∃ m i s:Nat,k=(1,m,i,s))∨(∃ i s:Nat,i<more.length∧k=(3,0,i,s))∨∃ m i:Nat,k=(2,m,i,0):=by
  have hall:allK g more=allP (lvG g more)++varK g.Shards:=by unfold allK;rw [zbA]
  rw [hall] at h
  rcases List.mem_append.1 h with h | h
  · rcases z83 h with rfl | ⟨j,x,s,hj,hs,rfl⟩
    · exact .inl rfl
    · rcases (zdt (List.mem_of_getElem? hj)).2 with⟨m,i,sh,e,_⟩ | ⟨i,e,e2⟩
      · exact .inr (.inl ⟨m,i,s,by rw [e];rfl⟩)
      · exact .inr (.inr (.inl ⟨i,s,(List.getElem?_eq_some_iff.1 e2).1,by rw [e];rfl⟩))
  · unfold varK at h
    obtain⟨x,_,h2⟩:=List.mem_flatMap.1 h
    unfold varR at h2
    obtain⟨j,_,rfl⟩:=List.mem_map.1 h2
    exact .inr (.inr (.inr ⟨_,j,rfl⟩))
theorem zoO {g:D.Grid}{more:List D.ShardCell}{S:List Key}{T:List D.statement}{ad3:Nat→D.Address}{Q:List (List Int)}(h:Ctx (lvG g more) S) (hP:PairsX (allK g more) Q S) (hF:flatT T=S.map (thG ad3))
    (h3:∀ i,i<more.length→(ad3 i).Kind=3) (hi:∀ i j,i<more.length→j<more.length→ad3 i=ad3 j→i=j):Adr (lvG g more) S T (thG ad3) (adI ad3) where
  root:=rfl
  things:=by
    refine⟨hF,fun k hk k' hk' he=>?_,fun k hk=>?_⟩
    · have f1:=zdT (zcE hP hk)
      have f2:=zdT (zcE hP hk')
      rcases f1 with rfl | ⟨m,i,s,rfl⟩ | ⟨i,s,hil,rfl⟩ | ⟨m,i,rfl⟩<;>rcases f2 with rfl | ⟨m',i',s',rfl⟩ | ⟨i',s',hil',rfl⟩ | ⟨m',i',rfl⟩
      all_goals (try simp [thG,keyR,noneN] at he)
      all_goals first | rfl | (exfalso;omega) | skip
      · exfalso;have:=h3 _ hil';rw [← he.1] at this;simp at this
      · obtain⟨⟨e1,e2⟩,e3,_⟩:=he
        rw [show m=m' by omega,show i=i' by omega,show s=s' by omega]
      · exfalso;have:=h3 _ hil';rw [← he.1] at this;simp at this
      · exfalso;have:=h3 _ hil;rw [he.1] at this;simp at this
      · exfalso;have:=h3 _ hil;rw [he.1] at this;simp at this
      · have:=hi _ _ hil hil' he.1
        rw [this,show s=s' by omega]
      · rw [show m=m' by omega,show i=i' by omega]
    · rcases zdT (zcE hP hk) with rfl | ⟨m,i,s,rfl⟩ | ⟨i,s,hil,rfl⟩ | ⟨m,i,rfl⟩
      · simp [thG,keyR,noneN]
      · simp [thG]
      · simp [thG,h3 i hil]
      · simp [thG]
  cell x hx s:=by
    rcases (zdt hx).2 with⟨m,i,sh,e,_⟩ | ⟨i,e,e2⟩
    · rw [e]
      simp [thG,keyI,adI]
      first | done | exact decide_eq_decide.2 Iff.rfl
    · rw [e]
      have:=h3 i (List.getElem?_eq_some_iff.1 e2).1
      simp [thG,keyI,adI,this]
  nodup:=by
    have hkind:∀ x∈lvG g more,(adI ad3 x.1).Kind≠0:=fun x hx=>by
      rcases (zdt hx).2 with⟨m,i,sh,e,_⟩ | ⟨i,e,e2⟩
      · rw [e];simp [adI]
      · rw [e]
        have:=h3 i (List.getElem?_eq_some_iff.1 e2).1
        simp [adI,this]
    rw [List.nodup_cons]
    refine⟨fun hm=>?_,?_⟩
    · obtain⟨x,hx,e⟩:=List.mem_map.1 hm
      exact hkind x hx (by rw [e];rfl)
    · have hids:=h.ids
      unfold List.Nodup at hids ⊢
      rw [List.pairwise_map] at hids ⊢
      refine hids.imp_of_mem fun {x y} hx hy hne he=>hne ?_
      rcases (zdt hx).2 with⟨m,i,sh,e,_⟩ | ⟨i,e,e2⟩<;>rcases (zdt hy).2 with⟨m',i',sh',e',_⟩ | ⟨i',e',e2'⟩
      · rw [e,e'] at he ⊢
        simp only [adI,if_true,D.Address.mk.injEq,Int.natCast_inj,true_and] at he
        rw [he.1,he.2]
      · exfalso
        have:=h3 i' (List.getElem?_eq_some_iff.1 e2').1
        rw [e,e'] at he
        simp only [adI,if_true,Nat.reduceEqDiff,if_false] at he
        rw [← he] at this
        simp at this
      · exfalso
        have:=h3 i (List.getElem?_eq_some_iff.1 e2).1
        rw [e,e'] at he
        simp only [adI,if_true,Nat.reduceEqDiff,if_false] at he
        rw [he] at this
        simp at this
      · rw [e,e'] at he ⊢
        simp only [adI,Nat.reduceEqDiff,if_false] at he
        rw [hi _ _ (List.getElem?_eq_some_iff.1 e2).1 (List.getElem?_eq_some_iff.1 e2').1 he]
end Go.E


namespace Go.E
set_option linter.unusedVariables false
set_option linter.unusedSimpArgs false

theorem z9p {a:Int}(h0:-4611686018427387904≤a) (h1:a≤4611686018427387904):w64 (a+1)=a+1:=z7 (by omega) (by omega)
def markL {α:Type}(f:α→Int→α) (c:α→Nat):List α→Int→List α
  | [],_=>[]
  | x::xs,k=>f x k::markL f c xs (k+c x)

section
variable {α:Type}{f:α→Int→α}{c:α→Nat}

theorem z5q:∀ (xs:List α) (k:Int),(markL f c xs k).length=xs.length
  | [],_=>rfl
  | x::xs,k=>by simp only [markL,List.length_cons,z5q xs]

theorem za8:∀ (xs ys:List α) (k:Int),markL f c (xs++ys) k=markL f c xs k++markL f c ys (k+(sumL c xs:Nat))
  | [],ys,k=>by simp [markL,sumL]
  | x::xs,ys,k=>by
    simp only [List.cons_append,markL,za8 xs ys,sumL]
    rw [show k+(c x:Int)+(sumL c xs:Nat)=k+((c x+sumL c xs:Nat):Int) by omega]

theorem znn {xs:List α}{k:Int}{i:Nat}{x:α}(h:xs[i]? = some x):(markL f c xs k)[i]? = some (f x (k+(sumL c (xs.take i):Nat))):=by
  have hi:=(List.getElem?_eq_some_iff.1 h).1
  have hs:xs=xs.take i++(x::xs.drop (i+1)):=by
    have h1:=(List.getElem?_eq_some_iff.1 h).2
    rw [← h1,← List.drop_eq_getElem_cons hi,List.take_append_drop]
  conv=>lhs;rw [hs]
  rw [za8,List.getElem?_append_right (by rw [z5q,List.length_take];omega),z5q,List.length_take,Nat.min_eq_left (by omega),Nat.sub_self]
  simp [markL]

theorem z8a {ρ:Type}{body:Int × Int × List α→Option (Rd (Int × Int × List α) (Int × List α) ρ)}{xs:List α}{k:Int}{fuel:Nat}(hl:xs.length≤4294967296) (hf:18446744073709551616≤fuel) (h0:0≤k) (h1:k+(sumL c xs:Nat)≤2147483648)
    (step:∀ (i:Nat) (x:α) (ys:List α) (k:Int),i<xs.length→ys.length=xs.length→ys[i]? = some x→x∈xs→0≤k→k+(c x:Nat)≤2147483648→body (k,(i:Int),ys)=some (.next (k+(c x:Nat),w64 ((i:Int)+1),ys.set i (f x k))))
    (last:∀ k ys,body (k,(xs.length:Int),ys)=some (.brk (k,ys))):iter body fuel (k,0,xs)=some (.inl (k+(sumL c xs:Nat),markL f c xs k)):=by
  obtain⟨o,h2,h3⟩:=zc (body:=body) (fun i s=>s.1=k+(sumL c (xs.take i):Nat)∧s.2.1=(i:Int)∧s.2.2=markL f c (xs.take i) k++xs.drop i) xs.length (fun o=>o=.inl (k+(sumL c xs:Nat),markL f c xs k)) (by
    rintro i ⟨s,t,ys⟩ hi ⟨h2,h3,h4⟩
    dsimp only at h2 h3 h4
    subst h2;subst h3;subst h4
    obtain⟨x,hx⟩:=z1r hi
    have hlen:(markL f c (xs.take i) k).length=i:=by rw [z5q,List.length_take];omega
    have hdrop:xs.drop i=x::xs.drop (i+1):=by
      have h1:=(List.getElem?_eq_some_iff.1 hx).2
      rw [← h1,← List.drop_eq_getElem_cons hi]
    have hsum:sumL c (xs.take (i+1))=sumL c (xs.take i)+c x:=zd1 hx
    have hle:sumL c (xs.take (i+1))≤sumL c xs:=by
      conv=>rhs;rw [← List.take_append_drop (i+1) xs,z9F]
      omega
    refine .inl ⟨_,step i x _ _ hi (by rw [List.length_append,hlen,List.length_drop];omega) (by rw [List.getElem?_append_right (by omega),hlen,Nat.sub_self,hdrop];rfl) (List.mem_of_getElem? hx) (by omega) (by omega),?_,?_,?_⟩
    · show _+_=_
      rw [hsum];omega
    · show w64 _=_
      rw [z9p (by omega) (by omega)];simp
    · show List.set _ _ _=_
      rw [hdrop,List.set_append_right _ _ (by omega),hlen,Nat.sub_self,List.set_cons_zero]
      have ht:xs.take (i+1)=xs.take i++[x]:=by rw [List.take_add_one,hx];rfl
      rw [ht,za8]
      simp [markL]) (by
    rintro⟨s,t,ys⟩ ⟨h2,h3,h4⟩
    dsimp only at h2 h3 h4
    subst h2;subst h3;subst h4
    refine .inr ⟨_,last _ _,?_⟩
    rw [List.take_length,List.drop_length,List.append_nil]) (fuel:=fuel) (i:=0) (s:=(k,0,xs)) (Nat.zero_le _) (by omega) ⟨by simp [sumL],rfl,by simp [markL]⟩
  rw [h2,h3]

theorem zdy {body:Int × Int→Option (Rd (Int × Int) Int Int)}{xs:List α}{k:Int}{fuel:Nat}(hl:xs.length≤4294967296) (hf:18446744073709551616≤fuel) (h0:0≤k) (h1:k+(sumL c xs:Nat)≤2147483648)
    (step:∀ (i:Nat) (x:α) (k':Int),i<xs.length→(markL f c xs k)[i]? = some (f x k')→x∈xs→0≤k'→k'+(c x:Nat)≤2147483648→body (k',(i:Int))=some (.next (k'+(c x:Nat),w64 ((i:Int)+1))))
    (last:∀ k',body (k',((markL f c xs k).length:Int))=some (.brk k')):iter body fuel (k,0)=some (.inl (k+(sumL c xs:Nat))):=by
  obtain⟨o,h2,h3⟩:=zc (body:=body) (fun i s=>s.1=k+(sumL c (xs.take i):Nat)∧s.2=(i:Int)) xs.length (fun o=>o=.inl (k+(sumL c xs:Nat))) (by
    rintro i ⟨s,t⟩ hi ⟨h2,h3⟩
    dsimp only at h2 h3
    subst h2;subst h3
    obtain⟨x,hx⟩:=z1r hi
    have hsum:sumL c (xs.take (i+1))=sumL c (xs.take i)+c x:=zd1 hx
    have hle:sumL c (xs.take (i+1))≤sumL c xs:=by
      conv=>rhs;rw [← List.take_append_drop (i+1) xs,z9F]
      omega
    refine .inl ⟨_,step i x _ hi (znn hx) (List.mem_of_getElem? hx) (by omega) (by omega),?_,?_⟩
    · show _+_=_
      rw [hsum];omega
    · show w64 _=_
      rw [z9p (by omega) (by omega)];simp) (by
    rintro⟨s,t⟩ ⟨h2,h3⟩
    dsimp only at h2 h3
    subst h2;subst h3
    refine .inr ⟨_,by have:=last (k+(sumL c (xs.take xs.length):Nat));rw [z5q] at this;exact this,?_⟩
    rw [List.take_length]) (fuel:=fuel) (i:=0) (s:=(k,0)) (Nat.zero_le _) (by omega) ⟨by simp [sumL],rfl⟩
  rw [h2,h3]

theorem z9E {g:α→Nat}{m:Nat}:∀ {xs:List α},(∀ x,x∈xs→c x≤m*(g x+1))→sumL c xs≤m*szL g xs
  | [],_=>by simp [sumL]
  | x::xs,h=>by
    have h1:=h x (by simp)
    have h2:=z9E (g:=g) (m:=m) (xs:=xs) fun y hy=>h y (by simp [hy])
    unfold szL at h2 ⊢
    simp only [sumL,List.length_cons]
    have:m*(xs.length+1+(g x+sumL g xs))=m*(g x+1)+m*(xs.length+sumL g xs):=by rw [← Nat.mul_add];congr 1;omega
    omega

end
end Go.E
namespace Go.E
theorem zan {α β:Type}{e:Option α}{a:α}{g:α→Option β}(h:e=some a):e.bind g=g a:=by rw [h];rfl
end Go.E


