/- Grids: their parts by themselves, at both sides. Conditions: the grid's own size. -/
import Derived.Test.YtfndicpnccabkaaGreatLoops
import Derived.Test.YtfndicpnccabkaaGreatRounds
import Derived.Test.YtfndicpnccabkaaGreatFVb
namespace Go.E
open Go.RowKit Go.Proofs
set_option linter.unusedSimpArgs false
set_option linter.unusedVariables false

def agentOf (c:D.ShardCell):D.Agent:=⟨c.Kind,c.Level,c.Value,c.Data,List.replicate (c.Aux.length+1) ⟨0,0⟩⟩
def shCellN (c:D.ShardCell):Bool:=if c.Kind=0 then decide (c.Level=0∧c.Value=0∧c.Data=[]∧c.Aux=[]) else decide (c.Kind≠1) && agN (agentOf c)
def noneN:D.Address:=⟨0,0,0⟩
def shVarN (v:D.ShardVar):Bool:=(v.Used || !v.Full) && (v.Full || decide (v.Held=noneN))
def shardN (s:D.Shard):Bool:=decide (s.Cells.length≤400∧s.Vars.length≤400∧s.Redexes.length≤400) && (s.Cells.all shCellN && s.Vars.all shVarN)
def piecesN (g:D.Grid):Bool:=decide (1≤g.Shards.length∧g.Shards.length≤4) && g.Shards.all shardN

theorem zn4 {k f:Int}:portsN k f≤4:=by
  unfold portsN
  split
  · split<;>omega
  · split
    · omega
    · split
      · omega
      · split
        · omega
        · split<;>omega
theorem zoM {a:D.Agent}(h:agN a=true):a.Ports.length≤4:=by
  unfold agN agentN at h
  rw [Bool.and_eq_true,Bool.and_eq_true,decide_eq_true_eq,decide_eq_true_eq] at h
  have h2:=h.2.1
  have:=zn4 (k:=a.Kind) (f:=if a.Kind=9 then(a.Ports.length:Int) - 1 else 0)
  rw [h2] at this
  omega
theorem zoa {c:D.ShardCell}(h:shCellN c=true):c.Aux.length≤3:=by
  unfold shCellN at h
  split at h
  · rw [decide_eq_true_eq] at h
    rw [h.2.2.2];simp
  · rw [Bool.and_eq_true] at h
    have:=zoM h.2
    unfold agentOf at this
    simp only [List.length_replicate] at this
    omega
theorem zhf {a b:D.Address}:(((a.Machine:Int) == b.Machine) && (((a.Kind:Int) == b.Kind) && (((a.Index:Int) == b.Index) && true)))=decide (a=b):=by
  obtain⟨a1,a2,a3⟩:=a
  obtain⟨b1,b2,b3⟩:=b
  by_cases h1:a1=b1<;>by_cases h2:a2=b2<;>by_cases h3:a3=b3<;>simp [h1,h2,h3]
theorem zhn {fuel:Nat}{c:D.ShardCell}(hs:c.sz≤1048576):z4S fuel c=some (agentOf c):=by
  unfold D.ShardCell.sz at hs
  unfold z4S z2t agentOf
  rw [if_pos (by simp;omega),Option.bind_some,z7 (by omega) (by omega),if_pos (by simp;omega)]
  have:((c.Aux.length:Int)+1).toNat=c.Aux.length+1:=by omega
  rw [this]
  rfl
theorem zbb {fuel:Nat}{c:D.ShardCell}(hs:c.sz≤1048576):z3t fuel c=some (agentOf c):=by
  unfold D.ShardCell.sz at hs
  unfold z3t zV agentOf
  rw [if_pos (by simp;omega),Option.bind_some,z7 (by omega) (by omega),if_pos (by simp;omega)]
  have:((c.Aux.length:Int)+1).toNat=c.Aux.length+1:=by omega
  rw [this]
  rfl
theorem zmE {fuel:Nat}{c:D.ShardCell}(hf:18446744073709551616≤fuel) (hs:c.sz≤1048576):z5C fuel c=some (shCellN c):=by
  have hm:maxLen=9223372036854775807:=rfl
  unfold z5C
  rw [zhn hs,Option.bind_some]
  have o:=hs
  unfold D.ShardCell.sz at o
  by_cases k0:c.Kind=0
  · unfold shCellN
    by_cases h1:c.Level=0<;>by_cases h2:c.Value=0<;>by_cases h3:c.Data=[]<;>by_cases h4:c.Aux=[]<;>simp [k0,h1,h2,h3,h4]
  · rw [if_neg (by simpa using k0)]
    by_cases ha:c.Aux.length≤3
    · rw [if_neg (by simp;omega)]
      unfold shCellN
      rw [if_neg k0]
      by_cases k1:c.Kind=1
      · rw [if_neg (by simp [agentOf,k1])];simp [k1]
      · rw [if_pos (by simpa [agentOf] using k1),show(⟨(agentOf c).Kind,(agentOf c).Level,(agentOf c).Value,(agentOf c).Data,(agentOf c).Ports⟩:D.Agent)=agentOf c from rfl,zoz hf (by unfold agentOf;dsimp only;omega) (by unfold agentOf;simp only [List.length_replicate];omega)]
        simp [k1]
    · rw [if_pos (by simp;omega)]
      cases hh:shCellN c with
      | false=>rfl
      | true=>exact absurd (zoa hh) ha
theorem ziS {fuel:Nat}{xs ys:List Int}(hf:18446744073709551616≤fuel) (hl:xs.length≤maxLen):z1j fuel xs ys=some (decide (xs=ys)):=by
  unfold z1j
  exact eqWhole hl hf rfl (fun i a b hi ha hb=>by
    unfold z1J
    rw [if_pos (by simpa using hi),z8 ha,Option.bind_some,z8 hb,Option.bind_some]
    by_cases h:a=b<;>simp [h]) (by unfold z1J;rw [if_neg (by simp)])
theorem zh7 {fuel:Nat}{xs ys:List D.Address}(hf:18446744073709551616≤fuel) (hl:xs.length≤maxLen):zj fuel xs ys=some (decide (xs=ys)):=by
  unfold zj
  exact eqWhole hl hf rfl (fun i a b hi ha hb=>by
    unfold zp
    rw [if_pos (by simpa using hi),z8 ha,Option.bind_some,z8 hb,Option.bind_some,zhf]
    by_cases h:a=b<;>simp [h]) (by unfold zp;rw [if_neg (by simp)])
theorem zmF {fuel:Nat}{c:D.ShardCell}(hf:18446744073709551616≤fuel) (hs:c.sz≤1048576):z2G fuel c=some (shCellN c):=by
  have hm:maxLen=9223372036854775807:=rfl
  have o:=hs
  unfold D.ShardCell.sz at o
  unfold z2G z4Q
  dsimp only
  rw [ziS hf (by omega),zh7 hf (by omega),zbb hs,Option.bind_some,Option.bind_some,Option.bind_some,zoA hf (by unfold agentOf;dsimp only;omega) (by unfold agentOf;simp only [List.length_replicate];omega)]
  unfold shCellN
  by_cases k0:c.Kind=0
  · by_cases h1:c.Level=0<;>by_cases h2:c.Value=0<;>by_cases h3:c.Data=[]<;>by_cases h4:c.Aux=[]<;>simp [k0,h1,h2,h3,h4]
  · by_cases k1:c.Kind=1<;>simp [k0,k1]
theorem ze1 {fuel:Nat}{p:D.ShardCell→Bool}{f:D.ShardCell→Option Bool}{xs:List D.ShardCell}(hf:18446744073709551616≤fuel) (hl:xs.length≤maxLen) (h:∀ n,n∈xs→f n=some (p n)):
    zb fuel xs f=some (xs.any p):=by
  unfold zb zi
  obtain⟨r,h1,h2⟩:=askIndex (xs:=xs) (p:=p) (body:=za fuel xs f) (j:=zr fuel) (t:=()) hl hf rfl (fun i x hi hx=>by
    simp only [za,z8 hx,h x (List.mem_of_getElem? hx),lt_t (show(i:Int)<xs.length by omega),if_true,Option.bind_some]) (by simp [za])
  rw [h1,Option.bind_some,h2]
theorem zfb {fuel:Nat}{p:D.ShardVar→Bool}{f:D.ShardVar→Option Bool}{xs:List D.ShardVar}(hf:18446744073709551616≤fuel) (hl:xs.length≤maxLen) (h:∀ n,n∈xs→f n=some (p n)):
    ze fuel xs f=some (xs.any p):=by
  unfold ze zn
  obtain⟨r,h1,h2⟩:=askIndex (xs:=xs) (p:=p) (body:=zd fuel xs f) (j:=zx fuel) (t:=()) hl hf rfl (fun i x hi hx=>by
    simp only [zd,z8 hx,h x (List.mem_of_getElem? hx),lt_t (show(i:Int)<xs.length by omega),if_true,Option.bind_some]) (by simp [zd])
  rw [h1,Option.bind_some,h2]
theorem ze0 {fuel:Nat}{p:D.Shard→Bool}{f:D.Shard→Option Bool}{xs:List D.Shard}(hf:18446744073709551616≤fuel) (hl:xs.length≤maxLen) (h:∀ n,n∈xs→f n=some (p n)):
    zg fuel xs f=some (xs.any p):=by
  unfold zg zw
  obtain⟨r,h1,h2⟩:=askIndex (xs:=xs) (p:=p) (body:=zf fuel xs f) (j:=z11 fuel) (t:=()) hl hf rfl (fun i x hi hx=>by
    simp only [zf,z8 hx,h x (List.mem_of_getElem? hx),lt_t (show(i:Int)<xs.length by omega),if_true,Option.bind_some]) (by simp [zf])
  rw [h1,Option.bind_some,h2]
theorem zmR {fuel:Nat}{v:D.ShardVar}:z3h fuel v=some (!shVarN v):=by
  have e:=zhf (a:=v.Held) (b:=noneN)
  unfold noneN at e
  unfold z3h z4P shVarN noneN
  dsimp only at e
  rw [e]
  cases v.Used<;>cases v.Full<;>cases decide (v.Held=⟨0,0,0⟩)<;>rfl
theorem zaw {s:D.Shard}(h:s.sz≤1048576):s.Cells.length≤1048576∧s.Vars.length≤1048576∧s.Redexes.length≤1048576∧∀ c,c∈s.Cells→c.sz≤1048576:=by
  unfold D.Shard.sz at h
  have h1:szL D.ShardCell.sz s.Cells≤1048576:=by omega
  exact⟨z8F h1,by omega,by omega,fun c hc=>z8E h1 hc⟩
theorem ziv {fuel:Nat}{s:D.Shard}(hf:18446744073709551616≤fuel) (hs:s.sz≤1048576):z5j fuel s=some (shardN s):=by
  have hm:maxLen=9223372036854775807:=rfl
  obtain⟨z1,z2,z3,z4⟩:=zaw hs
  unfold z5j z26 shardN
  rw [ze1 (p:=fun c=>!shCellN c) hf (by omega) (fun c hc=>by unfold z4O;rw [zmF hf (z4 c hc)];rfl),zfb (p:=fun v=>!shVarN v) hf (by omega) (fun v _=>zmR),zc8,zc8]
  by_cases h1:s.Cells.length≤400
  · by_cases h2:s.Vars.length≤400
    · by_cases h3:s.Redexes.length≤400
      · rw [if_neg (by simp;omega),if_neg (by simp;omega),if_neg (by simp;omega),decide_eq_true ⟨h1,h2,h3⟩]
        cases s.Cells.all shCellN<;>cases s.Vars.all shVarN<;>rfl
      · rw [if_neg (by simp;omega),if_neg (by simp;omega),if_pos (by simp;omega),decide_eq_false (fun h=>h3 h.2.2)];rfl
    · rw [if_neg (by simp;omega),if_pos (by simp;omega),decide_eq_false (fun h=>h2 h.2.1)];rfl
  · rw [if_pos (by simp;omega),decide_eq_false (fun h=>h1 h.1)];rfl
theorem zc2 {g:D.Grid}(h:g.sz≤1048576):g.Shards.length≤1048576∧∀ s,s∈g.Shards→s.sz≤1048576:=by
  unfold D.Grid.sz at h
  have h1:szL D.Shard.sz g.Shards≤1048576:=by omega
  exact⟨z8F h1,fun s hs=>z8E h1 hs⟩
theorem zh2 {fuel:Nat}{g:D.Grid}{xs:List D.statement}(hf:18446744073709551616≤fuel) (hs:g.sz≤1048576):z2J fuel g xs=zS fuel g xs (!piecesN g):=by
  have hm:maxLen=9223372036854775807:=rfl
  obtain⟨z1,z2⟩:=zc2 hs
  unfold z2J piecesN
  rw [ze0 (p:=fun s=>!shardN s) hf (by omega) (fun s h=>by unfold z2W;rw [ziv hf (z2 s h)];rfl),zc8,Option.bind_some]
  by_cases h1:1≤g.Shards.length
  · by_cases h2:g.Shards.length≤4
    · rw [if_neg (by simp;omega),if_neg (by simp;omega),decide_eq_true ⟨h1,h2⟩,Bool.true_and]
    · rw [if_neg (by simp;omega),if_pos (by simp;omega),decide_eq_false (fun h=>h2 h.2)];rfl
  · rw [if_pos (by simp;omega),decide_eq_false (fun h=>h1 h.1)];rfl
theorem ziu {fuel:Nat}{s:D.Shard}{k:Int}(hf:18446744073709551616≤fuel) (hs:s.sz≤1048576) (hc:s.Cells.length≤400∧s.Vars.length≤400∧s.Redexes.length≤400):
    zX fuel k s false=if(s.Cells.all shCellN && s.Vars.all shVarN)=true then some (.next (w64 (k+1))) else some (.ret false):=by
  have hm:maxLen=9223372036854775807:=rfl
  obtain⟨z1,z2,z3,z4⟩:=zaw hs
  have hC:=allLoop (xs:=s.Cells) (body:=z3y fuel s) (p:=fun _ c=>shCellN c) (t:=()) (v:=Rd.ret false) (fuel:=fuel) (by omega) hf (fun i c hi hx=>by
    unfold z3y
    rw [if_pos (by simpa using hi),z8 hx,Option.bind_some,zmE hf (z4 c (List.mem_of_getElem? hx)),Option.bind_some]
    cases shCellN c<;>simp) (by unfold z3y;rw [if_neg (by simp)])
  have hV:=allLoop (xs:=s.Vars) (body:=z3x fuel s) (p:=fun _ v=>shVarN v) (t:=()) (v:=Rd.ret false) (fuel:=fuel) (by omega) hf (fun i v hi hx=>by
    have e:=zhf (a:=v.Held) (b:=noneN)
    unfold noneN at e
    dsimp only at e
    unfold z3x z1b shVarN noneN
    rw [if_pos (by simpa using hi),z8 hx,Option.bind_some,e]
    cases v.Used<;>cases v.Full<;>cases decide (v.Held=⟨0,0,0⟩)<;>rfl) (by unfold z3x;rw [if_neg (by simp)])
  rw [z9o] at hC hV
  unfold zX
  rw [if_neg (by simp),hC,Option.bind_some]
  cases s.Cells.all shCellN with
  | false=>rfl
  | true=>
    rw [if_pos rfl]
    simp only [aft]
    unfold z78
    rw [hV,Option.bind_some]
    cases s.Vars.all shVarN with
    | false=>rfl
    | true=>rfl
theorem zh1 {fuel:Nat}{g:D.Grid}(hf:18446744073709551616≤fuel) (hs:g.sz≤1048576):z5z fuel g=some (piecesN g):=by
  have hm:maxLen=9223372036854775807:=rfl
  obtain⟨z1,z2⟩:=zc2 hs
  unfold z5z
  rw [z7N,Option.bind_some]
  have hS:=allLoop (xs:=g.Shards) (body:=z3z fuel g) (p:=fun _ s=>shardN s) (t:=()) (v:=false) (fuel:=fuel) (by omega) hf (fun i s hi hx=>by
    have hss:=z2 s (List.mem_of_getElem? hx)
    unfold z3z
    rw [if_pos (by simpa using hi),z8 hx,Option.bind_some]
    have no:zX fuel (i:Int) s true=some (.ret false):=by unfold zX;rfl
    unfold shardN
    by_cases h1:s.Cells.length≤400
    · by_cases h2:s.Vars.length≤400
      · by_cases h3:s.Redexes.length≤400
        · rw [if_neg (by simp;omega),if_neg (by simp;omega),show decide ((s.Redexes.length:Int)>400)=false by simp;omega,ziu hf hss ⟨h1,h2,h3⟩,decide_eq_true ⟨h1,h2,h3⟩,Bool.true_and]
        · rw [if_neg (by simp;omega),if_neg (by simp;omega),show decide ((s.Redexes.length:Int)>400)=true by simp;omega,no,decide_eq_false (fun h=>h3 h.2.2)];rfl
      · rw [if_neg (by simp;omega),if_pos (by simp;omega),no,decide_eq_false (fun h=>h2 h.2.1)];rfl
    · rw [if_pos (by simp;omega),no,decide_eq_false (fun h=>h1 h.1)];rfl) (by unfold z3z;rw [if_neg (by simp)])
  rw [z9o] at hS
  unfold piecesN
  rw [hS,Option.bind_some]
  have hd:decide ((1:Int)≤(g.Shards.length:Int)∧(g.Shards.length:Int)≤4)=decide (1≤g.Shards.length∧g.Shards.length≤4):=by
    rw [decide_eq_decide];omega
  rw [hd]
  cases decide (1≤g.Shards.length∧g.Shards.length≤4) with
  | false=>rfl
  | true=>
    rw [if_neg (by simp)]
    cases g.Shards.all shardN<;>rfl
end Go.E


namespace Go.E
open Go.RowKit Go.Proofs
set_option linter.unusedSimpArgs false
set_option linter.unusedVariables false


abbrev Key:=Nat × Nat × Nat × Nat
def cellK (t m i:Nat) (c:D.ShardCell):List Key:=if c.Kind=0 then [] else(List.range (c.Aux.length+1)).map fun k=>(t,m,i,k)
def rowK (t m:Nat) (cs:List D.ShardCell):List Key:=cs.zipIdx.flatMap fun x=>cellK t m x.2 x.1
def portK (ss:List D.Shard):List Key:=(0,0,0,0)::ss.zipIdx.flatMap fun x=>rowK 1 x.2 x.1.Cells
def varR (m:Nat) (s:D.Shard):List Key:=(List.range s.Vars.length).map fun i=>(2,m,i,0)
def varK (ss:List D.Shard):List Key:=ss.zipIdx.flatMap fun x=>varR x.2 x.1
def allK (g:D.Grid) (more:List D.ShardCell):List Key:=(portK g.Shards++rowK 3 0 more)++varK g.Shards

theorem zeZ {α β:Type}{xs:List α}{g:Nat→α→List β}{i k:Nat}{x:α}(hx:xs[i]? = some x) (hk:k<(g i x).length):
    (xs.zipIdx.flatMap fun y=>g y.2 y.1)[((xs.take i).zipIdx.flatMap fun y=>g y.2 y.1).length+k]? = (g i x)[k]?:=by
  have h1:xs.zipIdx=(xs.take (i+1)).zipIdx++(xs.drop (i+1)).zipIdx (xs.take (i+1)).length:=by
    have:=List.zipIdx_append (xs:=xs.take (i+1)) (ys:=xs.drop (i+1)) (k:=0)
    rw [List.take_append_drop] at this
    simpa using this
  rw [h1,zaZ hx,List.flatMap_append,List.flatMap_append,List.append_assoc,List.getElem?_append_right (Nat.le_add_right _ _),Nat.add_sub_cancel_left]
  simp only [List.flatMap_cons,List.flatMap_nil,List.append_nil]
  rw [List.getElem?_append_left hk]
theorem zc3 {α β:Type}{xs:List α}{g:Nat→α→List β}(f:β→Nat) (h1:∀ i x,xs[i]? = some x→(g i x).Nodup) (h2:∀ i x y,y∈g i x→f y=i):(xs.zipIdx.flatMap fun y=>g y.2 y.1).Nodup:=by
  unfold List.Nodup
  rw [List.pairwise_flatMap]
  constructor
  · rintro⟨a,i⟩ h
    rw [List.mem_zipIdx_iff_getElem?] at h
    exact h1 i a h
  · rw [List.pairwise_iff_getElem]
    intro i j hi hj hij p hp q hq he
    simp only [List.getElem_zipIdx] at hp hq
    have a:=h2 _ _ _ hp
    have b:=h2 _ _ _ hq
    rw [he] at a
    omega
theorem zdP {t m i:Nat}{c:D.ShardCell}{k:Key}(h:k∈cellK t m i c):k.1=t∧k.2.1=m∧k.2.2.1=i:=by
  unfold cellK at h
  split at h
  · cases h
  · obtain⟨j,_,rfl⟩:=List.mem_map.1 h
    exact⟨rfl,rfl,rfl⟩
theorem zbe {t m:Nat}{cs:List D.ShardCell}{k:Key}(h:k∈rowK t m cs):k.1=t∧k.2.1=m:=by
  obtain⟨x,_,h2⟩:=List.mem_flatMap.1 h
  exact⟨(zdP h2).1,(zdP h2).2.1⟩
theorem zhd {t m i:Nat}{c:D.ShardCell}:(cellK t m i c).Nodup:=by
  unfold cellK
  split
  · exact List.nodup_nil
  · unfold List.Nodup
    rw [List.pairwise_map]
    refine List.Pairwise.imp ?_ (List.nodup_range (n:=c.Aux.length+1))
    intro x y hxy he
    simp only [Prod.mk.injEq,true_and] at he
    exact hxy he
theorem zei {t m:Nat}{cs:List D.ShardCell}:(rowK t m cs).Nodup:=
  zc3 (g:=fun i c=>cellK t m i c) (fun k:Key=>k.2.2.1) (fun i x _=>zhd) (fun i x y h=>(zdP h).2.2)
theorem zfM {ss:List D.Shard}{k:Key}(h:k∈portK ss):k.1=0∨k.1=1:=by
  unfold portK at h
  rcases List.mem_cons.1 h with rfl | h
  · exact .inl rfl
  · obtain⟨x,_,h2⟩:=List.mem_flatMap.1 h
    exact .inr (zbe h2).1
theorem zez {ss:List D.Shard}{k:Key}(h:k∈varK ss):k.1=2:=by
  obtain⟨x,_,h2⟩:=List.mem_flatMap.1 h
  obtain⟨j,_,rfl⟩:=List.mem_map.1 h2
  rfl
theorem z8B {g:D.Grid}{more:List D.ShardCell}:(allK g more).Nodup:=by
  unfold allK
  refine List.nodup_append.2 ⟨List.nodup_append.2 ⟨?_,zei,?_⟩,?_,?_⟩
  · unfold portK
    refine List.nodup_cons.2 ⟨fun h=>?_,zc3 (g:=fun i (s:D.Shard)=>rowK 1 i s.Cells) (fun k:Key=>k.2.1) (fun i x _=>zei) (fun i x y h=>(zbe h).2)⟩
    obtain⟨x,_,h2⟩:=List.mem_flatMap.1 h
    exact absurd (zbe h2).1 (by decide)
  · intro a ha b hb he
    have h1:=zfM ha
    have h2:=(zbe hb).1
    rw [he] at h1
    omega
  · refine zc3 (g:=fun i (s:D.Shard)=>varR i s) (fun k:Key=>k.2.1) (fun i x _=>?_) (fun i x y h=>?_)
    · unfold varR List.Nodup
      rw [List.pairwise_map]
      refine List.Pairwise.imp ?_ (List.nodup_range (n:=x.Vars.length))
      intro x y hxy he
      simp only [Prod.mk.injEq,true_and,and_true] at he
      exact hxy he
    · obtain⟨j,_,rfl⟩:=List.mem_map.1 h
      rfl
  · intro a ha b hb he
    have h2:=zez hb
    rcases List.mem_append.1 ha with h | h
    · have h1:=zfM h
      rw [he] at h1
      omega
    · have h1:=(zbe h).1
      rw [he] at h1
      omega
theorem zmG {t m i t' m' i':Nat}{c:D.ShardCell}:(cellK t m i c).length=(cellK t' m' i' c).length:=by
  unfold cellK
  split<;>simp
theorem zo3 {t m i:Nat}{c:D.ShardCell}(h:c.Aux.length≤3):(cellK t m i c).length≤4:=by
  unfold cellK
  split
  · simp
  · simp;omega
theorem za4 {t m i:Nat}{cs:List D.ShardCell}{c:D.ShardCell}(h:cs[i]? = some c):rowK t m (cs.take (i+1))=rowK t m (cs.take i)++cellK t m i c:=by
  unfold rowK
  rw [zaZ h,List.flatMap_append]
  simp
theorem zbQ {t m:Nat}{cs:List D.ShardCell}(h:∀ c,c∈cs→c.Aux.length≤3):∀ i,i≤cs.length→(rowK t m (cs.take i)).length≤4*i
  | 0,_=>by simp [rowK]
  | i+1,hi=>by
    obtain⟨c,hc⟩:=z1r (xs:=cs) (i:=i) (by omega)
    rw [za4 hc,List.length_append]
    have:=zbQ (t:=t) (m:=m) h i (by omega)
    have:=zo3 (t:=t) (m:=m) (i:=i) (h c (List.mem_of_getElem? hc))
    omega
theorem zbf {t m t' m':Nat}{cs:List D.ShardCell}:∀ i,i≤cs.length→(rowK t m (cs.take i)).length=(rowK t' m' (cs.take i)).length
  | 0,_=>by simp [rowK]
  | i+1,hi=>by
    obtain⟨c,hc⟩:=z1r (xs:=cs) (i:=i) (by omega)
    rw [za4 hc,za4 hc,List.length_append,List.length_append,zbf i (by omega),zmG (t':=t') (m':=m') (i':=i)]
theorem zem {m:Nat}{ss:List D.Shard}{s:D.Shard}(h:ss[m]? = some s):portK (ss.take (m+1))=portK (ss.take m)++rowK 1 m s.Cells:=by
  unfold portK
  rw [zaZ h,List.flatMap_append]
  simp
theorem zfj {m:Nat}{ss:List D.Shard}{s:D.Shard}(h:ss[m]? = some s):varK (ss.take (m+1))=varK (ss.take m)++varR m s:=by
  unfold varK
  rw [zaZ h,List.flatMap_append]
  simp
theorem zi3 {g:D.Grid}{more:List D.ShardCell}{m i k:Nat}{s:D.Shard}{c:D.ShardCell}(hs:g.Shards[m]? = some s) (hc:s.Cells[i]? = some c) (h0:c.Kind≠0) (hk:k≤c.Aux.length):
    (allK g more)[(portK (g.Shards.take m)).length+(rowK 1 m (s.Cells.take i)).length+k]? = some (1,m,i,k):=by
  have hcl:k<(cellK 1 m i c).length:=by unfold cellK;rw [if_neg h0];simp;omega
  have h2:=zeZ (g:=fun i c=>cellK 1 m i c) hc hcl
  have h3:(cellK 1 m i c)[k]? = some (1,m,i,k):=by unfold cellK;rw [if_neg h0,List.getElem?_map,List.getElem?_range (by omega)];rfl
  rw [h3] at h2
  have h2':(rowK 1 m s.Cells)[(rowK 1 m (s.Cells.take i)).length+k]? = some (1,m,i,k):=h2
  have hlt:=(List.getElem?_eq_some_iff.1 h2').1
  have h4:=zeZ (g:=fun i (s:D.Shard)=>rowK 1 i s.Cells) hs hlt
  rw [h2'] at h4
  have h5:(portK g.Shards)[(portK (g.Shards.take m)).length+(rowK 1 m (s.Cells.take i)).length+k]? = some (1,m,i,k):=by
    unfold portK
    rw [List.length_cons,show ∀ a b c:Nat,a+1+b+c=(a+(b+c))+1 by omega,List.getElem?_cons_succ]
    exact h4
  have o:=(List.getElem?_eq_some_iff.1 h5).1
  unfold allK
  rw [List.append_assoc,List.getElem?_append_left o]
  exact h5
theorem zmL {g:D.Grid}{more:List D.ShardCell}{m i:Nat}{s:D.Shard}(hs:g.Shards[m]? = some s) (hi:i<s.Vars.length):
    (allK g more)[(portK g.Shards).length+(rowK 3 0 more).length+(varK (g.Shards.take m)).length+i]? = some (2,m,i,0):=by
  have h4:=zeZ (g:=fun i (s:D.Shard)=>varR i s) (k:=i) hs (by unfold varR;simpa using hi)
  have h3:(varR m s)[i]? = some (2,m,i,0):=by unfold varR;rw [List.getElem?_map,List.getElem?_range hi];rfl
  rw [h3] at h4
  unfold allK
  rw [List.getElem?_append_right (by rw [List.length_append];omega),List.length_append,Nat.add_assoc,Nat.add_sub_cancel_left]
  exact h4


def liveL (cs:List D.ShardCell):List D.ShardCell:=cs.filter fun c=>decide (c.Kind≠0)
def portsP (n:Nat):List D.ShardCell→List D.Port
  | []=>[]
  | c::cs=>((List.range (c.Aux.length+1)).map fun k:Nat=>⟨(n:Int),(k:Int)⟩)++portsP (n+1) cs
def rootAg:D.Agent:=⟨1,0,0,[],[⟨0,0⟩]⟩
theorem zdd {c:D.ShardCell}:∀ {cs:List D.ShardCell}{n:Nat},portsP n (cs++[c])=portsP n cs++((List.range (c.Aux.length+1)).map fun k:Nat=>⟨((n+cs.length:Nat):Int),(k:Int)⟩)
  | [],n=>by simp [portsP]
  | d::cs,n=>by
    rw [List.cons_append]
    unfold portsP
    rw [zdd,List.append_assoc,List.length_cons,show n+1+cs.length=n+(cs.length+1) by omega]

structure PA (P:List D.Port) (A:List D.Agent) (cs:List D.ShardCell):Prop where
  agents:A=rootAg::(liveL cs).map agentOf
  ports:P=⟨0,0⟩::portsP 1 (liveL cs)
theorem zfY {cs:List D.ShardCell}{c:D.ShardCell}(h:c.Kind=0):liveL (cs++[c])=liveL cs:=by unfold liveL;rw [List.filter_append];simp [h]
theorem zfX {cs:List D.ShardCell}{c:D.ShardCell}(h:c.Kind≠0):liveL (cs++[c])=liveL cs++[c]:=by unfold liveL;rw [List.filter_append];simp [h]


theorem zeq {fuel:Nat}{L:D.l27Links}{c:D.ShardCell}{t m i:Nat}(hf:18446744073709551616≤fuel) (hs:c.sz≤1048576) (ha:c.Aux.length≤3) (hp:L.ports.length≤1000000) (hg:L.agents.length≤1000000){cs:List D.ShardCell}(hPA:PA L.ports L.agents cs):
    ∃ P A,z21 fuel L c=some ((L.ports.length:Int),⟨A,P,L.cells,L.vars,L.ends,L.pairs⟩)∧P.length=L.ports.length+(cellK t m i c).length∧A.length≤L.agents.length+1∧PA P A (cs++[c]):=by
  unfold z21
  by_cases k0:c.Kind=0
  · rw [if_pos (by simp [k0])]
    exact⟨L.ports,L.agents,rfl,by unfold cellK;rw [if_pos k0];rfl,by omega,⟨by rw [zfY k0];exact hPA.agents,by rw [zfY k0];exact hPA.ports⟩⟩
  · rw [if_neg (by simpa using k0)]
    obtain⟨o,h1,P,rfl,h2,h3⟩:=zc (body:=z1U fuel L c) (fun k s=>∃ P:List D.Port,s=((k:Int),P)∧P.length=L.ports.length+k∧P=L.ports++(List.range k).map fun k:Nat=>⟨(L.agents.length:Int),(k:Int)⟩) (c.Aux.length+1) (fun o=>∃ P,o=.inl P∧P.length=L.ports.length+(c.Aux.length+1)∧P=L.ports++(List.range (c.Aux.length+1)).map fun k:Nat=>⟨(L.agents.length:Int),(k:Int)⟩) (by
      rintro k s hk ⟨P,rfl,hP,hPX⟩
      refine .inl ⟨(w64 (k+1),P++[⟨(L.agents.length:Int),(k:Int)⟩]),?_,_,by rw [z7 (by omega) (by omega)];rfl,by simp [hP];omega,by rw [hPX,List.range_succ,List.map_append,List.append_assoc];rfl⟩
      unfold z1U
      dsimp only
      rw [if_pos (by simp;omega),if_pos (by simp;omega)]) (by
      rintro s ⟨P,rfl,hP,hPX⟩
      refine .inr ⟨P,?_,P,rfl,hP,hPX⟩
      unfold z1U
      rw [if_neg (by simp;omega)]) (fuel:=fuel) (i:=0) (s:=(0,L.ports)) (Nat.zero_le _) (by omega) ⟨_,rfl,rfl,by simp⟩
    rw [h1,Option.bind_some]
    simp only [aft]
    unfold z5t
    rw [zhn hs,Option.bind_some,if_pos (by simp;omega)]
    refine⟨P,_,rfl,by rw [h2];unfold cellK;rw [if_neg k0];simp,by simp,⟨by rw [zfX k0,hPA.agents,List.map_append];rfl,?_⟩⟩
    rw [h3,zfX k0,zdd,hPA.agents,hPA.ports]
    simp only [List.length_cons,List.length_map,List.cons_append,Nat.add_comm 1]

def baseL (b:Nat) (cs:List D.ShardCell) (n:Nat):List Int:=(List.range n).map fun i=>((b+(rowK 1 0 (cs.take i)).length:Nat):Int)
theorem zgB {b n:Nat}{cs:List D.ShardCell}:baseL b cs (n+1)=baseL b cs n++[((b+(rowK 1 0 (cs.take n)).length:Nat):Int)]:=by
  unfold baseL
  rw [List.range_succ,List.map_append]
  rfl
theorem zmJ {b n i:Nat}{cs:List D.ShardCell}(h:i<n):(baseL b cs n)[i]? = some ((b+(rowK 1 0 (cs.take i)).length:Nat):Int):=by
  unfold baseL
  rw [List.getElem?_map,List.getElem?_range h]
  rfl

theorem zoh {fuel:Nat}{g:D.Grid}{m:Nat}{s:D.Shard}{z:List (List Int) × List (List Int) × List (List Int) × List (List Int) × List D.Port × List D.Agent}{C V E Q:List (List Int)}{P:List D.Port}{A:List D.Agent}
    (hf:18446744073709551616≤fuel) (hm:g.Shards[m]? = some s) (hz:s.Cells.length≤400) (hs:∀ c,c∈s.Cells→c.sz≤1048576∧c.Aux.length≤3) (hP:P.length≤100000) (hA:A.length≤100000){cs:List D.ShardCell}(hPA:PA P A cs):
    ∃ P' A',iter (z2N fuel g ((m:Int),z)) fuel (0,[],C,V,E,Q,P,A)=some (.inl (baseL P.length s.Cells s.Cells.length,C,V,E,Q,P',A'))∧P'.length=P.length+(rowK 1 m s.Cells).length∧A'.length≤A.length+s.Cells.length∧PA P' A' (cs++s.Cells):=by
  have hle:=fun i hi=>zbQ (t:=1) (m:=m) (cs:=s.Cells) (fun c hc=>(hs c hc).2) i hi
  obtain⟨o,h1,P',A',rfl,h2,h3,h4⟩:=zc (body:=z2N fuel g ((m:Int),z)) (fun i st=>∃ P' A',st=((i:Int),baseL P.length s.Cells i,C,V,E,Q,P',A')∧P'.length=P.length+(rowK 1 m (s.Cells.take i)).length∧A'.length≤A.length+i∧PA P' A' (cs++s.Cells.take i)) s.Cells.length
    (fun o=>∃ P' A',o=.inl (baseL P.length s.Cells s.Cells.length,C,V,E,Q,P',A')∧P'.length=P.length+(rowK 1 m s.Cells).length∧A'.length≤A.length+s.Cells.length∧PA P' A' (cs++s.Cells)) (by
    rintro i st hi ⟨P',A',rfl,hP',hA',hPA'⟩
    obtain⟨c,hc⟩:=z1r hi
    obtain⟨c1,c2⟩:=hs c (List.mem_of_getElem? hc)
    have:=hle i (by omega)
    obtain⟨P2,A2,e1,e2,e3,e4⟩:=zeq (L:=⟨A',P',C,V,E,Q⟩) (t:=1) (m:=m) (i:=i) hf c1 c2 (by dsimp only;omega) (by dsimp only;omega) hPA'
    dsimp only at e1 e2 e3
    refine .inl ⟨(w64 (i+1),baseL P.length s.Cells (i+1),C,V,E,Q,P2,A2),?_,P2,A2,by rw [z7 (by omega) (by omega)];rfl,by rw [e2,hP',za4 hc,List.length_append];omega,by omega,by rw [List.take_add_one,hc,← List.append_assoc];exact e4⟩
    unfold z2N
    dsimp only
    rw [z8 hm,Option.bind_some,if_pos (by simpa using hi),Option.bind_some,z8 hc,Option.bind_some,e1,Option.bind_some]
    dsimp only
    rw [if_pos (by unfold baseL;simp;omega),zgB,hP',zbf (t:=1) (m:=m) (t':=1) (m':=0) i (by omega)]) (by
    rintro st ⟨P',A',rfl,hP',hA',hPA'⟩
    rw [List.take_length] at hP' hPA'
    refine .inr ⟨_,?_,P',A',rfl,hP',hA',hPA'⟩
    unfold z2N
    dsimp only
    rw [z8 hm,Option.bind_some,if_neg (by simp)]) (fuel:=fuel) (i:=0) (s:=(0,[],C,V,E,Q,P,A)) (Nat.zero_le _) (by omega) ⟨P,A,rfl,by simp [rowK],by omega,by rw [List.take_zero,List.append_nil];exact hPA⟩
  exact⟨P',A',h1,h2,h3,h4⟩

theorem znm {fuel:Nat}{more:List D.ShardCell}{C V E Q:List (List Int)}{P:List D.Port}{A:List D.Agent}
    (hf:18446744073709551616≤fuel) (hz:more.length≤20000) (hs:∀ c,c∈more→c.sz≤1048576∧c.Aux.length≤3) (hP:P.length≤100000) (hA:A.length≤100000){cs:List D.ShardCell}(hPA:PA P A cs):
    ∃ P' A',iter (z2Q fuel more) fuel (0,[],C,V,E,Q,P,A)=some (.inl (baseL P.length more more.length,C,V,E,Q,P',A'))∧P'.length=P.length+(rowK 3 0 more).length∧A'.length≤A.length+more.length∧PA P' A' (cs++more):=by
  have hle:=fun i hi=>zbQ (t:=3) (m:=0) (cs:=more) (fun c hc=>(hs c hc).2) i hi
  obtain⟨o,h1,P',A',rfl,h2,h3,h4⟩:=zc (body:=z2Q fuel more) (fun i st=>∃ P' A',st=((i:Int),baseL P.length more i,C,V,E,Q,P',A')∧P'.length=P.length+(rowK 3 0 (more.take i)).length∧A'.length≤A.length+i∧PA P' A' (cs++more.take i)) more.length
    (fun o=>∃ P' A',o=.inl (baseL P.length more more.length,C,V,E,Q,P',A')∧P'.length=P.length+(rowK 3 0 more).length∧A'.length≤A.length+more.length∧PA P' A' (cs++more)) (by
    rintro i st hi ⟨P',A',rfl,hP',hA',hPA'⟩
    obtain⟨c,hc⟩:=z1r hi
    obtain⟨c1,c2⟩:=hs c (List.mem_of_getElem? hc)
    have:=hle i (by omega)
    obtain⟨P2,A2,e1,e2,e3,e4⟩:=zeq (L:=⟨A',P',C,V,E,Q⟩) (t:=3) (m:=0) (i:=i) hf c1 c2 (by dsimp only;omega) (by dsimp only;omega) hPA'
    dsimp only at e1 e2 e3
    refine .inl ⟨(w64 (i+1),baseL P.length more (i+1),C,V,E,Q,P2,A2),?_,P2,A2,by rw [z7 (by omega) (by omega)];rfl,by rw [e2,hP',za4 hc,List.length_append];omega,by omega,by rw [List.take_add_one,hc,← List.append_assoc];exact e4⟩
    unfold z2Q
    dsimp only
    rw [if_pos (by simpa using hi),z8 hc,Option.bind_some,e1,Option.bind_some]
    dsimp only
    rw [if_pos (by unfold baseL;simp;omega),zgB,hP',zbf (t:=3) (m:=0) (t':=1) (m':=0) i (by omega)]) (by
    rintro st ⟨P',A',rfl,hP',hA',hPA'⟩
    rw [List.take_length] at hP' hPA'
    refine .inr ⟨_,?_,P',A',rfl,hP',hA',hPA'⟩
    unfold z2Q
    rw [if_neg (by simp)]) (fuel:=fuel) (i:=0) (s:=(0,[],C,V,E,Q,P,A)) (Nat.zero_le _) (by omega) ⟨P,A,rfl,by simp [rowK],by omega,by rw [List.take_zero,List.append_nil];exact hPA⟩
  exact⟨P',A',h1,h2,h3,h4⟩

theorem zmP {fuel:Nat}{g:D.Grid}{m n:Nat}{s:D.Shard}{z1:Int}{z2:List (List Int)}(hf:18446744073709551616≤fuel) (hm:g.Shards[m]? = some s) (hz:s.Vars.length≤400) (hn:n≤1000000):
    iter (z2O fuel g (z1,(m:Int),z2)) fuel ((n:Int),0,[])=some (.inl (((n+s.Vars.length:Nat):Int),(List.range s.Vars.length).map fun i=>((n+i:Nat):Int))):=by
  obtain⟨o,h1,h2⟩:=zc (body:=z2O fuel g (z1,(m:Int),z2)) (fun i st=>st=(((n+i:Nat):Int),(i:Int),(List.range i).map fun j=>((n+j:Nat):Int))) s.Vars.length (fun o=>o=.inl (((n+s.Vars.length:Nat):Int),(List.range s.Vars.length).map fun i=>((n+i:Nat):Int))) (by
    rintro i st hi rfl
    refine .inl ⟨(w64 (((n+i:Nat):Int)+1),w64 (i+1),((List.range i).map fun j=>((n+j:Nat):Int))++[((n+i:Nat):Int)]),?_,?_⟩
    · unfold z2O
      dsimp only
      rw [z8 hm,Option.bind_some,if_pos (by simpa using hi),if_pos (by simp;omega)]
    · rw [z7 (by omega) (by omega),z7 (by omega) (by omega),List.range_succ,List.map_append]
      rfl) (by
    rintro st rfl
    refine .inr ⟨_,?_,rfl⟩
    unfold z2O
    dsimp only
    rw [z8 hm,Option.bind_some,if_neg (by simp)]) (fuel:=fuel) (i:=0) (s:=((n:Int),0,[])) (Nat.zero_le _) (by omega) rfl
  rw [h1,h2]
end Go.E


namespace Go.E
open Go.RowKit Go.Proofs
set_option linter.unusedSimpArgs false
set_option linter.unusedVariables false


structure Small (g:D.Grid):Prop where
  n:g.Shards.length≤4
  s:∀ s,s∈g.Shards→s.Cells.length≤400∧s.Vars.length≤400∧s.Redexes.length≤400∧(∀ c,c∈s.Cells→c.sz≤1048576∧c.Aux.length≤3∧shCellN c=true)∧∀ v,v∈s.Vars→shVarN v=true
theorem zeH {g:D.Grid}(hs:g.sz≤1048576) (hp:piecesN g=true):Small g:=by
  unfold piecesN at hp
  rw [Bool.and_eq_true,decide_eq_true_eq] at hp
  refine⟨hp.1.2,fun s hm=>?_⟩
  have h1:=List.all_eq_true.1 hp.2 s hm
  unfold shardN at h1
  rw [Bool.and_eq_true,Bool.and_eq_true,decide_eq_true_eq] at h1
  obtain⟨⟨a1,a2,a3⟩,a4,a5⟩:=h1
  have z:=(zaw ((zc2 hs).2 s hm)).2.2.2
  exact⟨a1,a2,a3,fun c hc=>⟨z c hc,zoa (List.all_eq_true.1 a4 c hc),List.all_eq_true.1 a4 c hc⟩,fun v hv=>List.all_eq_true.1 a5 v hv⟩
def moreOk (more:List D.ShardCell):Prop:=more.length≤20000∧∀ c,c∈more→c.sz≤1048576∧c.Aux.length≤3

def gcellsOf (g:D.Grid):List D.ShardCell:=g.Shards.flatMap fun s=>s.Cells
structure Items (g:D.Grid) (more:List D.ShardCell) (L:D.l27Links) (at_:List Int):Prop where
  ports:L.ports.length=(portK g.Shards++rowK 3 0 more).length
  cell:∀ (m i:Nat) s c,g.Shards[m]? = some s→s.Cells[i]? = some c→∃ row,L.cells[m]? = some row∧row[i]? = some (((portK (g.Shards.take m)).length+(rowK 1 m (s.Cells.take i)).length:Nat):Int)
  var:∀ (m i:Nat) s,g.Shards[m]? = some s→i<s.Vars.length→∃ row,L.vars[m]? = some row∧row[i]? = some (((portK g.Shards).length+(rowK 3 0 more).length+(varK (g.Shards.take m)).length+i:Nat):Int)
  ends:L.ends=List.replicate (allK g more).length []
  pairs:L.pairs=[]
  pa:PA L.ports L.agents (gcellsOf g++more)
  more:∀ (i:Nat) c,more[i]? = some c→at_[i]? = some (((portK g.Shards).length+(rowK 3 0 (more.take i)).length:Nat):Int)
theorem zbh {g:D.Grid}(hS:Small g):∀ m,m≤g.Shards.length→(portK (g.Shards.take m)).length≤1+1600*m
  | 0,_=>by simp [portK]
  | m+1,hm=>by
    obtain⟨s,hs⟩:=z1r (xs:=g.Shards) (i:=m) (by omega)
    obtain⟨a1,a2,a3,a4,a5⟩:=hS.s s (List.mem_of_getElem? hs)
    rw [zem hs,List.length_append]
    have:=zbh hS m (by omega)
    have h2:=zbQ (t:=1) (m:=m) (cs:=s.Cells) (fun c hc=>(a4 c hc).2.1) s.Cells.length (Nat.le_refl _)
    rw [List.take_length] at h2
    omega
theorem zgH {g:D.Grid}(hS:Small g):∀ m,m≤g.Shards.length→(varK (g.Shards.take m)).length≤400*m
  | 0,_=>by simp [varK]
  | m+1,hm=>by
    obtain⟨s,hs⟩:=z1r (xs:=g.Shards) (i:=m) (by omega)
    obtain⟨a1,a2,a3,a4,a5⟩:=hS.s s (List.mem_of_getElem? hs)
    rw [zfj hs,List.length_append]
    have:=zgH hS m (by omega)
    unfold varR
    simp only [List.length_map,List.length_range]
    omega
theorem zhe {fuel:Nat}{g:D.Grid}(hf:18446744073709551616≤fuel) (hS:Small g):∃ (C:List (List Int)) (P:List D.Port) (A:List D.Agent),iter (z2R fuel g) fuel (0,[],[],[],[],[⟨0,0⟩],[⟨1,0,0,[],List.replicate (1:Int).toNat ⟨0,0⟩⟩])=some (.inl (C,[],[],[],P,A))∧C.length=g.Shards.length∧(∀ (j:Nat) s,g.Shards[j]? = some s→C[j]? = some (baseL (portK (g.Shards.take j)).length s.Cells s.Cells.length))∧P.length=(portK g.Shards).length∧A.length≤2000∧PA P A (gcellsOf g):=by
  have hn:=hS.n
  obtain⟨o,h1,C,P,A,rfl,h2,h3,h4,h5,h6⟩:=zc (body:=z2R fuel g) (fun m st=>∃ (C:List (List Int)) (P:List D.Port) (A:List D.Agent),st=((m:Int),C,[],[],[],P,A)∧C.length=m∧(∀ (j:Nat) s,j<m→g.Shards[j]? = some s→C[j]? = some (baseL (portK (g.Shards.take j)).length s.Cells s.Cells.length))∧P.length=(portK (g.Shards.take m)).length∧A.length≤1+400*m∧PA P A ((g.Shards.take m).flatMap fun s=>s.Cells)) g.Shards.length
    (fun o=>∃ (C:List (List Int)) (P:List D.Port) (A:List D.Agent),o=.inl (C,[],[],[],P,A)∧C.length=g.Shards.length∧(∀ (j:Nat) s,g.Shards[j]? = some s→C[j]? = some (baseL (portK (g.Shards.take j)).length s.Cells s.Cells.length))∧P.length=(portK g.Shards).length∧A.length≤2000∧PA P A (gcellsOf g)) (by
    rintro m st hm ⟨C,P,A,rfl,hC,hr,hP,hA,hPA⟩
    obtain⟨s,hs⟩:=z1r hm
    obtain⟨a1,a2,a3,a4,a5⟩:=hS.s s (List.mem_of_getElem? hs)
    have hpl:=zbh hS m (by omega)
    obtain⟨P',A',e1,e2,e3,e4⟩:=zoh (z:=(C,[],[],[],P,A)) (C:=C) (V:=[]) (E:=[]) (Q:=[]) (P:=P) (A:=A) hf hs a1 (fun c hc=>⟨(a4 c hc).1,(a4 c hc).2.1⟩) (by omega) (by omega) hPA
    refine .inl ⟨(w64 (m+1),C++[baseL P.length s.Cells s.Cells.length],[],[],[],P',A'),?_,_,P',A',by rw [z7 (by omega) (by omega)];rfl,by simp [hC],?_,?_,by omega,by rw [List.take_add_one,hs,List.flatMap_append];simpa using e4⟩
    · unfold z2R
      dsimp only
      rw [if_pos (by simpa using hm),e1,Option.bind_some]
      rw [z6]
      unfold z7n
      dsimp only
      rw [if_pos (by simp;omega)]
    · intro j s' hj hs'
      by_cases hjm:j<m
      · rw [List.getElem?_append_left (by omega)]
        exact hr j s' hjm hs'
      · obtain rfl:j=m:=by omega
        rw [hs] at hs'
        cases hs'
        rw [List.getElem?_append_right (by omega),hC,Nat.sub_self,hP]
        rfl
    · rw [e2,hP,zem hs,List.length_append]) (by
    rintro st ⟨C,P,A,rfl,hC,hr,hP,hA,hPA⟩
    rw [List.take_length] at hP hPA
    refine .inr ⟨_,?_,C,P,A,rfl,hC,fun j s hs=>hr j s (List.getElem?_eq_some_iff.1 hs).1 hs,hP,by omega,hPA⟩
    unfold z2R
    rw [if_neg (by simp)]) (fuel:=fuel) (i:=0) (s:=(0,[],[],[],[],[⟨0,0⟩],[⟨1,0,0,[],List.replicate (1:Int).toNat ⟨0,0⟩⟩])) (Nat.zero_le _) (by omega) ⟨_,_,_,rfl,rfl,fun j s hj _=>absurd hj (Nat.not_lt_zero _),by simp [portK],by simp,⟨rfl,rfl⟩⟩
  exact⟨C,P,A,h1,h2,h3,h4,h5,h6⟩
theorem zj1 {fuel N:Nat}{g:D.Grid}(hf:18446744073709551616≤fuel) (hS:Small g) (hN:N≤500000):∃ V:List (List Int),iter (z2P fuel g) fuel ((N:Int),0,[])=some (.inl (((N+(varK g.Shards).length:Nat):Int),V))∧V.length=g.Shards.length∧∀ (j:Nat) s,g.Shards[j]? = some s→V[j]? = some ((List.range s.Vars.length).map fun i=>((N+(varK (g.Shards.take j)).length+i:Nat):Int)):=by
  have hn:=hS.n
  obtain⟨o,f1,V,rfl,f2,f3⟩:=zc (body:=z2P fuel g) (fun m st=>∃ V:List (List Int),st=(((N+(varK (g.Shards.take m)).length:Nat):Int),(m:Int),V)∧V.length=m∧∀ (j:Nat) s,j<m→g.Shards[j]? = some s→V[j]? = some ((List.range s.Vars.length).map fun i=>((N+(varK (g.Shards.take j)).length+i:Nat):Int))) g.Shards.length
    (fun o=>∃ V:List (List Int),o=.inl (((N+(varK g.Shards).length:Nat):Int),V)∧V.length=g.Shards.length∧∀ (j:Nat) s,g.Shards[j]? = some s→V[j]? = some ((List.range s.Vars.length).map fun i=>((N+(varK (g.Shards.take j)).length+i:Nat):Int))) (by
    rintro m st hm ⟨V,rfl,hV,hr⟩
    obtain⟨s,hs⟩:=z1r hm
    obtain⟨a1,a2,a3,a4,a5⟩:=hS.s s (List.mem_of_getElem? hs)
    have hvl:=zgH hS m (by omega)
    have e1:=zmP (z1:=((N+(varK (g.Shards.take m)).length:Nat):Int)) (z2:=V) (n:=N+(varK (g.Shards.take m)).length) hf hs a2 (by omega)
    refine .inl ⟨(((N+(varK (g.Shards.take m)).length+s.Vars.length:Nat):Int),w64 (m+1),V++[(List.range s.Vars.length).map fun i=>((N+(varK (g.Shards.take m)).length+i:Nat):Int)]),?_,V++[(List.range s.Vars.length).map fun i=>((N+(varK (g.Shards.take m)).length+i:Nat):Int)],?_,by simp [hV],?_⟩
    · unfold z2P
      dsimp only
      rw [if_pos (by simpa using hm),e1,Option.bind_some]
      rw [z6]
      unfold z7o
      dsimp only
      rw [if_pos (by simp;omega)]
    · rw [z7 (by omega) (by omega),zfj hs,List.length_append]
      unfold varR
      simp only [List.length_map,List.length_range,Nat.add_assoc]
      rfl
    · intro j s' hj hs'
      by_cases hjm:j<m
      · rw [List.getElem?_append_left (by omega)]
        exact hr j s' hjm hs'
      · obtain rfl:j=m:=by omega
        rw [hs] at hs'
        cases hs'
        rw [List.getElem?_append_right (by omega),hV,Nat.sub_self]
        rfl) (by
    rintro st ⟨V,rfl,hV,hr⟩
    rw [List.take_length]
    refine .inr ⟨_,?_,V,rfl,hV,fun j s hs=>hr j s (List.getElem?_eq_some_iff.1 hs).1 hs⟩
    unfold z2P
    rw [if_neg (by simp)]) (fuel:=fuel) (i:=0) (s:=((N:Int),0,[])) (Nat.zero_le _) (by omega) ⟨[],by simp [varK],rfl,fun j s hj _=>absurd hj (Nat.not_lt_zero _)⟩
  exact⟨V,f1,f2,f3⟩
theorem zgA {fuel:Nat}{g:D.Grid}{more:List D.ShardCell}(hf:18446744073709551616≤fuel) (hS:Small g) (hM:moreOk more):∃ L at_,z4R fuel g more=some (L,at_)∧Items g more L at_:=by
  have hn:=hS.n
  unfold z4R
  rw [if_pos (by simp)]
  obtain⟨C,P,A,h1,h2,h3,h4,h5,h6⟩:=zhe hf hS
  rw [h1,Option.bind_some]
  rw [z6]
  unfold z7r
  dsimp only
  have hpl:=zbh hS g.Shards.length (Nat.le_refl _)
  rw [List.take_length] at hpl
  obtain⟨P',A',e1,e2,e3,e4⟩:=znm (more:=more) (C:=C) (V:=[]) (E:=[]) (Q:=[]) (P:=P) (A:=A) hf hM.1 hM.2 (by omega) (by omega) h6
  rw [e1,Option.bind_some]
  rw [z6]
  unfold z7q
  dsimp only
  have hmore:=zbQ (t:=3) (m:=0) (cs:=more) (fun c hc=>(hM.2 c hc).2) more.length (Nat.le_refl _)
  rw [List.take_length] at hmore
  have hM1:=hM.1
  have hPl:P'.length=(portK g.Shards).length+(rowK 3 0 more).length:=by rw [e2,h4]
  obtain⟨V,f1,f2,f3⟩:=zj1 (N:=P'.length) hf hS (by omega)
  rw [f1,Option.bind_some]
  rw [z6]
  unfold z7p
  dsimp only
  have hvl:=zgH hS g.Shards.length (Nat.le_refl _)
  rw [List.take_length] at hvl
  rw [if_pos (by simp;omega)]
  refine⟨_,_,rfl,?_,?_,?_,?_,rfl,e4,?_⟩
  · dsimp only;rw [hPl,List.length_append]
  · intro m i s c hs hc
    have hi:=(List.getElem?_eq_some_iff.1 hc).1
    refine⟨_,h3 m s hs,?_⟩
    rw [zmJ hi,zbf (t:=1) (m:=0) (t':=1) (m':=m) i (by omega)]
  · intro m i s hs hi
    refine⟨_,f3 m s hs,?_⟩
    rw [List.getElem?_map,List.getElem?_range hi,hPl]
    rfl
  · dsimp only
    congr 1
    unfold allK
    rw [List.length_append,List.length_append,← hPl]
    omega
  · intro i c hc
    have hi:=(List.getElem?_eq_some_iff.1 hc).1
    rw [zmJ hi,h4,zbf (t:=1) (m:=0) (t':=3) (m':=0) i (by omega)]
end Go.E


namespace Go.E
open Go.RowKit Go.Proofs
set_option linter.unusedSimpArgs false
set_option linter.unusedVariables false

def aliveN (g:D.Grid) (a:D.Address):Bool:=decide (0≤a.Machine∧0≤a.Index) && (g.Shards[a.Machine.toNat]?).any fun s=>if a.Kind=1 then(s.Cells[a.Index.toNat]?).any fun c=>decide (c.Kind≠0) else if a.Kind=2 then(s.Vars[a.Index.toNat]?).any fun v=>v.Used else false
def keyA (a:D.Address):Key:=if a.Kind=1 then(1,a.Machine.toNat,a.Index.toNat,0) else(2,a.Machine.toNat,a.Index.toNat,0)

theorem zay {α:Type}{xs:List α}{i:Int}(h:(xs.length:Int)≤i):xs[i.toNat]? = none:=List.getElem?_eq_none (by omega)
theorem zer {α:Type}{xs:List α}{i:Int}(h0:0≤i) (h:i<xs.length):∃ x,xs[i.toNat]? = some x∧idx xs i=some x:=by
  obtain⟨x,hx⟩:=z1r (xs:=xs) (i:=i.toNat) (by omega)
  exact⟨x,hx,by unfold idx;rw [if_pos h0,hx]⟩
theorem zaE {fuel:Nat}{g:D.Grid}{a:D.Address}(hs:g.sz≤1048576):z2x fuel g a=some (aliveN g a):=by
  have hm:maxLen=9223372036854775807:=rfl
  obtain⟨z1,z2⟩:=zc2 hs
  unfold z2x aliveN
  rw [zaA (by omega),z7N,Option.bind_some]
  by_cases hM:0≤a.Machine∧a.Machine≤(g.Shards.length:Int) - 1
  · obtain⟨s,s1,s2⟩:=zer (xs:=g.Shards) hM.1 (by omega)
    obtain⟨y1,y2,y3,y4⟩:=zaw (z2 s (List.mem_of_getElem? s1))
    rw [decide_eq_true hM,if_neg (by simp),s2,Option.bind_some,s1,Option.any_some]
    by_cases k1:a.Kind=1
    · rw [if_pos (by simp [k1]),if_pos k1,zaA (by omega),z7N,Option.bind_some]
      by_cases hi:0≤a.Index∧a.Index≤(s.Cells.length:Int) - 1
      · obtain⟨c,c1,c2⟩:=zer (xs:=s.Cells) hi.1 (by omega)
        rw [if_pos (decide_eq_true hi),c2,Option.bind_some,c1,Option.any_some,decide_eq_true ⟨hM.1,hi.1⟩]
        by_cases h:c.Kind=0<;>simp [h]
      · rw [if_neg (by simpa using hi)]
        by_cases h0:0≤a.Index
        · rw [zay (by omega)];simp
        · rw [decide_eq_false (fun h=>h0 h.2)];rfl
    · rw [if_neg (by simpa using k1),if_neg k1]
      by_cases k2:a.Kind=2
      · rw [if_pos (by simp [k2]),if_pos k2,zaA (by omega),z7N,Option.bind_some]
        by_cases hi:0≤a.Index∧a.Index≤(s.Vars.length:Int) - 1
        · obtain⟨c,c1,c2⟩:=zer (xs:=s.Vars) hi.1 (by omega)
          rw [if_pos (decide_eq_true hi),c2,Option.bind_some,c1,Option.any_some,decide_eq_true ⟨hM.1,hi.1⟩]
          rfl
        · rw [if_neg (by simpa using hi)]
          by_cases h0:0≤a.Index
          · rw [zay (by omega)];simp
          · rw [decide_eq_false (fun h=>h0 h.2)];rfl
      · rw [if_neg (by simpa using k2),if_neg k2];simp
  · rw [decide_eq_false hM,if_pos (by simp)]
    by_cases h0:0≤a.Machine
    · rw [zay (by omega)];simp
    · rw [decide_eq_false (fun h=>h0 h.1)];rfl
theorem ziJ {fuel:Nat}{g:D.Grid}{a:D.Address}:z2q fuel g a=some (aliveN g a):=by
  unfold z2q z27 aliveN
  by_cases h1:a.Machine<0
  · rw [if_pos (decide_eq_true h1),if_pos rfl,decide_eq_false (fun h=>by omega)];rfl
  · rw [if_neg (by simpa using h1)]
    by_cases h2:a.Machine≥(g.Shards.length:Int)
    · rw [if_pos (decide_eq_true h2),if_pos rfl,zay h2];simp
    · rw [if_neg (by simpa using h2)]
      obtain⟨s,s1,s2⟩:=zer (xs:=g.Shards) (i:=a.Machine) (by omega) (by omega)
      rw [s1,Option.any_some]
      by_cases h3:a.Index<0
      · rw [if_pos (decide_eq_true h3),decide_eq_false (fun h=>by omega)];rfl
      · rw [if_neg (by simpa using h3),s2,Option.bind_some,decide_eq_true (p:=0≤a.Machine∧0≤a.Index) ⟨by omega,by omega⟩,Bool.true_and]
        by_cases k1:a.Kind=1
        · rw [if_pos (by simp [k1]),if_pos k1]
          by_cases hi:a.Index<(s.Cells.length:Int)
          · obtain⟨c,c1,c2⟩:=zer (xs:=s.Cells) (i:=a.Index) (by omega) hi
            rw [if_pos (decide_eq_true hi),c2,Option.bind_some,c1,Option.any_some]
            by_cases h:c.Kind=0<;>simp [h]
          · rw [if_neg (by simpa using hi),zay (by omega)];rfl
        · rw [if_neg (by simpa using k1),if_neg k1]
          by_cases k2:a.Kind=2
          · rw [if_pos (by simp [k2]),if_pos k2]
            by_cases hi:a.Index<(s.Vars.length:Int)
            · obtain⟨c,c1,c2⟩:=zer (xs:=s.Vars) (i:=a.Index) (by omega) hi
              rw [if_pos (decide_eq_true hi),c2,Option.bind_some,c1,Option.any_some]
            · rw [if_neg (by simpa using hi),zay (by omega)];rfl
          · rw [if_neg (by simpa using k2),if_neg k2]

theorem z9N {g:D.Grid}{a:D.Address}(h:aliveN g a=true):0≤a.Machine∧0≤a.Index∧∃ s,g.Shards[a.Machine.toNat]? = some s∧
    ((a.Kind=1∧∃ c,s.Cells[a.Index.toNat]? = some c∧c.Kind≠0)∨(a.Kind=2∧∃ v,s.Vars[a.Index.toNat]? = some v∧v.Used=true)):=by
  unfold aliveN at h
  rw [Bool.and_eq_true,decide_eq_true_eq] at h
  obtain⟨⟨h1,h2⟩,h3⟩:=h
  refine⟨h1,h2,?_⟩
  cases hs:g.Shards[a.Machine.toNat]? with
  | none=>rw [hs] at h3;cases h3
  | some s=>
    rw [hs,Option.any_some] at h3
    refine⟨s,rfl,?_⟩
    by_cases k1:a.Kind=1
    · rw [if_pos k1] at h3
      cases hc:s.Cells[a.Index.toNat]? with
      | none=>rw [hc] at h3;cases h3
      | some c=>rw [hc,Option.any_some,decide_eq_true_eq] at h3;exact .inl ⟨k1,c,rfl,h3⟩
    · rw [if_neg k1] at h3
      by_cases k2:a.Kind=2
      · rw [if_pos k2] at h3
        cases hc:s.Vars[a.Index.toNat]? with
        | none=>rw [hc] at h3;cases h3
        | some c=>rw [hc,Option.any_some] at h3;exact .inr ⟨k2,c,rfl,h3⟩
      · rw [if_neg k2] at h3;cases h3
theorem zcG {fuel:Nat}{g:D.Grid}{more:List D.ShardCell}{L L':D.l27Links}{at_:List Int}{a:D.Address}(hI:Items g more L at_) (hc:L'.cells=L.cells) (hv:L'.vars=L.vars) (h:aliveN g a=true):
    ∃ x:Nat,zP fuel L' a=some (x:Int)∧(allK g more)[x]? = some (keyA a):=by
  obtain⟨h1,h2,s,hs,h3⟩:=z9N h
  have em:a.Machine=((a.Machine.toNat:Nat):Int):=by omega
  have ei:a.Index=((a.Index.toNat:Nat):Int):=by omega
  unfold zP keyA
  rcases h3 with⟨k1,c,c1,c2⟩ | ⟨k2,v,v1,v2⟩
  · rw [if_pos (by simp [k1]),if_pos k1,hc]
    obtain⟨row,r1,r2⟩:=hI.cell _ _ s c hs c1
    refine⟨_,?_,zi3 (k:=0) hs c1 c2 (Nat.zero_le _)⟩
    rw [em,z8 r1,Option.bind_some,ei,z8 r2]
    rfl
  · have hi:=(List.getElem?_eq_some_iff.1 v1).1
    rw [if_neg (by simp [k2]),if_neg (by omega),hv]
    obtain⟨row,r1,r2⟩:=hI.var _ _ s hs hi
    refine⟨_,?_,zmL hs hi⟩
    rw [em,z8 r1,Option.bind_some,ei,z8 r2]
    rfl


def EndsOk (ks0:List Key) (E:List (List Int)) (ks:List Key):Prop:=E.length=ks0.length∧∀ (x:Nat) key,ks0[x]? = some key→∃ e,E[x]? = some e∧e.length=ks.count key
theorem zcB {α:Type}{xs:List α}(h:xs.Nodup){i j:Nat}{a:α}(hi:xs[i]? = some a) (hj:xs[j]? = some a):i=j:=by
  obtain⟨h1,h2⟩:=List.getElem?_eq_some_iff.1 hi
  obtain⟨h3,h4⟩:=List.getElem?_eq_some_iff.1 hj
  have hp:=List.pairwise_iff_getElem.1 h
  rcases Nat.lt_trichotomy i j with hl | hl | hl
  · exact absurd (h2.trans h4.symm) (hp i j h1 h3 hl)
  · exact hl
  · exact absurd (h4.trans h2.symm) (hp j i h3 h1 hl)
theorem zgq {ks0:List Key}(hn:ks0.Nodup){E:List (List Int)}{ks:List Key}(h:EndsOk ks0 E ks){x:Nat}{k:Key}(hx:ks0[x]? = some k) (n:Int):
    ∃ e,E[x]? = some e∧e.length≤ks.length∧EndsOk ks0 (E.set x (e++[n])) (ks++[k]):=by
  obtain⟨hl,he⟩:=h
  obtain⟨e,e1,e2⟩:=he x k hx
  refine⟨e,e1,by rw [e2];exact List.count_le_length,by simp [hl],fun y key hy=>?_⟩
  obtain⟨f,f1,f2⟩:=he y key hy
  by_cases hxy:x=y
  · subst hxy
    rw [hx] at hy
    cases hy
    have hlt:=(List.getElem?_eq_some_iff.1 e1).1
    exact⟨_,List.getElem?_set_self hlt,by simp [e2]⟩
  · refine⟨f,by rw [List.getElem?_set_ne hxy];exact f1,?_⟩
    have hk:k≠key:=fun e=>hxy (zcB hn hx (by rw [e];exact hy))
    rw [f2,List.count_append,List.count_singleton]
    simp [hk]

def occ {α:Type}[DecidableEq α] (ks:List α) (k:α):List Nat:=(List.range ks.length).filter fun h=>decide (ks[h]? = some k)
theorem zeN {α:Type}[DecidableEq α] {ks:List α}{a k:α}:occ (ks++[a]) k=if a=k then occ ks k++[ks.length] else occ ks k:=by
  unfold occ
  rw [List.length_append,List.length_singleton,List.range_succ,List.filter_append]
  have e1:(List.range ks.length).filter (fun h=>decide ((ks++[a])[h]? = some k))=(List.range ks.length).filter (fun h=>decide (ks[h]? = some k)):=by
    apply List.filter_congr
    intro h hh
    rw [List.getElem?_append_left (List.mem_range.1 hh)]
  have e2:(ks++[a])[ks.length]? = some a:=by rw [List.getElem?_append_right (Nat.le_refl _),Nat.sub_self];rfl
  rw [e1,List.filter_cons,e2,List.filter_nil]
  by_cases h:a=k
  · subst h;simp
  · simp [h]
def halfs {α:Type}[DecidableEq α] (ks:List α) (k:α):List Int:=(occ ks k).map fun h=>((h / 2:Nat):Int)
def EndsX (ks0:List Key) (E:List (List Int)) (ks:List Key):Prop:=∀ (x:Nat) key,ks0[x]? = some key→E[x]? = some (halfs ks key)
theorem zet {ks0:List Key}(hn:ks0.Nodup){E:List (List Int)}{ks:List Key}(h:EndsX ks0 E ks){x:Nat}{k:Key}(hx:ks0[x]? = some k){e:List Int}(he:E[x]? = some e){n:Int}(hnn:n=((ks.length / 2:Nat):Int)):
    EndsX ks0 (E.set x (e++[n])) (ks++[k]):=by
  intro y key hy
  unfold halfs
  rw [zeN]
  by_cases hxy:x=y
  · subst hxy
    rw [hx] at hy
    cases hy
    have h2:=h x k hx
    rw [he] at h2
    cases h2
    have hlt:=(List.getElem?_eq_some_iff.1 he).1
    rw [List.getElem?_set_self hlt,if_pos rfl,List.map_append,hnn]
    rfl
  · have hk:k≠key:=fun e=>hxy (zcB hn hx (by rw [e];exact hy))
    rw [List.getElem?_set_ne hxy,if_neg hk]
    exact h y key hy

def PairsX (ks0:List Key) (Q:List (List Int)) (ks:List Key):Prop:=ks.length=2*Q.length∧∀ i:Nat,i<Q.length→∃ (x y:Nat) (a b:Key),Q[i]? = some [(x:Int),(y:Int)]∧ks0[x]? = some a∧ks0[y]? = some b∧ks[2*i]? = some a∧ks[2*i+1]? = some b
theorem zh3 {ks0:List Key}{Q:List (List Int)}{ks:List Key}(h:PairsX ks0 Q ks){x y:Nat}{a b:Key}(hx:ks0[x]? = some a) (hy:ks0[y]? = some b):PairsX ks0 (Q++[[(x:Int),(y:Int)]]) (ks++[a,b]):=by
  obtain⟨h1,h2⟩:=h
  refine⟨by simp only [List.length_append,List.length_cons,List.length_nil];omega,fun i hi=>?_⟩
  rw [List.length_append,List.length_singleton] at hi
  by_cases hiQ:i<Q.length
  · obtain⟨x',y',a',b',e1,e2,e3,e4,e5⟩:=h2 i hiQ
    refine⟨x',y',a',b',by rw [List.getElem?_append_left hiQ];exact e1,e2,e3,?_,?_⟩
    · rw [List.getElem?_append_left (by omega)];exact e4
    · rw [List.getElem?_append_left (by omega)];exact e5
  · obtain rfl:i=Q.length:=by omega
    refine⟨x,y,a,b,by rw [List.getElem?_append_right (Nat.le_refl _),Nat.sub_self];rfl,hx,hy,?_,?_⟩
    · rw [List.getElem?_append_right (by omega),h1,Nat.sub_self];rfl
    · rw [List.getElem?_append_right (by omega),h1,show 2*Q.length+1 - 2*Q.length=1 by omega];rfl

structure Run (g:D.Grid) (more:List D.ShardCell) (L L':D.l27Links) (ks:List Key):Prop where
  ports:L'.ports=L.ports
  cells:L'.cells=L.cells
  vars:L'.vars=L.vars
  ends:EndsOk (allK g more) L'.ends ks
  pairs:L'.pairs.length≤ks.length
  agents:L'.agents=L.agents
  endsX:EndsX (allK g more) L'.ends ks
  pairsX:PairsX (allK g more) L'.pairs ks
theorem zd2 {fuel:Nat}{g:D.Grid}{more:List D.ShardCell}{L L':D.l27Links}{ks:List Key}{x y:Nat}{k1 k2:Key}(hR:Run g more L L' ks) (hx:(allK g more)[x]? = some k1) (hy:(allK g more)[y]? = some k2) (hb:ks.length≤1000000):
    ∃ L'',zD fuel L' (x:Int) (y:Int)=some L''∧Run g more L L'' (ks++[k1,k2]):=by
  obtain⟨e,e1,e2,e3⟩:=zgq z8B hR.ends hx (L'.pairs.length:Int)
  obtain⟨f,f1,f2,f3⟩:=zgq z8B e3 hy (L'.pairs.length:Int)
  have hp:=hR.pairs
  rw [List.length_append,List.length_singleton] at f2
  unfold zD
  rw [if_pos (by simp only [List.length_singleton,decide_eq_true_eq];omega),z8 e1,Option.bind_some,if_pos (by simp only [List.length_singleton,decide_eq_true_eq];omega)]
  unfold z2M
  rw [Int.toNat_natCast,z8 f1,Option.bind_some,if_pos (by simp only [List.length_singleton,decide_eq_true_eq];omega),Int.toNat_natCast]
  have hpx:=hR.pairsX.1
  have x1:=zet z8B hR.endsX hx e1 (n:=(L'.pairs.length:Int)) (by omega)
  have x2:=zet z8B x1 hy f1 (n:=(L'.pairs.length:Int)) (by rw [List.length_append,List.length_singleton];omega)
  rw [List.append_assoc] at x2
  refine⟨_,rfl,hR.ports,hR.cells,hR.vars,?_,?_,hR.agents,x2,zh3 hR.pairsX hx hy⟩
  · rw [List.append_assoc] at f3
    exact f3
  · simp only [List.length_append,List.length_cons,List.length_nil]
    omega


theorem tryLoop {α S τ ρ:Type}{xs:List α}{body:S→Option (Rd S τ ρ)}(J:Nat→S→Prop) (p:Nat→α→Bool) (QT:τ→Prop) (QR:ρ→Prop){s0:S}{fuel:Nat}(hl:xs.length≤1048576) (hf:18446744073709551616≤fuel)
    (step:∀ (i:Nat) x s,xs[i]? = some x→J i s→(p i x=true→∃ s',body s=some (.next s')∧J (i+1) s')∧(p i x=false→∃ r,body s=some (.ret r)∧QR r))
    (last:∀ s,J xs.length s→∃ t,body s=some (.brk t)∧QT t) (h0:J 0 s0):
    ((xs.zipIdx.all fun y=>p y.2 y.1)=true∧∃ t,iter body fuel s0=some (.inl t)∧QT t)∨((xs.zipIdx.all fun y=>p y.2 y.1)=false∧∃ r,iter body fuel s0=some (.inr r)∧QR r):=by
  obtain⟨o,h1,h2⟩:=zc (body:=body) (fun i s=>J i s∧∀ (j:Nat) x,j<i→xs[j]? = some x→p j x=true) xs.length (fun o=>((xs.zipIdx.all fun y=>p y.2 y.1)=true∧∃ t,o=.inl t∧QT t)∨((xs.zipIdx.all fun y=>p y.2 y.1)=false∧∃ r,o=.inr r∧QR r)) (by
    rintro i s hi ⟨hJ,hp⟩
    obtain⟨x,hx⟩:=z1r hi
    obtain⟨g1,g2⟩:=step i x s hx hJ
    cases hpx:p i x with
    | true=>
      obtain⟨s',e1,e2⟩:=g1 hpx
      refine .inl ⟨s',e1,e2,fun j y hj hy=>?_⟩
      by_cases hji:j<i
      · exact hp j y hji hy
      · obtain rfl:j=i:=by omega
        rw [hx] at hy;cases hy;exact hpx
    | false=>
      obtain⟨r,e1,e2⟩:=g2 hpx
      refine .inr (.inl ⟨r,e1,.inr ⟨?_,r,rfl,e2⟩⟩)
      cases hz:(xs.zipIdx.all fun y=>p y.2 y.1) with
      | false=>rfl
      | true=>
        have:=z74.1 hz i x hx
        rw [Nat.zero_add,hpx] at this
        cases this) (by
    rintro s ⟨hJ,hp⟩
    obtain⟨t,e1,e2⟩:=last s hJ
    refine .inr ⟨t,e1,.inl ⟨?_,t,rfl,e2⟩⟩
    refine z74.2 fun i x hx=>?_
    rw [Nat.zero_add]
    exact hp i x (List.getElem?_eq_some_iff.1 hx).1 hx) (fuel:=fuel) (i:=0) (s:=s0) (Nat.zero_le _) (by omega) ⟨h0,fun j x hj _=>absurd hj (Nat.not_lt_zero _)⟩
  rw [h1]
  rcases h2 with⟨a,t,rfl,b⟩ | ⟨a,r,rfl,b⟩
  · exact .inl ⟨a,t,rfl,b⟩
  · exact .inr ⟨a,r,rfl,b⟩

def fl {α β:Type}(f:Nat→α→List β) (xs:List α) (i:Nat):List β:=(xs.take i).zipIdx.flatMap fun x=>f x.2 x.1
theorem z8o {α β:Type}{f:Nat→α→List β}{xs:List α}:fl f xs 0=[]:=by simp [fl]
theorem z81 {α β:Type}{f:Nat→α→List β}{xs:List α}{i:Nat}{x:α}(h:xs[i]? = some x):fl f xs (i+1)=fl f xs i++f i x:=by
  unfold fl
  rw [zaZ h,List.flatMap_append]
  simp
theorem z8i {α β:Type}{f:Nat→α→List β}{xs:List α}{b:Nat}(h:∀ i x,xs[i]? = some x→(f i x).length≤b):∀ i,i≤xs.length→(fl f xs i).length≤b*i
  | 0,_=>by simp [z8o]
  | i+1,hi=>by
    obtain⟨x,hx⟩:=z1r (xs:=xs) (i:=i) (by omega)
    rw [z81 hx,List.length_append,Nat.mul_succ]
    have:=z8i h i (by omega)
    have:=h i x hx
    omega
def auxK (t m i k:Nat) (a:D.Address):List Key:=[(t,m,i,k+1),keyA a]
def redK (_:Nat) (r:D.ShardRedex):List Key:=[keyA r.A,keyA r.B]
def fullK (m i:Nat) (v:D.ShardVar):List Key:=if v.Full=true then [(2,m,i,0),keyA v.Held] else []
def cellS (t m i:Nat) (c:D.ShardCell):List Key:=fl (auxK t m i) c.Aux c.Aux.length
def shardS (m:Nat) (s:D.Shard):List Key:=fl (cellS 1 m) s.Cells s.Cells.length++(fl redK s.Redexes s.Redexes.length++fl (fullK m) s.Vars s.Vars.length)
def rootS (g:D.Grid):List Key:=[(0,0,0,0),keyA g.Root]
def gridS (g:D.Grid):List Key:=rootS g++fl shardS g.Shards g.Shards.length
def fullA (g:D.Grid) (m i:Nat) (v:D.ShardVar):Bool:=!v.Full || (aliveN g ⟨m,2,i⟩ && aliveN g v.Held)
def shardA (g:D.Grid) (m:Nat) (s:D.Shard):Bool:=(s.Cells.all fun c=>c.Aux.all (aliveN g)) && ((s.Redexes.all fun r=>aliveN g r.A && aliveN g r.B) && s.Vars.zipIdx.all fun x=>fullA g m x.2 x.1)
def gridA (g:D.Grid):Bool:=aliveN g g.Root && g.Shards.zipIdx.all fun x=>shardA g x.2 x.1
theorem zo2 {t m i:Nat}{c:D.ShardCell}(h:c.Aux.length≤3):(cellS t m i c).length≤6:=by
  have:=z8i (f:=auxK t m i) (xs:=c.Aux) (b:=2) (fun _ _ _=>by simp [auxK]) c.Aux.length (Nat.le_refl _)
  unfold cellS
  omega
theorem zoy {fuel:Nat}{g:D.Grid}{more:List D.ShardCell}{L L':D.l27Links}{at_:List Int}{ks:List Key}{c:D.ShardCell}{b t m i:Nat}(hf:18446744073709551616≤fuel) (hs:g.sz≤1048576) (hI:Items g more L at_) (hR:Run g more L L' ks) (hc:c.Aux.length≤3) (hks:ks.length≤900000)
    (hb:b≤1000000) (hk:∀ k,k<c.Aux.length→(allK g more)[b+k+1]? = some (t,m,i,k+1)):
    ∃ L'',z1c fuel L' g c (b:Int)=some (c.Aux.all (aliveN g),L'')∧(c.Aux.all (aliveN g)=true→Run g more L L'' (ks++cellS t m i c)):=by
  unfold z1c
  have h:=tryLoop (xs:=c.Aux) (body:=z1t fuel g c (b:Int)) (fuel:=fuel)
    (fun k st=>∃ M:D.l27Links,st=((k:Int),M.agents,M.ports,M.cells,M.vars,M.ends,M.pairs)∧Run g more L M (ks++fl (auxK t m i) c.Aux k))
    (fun _ a=>aliveN g a)
    (fun tt=>∃ M:D.l27Links,tt=(M.agents,M.ports,M.cells,M.vars,M.ends,M.pairs)∧Run g more L M (ks++cellS t m i c))
    (fun r=>∃ M:D.l27Links,r=(false,M)) (s0:=(0,L'.agents,L'.ports,L'.cells,L'.vars,L'.ends,L'.pairs)) (by omega) hf (by
    rintro k a _ ha ⟨M,rfl,hM⟩
    have hkl:=(List.getElem?_eq_some_iff.1 ha).1
    have hfl:=z8i (f:=auxK t m i) (xs:=c.Aux) (b:=2) (fun _ _ _=>by simp [auxK]) k (by omega)
    unfold z1t
    dsimp only
    rw [if_pos (by simpa using hkl),z8 ha,Option.bind_some,zaE hs,Option.bind_some]
    constructor
    · intro hal
      rw [hal]
      obtain⟨y,y1,y2⟩:=zcG (fuel:=fuel) (L':=M) hI hM.cells hM.vars hal
      obtain⟨M',e1,e2⟩:=zd2 (fuel:=fuel) hM (hk k hkl) y2 (by rw [List.length_append];omega)
      refine⟨(w64 (k+1),M'.agents,M'.ports,M'.cells,M'.vars,M'.ends,M'.pairs),?_,M',?_,?_⟩
      · rw [if_neg (by simp),Option.bind_some]
        have y1':zP fuel ⟨M.agents,M.ports,M.cells,M.vars,M.ends,M.pairs⟩ a=some (y:Int):=y1
        have e1':zD fuel ⟨M.agents,M.ports,M.cells,M.vars,M.ends,M.pairs⟩ ((b+k+1:Nat):Int) (y:Int)=some M':=e1
        rw [y1',Option.bind_some,z7 (n:=(b:Int)+k) (by omega) (by omega),z7 (by omega) (by omega),show(b:Int)+(k:Int)+1=((b+k+1:Nat):Int) by omega,e1',Option.bind_some]
      · rw [z7 (by omega) (by omega)];rfl
      · rw [z81 ha,← List.append_assoc];exact e2
    · intro hal
      rw [hal]
      exact⟨_,rfl,M,rfl⟩) (by
    rintro _ ⟨M,rfl,hM⟩
    refine⟨_,?_,M,rfl,hM⟩
    unfold z1t
    rw [if_neg (by simp)]) ⟨L',rfl,by rw [z8o,List.append_nil];exact hR⟩
  rw [z9o (p:=aliveN g)] at h
  rcases h with⟨h1,tt,h2,M,rfl,h3⟩ | ⟨h1,r,h2,M,rfl⟩
  · rw [h2,Option.bind_some,z6,h1]
    exact⟨M,rfl,fun _=>h3⟩
  · rw [h2,Option.bind_some,h1]
    exact⟨M,rfl,fun h=>by cases h⟩
theorem zhx {fuel:Nat}{g:D.Grid}{more:List D.ShardCell}{L L':D.l27Links}{at_:List Int}{ks:List Key}{a b:D.Address}(hs:g.sz≤1048576) (hI:Items g more L at_) (hR:Run g more L L' ks) (hks:ks.length≤900000):
    ∃ L'',zu fuel L' g a b=some (aliveN g a && aliveN g b,L'')∧((aliveN g a && aliveN g b)=true→Run g more L L'' (ks++[keyA a,keyA b])):=by
  unfold zu
  rw [zaE hs,zaE hs,Option.bind_some,Option.bind_some]
  unfold zY
  cases ha:aliveN g a with
  | false=>exact⟨_,rfl,fun h=>by cases h⟩
  | true=>
    cases hb:aliveN g b with
    | false=>exact⟨_,rfl,fun h=>by cases h⟩
    | true=>
      obtain⟨x,x1,x2⟩:=zcG (fuel:=fuel) (L':=L') hI hR.cells hR.vars ha
      obtain⟨y,y1,y2⟩:=zcG (fuel:=fuel) (L':=L') hI hR.cells hR.vars hb
      obtain⟨M,e1,e2⟩:=zd2 (fuel:=fuel) hR x2 y2 (by omega)
      rw [if_neg (by simp),if_neg (by simp),x1,Option.bind_some,y1,Option.bind_some,e1,Option.bind_some]
      exact⟨M,rfl,fun _=>e2⟩
end Go.E


namespace Go.E
open Go.RowKit Go.Proofs
set_option linter.unusedSimpArgs false
set_option linter.unusedVariables false

theorem zeO {α:Type}[DecidableEq α] {ks:List α}{k:α}{h:Nat}:h∈occ ks k↔ks[h]? = some k:=by
  unfold occ
  rw [List.mem_filter,List.mem_range,decide_eq_true_eq]
  exact⟨fun h=>h.2,fun h=>⟨(List.getElem?_eq_some_iff.1 h).1,h⟩⟩
theorem zjC {α:Type}[DecidableEq α] {ks:List α}{k:α}:(occ ks k).Nodup:=List.nodup_range.filter _
theorem zjE {α:Type}[DecidableEq α] [BEq α] [LawfulBEq α] {k:α}{ks:List α}:(occ ks k).length=ks.count k:=by
  have key:∀ n,n≤ks.length→(occ (ks.take n) k).length=(ks.take n).count k:=by
    intro n
    induction n with
    | zero=>intro _;rfl
    | succ n ih=>
      intro hn
      obtain⟨x,hx⟩:=z1r (xs:=ks) (i:=n) (by omega)
      have ih:=ih (by omega)
      rw [List.take_add_one,hx]
      show(occ (ks.take n++[x]) k).length=(ks.take n++[x]).count k
      rw [zeN,List.count_append,List.count_singleton,← ih]
      by_cases h:x=k
      · subst h;simp
      · rw [if_neg h];simp [h]
  have:=key ks.length (Nat.le_refl _)
  rwa [List.take_length] at this
theorem zjD {α β:Type}[DecidableEq α] [DecidableEq β] {f:α→β}{ks:List α}{k:α}(hi:∀ x∈ks,f x=f k→x=k):occ (ks.map f) (f k)=occ ks k:=by
  unfold occ
  rw [List.length_map]
  apply List.filter_congr
  intro h hh
  obtain⟨x,hx⟩:=z1r (List.mem_range.1 hh)
  rw [List.getElem?_map,hx,Option.map_some]
  by_cases e:x=k
  · subst e;simp
  · have:f x≠f k:=fun e2=>e (hi x (List.mem_of_getElem? hx) e2)
    simp [e,this]

def par (h:Nat):Nat:=if h % 2=0 then h+1 else h - 1
theorem z9k {h:Nat}:par (par h)=h:=by
  unfold par
  by_cases h0:h % 2=0
  · rw [if_pos h0,if_neg (by omega)];omega
  · rw [if_neg h0,if_pos (by omega)];omega
theorem zhw {h:Nat}:par h / 2=h / 2:=by
  unfold par
  split<;>omega
theorem zbj {n h:Nat}(hn:n % 2=0) (h1:h<n):par h<n:=by
  unfold par
  split<;>omega
theorem zn8 {a b:Nat}(h:a / 2=b / 2) (hne:a≠b):a=par b:=by
  unfold par
  split<;>omega

section
variable {S:List Key}
def keyAt (S:List Key) (h:Nat):Key:=S.getD h (0,0,0,0)
theorem z9y {h:Nat}(hl:h<S.length):S[h]? = some (keyAt S h):=by
  unfold keyAt
  rw [List.getD_eq_getElem?_getD,List.getElem?_eq_getElem hl];rfl
theorem z9a {h:Nat}{k:Key}(hk:S[h]? = some k):keyAt S h=k:=by
  unfold keyAt
  rw [List.getD_eq_getElem?_getD,hk];rfl
structure Chain (S:List Key):Prop where
  even:S.length % 2=0
  one:∀ k∈S,k.1≠2→S.count k=1
  two:∀ k∈S,k.1=2→S.count k=2
def oth (S:List Key) (h:Nat):Nat:=match occ S (keyAt S h) with
  | [a,b]=>if h=a then b else a
  | _=>h
theorem Chain.pair (hC:Chain S){h:Nat}(hl:h<S.length) (hk:(keyAt S h).1=2):∃ a b,occ S (keyAt S h)=[a,b]∧a≠b∧(h=a∨h=b):=by
  have hm:=z9y hl
  have hc:=hC.two _ (List.mem_of_getElem? hm) hk
  rw [← zjE] at hc
  have hin:=zeO.2 hm
  have hnd:=zjC (ks:=S) (k:=keyAt S h)
  generalize occ S (keyAt S h)=l at hc hin hnd ⊢
  match l,hc,hin,hnd with
  | [a,b],_,hin,hnd=>
    refine⟨a,b,rfl,?_,by simpa using hin⟩
    rw [List.nodup_cons] at hnd
    intro e
    exact hnd.1 (by simp [e])
theorem Chain.single (hC:Chain S){h:Nat}(hl:h<S.length) (hk:(keyAt S h).1≠2):occ S (keyAt S h)=[h]:=by
  have hm:=z9y hl
  have hc:=hC.one _ (List.mem_of_getElem? hm) hk
  rw [← zjE] at hc
  have hin:=zeO.2 hm
  generalize occ S (keyAt S h)=l at hc hin ⊢
  match l,hc,hin with
  | [a],_,hin=>simp at hin;rw [hin]

theorem z9u (hC:Chain S){h:Nat}(hl:h<S.length) (hk:(keyAt S h).1=2):oth S h<S.length∧oth S h≠h∧keyAt S (oth S h)=keyAt S h∧oth S (oth S h)=h:=by
  obtain⟨a,b,e,hne,hab⟩:=hC.pair hl hk
  have ha:S[a]? = some (keyAt S h):=zeO.1 (by rw [e];simp)
  have hb:S[b]? = some (keyAt S h):=zeO.1 (by rw [e];simp)
  have ho:oth S h=if h=a then b else a:=by unfold oth;rw [e]
  rcases hab with rfl | rfl
  · rw [if_pos rfl] at ho
    have o:=z9a hb
    refine⟨by rw [ho];exact(List.getElem?_eq_some_iff.1 hb).1,by rw [ho];exact Ne.symm hne,by rw [ho];exact o,?_⟩
    rw [ho]
    unfold oth
    rw [o,e]
    show(if b=h then b else h)=h
    rw [if_neg (Ne.symm hne)]
  · rw [if_neg (Ne.symm hne)] at ho
    have o:=z9a ha
    refine⟨by rw [ho];exact(List.getElem?_eq_some_iff.1 ha).1,by rw [ho];exact hne,by rw [ho];exact o,?_⟩
    rw [ho]
    unfold oth
    rw [o,e]
    show(if a=a then h else a)=h
    rw [if_pos rfl]

inductive Path (S:List Key):Nat→Nat→Nat→Prop
  | stop {h:Nat}:(keyAt S (par h)).1≠2→Path S 0 h (par h)
  | more {n h g:Nat}:(keyAt S (par h)).1=2→oth S (par h)≠h→Path S n (oth S (par h)) g→Path S (n+1) h g
theorem Path.det {n m h g g':Nat}(h1:Path S n h g) (h2:Path S m h g'):g=g':=by
  induction h1 generalizing m with
  | stop hs=>cases h2 with
    | stop _=>rfl
    | more hm _ _=>exact absurd hm hs
  | more hm hne _ ih=>cases h2 with
    | stop hs=>exact absurd hm hs
    | more _ _ hp=>exact ih hp
theorem Path.lt (hC:Chain S){n h g:Nat}(h1:Path S n h g) (hl:h<S.length):g<S.length∧(keyAt S g).1≠2:=by
  induction h1 with
  | stop hs=>exact⟨zbj hC.even hl,hs⟩
  | more hm hne _ ih=>exact ih (z9u hC (zbj hC.even hl) hm).1
theorem zjx (hC:Chain S){h0:Nat}(h0t:(keyAt S h0).1≠2):∀ (f:Nat) (rest:List Nat) (h:Nat),S.length≤f+rest.length→(h::rest).Nodup→(∀ x∈h::rest,x<S.length)→
    (∀ x∈h::rest,x=h0∨∃ y∈rest,(keyAt S (par y)).1=2∧oth S (par y)=x)→∃ n g,n+rest.length<S.length∧Path S n h g
  | 0,rest,h,hf,hn,hr,_=>by
    have:=hn.length_le_of_subset (l₂:=List.range S.length) (fun x hx=>List.mem_range.2 (hr x hx))
    simp at this
    omega
  | f+1,rest,h,hf,hn,hr,hp=>by
    have hl:=hr h List.mem_cons_self
    have hle:=hn.length_le_of_subset (l₂:=List.range S.length) (fun x hx=>List.mem_range.2 (hr x hx))
    simp at hle
    by_cases hk:(keyAt S (par h)).1=2
    · obtain⟨o1,o2,o3,o4⟩:=z9u hC (zbj hC.even hl) hk
      have hnew:oth S (par h) ∉ h::rest:=by
        intro hm
        rcases hp _ hm with e | ⟨y,hy,hyk,hye⟩
        · rw [e] at o3
          rw [o3] at h0t
          exact h0t hk
        · have hyl:=hr y (List.mem_cons_of_mem _ hy)
          have q:=z9u hC (zbj hC.even hyl) hyk
          have:par y=par h:=by rw [← q.2.2.2,hye,o4]
          have:y=h:=by rw [← z9k (h:=y),this,z9k]
          subst this
          exact(List.nodup_cons.1 hn).1 hy
      obtain⟨n,g,h1,h2⟩:=zjx hC h0t f (h::rest) (oth S (par h)) (by simp only [List.length_cons];omega) (List.nodup_cons.2 ⟨hnew,hn⟩) (fun x hx=>by
        rcases List.mem_cons.1 hx with rfl | hx
        · exact o1
        · exact hr x hx) (fun x hx=>by
        rcases List.mem_cons.1 hx with rfl | hx
        · exact .inr ⟨h,List.mem_cons_self,hk,rfl⟩
        · rcases hp x hx with e | ⟨y,hy,hyk⟩
          · exact .inl e
          · exact .inr ⟨y,List.mem_cons_of_mem _ hy,hyk⟩)
      simp only [List.length_cons] at h1
      exact⟨n+1,g,by omega,.more hk (fun e=>hnew (by rw [e];exact List.mem_cons_self)) h2⟩
    · exact⟨0,par h,by omega,.stop hk⟩

theorem zn7 (hC:Chain S){h:Nat}(hl:h<S.length) (hk:(keyAt S h).1≠2):∃ n g,n<S.length∧Path S n h g:=by
  obtain⟨n,g,h1,h2⟩:=zjx hC hk S.length [] h (by simp) (by simp) (fun x hx=>by simp at hx;subst hx;exact hl) (fun x hx=>by simp at hx;exact .inl hx)
  exact⟨n,g,by simpa using h1,h2⟩
theorem Path.back (hC:Chain S){n h g:Nat}(h1:Path S n h g) (hl:h<S.length):∀ {m z:Nat},Path S m (par h) z→∃ m',Path S m' g z:=by
  induction h1 with
  | stop hs=>exact fun {m z} hz=>⟨m,hz⟩
  | @more n h g hm hne hp ih=>
    intro m z hz
    obtain⟨o1,o2,o3,o4⟩:=z9u hC (zbj hC.even hl) hm
    refine ih o1 (m:=m+1) (z:=z) (.more ?_ ?_ ?_)
    · rw [z9k,o3];exact hm
    · rw [z9k,o4]
      intro e
      exact hne (by rw [← z9k (h:=oth S (par h)),← e,z9k])
    · rw [z9k,o4];exact hz

theorem Path.rev (hC:Chain S){n h g:Nat}(h1:Path S n h g) (hl:h<S.length) (hk:(keyAt S h).1≠2):∃ m,Path S m g h:=by
  have h2:Path S 0 (par h) (par (par h)):=.stop (by rw [z9k];exact hk)
  rw [z9k] at h2
  exact h1.back hC hl h2
open Classical in

noncomputable def endH (S:List Key) (h:Nat):Nat:=if hx:∃ g,∃ n,Path S n h g then hx.choose else 0
theorem zms {n h g:Nat}(hp:Path S n h g):endH S h=g:=by
  have hx:∃ g,∃ n,Path S n h g:=⟨g,n,hp⟩
  unfold endH
  rw [dif_pos hx]
  obtain⟨m,hm⟩:=hx.choose_spec
  exact hm.det hp
noncomputable def endK (S:List Key) (k:Key):Key:=keyAt S (endH S ((occ S k).headD 0))
theorem zbx (hC:Chain S){k:Key}(hk:k∈S) (ht:k.1≠2):∃ h n g,occ S k=[h]∧h<S.length∧keyAt S h=k∧n<S.length∧Path S n h g∧endK S k=keyAt S g:=by
  obtain⟨h,hh⟩:=List.getElem?_of_mem hk
  have hl:=(List.getElem?_eq_some_iff.1 hh).1
  have hka:=z9a hh
  have hs:=hC.single hl (by rw [hka];exact ht)
  rw [hka] at hs
  obtain⟨n,g,h1,h2⟩:=zn7 hC hl (by rw [hka];exact ht)
  refine⟨h,n,g,hs,hl,hka,h1,h2,?_⟩
  unfold endK
  rw [hs]
  show keyAt S (endH S h)=_
  rw [zms h2]
theorem zmq (hC:Chain S){k:Key}(hk:k∈S) (ht:k.1≠2):endK S k∈S∧(endK S k).1≠2:=by
  obtain⟨h,n,g,h1,h2,h3,h4,h5,h6⟩:=zbx hC hk ht
  obtain⟨a,b⟩:=h5.lt hC h2
  rw [h6]
  exact⟨List.mem_of_getElem? (z9y a),b⟩
theorem zmr (hC:Chain S){k:Key}(hk:k∈S) (ht:k.1≠2):endK S (endK S k)=k:=by
  obtain⟨h,n,g,h1,h2,h3,h4,h5,h6⟩:=zbx hC hk ht
  obtain⟨m,hm⟩:=h5.rev hC h2 (by rw [h3];exact ht)
  obtain⟨a,b⟩:=h5.lt hC h2
  have hs:=hC.single a b
  unfold endK at h6 ⊢
  rw [h6,hs]
  show keyAt S (endH S g)=k
  rw [zms hm]
  exact h3
end
end Go.E


