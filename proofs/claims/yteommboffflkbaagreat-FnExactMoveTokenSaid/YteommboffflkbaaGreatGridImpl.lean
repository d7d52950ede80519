/- Grids: their parts by themselves, at both sides. Conditions: the grid's own size. -/
import Derived.Test.YteommboffflkbaaGreatShort
import Derived.Test.YteommboffflkbaaGreatRounds
import Derived.Test.YteommboffflkbaaGreatFGe
namespace Go.E
open Go.RowKit Go.Proofs
set_option linter.unusedSimpArgs false
set_option linter.unusedVariables false

def agentOf (c:D.Qd):D.QJ:=⟨c.Qj,c.QO,c.Value,c.Data,List.replicate (c.QY.length+1) ⟨0,0⟩⟩
def shCellN (c:D.Qd):Bool:=if c.Qj=0 then decide (c.QO=0∧c.Value=0∧c.Data=[]∧c.QY=[]) else decide (c.Qj≠1) && agN (agentOf c)
def noneN:D.Qc:=⟨0,0,0⟩
def shVarN (v:D.Qp):Bool:=(v.Qa2 || !v.Qa3) && (v.Qa3 || decide (v.QX=noneN))
def shardN (s:D.Qv):Bool:=decide (s.Cells.length≤400∧s.QM.length≤400∧s.Qu.length≤400) && (s.Cells.all shCellN && s.QM.all shVarN)
def piecesN (g:D.Qe):Bool:=decide (1≤g.Qg.length∧g.Qg.length≤4) && g.Qg.all shardN

theorem znP {k f:Int}:portsN k f≤4:=by
 unfold portsN
 split
 ·split<;>omega
 ·split
  ·omega
  ·split
   ·omega
   ·split
    ·omega
    ·split<;>omega
theorem zpz {a:D.QJ}(h:agN a=true):a.Qa0.length≤4:=by
 unfold agN agentN at h
 rw [Bool.and_eq_true,Bool.and_eq_true,decide_eq_true_eq,decide_eq_true_eq] at h
 have h2:=h.2.1
 have:=znP (k:=a.Qj) (f:=if a.Qj=9 then(a.Qa0.length:Int) - 1 else 0)
 rw [h2] at this
 omega
theorem ziK {c:D.Qd}(h:shCellN c=true):c.QY.length≤3:=by
 unfold shCellN at h
 split at h
 ·rw [decide_eq_true_eq] at h
  rw [h.2.2.2];simp
 ·rw [Bool.and_eq_true] at h
  have:=zpz h.2
  unfold agentOf at this
  simp only [List.length_replicate] at this
  omega
theorem zfm {a b:D.Qc}:(((a.Qb:Int) == b.Qb) && (((a.Qj:Int) == b.Qj) && (((a.Qk:Int) == b.Qk) && true)))=decide (a=b):=by
 obtain⟨a1,a2,a3⟩:=a
 obtain⟨b1,b2,b3⟩:=b
 by_cases h1:a1=b1<;>by_cases h2:a2=b2<;>by_cases h3:a3=b3<;>simp [h1,h2,h3]
theorem ziL {fuel:Nat}{c:D.Qd}(hs:c.sz≤1048576):z66 fuel c=some (agentOf c):=by
 unfold D.Qd.sz at hs
 unfold z66 z2Y agentOf
 rw [if_pos (by simp;omega),Option.bind_some,za (by omega) (by omega),if_pos (by simp;omega)]
 have:((c.QY.length:Int)+1).toNat=c.QY.length+1:=by omega
 rw [this]
 rfl
theorem zgo {fuel:Nat}{c:D.Qd}(hs:c.sz≤1048576):z6s fuel c=some (agentOf c):=by
 unfold D.Qd.sz at hs
 unfold z6s zj agentOf
 rw [if_pos (by simp;omega),Option.bind_some,za (by omega) (by omega),if_pos (by simp;omega)]
 have:((c.QY.length:Int)+1).toNat=c.QY.length+1:=by omega
 rw [this]
 rfl
theorem zi0 {fuel:Nat}{c:D.Qd}(hf:18446744073709551616≤fuel) (hs:c.sz≤1048576):z50 fuel c=some (shCellN c):=by
 have hm:maxLen=9223372036854775807:=rfl
 unfold z50
 rw [ziL hs,Option.bind_some]
 have d:=hs
 unfold D.Qd.sz at d
 by_cases k0:c.Qj=0
 ·unfold shCellN
  by_cases h1:c.QO=0<;>by_cases h2:c.Value=0<;>by_cases h3:c.Data=[]<;>by_cases h4:c.QY=[]<;>simp [k0,h1,h2,h3,h4]
 ·rw [if_neg (by simpa using k0)]
  by_cases ha:c.QY.length≤3
  ·rw [if_neg (by simp;omega)]
   unfold shCellN
   rw [if_neg k0]
   by_cases k1:c.Qj=1
   ·rw [if_neg (by simp [agentOf,k1])];simp [k1]
   ·rw [if_pos (by simpa [agentOf] using k1),show(⟨(agentOf c).Qj,(agentOf c).QO,(agentOf c).Value,(agentOf c).Data,(agentOf c).Qa0⟩:D.QJ)=agentOf c from rfl,zps hf (by unfold agentOf;dsimp only;omega) (by unfold agentOf;simp only [List.length_replicate];omega)]
    simp [k1]
  ·rw [if_pos (by simp;omega)]
   cases hh:shCellN c with
   | false=>rfl
   | true=>exact absurd (ziK hh) ha
theorem zgb {fuel:Nat}{xs ys:List Int}(hf:18446744073709551616≤fuel) (hl:xs.length≤maxLen):z1G fuel xs ys=some (decide (xs=ys)):=by
 unfold z1G
 exact eqWhole hl hf rfl (fun i a b hi ha hb=>by
  unfold z21
  rw [if_pos (by simpa using hi),z9 ha,Option.bind_some,z9 hb,Option.bind_some]
  by_cases h:a=b<;>simp [h]) (by unfold z21;rw [if_neg (by simp)])
theorem zeY {fuel:Nat}{xs ys:List D.Qc}(hf:18446744073709551616≤fuel) (hl:xs.length≤maxLen):zy fuel xs ys=some (decide (xs=ys)):=by
 unfold zy
 exact eqWhole hl hf rfl (fun i a b hi ha hb=>by
  unfold zO
  rw [if_pos (by simpa using hi),z9 ha,Option.bind_some,z9 hb,Option.bind_some,zfm]
  by_cases h:a=b<;>simp [h]) (by unfold zO;rw [if_neg (by simp)])
theorem zi1 {fuel:Nat}{c:D.Qd}(hf:18446744073709551616≤fuel) (hs:c.sz≤1048576):z2a fuel c=some (shCellN c):=by
 have hm:maxLen=9223372036854775807:=rfl
 have d:=hs
 unfold D.Qd.sz at d
 unfold z2a z1K
 dsimp only
 rw [zgb hf (by omega),zeY hf (by omega),zgo hs,Option.bind_some,Option.bind_some,Option.bind_some,zpt hf (by unfold agentOf;dsimp only;omega) (by unfold agentOf;simp only [List.length_replicate];omega)]
 unfold shCellN
 by_cases k0:c.Qj=0
 ·by_cases h1:c.QO=0<;>by_cases h2:c.Value=0<;>by_cases h3:c.Data=[]<;>by_cases h4:c.QY=[]<;>simp [k0,h1,h2,h3,h4]
 ·by_cases k1:c.Qj=1<;>simp [k0,k1]
theorem zfJ {fuel:Nat}{p:D.Qd→Bool}{f:D.Qd→Option Bool}{xs:List D.Qd}(hf:18446744073709551616≤fuel) (hl:xs.length≤maxLen) (h:∀ n,n∈xs→f n=some (p n)):
  ze fuel xs f=some (xs.any p):=by
 unfold ze zx
 obtain⟨r,h1,h2⟩:=askIndex (xs:=xs) (p:=p) (body:=zd fuel xs f) (j:=zU fuel) (t:=()) hl hf rfl (fun i x hi hx=>by
  simp only [zd,z9 hx,h x (List.mem_of_getElem? hx),lt_t (show(i:Int)<xs.length by omega),if_true,Option.bind_some]) (by simp [zd])
 rw [h1,Option.bind_some,h2]
theorem zgJ {fuel:Nat}{p:D.Qp→Bool}{f:D.Qp→Option Bool}{xs:List D.Qp}(hf:18446744073709551616≤fuel) (hl:xs.length≤maxLen) (h:∀ n,n∈xs→f n=some (p n)):
  zi fuel xs f=some (xs.any p):=by
 unfold zi zH
 obtain⟨r,h1,h2⟩:=askIndex (xs:=xs) (p:=p) (body:=zh fuel xs f) (j:=z11 fuel) (t:=()) hl hf rfl (fun i x hi hx=>by
  simp only [zh,z9 hx,h x (List.mem_of_getElem? hx),lt_t (show(i:Int)<xs.length by omega),if_true,Option.bind_some]) (by simp [zh])
 rw [h1,Option.bind_some,h2]
theorem zfH {fuel:Nat}{p:D.Qv→Bool}{f:D.Qv→Option Bool}{xs:List D.Qv}(hf:18446744073709551616≤fuel) (hl:xs.length≤maxLen) (h:∀ n,n∈xs→f n=some (p n)):
  zr fuel xs f=some (xs.any p):=by
 unfold zr z10
 obtain⟨r,h1,h2⟩:=askIndex (xs:=xs) (p:=p) (body:=zq fuel xs f) (j:=z1o fuel) (t:=()) hl hf rfl (fun i x hi hx=>by
  simp only [zq,z9 hx,h x (List.mem_of_getElem? hx),lt_t (show(i:Int)<xs.length by omega),if_true,Option.bind_some]) (by simp [zq])
 rw [h1,Option.bind_some,h2]
theorem znE {fuel:Nat}{v:D.Qp}:z3Y fuel v=some (!shVarN v):=by
 have e:=zfm (a:=v.QX) (b:=noneN)
 unfold noneN at e
 unfold z3Y z5W shVarN noneN
 dsimp only at e
 rw [e]
 cases v.Qa2<;>cases v.Qa3<;>cases decide (v.QX=⟨0,0,0⟩)<;>rfl
theorem zaN {s:D.Qv}(h:s.sz≤1048576):s.Cells.length≤1048576∧s.QM.length≤1048576∧s.Qu.length≤1048576∧∀ c,c∈s.Cells→c.sz≤1048576:=by
 unfold D.Qv.sz at h
 have h1:szL D.Qd.sz s.Cells≤1048576:=by omega
 exact⟨z3B h1,by omega,by omega,fun c hc=>z3A h1 hc⟩
theorem zjo {fuel:Nat}{s:D.Qv}(hf:18446744073709551616≤fuel) (hs:s.sz≤1048576):z6r fuel s=some (shardN s):=by
 have hm:maxLen=9223372036854775807:=rfl
 obtain⟨z1,z2,z3,z4⟩:=zaN hs
 unfold z6r z2A shardN
 rw [zfJ (p:=fun c=>!shCellN c) hf (by omega) (fun c hc=>by unfold z5V;rw [zi1 hf (z4 c hc)];rfl),zgJ (p:=fun v=>!shVarN v) hf (by omega) (fun v _=>znE),zb2,zb2]
 by_cases h1:s.Cells.length≤400
 ·by_cases h2:s.QM.length≤400
  ·by_cases h3:s.Qu.length≤400
   ·rw [if_neg (by simp;omega),if_neg (by simp;omega),if_neg (by simp;omega),decide_eq_true ⟨h1,h2,h3⟩]
    cases s.Cells.all shCellN<;>cases s.QM.all shVarN<;>rfl
   ·rw [if_neg (by simp;omega),if_neg (by simp;omega),if_pos (by simp;omega),decide_eq_false (fun h=>h3 h.2.2)];rfl
  ·rw [if_neg (by simp;omega),if_pos (by simp;omega),decide_eq_false (fun h=>h2 h.2.1)];rfl
 ·rw [if_pos (by simp;omega),decide_eq_false (fun h=>h1 h.1)];rfl
theorem zc8 {g:D.Qe}(h:g.sz≤1048576):g.Qg.length≤1048576∧∀ s,s∈g.Qg→s.sz≤1048576:=by
 unfold D.Qe.sz at h
 have h1:szL D.Qv.sz g.Qg≤1048576:=by omega
 exact⟨z3B h1,fun s hs=>z3A h1 hs⟩
theorem ziq {fuel:Nat}{g:D.Qe}{xs:List D.Qh}(hf:18446744073709551616≤fuel) (hs:g.sz≤1048576):z2c fuel g xs=z1f fuel g xs (!piecesN g):=by
 have hm:maxLen=9223372036854775807:=rfl
 obtain⟨z1,z2⟩:=zc8 hs
 unfold z2c piecesN
 rw [zfH (p:=fun s=>!shardN s) hf (by omega) (fun s h=>by unfold z3z;rw [zjo hf (z2 s h)];rfl),zb2,Option.bind_some]
 by_cases h1:1≤g.Qg.length
 ·by_cases h2:g.Qg.length≤4
  ·rw [if_neg (by simp;omega),if_neg (by simp;omega),decide_eq_true ⟨h1,h2⟩,Bool.true_and]
  ·rw [if_neg (by simp;omega),if_pos (by simp;omega),decide_eq_false (fun h=>h2 h.2)];rfl
 ·rw [if_pos (by simp;omega),decide_eq_false (fun h=>h1 h.1)];rfl
theorem zjn {fuel:Nat}{s:D.Qv}{k:Int}(hf:18446744073709551616≤fuel) (hs:s.sz≤1048576) (hc:s.Cells.length≤400∧s.QM.length≤400∧s.Qu.length≤400):
  z1m fuel k s false=if(s.Cells.all shCellN && s.QM.all shVarN)=true then some (.next (w64 (k+1))) else some (.ret false):=by
 have hm:maxLen=9223372036854775807:=rfl
 obtain⟨z1,z2,z3,z4⟩:=zaN hs
 have hC:=allLoop (xs:=s.Cells) (body:=z4r fuel s) (p:=fun _ c=>shCellN c) (t:=()) (v:=Rd.ret false) (fuel:=fuel) (by omega) hf (fun i c hi hx=>by
  unfold z4r
  rw [if_pos (by simpa using hi),z9 hx,Option.bind_some,zi0 hf (z4 c (List.mem_of_getElem? hx)),Option.bind_some]
  cases shCellN c<;>simp) (by unfold z4r;rw [if_neg (by simp)])
 have hV:=allLoop (xs:=s.QM) (body:=z4q fuel s) (p:=fun _ v=>shVarN v) (t:=()) (v:=Rd.ret false) (fuel:=fuel) (by omega) hf (fun i v hi hx=>by
  have e:=zfm (a:=v.QX) (b:=noneN)
  unfold noneN at e
  dsimp only at e
  unfold z4q z1x shVarN noneN
  rw [if_pos (by simpa using hi),z9 hx,Option.bind_some,e]
  cases v.Qa2<;>cases v.Qa3<;>cases decide (v.QX=⟨0,0,0⟩)<;>rfl) (by unfold z4q;rw [if_neg (by simp)])
 rw [z7i] at hC hV
 unfold z1m
 rw [if_neg (by simp),hC,Option.bind_some]
 cases s.Cells.all shCellN with
 | false=>rfl
 | true=>
  rw [if_pos rfl]
  simp only [aft]
  unfold z8y
  rw [hV,Option.bind_some]
  cases s.QM.all shVarN with
  | false=>rfl
  | true=>rfl
theorem zio {fuel:Nat}{g:D.Qe}(hf:18446744073709551616≤fuel) (hs:g.sz≤1048576):z6S fuel g=some (piecesN g):=by
 have hm:maxLen=9223372036854775807:=rfl
 obtain⟨z1,z2⟩:=zc8 hs
 unfold z6S
 rw [z6M,Option.bind_some]
 have hS:=allLoop (xs:=g.Qg) (body:=z4s fuel g) (p:=fun _ s=>shardN s) (t:=()) (v:=false) (fuel:=fuel) (by omega) hf (fun i s hi hx=>by
  have hss:=z2 s (List.mem_of_getElem? hx)
  unfold z4s
  rw [if_pos (by simpa using hi),z9 hx,Option.bind_some]
  have no:z1m fuel (i:Int) s true=some (.ret false):=by unfold z1m;rfl
  unfold shardN
  by_cases h1:s.Cells.length≤400
  ·by_cases h2:s.QM.length≤400
   ·by_cases h3:s.Qu.length≤400
    ·rw [if_neg (by simp;omega),if_neg (by simp;omega),show decide ((s.Qu.length:Int)>400)=false by simp;omega,zjn hf hss ⟨h1,h2,h3⟩,decide_eq_true ⟨h1,h2,h3⟩,Bool.true_and]
    ·rw [if_neg (by simp;omega),if_neg (by simp;omega),show decide ((s.Qu.length:Int)>400)=true by simp;omega,no,decide_eq_false (fun h=>h3 h.2.2)];rfl
   ·rw [if_neg (by simp;omega),if_pos (by simp;omega),no,decide_eq_false (fun h=>h2 h.2.1)];rfl
  ·rw [if_pos (by simp;omega),no,decide_eq_false (fun h=>h1 h.1)];rfl) (by unfold z4s;rw [if_neg (by simp)])
 rw [z7i] at hS
 unfold piecesN
 rw [hS,Option.bind_some]
 have hd:decide ((1:Int)≤(g.Qg.length:Int)∧(g.Qg.length:Int)≤4)=decide (1≤g.Qg.length∧g.Qg.length≤4):=by
  rw [decide_eq_decide];omega
 rw [hd]
 cases decide (1≤g.Qg.length∧g.Qg.length≤4) with
 | false=>rfl
 | true=>
  rw [if_neg (by simp)]
  cases g.Qg.all shardN<;>rfl
end Go.E


namespace Go.E
open Go.RowKit Go.Proofs
set_option linter.unusedSimpArgs false
set_option linter.unusedVariables false


abbrev Key:=Nat × Nat × Nat × Nat
def cellK (t m i:Nat) (c:D.Qd):List Key:=if c.Qj=0 then [] else(List.range (c.QY.length+1)).map fun k=>(t,m,i,k)
def rowK (t m:Nat) (cs:List D.Qd):List Key:=cs.zipIdx.flatMap fun x=>cellK t m x.2 x.1
def portK (ss:List D.Qv):List Key:=(0,0,0,0)::ss.zipIdx.flatMap fun x=>rowK 1 x.2 x.1.Cells
def varR (m:Nat) (s:D.Qv):List Key:=(List.range s.QM.length).map fun i=>(2,m,i,0)
def varK (ss:List D.Qv):List Key:=ss.zipIdx.flatMap fun x=>varR x.2 x.1
def allK (g:D.Qe) (more:List D.Qd):List Key:=(portK g.Qg++rowK 3 0 more)++varK g.Qg

theorem ze8 {α β:Type}{xs:List α}{g:Nat→α→List β}{i k:Nat}{x:α}(hx:xs[i]? = some x) (hk:k<(g i x).length):
  (xs.zipIdx.flatMap fun y=>g y.2 y.1)[((xs.take i).zipIdx.flatMap fun y=>g y.2 y.1).length+k]? = (g i x)[k]?:=by
 have h1:xs.zipIdx=(xs.take (i+1)).zipIdx++(xs.drop (i+1)).zipIdx (xs.take (i+1)).length:=by
  have:=List.zipIdx_append (xs:=xs.take (i+1)) (ys:=xs.drop (i+1)) (k:=0)
  rw [List.take_append_drop] at this
  simpa using this
 rw [h1,zcN hx,List.flatMap_append,List.flatMap_append,List.append_assoc,List.getElem?_append_right (Nat.le_add_right _ _),Nat.add_sub_cancel_left]
 simp only [List.flatMap_cons,List.flatMap_nil,List.append_nil]
 rw [List.getElem?_append_left hk]
theorem zdE {α β:Type}{xs:List α}{g:Nat→α→List β}(f:β→Nat) (h1:∀ i x,xs[i]? = some x→(g i x).Nodup) (h2:∀ i x y,y∈g i x→f y=i):(xs.zipIdx.flatMap fun y=>g y.2 y.1).Nodup:=by
 unfold List.Nodup
 rw [List.pairwise_flatMap]
 constructor
 ·rintro⟨a,i⟩ h
  rw [List.mem_zipIdx_iff_getElem?] at h
  exact h1 i a h
 ·rw [List.pairwise_iff_getElem]
  intro i j hi hj hij p hp q hq he
  simp only [List.getElem_zipIdx] at hp hq
  have a:=h2 _ _ _ hp
  have b:=h2 _ _ _ hq
  rw [he] at a
  omega
theorem zfh {t m i:Nat}{c:D.Qd}{k:Key}(h:k∈cellK t m i c):k.1=t∧k.2.1=m∧k.2.2.1=i:=by
 unfold cellK at h
 split at h
 ·cases h
 ·obtain⟨j,_,rfl⟩:=List.mem_map.1 h
  exact⟨rfl,rfl,rfl⟩
theorem zcX {t m:Nat}{cs:List D.Qd}{k:Key}(h:k∈rowK t m cs):k.1=t∧k.2.1=m:=by
 obtain⟨x,_,h2⟩:=List.mem_flatMap.1 h
 exact⟨(zfh h2).1,(zfh h2).2.1⟩
theorem ziC {t m i:Nat}{c:D.Qd}:(cellK t m i c).Nodup:=by
 unfold cellK
 split
 ·exact List.nodup_nil
 ·unfold List.Nodup
  rw [List.pairwise_map]
  refine List.Pairwise.imp ?_ (List.nodup_range (n:=c.QY.length+1))
  intro x y hxy he
  simp only [Prod.mk.injEq,true_and] at he
  exact hxy he
theorem zg1 {t m:Nat}{cs:List D.Qd}:(rowK t m cs).Nodup:=
 zdE (g:=fun i c=>cellK t m i c) (fun k:Key=>k.2.2.1) (fun i x _=>ziC) (fun i x y h=>(zfh h).2.2)
theorem zhd {ss:List D.Qv}{k:Key}(h:k∈portK ss):k.1=0∨k.1=1:=by
 unfold portK at h
 rcases List.mem_cons.1 h with rfl | h
 ·exact .inl rfl
 ·obtain⟨x,_,h2⟩:=List.mem_flatMap.1 h
  exact .inr (zcX h2).1
theorem znF {ss:List D.Qv}{k:Key}(h:k∈varK ss):k.1=2:=by
 obtain⟨x,_,h2⟩:=List.mem_flatMap.1 h
 obtain⟨j,_,rfl⟩:=List.mem_map.1 h2
 rfl
theorem zgd {g:D.Qe}{more:List D.Qd}:(allK g more).Nodup:=by
 unfold allK
 refine List.nodup_append.2 ⟨List.nodup_append.2 ⟨?_,zg1,?_⟩,?_,?_⟩
 ·unfold portK
  refine List.nodup_cons.2 ⟨fun h=>?_,zdE (g:=fun i (s:D.Qv)=>rowK 1 i s.Cells) (fun k:Key=>k.2.1) (fun i x _=>zg1) (fun i x y h=>(zcX h).2)⟩
  obtain⟨x,_,h2⟩:=List.mem_flatMap.1 h
  exact absurd (zcX h2).1 (by decide)
 ·intro a ha b hb he
  have h1:=zhd ha
  have h2:=(zcX hb).1
  rw [he] at h1
  omega
 ·refine zdE (g:=fun i (s:D.Qv)=>varR i s) (fun k:Key=>k.2.1) (fun i x _=>?_) (fun i x y h=>?_)
  ·unfold varR List.Nodup
   rw [List.pairwise_map]
   refine List.Pairwise.imp ?_ (List.nodup_range (n:=x.QM.length))
   intro x y hxy he
   simp only [Prod.mk.injEq,true_and,and_true] at he
   exact hxy he
  ·obtain⟨j,_,rfl⟩:=List.mem_map.1 h
   rfl
 ·intro a ha b hb he
  have h2:=znF hb
  rcases List.mem_append.1 ha with h | h
  ·have h1:=zhd h
   rw [he] at h1
   omega
  ·have h1:=(zcX h).1
   rw [he] at h1
   omega
theorem znu {t m i t' m' i':Nat}{c:D.Qd}:(cellK t m i c).length=(cellK t' m' i' c).length:=by
 unfold cellK
 split<;>simp
theorem zp0 {t m i:Nat}{c:D.Qd}(h:c.QY.length≤3):(cellK t m i c).length≤4:=by
 unfold cellK
 split
 ·simp
 ·simp;omega
theorem zbQ {t m i:Nat}{cs:List D.Qd}{c:D.Qd}(h:cs[i]? = some c):rowK t m (cs.take (i+1))=rowK t m (cs.take i)++cellK t m i c:=by
 unfold rowK
 rw [zcN h,List.flatMap_append]
 simp
theorem zbR {t m:Nat}{cs:List D.Qd}(h:∀ c,c∈cs→c.QY.length≤3):∀ i,i≤cs.length→(rowK t m (cs.take i)).length≤4*i
 | 0,_=>by simp [rowK]
 | i+1,hi=>by
  obtain⟨c,hc⟩:=z42 (xs:=cs) (i:=i) (by omega)
  rw [zbQ hc,List.length_append]
  have:=zbR (t:=t) (m:=m) h i (by omega)
  have:=zp0 (t:=t) (m:=m) (i:=i) (h c (List.mem_of_getElem? hc))
  omega
theorem zcY {t m t' m':Nat}{cs:List D.Qd}:∀ i,i≤cs.length→(rowK t m (cs.take i)).length=(rowK t' m' (cs.take i)).length
 | 0,_=>by simp [rowK]
 | i+1,hi=>by
  obtain⟨c,hc⟩:=z42 (xs:=cs) (i:=i) (by omega)
  rw [zbQ hc,zbQ hc,List.length_append,List.length_append,zcY i (by omega),znu (t':=t') (m':=m') (i':=i)]
theorem zg3 {m:Nat}{ss:List D.Qv}{s:D.Qv}(h:ss[m]? = some s):portK (ss.take (m+1))=portK (ss.take m)++rowK 1 m s.Cells:=by
 unfold portK
 rw [zcN h,List.flatMap_append]
 simp
theorem zgR {m:Nat}{ss:List D.Qv}{s:D.Qv}(h:ss[m]? = some s):varK (ss.take (m+1))=varK (ss.take m)++varR m s:=by
 unfold varK
 rw [zcN h,List.flatMap_append]
 simp
theorem zj0 {g:D.Qe}{more:List D.Qd}{m i k:Nat}{s:D.Qv}{c:D.Qd}(hs:g.Qg[m]? = some s) (hc:s.Cells[i]? = some c) (h0:c.Qj≠0) (hk:k≤c.QY.length):
  (allK g more)[(portK (g.Qg.take m)).length+(rowK 1 m (s.Cells.take i)).length+k]? = some (1,m,i,k):=by
 have hcl:k<(cellK 1 m i c).length:=by unfold cellK;rw [if_neg h0];simp;omega
 have h2:=ze8 (g:=fun i c=>cellK 1 m i c) hc hcl
 have h3:(cellK 1 m i c)[k]? = some (1,m,i,k):=by unfold cellK;rw [if_neg h0,List.getElem?_map,List.getElem?_range (by omega)];rfl
 rw [h3] at h2
 have h2':(rowK 1 m s.Cells)[(rowK 1 m (s.Cells.take i)).length+k]? = some (1,m,i,k):=h2
 have hlt:=(List.getElem?_eq_some_iff.1 h2').1
 have h4:=ze8 (g:=fun i (s:D.Qv)=>rowK 1 i s.Cells) hs hlt
 rw [h2'] at h4
 have h5:(portK g.Qg)[(portK (g.Qg.take m)).length+(rowK 1 m (s.Cells.take i)).length+k]? = some (1,m,i,k):=by
  unfold portK
  rw [List.length_cons,show ∀ a b c:Nat,a+1+b+c=(a+(b+c))+1 by omega,List.getElem?_cons_succ]
  exact h4
 have d:=(List.getElem?_eq_some_iff.1 h5).1
 unfold allK
 rw [List.append_assoc,List.getElem?_append_left d]
 exact h5
theorem zj1 {g:D.Qe}{more:List D.Qd}{i k:Nat}{c:D.Qd}(hc:more[i]? = some c) (h0:c.Qj≠0) (hk:k≤c.QY.length):
  (allK g more)[(portK g.Qg).length+(rowK 3 0 (more.take i)).length+k]? = some (3,0,i,k):=by
 have hcl:k<(cellK 3 0 i c).length:=by unfold cellK;rw [if_neg h0];simp;omega
 have h2:=ze8 (g:=fun i c=>cellK 3 0 i c) hc hcl
 have h3:(cellK 3 0 i c)[k]? = some (3,0,i,k):=by unfold cellK;rw [if_neg h0,List.getElem?_map,List.getElem?_range (by omega)];rfl
 rw [h3] at h2
 have h2':(rowK 3 0 more)[(rowK 3 0 (more.take i)).length+k]? = some (3,0,i,k):=h2
 have hlt:=(List.getElem?_eq_some_iff.1 h2').1
 unfold allK
 rw [List.getElem?_append_left (by rw [List.length_append];omega),Nat.add_assoc,List.getElem?_append_right (Nat.le_add_right _ _),Nat.add_sub_cancel_left]
 exact h2'
theorem znA {g:D.Qe}{more:List D.Qd}{m i:Nat}{s:D.Qv}(hs:g.Qg[m]? = some s) (hi:i<s.QM.length):
  (allK g more)[(portK g.Qg).length+(rowK 3 0 more).length+(varK (g.Qg.take m)).length+i]? = some (2,m,i,0):=by
 have h4:=ze8 (g:=fun i (s:D.Qv)=>varR i s) (k:=i) hs (by unfold varR;simpa using hi)
 have h3:(varR m s)[i]? = some (2,m,i,0):=by unfold varR;rw [List.getElem?_map,List.getElem?_range hi];rfl
 rw [h3] at h4
 unfold allK
 rw [List.getElem?_append_right (by rw [List.length_append];omega),List.length_append,Nat.add_assoc,Nat.add_sub_cancel_left]
 exact h4


theorem zg8 {fuel:Nat}{L:D.Qm}{c:D.Qd}{t m i:Nat}(hf:18446744073709551616≤fuel) (hs:c.sz≤1048576) (ha:c.QY.length≤3) (hp:L.QH.length≤1000000) (hg:L.QC.length≤1000000):
  ∃ P A,z2y fuel L c=some ((L.QH.length:Int),⟨A,P,L.cells,L.QU,L.ends,L.Qy⟩)∧P.length=L.QH.length+(cellK t m i c).length∧A.length≤L.QC.length+1:=by
 unfold z2y
 by_cases k0:c.Qj=0
 ·rw [if_pos (by simp [k0])]
  exact⟨L.QH,L.QC,rfl,by unfold cellK;rw [if_pos k0];rfl,by omega⟩
 ·rw [if_neg (by simpa using k0)]
  obtain⟨o,h1,P,rfl,h2⟩:=z1g (body:=z2o fuel L c) (fun k s=>∃ P:List D.QV,s=((k:Int),P)∧P.length=L.QH.length+k) (c.QY.length+1) (fun o=>∃ P,o=.inl P∧P.length=L.QH.length+(c.QY.length+1)) (by
   rintro k s hk ⟨P,rfl,hP⟩
   refine .inl ⟨(w64 (k+1),P++[⟨(L.QC.length:Int),(k:Int)⟩]),?_,_,by rw [za (by omega) (by omega)];rfl,by simp [hP];omega⟩
   unfold z2o
   dsimp only
   rw [if_pos (by simp;omega),if_pos (by simp;omega)]) (by
   rintro s ⟨P,rfl,hP⟩
   refine .inr ⟨P,?_,P,rfl,hP⟩
   unfold z2o
   rw [if_neg (by simp;omega)]) (fuel:=fuel) (i:=0) (s:=(0,L.QH)) (Nat.zero_le _) (by omega) ⟨_,rfl,rfl⟩
  rw [h1,Option.bind_some]
  simp only [aft]
  unfold z6z
  rw [ziL hs,Option.bind_some,if_pos (by simp;omega)]
  exact⟨P,_,rfl,by rw [h2];unfold cellK;rw [if_neg k0];simp,by simp⟩

def baseL (b:Nat) (cs:List D.Qd) (n:Nat):List Int:=(List.range n).map fun i=>((b+(rowK 1 0 (cs.take i)).length:Nat):Int)
theorem zi2 {b n:Nat}{cs:List D.Qd}:baseL b cs (n+1)=baseL b cs n++[((b+(rowK 1 0 (cs.take n)).length:Nat):Int)]:=by
 unfold baseL
 rw [List.range_succ,List.map_append]
 rfl
theorem znx {b n i:Nat}{cs:List D.Qd}(h:i<n):(baseL b cs n)[i]? = some ((b+(rowK 1 0 (cs.take i)).length:Nat):Int):=by
 unfold baseL
 rw [List.getElem?_map,List.getElem?_range h]
 rfl

theorem zp5 {fuel:Nat}{g:D.Qe}{m:Nat}{s:D.Qv}{z:List (List Int) × List (List Int) × List (List Int) × List (List Int) × List D.QV × List D.QJ}{C V E Q:List (List Int)}{P:List D.QV}{A:List D.QJ}
  (hf:18446744073709551616≤fuel) (hm:g.Qg[m]? = some s) (hz:s.Cells.length≤400) (hs:∀ c,c∈s.Cells→c.sz≤1048576∧c.QY.length≤3) (hP:P.length≤100000) (hA:A.length≤100000):
  ∃ P' A',iter (z3o fuel g ((m:Int),z)) fuel (0,[],C,V,E,Q,P,A)=some (.inl (baseL P.length s.Cells s.Cells.length,C,V,E,Q,P',A'))∧P'.length=P.length+(rowK 1 m s.Cells).length∧A'.length≤A.length+s.Cells.length:=by
 have hle:=fun i hi=>zbR (t:=1) (m:=m) (cs:=s.Cells) (fun c hc=>(hs c hc).2) i hi
 obtain⟨o,h1,P',A',rfl,h2,h3⟩:=z1g (body:=z3o fuel g ((m:Int),z)) (fun i st=>∃ P' A',st=((i:Int),baseL P.length s.Cells i,C,V,E,Q,P',A')∧P'.length=P.length+(rowK 1 m (s.Cells.take i)).length∧A'.length≤A.length+i) s.Cells.length
  (fun o=>∃ P' A',o=.inl (baseL P.length s.Cells s.Cells.length,C,V,E,Q,P',A')∧P'.length=P.length+(rowK 1 m s.Cells).length∧A'.length≤A.length+s.Cells.length) (by
  rintro i st hi ⟨P',A',rfl,hP',hA'⟩
  obtain⟨c,hc⟩:=z42 hi
  obtain⟨c1,c2⟩:=hs c (List.mem_of_getElem? hc)
  have:=hle i (by omega)
  obtain⟨P2,A2,e1,e2,e3⟩:=zg8 (L:=⟨A',P',C,V,E,Q⟩) (t:=1) (m:=m) (i:=i) hf c1 c2 (by dsimp only;omega) (by dsimp only;omega)
  dsimp only at e1 e2 e3
  refine .inl ⟨(w64 (i+1),baseL P.length s.Cells (i+1),C,V,E,Q,P2,A2),?_,P2,A2,by rw [za (by omega) (by omega)];rfl,by rw [e2,hP',zbQ hc,List.length_append];omega,by omega⟩
  unfold z3o
  dsimp only
  rw [z9 hm,Option.bind_some,if_pos (by simpa using hi),Option.bind_some,z9 hc,Option.bind_some,e1,Option.bind_some]
  dsimp only
  rw [if_pos (by unfold baseL;simp;omega),zi2,hP',zcY (t:=1) (m:=m) (t':=1) (m':=0) i (by omega)]) (by
  rintro st ⟨P',A',rfl,hP',hA'⟩
  rw [List.take_length] at hP'
  refine .inr ⟨_,?_,P',A',rfl,hP',hA'⟩
  unfold z3o
  dsimp only
  rw [z9 hm,Option.bind_some,if_neg (by simp)]) (fuel:=fuel) (i:=0) (s:=(0,[],C,V,E,Q,P,A)) (Nat.zero_le _) (by omega) ⟨P,A,rfl,by simp [rowK],by omega⟩
 exact⟨P',A',h1,h2,h3⟩

theorem zo7 {fuel:Nat}{more:List D.Qd}{C V E Q:List (List Int)}{P:List D.QV}{A:List D.QJ}
  (hf:18446744073709551616≤fuel) (hz:more.length≤20000) (hs:∀ c,c∈more→c.sz≤1048576∧c.QY.length≤3) (hP:P.length≤100000) (hA:A.length≤100000):
  ∃ P' A',iter (z3r fuel more) fuel (0,[],C,V,E,Q,P,A)=some (.inl (baseL P.length more more.length,C,V,E,Q,P',A'))∧P'.length=P.length+(rowK 3 0 more).length∧A'.length≤A.length+more.length:=by
 have hle:=fun i hi=>zbR (t:=3) (m:=0) (cs:=more) (fun c hc=>(hs c hc).2) i hi
 obtain⟨o,h1,P',A',rfl,h2,h3⟩:=z1g (body:=z3r fuel more) (fun i st=>∃ P' A',st=((i:Int),baseL P.length more i,C,V,E,Q,P',A')∧P'.length=P.length+(rowK 3 0 (more.take i)).length∧A'.length≤A.length+i) more.length
  (fun o=>∃ P' A',o=.inl (baseL P.length more more.length,C,V,E,Q,P',A')∧P'.length=P.length+(rowK 3 0 more).length∧A'.length≤A.length+more.length) (by
  rintro i st hi ⟨P',A',rfl,hP',hA'⟩
  obtain⟨c,hc⟩:=z42 hi
  obtain⟨c1,c2⟩:=hs c (List.mem_of_getElem? hc)
  have:=hle i (by omega)
  obtain⟨P2,A2,e1,e2,e3⟩:=zg8 (L:=⟨A',P',C,V,E,Q⟩) (t:=3) (m:=0) (i:=i) hf c1 c2 (by dsimp only;omega) (by dsimp only;omega)
  dsimp only at e1 e2 e3
  refine .inl ⟨(w64 (i+1),baseL P.length more (i+1),C,V,E,Q,P2,A2),?_,P2,A2,by rw [za (by omega) (by omega)];rfl,by rw [e2,hP',zbQ hc,List.length_append];omega,by omega⟩
  unfold z3r
  dsimp only
  rw [if_pos (by simpa using hi),z9 hc,Option.bind_some,e1,Option.bind_some]
  dsimp only
  rw [if_pos (by unfold baseL;simp;omega),zi2,hP',zcY (t:=3) (m:=0) (t':=1) (m':=0) i (by omega)]) (by
  rintro st ⟨P',A',rfl,hP',hA'⟩
  rw [List.take_length] at hP'
  refine .inr ⟨_,?_,P',A',rfl,hP',hA'⟩
  unfold z3r
  rw [if_neg (by simp)]) (fuel:=fuel) (i:=0) (s:=(0,[],C,V,E,Q,P,A)) (Nat.zero_le _) (by omega) ⟨P,A,rfl,by simp [rowK],by omega⟩
 exact⟨P',A',h1,h2,h3⟩

theorem znC {fuel:Nat}{g:D.Qe}{m n:Nat}{s:D.Qv}{z1:Int}{z2:List (List Int)}(hf:18446744073709551616≤fuel) (hm:g.Qg[m]? = some s) (hz:s.QM.length≤400) (hn:n≤1000000):
  iter (z3p fuel g (z1,(m:Int),z2)) fuel ((n:Int),0,[])=some (.inl (((n+s.QM.length:Nat):Int),(List.range s.QM.length).map fun i=>((n+i:Nat):Int))):=by
 obtain⟨o,h1,h2⟩:=z1g (body:=z3p fuel g (z1,(m:Int),z2)) (fun i st=>st=(((n+i:Nat):Int),(i:Int),(List.range i).map fun j=>((n+j:Nat):Int))) s.QM.length (fun o=>o=.inl (((n+s.QM.length:Nat):Int),(List.range s.QM.length).map fun i=>((n+i:Nat):Int))) (by
  rintro i st hi rfl
  refine .inl ⟨(w64 (((n+i:Nat):Int)+1),w64 (i+1),((List.range i).map fun j=>((n+j:Nat):Int))++[((n+i:Nat):Int)]),?_,?_⟩
  ·unfold z3p
   dsimp only
   rw [z9 hm,Option.bind_some,if_pos (by simpa using hi),if_pos (by simp;omega)]
  ·rw [za (by omega) (by omega),za (by omega) (by omega),List.range_succ,List.map_append]
   rfl) (by
  rintro st rfl
  refine .inr ⟨_,?_,rfl⟩
  unfold z3p
  dsimp only
  rw [z9 hm,Option.bind_some,if_neg (by simp)]) (fuel:=fuel) (i:=0) (s:=((n:Int),0,[])) (Nat.zero_le _) (by omega) rfl
 rw [h1,h2]
end Go.E


namespace Go.E
open Go.RowKit Go.Proofs
set_option linter.unusedSimpArgs false
set_option linter.unusedVariables false


structure Small (g:D.Qe):Prop where
 n:g.Qg.length≤4
 s:∀ s,s∈g.Qg→s.Cells.length≤400∧s.QM.length≤400∧s.Qu.length≤400∧(∀ c,c∈s.Cells→c.sz≤1048576∧c.QY.length≤3∧shCellN c=true)∧∀ v,v∈s.QM→shVarN v=true
theorem zgn {g:D.Qe}(hs:g.sz≤1048576) (hp:piecesN g=true):Small g:=by
 unfold piecesN at hp
 rw [Bool.and_eq_true,decide_eq_true_eq] at hp
 refine⟨hp.1.2,fun s hm=>?_⟩
 have h1:=List.all_eq_true.1 hp.2 s hm
 unfold shardN at h1
 rw [Bool.and_eq_true,Bool.and_eq_true,decide_eq_true_eq] at h1
 obtain⟨⟨a1,a2,a3⟩,a4,a5⟩:=h1
 have z:=(zaN ((zc8 hs).2 s hm)).2.2.2
 exact⟨a1,a2,a3,fun c hc=>⟨z c hc,ziK (List.all_eq_true.1 a4 c hc),List.all_eq_true.1 a4 c hc⟩,fun v hv=>List.all_eq_true.1 a5 v hv⟩
def moreOk (more:List D.Qd):Prop:=more.length≤20000∧∀ c,c∈more→c.sz≤1048576∧c.QY.length≤3
structure Items (g:D.Qe) (more:List D.Qd) (L:D.Qm) (at_:List Int):Prop where
 QH:L.QH.length=(portK g.Qg++rowK 3 0 more).length
 cell:∀ (m i:Nat) s c,g.Qg[m]? = some s→s.Cells[i]? = some c→∃ row,L.cells[m]? = some row∧row[i]? = some (((portK (g.Qg.take m)).length+(rowK 1 m (s.Cells.take i)).length:Nat):Int)
 var:∀ (m i:Nat) s,g.Qg[m]? = some s→i<s.QM.length→∃ row,L.QU[m]? = some row∧row[i]? = some (((portK g.Qg).length+(rowK 3 0 more).length+(varK (g.Qg.take m)).length+i:Nat):Int)
 ends:L.ends=List.replicate (allK g more).length []
 Qy:L.Qy=[]
 more:∀ (i:Nat) c,more[i]? = some c→at_[i]? = some (((portK g.Qg).length+(rowK 3 0 (more.take i)).length:Nat):Int)
theorem zck {g:D.Qe}(hS:Small g):∀ m,m≤g.Qg.length→(portK (g.Qg.take m)).length≤1+1600*m
 | 0,_=>by simp [portK]
 | m+1,hm=>by
  obtain⟨s,hs⟩:=z42 (xs:=g.Qg) (i:=m) (by omega)
  obtain⟨a1,a2,a3,a4,a5⟩:=hS.s s (List.mem_of_getElem? hs)
  rw [zg3 hs,List.length_append]
  have:=zck hS m (by omega)
  have h2:=zbR (t:=1) (m:=m) (cs:=s.Cells) (fun c hc=>(a4 c hc).2.1) s.Cells.length (Nat.le_refl _)
  rw [List.take_length] at h2
  omega
theorem zi6 {g:D.Qe}(hS:Small g):∀ m,m≤g.Qg.length→(varK (g.Qg.take m)).length≤400*m
 | 0,_=>by simp [varK]
 | m+1,hm=>by
  obtain⟨s,hs⟩:=z42 (xs:=g.Qg) (i:=m) (by omega)
  obtain⟨a1,a2,a3,a4,a5⟩:=hS.s s (List.mem_of_getElem? hs)
  rw [zgR hs,List.length_append]
  have:=zi6 hS m (by omega)
  unfold varR
  simp only [List.length_map,List.length_range]
  omega
theorem ziD {fuel:Nat}{g:D.Qe}(hf:18446744073709551616≤fuel) (hS:Small g):∃ (C:List (List Int)) (P:List D.QV) (A:List D.QJ),iter (z3s fuel g) fuel (0,[],[],[],[],[⟨0,0⟩],[⟨1,0,0,[],List.replicate (1:Int).toNat ⟨0,0⟩⟩])=some (.inl (C,[],[],[],P,A))∧C.length=g.Qg.length∧(∀ (j:Nat) s,g.Qg[j]? = some s→C[j]? = some (baseL (portK (g.Qg.take j)).length s.Cells s.Cells.length))∧P.length=(portK g.Qg).length∧A.length≤2000:=by
 have hn:=hS.n
 obtain⟨o,h1,C,P,A,rfl,h2,h3,h4,h5⟩:=z1g (body:=z3s fuel g) (fun m st=>∃ (C:List (List Int)) (P:List D.QV) (A:List D.QJ),st=((m:Int),C,[],[],[],P,A)∧C.length=m∧(∀ (j:Nat) s,j<m→g.Qg[j]? = some s→C[j]? = some (baseL (portK (g.Qg.take j)).length s.Cells s.Cells.length))∧P.length=(portK (g.Qg.take m)).length∧A.length≤1+400*m) g.Qg.length
  (fun o=>∃ (C:List (List Int)) (P:List D.QV) (A:List D.QJ),o=.inl (C,[],[],[],P,A)∧C.length=g.Qg.length∧(∀ (j:Nat) s,g.Qg[j]? = some s→C[j]? = some (baseL (portK (g.Qg.take j)).length s.Cells s.Cells.length))∧P.length=(portK g.Qg).length∧A.length≤2000) (by
  rintro m st hm ⟨C,P,A,rfl,hC,hr,hP,hA⟩
  obtain⟨s,hs⟩:=z42 hm
  obtain⟨a1,a2,a3,a4,a5⟩:=hS.s s (List.mem_of_getElem? hs)
  have hpl:=zck hS m (by omega)
  obtain⟨P',A',e1,e2,e3⟩:=zp5 (z:=(C,[],[],[],P,A)) (C:=C) (V:=[]) (E:=[]) (Q:=[]) (P:=P) (A:=A) hf hs a1 (fun c hc=>⟨(a4 c hc).1,(a4 c hc).2.1⟩) (by omega) (by omega)
  refine .inl ⟨(w64 (m+1),C++[baseL P.length s.Cells s.Cells.length],[],[],[],P',A'),?_,_,P',A',by rw [za (by omega) (by omega)];rfl,by simp [hC],?_,?_,by omega⟩
  ·unfold z3s
   dsimp only
   rw [if_pos (by simpa using hm),e1,Option.bind_some]
   rw [z8]
   unfold z8S
   dsimp only
   rw [if_pos (by simp;omega)]
  ·intro j s' hj hs'
   by_cases hjm:j<m
   ·rw [List.getElem?_append_left (by omega)]
    exact hr j s' hjm hs'
   ·obtain rfl:j=m:=by omega
    rw [hs] at hs'
    cases hs'
    rw [List.getElem?_append_right (by omega),hC,Nat.sub_self,hP]
    rfl
  ·rw [e2,hP,zg3 hs,List.length_append]) (by
  rintro st ⟨C,P,A,rfl,hC,hr,hP,hA⟩
  rw [List.take_length] at hP
  refine .inr ⟨_,?_,C,P,A,rfl,hC,fun j s hs=>hr j s (List.getElem?_eq_some_iff.1 hs).1 hs,hP,by omega⟩
  unfold z3s
  rw [if_neg (by simp)]) (fuel:=fuel) (i:=0) (s:=(0,[],[],[],[],[⟨0,0⟩],[⟨1,0,0,[],List.replicate (1:Int).toNat ⟨0,0⟩⟩])) (Nat.zero_le _) (by omega) ⟨_,_,_,rfl,rfl,fun j s hj _=>absurd hj (Nat.not_lt_zero _),by simp [portK],by simp⟩
 exact⟨C,P,A,h1,h2,h3,h4,h5⟩
theorem zjK {fuel N:Nat}{g:D.Qe}(hf:18446744073709551616≤fuel) (hS:Small g) (hN:N≤500000):∃ V:List (List Int),iter (z3q fuel g) fuel ((N:Int),0,[])=some (.inl (((N+(varK g.Qg).length:Nat):Int),V))∧V.length=g.Qg.length∧∀ (j:Nat) s,g.Qg[j]? = some s→V[j]? = some ((List.range s.QM.length).map fun i=>((N+(varK (g.Qg.take j)).length+i:Nat):Int)):=by
 have hn:=hS.n
 obtain⟨o,f1,V,rfl,f2,f3⟩:=z1g (body:=z3q fuel g) (fun m st=>∃ V:List (List Int),st=(((N+(varK (g.Qg.take m)).length:Nat):Int),(m:Int),V)∧V.length=m∧∀ (j:Nat) s,j<m→g.Qg[j]? = some s→V[j]? = some ((List.range s.QM.length).map fun i=>((N+(varK (g.Qg.take j)).length+i:Nat):Int))) g.Qg.length
  (fun o=>∃ V:List (List Int),o=.inl (((N+(varK g.Qg).length:Nat):Int),V)∧V.length=g.Qg.length∧∀ (j:Nat) s,g.Qg[j]? = some s→V[j]? = some ((List.range s.QM.length).map fun i=>((N+(varK (g.Qg.take j)).length+i:Nat):Int))) (by
  rintro m st hm ⟨V,rfl,hV,hr⟩
  obtain⟨s,hs⟩:=z42 hm
  obtain⟨a1,a2,a3,a4,a5⟩:=hS.s s (List.mem_of_getElem? hs)
  have hvl:=zi6 hS m (by omega)
  have e1:=znC (z1:=((N+(varK (g.Qg.take m)).length:Nat):Int)) (z2:=V) (n:=N+(varK (g.Qg.take m)).length) hf hs a2 (by omega)
  refine .inl ⟨(((N+(varK (g.Qg.take m)).length+s.QM.length:Nat):Int),w64 (m+1),V++[(List.range s.QM.length).map fun i=>((N+(varK (g.Qg.take m)).length+i:Nat):Int)]),?_,V++[(List.range s.QM.length).map fun i=>((N+(varK (g.Qg.take m)).length+i:Nat):Int)],?_,by simp [hV],?_⟩
  ·unfold z3q
   dsimp only
   rw [if_pos (by simpa using hm),e1,Option.bind_some]
   rw [z8]
   unfold z8T
   dsimp only
   rw [if_pos (by simp;omega)]
  ·rw [za (by omega) (by omega),zgR hs,List.length_append]
   unfold varR
   simp only [List.length_map,List.length_range,Nat.add_assoc]
   rfl
  ·intro j s' hj hs'
   by_cases hjm:j<m
   ·rw [List.getElem?_append_left (by omega)]
    exact hr j s' hjm hs'
   ·obtain rfl:j=m:=by omega
    rw [hs] at hs'
    cases hs'
    rw [List.getElem?_append_right (by omega),hV,Nat.sub_self]
    rfl) (by
  rintro st ⟨V,rfl,hV,hr⟩
  rw [List.take_length]
  refine .inr ⟨_,?_,V,rfl,hV,fun j s hs=>hr j s (List.getElem?_eq_some_iff.1 hs).1 hs⟩
  unfold z3q
  rw [if_neg (by simp)]) (fuel:=fuel) (i:=0) (s:=((N:Int),0,[])) (Nat.zero_le _) (by omega) ⟨[],by simp [varK],rfl,fun j s hj _=>absurd hj (Nat.not_lt_zero _)⟩
 exact⟨V,f1,f2,f3⟩
theorem znw {fuel:Nat}{g:D.Qe}{more:List D.Qd}(hf:18446744073709551616≤fuel) (hS:Small g) (hM:moreOk more):∃ L at_,z7x fuel g more=some (L,at_)∧Items g more L at_:=by
 have hn:=hS.n
 unfold z7x
 rw [if_pos (by simp)]
 obtain⟨C,P,A,h1,h2,h3,h4,h5⟩:=ziD hf hS
 rw [h1,Option.bind_some]
 rw [z8]
 unfold z8W
 dsimp only
 have hpl:=zck hS g.Qg.length (Nat.le_refl _)
 rw [List.take_length] at hpl
 obtain⟨P',A',e1,e2,e3⟩:=zo7 (more:=more) (C:=C) (V:=[]) (E:=[]) (Q:=[]) (P:=P) (A:=A) hf hM.1 hM.2 (by omega) (by omega)
 rw [e1,Option.bind_some]
 rw [z8]
 unfold z8V
 dsimp only
 have hmore:=zbR (t:=3) (m:=0) (cs:=more) (fun c hc=>(hM.2 c hc).2) more.length (Nat.le_refl _)
 rw [List.take_length] at hmore
 have hM1:=hM.1
 have hPl:P'.length=(portK g.Qg).length+(rowK 3 0 more).length:=by rw [e2,h4]
 obtain⟨V,f1,f2,f3⟩:=zjK (N:=P'.length) hf hS (by omega)
 rw [f1,Option.bind_some]
 rw [z8]
 unfold z8U
 dsimp only
 have hvl:=zi6 hS g.Qg.length (Nat.le_refl _)
 rw [List.take_length] at hvl
 rw [if_pos (by simp;omega)]
 refine⟨_,_,rfl,?_,?_,?_,?_,rfl,?_⟩
 ·dsimp only;rw [hPl,List.length_append]
 ·intro m i s c hs hc
  have hi:=(List.getElem?_eq_some_iff.1 hc).1
  refine⟨_,h3 m s hs,?_⟩
  rw [znx hi,zcY (t:=1) (m:=0) (t':=1) (m':=m) i (by omega)]
 ·intro m i s hs hi
  refine⟨_,f3 m s hs,?_⟩
  rw [List.getElem?_map,List.getElem?_range hi,hPl]
  rfl
 ·dsimp only
  congr 1
  unfold allK
  rw [List.length_append,List.length_append,← hPl]
  omega
 ·intro i c hc
  have hi:=(List.getElem?_eq_some_iff.1 hc).1
  rw [znx hi,h4,zcY (t:=1) (m:=0) (t':=3) (m':=0) i (by omega)]
end Go.E


namespace Go.E
open Go.RowKit Go.Proofs
set_option linter.unusedSimpArgs false
set_option linter.unusedVariables false

def aliveN (g:D.Qe) (a:D.Qc):Bool:=decide (0≤a.Qb∧0≤a.Qk) && (g.Qg[a.Qb.toNat]?).any fun s=>if a.Qj=1 then(s.Cells[a.Qk.toNat]?).any fun c=>decide (c.Qj≠0) else if a.Qj=2 then(s.QM[a.Qk.toNat]?).any fun v=>v.Qa2 else false
def keyA (a:D.Qc):Key:=if a.Qj=1 then(1,a.Qb.toNat,a.Qk.toNat,0) else(2,a.Qb.toNat,a.Qk.toNat,0)

theorem zcn {α:Type}{xs:List α}{i:Int}(h:(xs.length:Int)≤i):xs[i.toNat]? = none:=List.getElem?_eq_none (by omega)
theorem zga {α:Type}{xs:List α}{i:Int}(h0:0≤i) (h:i<xs.length):∃ x,xs[i.toNat]? = some x∧idx xs i=some x:=by
 obtain⟨x,hx⟩:=z42 (xs:=xs) (i:=i.toNat) (by omega)
 exact⟨x,hx,by unfold idx;rw [if_pos h0,hx]⟩
theorem zbp {fuel:Nat}{g:D.Qe}{a:D.Qc}(hs:g.sz≤1048576):z2p fuel g a=some (aliveN g a):=by
 have hm:maxLen=9223372036854775807:=rfl
 obtain⟨z1,z2⟩:=zc8 hs
 unfold z2p aliveN
 rw [zcp (by omega),z6M,Option.bind_some]
 by_cases hM:0≤a.Qb∧a.Qb≤(g.Qg.length:Int) - 1
 ·obtain⟨s,s1,s2⟩:=zga (xs:=g.Qg) hM.1 (by omega)
  obtain⟨y1,y2,y3,y4⟩:=zaN (z2 s (List.mem_of_getElem? s1))
  rw [decide_eq_true hM,if_neg (by simp),s2,Option.bind_some,s1,Option.any_some]
  by_cases k1:a.Qj=1
  ·rw [if_pos (by simp [k1]),if_pos k1,zcp (by omega),z6M,Option.bind_some]
   by_cases hi:0≤a.Qk∧a.Qk≤(s.Cells.length:Int) - 1
   ·obtain⟨c,c1,c2⟩:=zga (xs:=s.Cells) hi.1 (by omega)
    rw [if_pos (decide_eq_true hi),c2,Option.bind_some,c1,Option.any_some,decide_eq_true ⟨hM.1,hi.1⟩]
    by_cases h:c.Qj=0<;>simp [h]
   ·rw [if_neg (by simpa using hi)]
    by_cases h0:0≤a.Qk
    ·rw [zcn (by omega)];simp
    ·rw [decide_eq_false (fun h=>h0 h.2)];rfl
  ·rw [if_neg (by simpa using k1),if_neg k1]
   by_cases k2:a.Qj=2
   ·rw [if_pos (by simp [k2]),if_pos k2,zcp (by omega),z6M,Option.bind_some]
    by_cases hi:0≤a.Qk∧a.Qk≤(s.QM.length:Int) - 1
    ·obtain⟨c,c1,c2⟩:=zga (xs:=s.QM) hi.1 (by omega)
     rw [if_pos (decide_eq_true hi),c2,Option.bind_some,c1,Option.any_some,decide_eq_true ⟨hM.1,hi.1⟩]
     rfl
    ·rw [if_neg (by simpa using hi)]
     by_cases h0:0≤a.Qk
     ·rw [zcn (by omega)];simp
     ·rw [decide_eq_false (fun h=>h0 h.2)];rfl
   ·rw [if_neg (by simpa using k2),if_neg k2];simp
 ·rw [decide_eq_false hM,if_pos (by simp)]
  by_cases h0:0≤a.Qb
  ·rw [zcn (by omega)];simp
  ·rw [decide_eq_false (fun h=>h0 h.1)];rfl
theorem zjt {fuel:Nat}{g:D.Qe}{a:D.Qc}:z2X fuel g a=some (aliveN g a):=by
 unfold z2X z2B aliveN
 by_cases h1:a.Qb<0
 ·rw [if_pos (decide_eq_true h1),if_pos rfl,decide_eq_false (fun h=>by omega)];rfl
 ·rw [if_neg (by simpa using h1)]
  by_cases h2:a.Qb≥(g.Qg.length:Int)
  ·rw [if_pos (decide_eq_true h2),if_pos rfl,zcn h2];simp
  ·rw [if_neg (by simpa using h2)]
   obtain⟨s,s1,s2⟩:=zga (xs:=g.Qg) (i:=a.Qb) (by omega) (by omega)
   rw [s1,Option.any_some]
   by_cases h3:a.Qk<0
   ·rw [if_pos (decide_eq_true h3),decide_eq_false (fun h=>by omega)];rfl
   ·rw [if_neg (by simpa using h3),s2,Option.bind_some,decide_eq_true (p:=0≤a.Qb∧0≤a.Qk) ⟨by omega,by omega⟩,Bool.true_and]
    by_cases k1:a.Qj=1
    ·rw [if_pos (by simp [k1]),if_pos k1]
     by_cases hi:a.Qk<(s.Cells.length:Int)
     ·obtain⟨c,c1,c2⟩:=zga (xs:=s.Cells) (i:=a.Qk) (by omega) hi
      rw [if_pos (decide_eq_true hi),c2,Option.bind_some,c1,Option.any_some]
      by_cases h:c.Qj=0<;>simp [h]
     ·rw [if_neg (by simpa using hi),zcn (by omega)];rfl
    ·rw [if_neg (by simpa using k1),if_neg k1]
     by_cases k2:a.Qj=2
     ·rw [if_pos (by simp [k2]),if_pos k2]
      by_cases hi:a.Qk<(s.QM.length:Int)
      ·obtain⟨c,c1,c2⟩:=zga (xs:=s.QM) (i:=a.Qk) (by omega) hi
       rw [if_pos (decide_eq_true hi),c2,Option.bind_some,c1,Option.any_some]
      ·rw [if_neg (by simpa using hi),zcn (by omega)];rfl
     ·rw [if_neg (by simpa using k2),if_neg k2]

theorem zfk {g:D.Qe}{a:D.Qc}(h:aliveN g a=true):0≤a.Qb∧0≤a.Qk∧∃ s,g.Qg[a.Qb.toNat]? = some s∧
  ((a.Qj=1∧∃ c,s.Cells[a.Qk.toNat]? = some c∧c.Qj≠0)∨(a.Qj=2∧∃ v,s.QM[a.Qk.toNat]? = some v∧v.Qa2=true)):=by
 unfold aliveN at h
 rw [Bool.and_eq_true,decide_eq_true_eq] at h
 obtain⟨⟨h1,h2⟩,h3⟩:=h
 refine⟨h1,h2,?_⟩
 cases hs:g.Qg[a.Qb.toNat]? with
 | none=>rw [hs] at h3;cases h3
 | some s=>
  rw [hs,Option.any_some] at h3
  refine⟨s,rfl,?_⟩
  by_cases k1:a.Qj=1
  ·rw [if_pos k1] at h3
   cases hc:s.Cells[a.Qk.toNat]? with
   | none=>rw [hc] at h3;cases h3
   | some c=>rw [hc,Option.any_some,decide_eq_true_eq] at h3;exact .inl ⟨k1,c,rfl,h3⟩
  ·rw [if_neg k1] at h3
   by_cases k2:a.Qj=2
   ·rw [if_pos k2] at h3
    cases hc:s.QM[a.Qk.toNat]? with
    | none=>rw [hc] at h3;cases h3
    | some c=>rw [hc,Option.any_some] at h3;exact .inr ⟨k2,c,rfl,h3⟩
   ·rw [if_neg k2] at h3;cases h3
theorem zd3 {fuel:Nat}{g:D.Qe}{more:List D.Qd}{L L':D.Qm}{at_:List Int}{a:D.Qc}(hI:Items g more L at_) (hc:L'.cells=L.cells) (hv:L'.QU=L.QU) (h:aliveN g a=true):
  ∃ x:Nat,zX fuel L' a=some (x:Int)∧(allK g more)[x]? = some (keyA a):=by
 obtain⟨h1,h2,s,hs,h3⟩:=zfk h
 have em:a.Qb=((a.Qb.toNat:Nat):Int):=by omega
 have ei:a.Qk=((a.Qk.toNat:Nat):Int):=by omega
 unfold zX keyA
 rcases h3 with⟨k1,c,c1,c2⟩ | ⟨k2,v,v1,v2⟩
 ·rw [if_pos (by simp [k1]),if_pos k1,hc]
  obtain⟨row,r1,r2⟩:=hI.cell _ _ s c hs c1
  refine⟨_,?_,zj0 (k:=0) hs c1 c2 (Nat.zero_le _)⟩
  rw [em,z9 r1,Option.bind_some,ei,z9 r2]
  rfl
 ·have hi:=(List.getElem?_eq_some_iff.1 v1).1
  rw [if_neg (by simp [k2]),if_neg (by omega),hv]
  obtain⟨row,r1,r2⟩:=hI.var _ _ s hs hi
  refine⟨_,?_,znA hs hi⟩
  rw [em,z9 r1,Option.bind_some,ei,z9 r2]
  rfl


def EndsOk (ks0:List Key) (E:List (List Int)) (ks:List Key):Prop:=E.length=ks0.length∧∀ (x:Nat) key,ks0[x]? = some key→∃ e,E[x]? = some e∧e.length=ks.count key
theorem zo6 {α:Type}{xs:List α}(h:xs.Nodup){i j:Nat}{a:α}(hi:xs[i]? = some a) (hj:xs[j]? = some a):i=j:=by
 obtain⟨h1,h2⟩:=List.getElem?_eq_some_iff.1 hi
 obtain⟨h3,h4⟩:=List.getElem?_eq_some_iff.1 hj
 have hp:=List.pairwise_iff_getElem.1 h
 rcases Nat.lt_trichotomy i j with hl | hl | hl
 ·exact absurd (h2.trans h4.symm) (hp i j h1 h3 hl)
 ·exact hl
 ·exact absurd (h4.trans h2.symm) (hp j i h3 h1 hl)
theorem zhT {ks0:List Key}(hn:ks0.Nodup){E:List (List Int)}{ks:List Key}(h:EndsOk ks0 E ks){x:Nat}{k:Key}(hx:ks0[x]? = some k) (n:Int):
  ∃ e,E[x]? = some e∧e.length≤ks.length∧EndsOk ks0 (E.set x (e++[n])) (ks++[k]):=by
 obtain⟨hl,he⟩:=h
 obtain⟨e,e1,e2⟩:=he x k hx
 refine⟨e,e1,by rw [e2];exact List.count_le_length,by simp [hl],fun y key hy=>?_⟩
 obtain⟨f,f1,f2⟩:=he y key hy
 by_cases hxy:x=y
 ·subst hxy
  rw [hx] at hy
  cases hy
  have hlt:=(List.getElem?_eq_some_iff.1 e1).1
  exact⟨_,List.getElem?_set_self hlt,by simp [e2]⟩
 ·refine⟨f,by rw [List.getElem?_set_ne hxy];exact f1,?_⟩
  have hk:k≠key:=fun e=>hxy (zo6 hn hx (by rw [e];exact hy))
  rw [f2,List.count_append,List.count_singleton]
  simp [hk]

structure Run (g:D.Qe) (more:List D.Qd) (L L':D.Qm) (ks:List Key):Prop where
 QH:L'.QH=L.QH
 cells:L'.cells=L.cells
 QU:L'.QU=L.QU
 ends:EndsOk (allK g more) L'.ends ks
 Qy:L'.Qy.length≤ks.length
theorem zcQ {fuel:Nat}{g:D.Qe}{more:List D.Qd}{L L':D.Qm}{ks:List Key}{x y:Nat}{k1 k2:Key}(hR:Run g more L L' ks) (hx:(allK g more)[x]? = some k1) (hy:(allK g more)[y]? = some k2) (hb:ks.length≤1000000):
  ∃ L'',zQ fuel L' (x:Int) (y:Int)=some L''∧Run g more L L'' (ks++[k1,k2]):=by
 obtain⟨e,e1,e2,e3⟩:=zhT zgd hR.ends hx (L'.Qy.length:Int)
 obtain⟨f,f1,f2,f3⟩:=zhT zgd e3 hy (L'.Qy.length:Int)
 have hp:=hR.Qy
 rw [List.length_append,List.length_singleton] at f2
 unfold zQ
 rw [if_pos (by simp only [List.length_singleton,decide_eq_true_eq];omega),z9 e1,Option.bind_some,if_pos (by simp only [List.length_singleton,decide_eq_true_eq];omega)]
 unfold z3n
 rw [Int.toNat_natCast,z9 f1,Option.bind_some,if_pos (by simp only [List.length_singleton,decide_eq_true_eq];omega),Int.toNat_natCast]
 refine⟨_,rfl,hR.QH,hR.cells,hR.QU,?_,?_⟩
 ·rw [List.append_assoc] at f3
  exact f3
 ·simp only [List.length_append,List.length_cons,List.length_nil]
  omega


theorem tryLoop {α S τ ρ:Type}{xs:List α}{body:S→Option (Rd S τ ρ)}(J:Nat→S→Prop) (p:Nat→α→Bool) (QT:τ→Prop) (QR:ρ→Prop){s0:S}{fuel:Nat}(hl:xs.length≤1048576) (hf:18446744073709551616≤fuel)
  (step:∀ (i:Nat) x s,xs[i]? = some x→J i s→(p i x=true→∃ s',body s=some (.next s')∧J (i+1) s')∧(p i x=false→∃ r,body s=some (.ret r)∧QR r))
  (last:∀ s,J xs.length s→∃ t,body s=some (.brk t)∧QT t) (h0:J 0 s0):
  ((xs.zipIdx.all fun y=>p y.2 y.1)=true∧∃ t,iter body fuel s0=some (.inl t)∧QT t)∨((xs.zipIdx.all fun y=>p y.2 y.1)=false∧∃ r,iter body fuel s0=some (.inr r)∧QR r):=by
 obtain⟨o,h1,h2⟩:=z1g (body:=body) (fun i s=>J i s∧∀ (j:Nat) x,j<i→xs[j]? = some x→p j x=true) xs.length (fun o=>((xs.zipIdx.all fun y=>p y.2 y.1)=true∧∃ t,o=.inl t∧QT t)∨((xs.zipIdx.all fun y=>p y.2 y.1)=false∧∃ r,o=.inr r∧QR r)) (by
  rintro i s hi ⟨hJ,hp⟩
  obtain⟨x,hx⟩:=z42 hi
  obtain⟨g1,g2⟩:=step i x s hx hJ
  cases hpx:p i x with
  | true=>
   obtain⟨s',e1,e2⟩:=g1 hpx
   refine .inl ⟨s',e1,e2,fun j y hj hy=>?_⟩
   by_cases hji:j<i
   ·exact hp j y hji hy
   ·obtain rfl:j=i:=by omega
    rw [hx] at hy;cases hy;exact hpx
  | false=>
   obtain⟨r,e1,e2⟩:=g2 hpx
   refine .inr (.inl ⟨r,e1,.inr ⟨?_,r,rfl,e2⟩⟩)
   cases hz:(xs.zipIdx.all fun y=>p y.2 y.1) with
   | false=>rfl
   | true=>
    have:=z8K.1 hz i x hx
    rw [Nat.zero_add,hpx] at this
    cases this) (by
  rintro s ⟨hJ,hp⟩
  obtain⟨t,e1,e2⟩:=last s hJ
  refine .inr ⟨t,e1,.inl ⟨?_,t,rfl,e2⟩⟩
  refine z8K.2 fun i x hx=>?_
  rw [Nat.zero_add]
  exact hp i x (List.getElem?_eq_some_iff.1 hx).1 hx) (fuel:=fuel) (i:=0) (s:=s0) (Nat.zero_le _) (by omega) ⟨h0,fun j x hj _=>absurd hj (Nat.not_lt_zero _)⟩
 rw [h1]
 rcases h2 with⟨a,t,rfl,b⟩ | ⟨a,r,rfl,b⟩
 ·exact .inl ⟨a,t,rfl,b⟩
 ·exact .inr ⟨a,r,rfl,b⟩

def fl {α β:Type}(f:Nat→α→List β) (xs:List α) (i:Nat):List β:=(xs.take i).zipIdx.flatMap fun x=>f x.2 x.1
theorem z9W {α β:Type}{f:Nat→α→List β}{xs:List α}:fl f xs 0=[]:=by simp [fl]
theorem z9t {α β:Type}{f:Nat→α→List β}{xs:List α}{i:Nat}{x:α}(h:xs[i]? = some x):fl f xs (i+1)=fl f xs i++f i x:=by
 unfold fl
 rw [zcN h,List.flatMap_append]
 simp
theorem z9u {α β:Type}{f:Nat→α→List β}{xs:List α}{b:Nat}(h:∀ i x,xs[i]? = some x→(f i x).length≤b):∀ i,i≤xs.length→(fl f xs i).length≤b*i
 | 0,_=>by simp [z9W]
 | i+1,hi=>by
  obtain⟨x,hx⟩:=z42 (xs:=xs) (i:=i) (by omega)
  rw [z9t hx,List.length_append,Nat.mul_succ]
  have:=z9u h i (by omega)
  have:=h i x hx
  omega
def auxK (t m i k:Nat) (a:D.Qc):List Key:=[(t,m,i,k+1),keyA a]
def redK (_:Nat) (r:D.Qn):List Key:=[keyA r.A,keyA r.B]
def fullK (m i:Nat) (v:D.Qp):List Key:=if v.Qa3=true then [(2,m,i,0),keyA v.QX] else []
def cellS (t m i:Nat) (c:D.Qd):List Key:=fl (auxK t m i) c.QY c.QY.length
def shardS (m:Nat) (s:D.Qv):List Key:=fl (cellS 1 m) s.Cells s.Cells.length++(fl redK s.Qu s.Qu.length++fl (fullK m) s.QM s.QM.length)
def rootS (g:D.Qe):List Key:=[(0,0,0,0),keyA g.Qo]
def gridS (g:D.Qe):List Key:=rootS g++fl shardS g.Qg g.Qg.length
def fullA (g:D.Qe) (m i:Nat) (v:D.Qp):Bool:=!v.Qa3 || (aliveN g ⟨m,2,i⟩ && aliveN g v.QX)
def shardA (g:D.Qe) (m:Nat) (s:D.Qv):Bool:=(s.Cells.all fun c=>c.QY.all (aliveN g)) && ((s.Qu.all fun r=>aliveN g r.A && aliveN g r.B) && s.QM.zipIdx.all fun x=>fullA g m x.2 x.1)
def gridA (g:D.Qe):Bool:=aliveN g g.Qo && g.Qg.zipIdx.all fun x=>shardA g x.2 x.1
theorem zgO {t m i:Nat}{c:D.Qd}(h:c.QY.length≤3):(cellS t m i c).length≤6:=by
 have:=z9u (f:=auxK t m i) (xs:=c.QY) (b:=2) (fun _ _ _=>by simp [auxK]) c.QY.length (Nat.le_refl _)
 unfold cellS
 omega
theorem zny {fuel:Nat}{g:D.Qe}{more:List D.Qd}{L L':D.Qm}{at_:List Int}{ks:List Key}{c:D.Qd}{b t m i:Nat}(hf:18446744073709551616≤fuel) (hs:g.sz≤1048576) (hI:Items g more L at_) (hR:Run g more L L' ks) (hc:c.QY.length≤3) (hks:ks.length≤900000)
  (hb:b≤1000000) (hk:∀ k,k<c.QY.length→(allK g more)[b+k+1]? = some (t,m,i,k+1)):
  ∃ L'',z23 fuel L' g c (b:Int)=some (c.QY.all (aliveN g),L'')∧(c.QY.all (aliveN g)=true→Run g more L L'' (ks++cellS t m i c)):=by
 unfold z23
 have h:=tryLoop (xs:=c.QY) (body:=z2F fuel g c (b:Int)) (fuel:=fuel)
  (fun k st=>∃ M:D.Qm,st=((k:Int),M.QC,M.QH,M.cells,M.QU,M.ends,M.Qy)∧Run g more L M (ks++fl (auxK t m i) c.QY k))
  (fun _ a=>aliveN g a)
  (fun tt=>∃ M:D.Qm,tt=(M.QC,M.QH,M.cells,M.QU,M.ends,M.Qy)∧Run g more L M (ks++cellS t m i c))
  (fun r=>∃ M:D.Qm,r=(false,M)) (s0:=(0,L'.QC,L'.QH,L'.cells,L'.QU,L'.ends,L'.Qy)) (by omega) hf (by
  rintro k a _ ha ⟨M,rfl,hM⟩
  have hkl:=(List.getElem?_eq_some_iff.1 ha).1
  have hfl:=z9u (f:=auxK t m i) (xs:=c.QY) (b:=2) (fun _ _ _=>by simp [auxK]) k (by omega)
  unfold z2F
  dsimp only
  rw [if_pos (by simpa using hkl),z9 ha,Option.bind_some,zbp hs,Option.bind_some]
  constructor
  ·intro hal
   rw [hal]
   obtain⟨y,y1,y2⟩:=zd3 (fuel:=fuel) (L':=M) hI hM.cells hM.QU hal
   obtain⟨M',e1,e2⟩:=zcQ (fuel:=fuel) hM (hk k hkl) y2 (by rw [List.length_append];omega)
   refine⟨(w64 (k+1),M'.QC,M'.QH,M'.cells,M'.QU,M'.ends,M'.Qy),?_,M',?_,?_⟩
   ·rw [if_neg (by simp),Option.bind_some]
    have y1':zX fuel ⟨M.QC,M.QH,M.cells,M.QU,M.ends,M.Qy⟩ a=some (y:Int):=y1
    have e1':zQ fuel ⟨M.QC,M.QH,M.cells,M.QU,M.ends,M.Qy⟩ ((b+k+1:Nat):Int) (y:Int)=some M':=e1
    rw [y1',Option.bind_some,za (n:=(b:Int)+k) (by omega) (by omega),za (by omega) (by omega),show(b:Int)+(k:Int)+1=((b+k+1:Nat):Int) by omega,e1',Option.bind_some]
   ·rw [za (by omega) (by omega)];rfl
   ·rw [z9t ha,← List.append_assoc];exact e2
  ·intro hal
   rw [hal]
   exact⟨_,rfl,M,rfl⟩) (by
  rintro _ ⟨M,rfl,hM⟩
  refine⟨_,?_,M,rfl,hM⟩
  unfold z2F
  rw [if_neg (by simp)]) ⟨L',rfl,by rw [z9W,List.append_nil];exact hR⟩
 rw [z7i (p:=aliveN g)] at h
 rcases h with⟨h1,tt,h2,M,rfl,h3⟩ | ⟨h1,r,h2,M,rfl⟩
 ·rw [h2,Option.bind_some,z8,h1]
  exact⟨M,rfl,fun _=>h3⟩
 ·rw [h2,Option.bind_some,h1]
  exact⟨M,rfl,fun h=>by cases h⟩
theorem zgu {fuel:Nat}{g:D.Qe}{more:List D.Qd}{L L':D.Qm}{at_:List Int}{ks:List Key}{a b:D.Qc}(hs:g.sz≤1048576) (hI:Items g more L at_) (hR:Run g more L L' ks) (hks:ks.length≤900000):
  ∃ L'',z1d fuel L' g a b=some (aliveN g a && aliveN g b,L'')∧((aliveN g a && aliveN g b)=true→Run g more L L'' (ks++[keyA a,keyA b])):=by
 unfold z1d
 rw [zbp hs,zbp hs,Option.bind_some,Option.bind_some]
 unfold z2n
 cases ha:aliveN g a with
 | false=>exact⟨_,rfl,fun h=>by cases h⟩
 | true=>
  cases hb:aliveN g b with
  | false=>exact⟨_,rfl,fun h=>by cases h⟩
  | true=>
   obtain⟨x,x1,x2⟩:=zd3 (fuel:=fuel) (L':=L') hI hR.cells hR.QU ha
   obtain⟨y,y1,y2⟩:=zd3 (fuel:=fuel) (L':=L') hI hR.cells hR.QU hb
   obtain⟨M,e1,e2⟩:=zcQ (fuel:=fuel) hR x2 y2 (by omega)
   rw [if_neg (by simp),if_neg (by simp),x1,Option.bind_some,y1,Option.bind_some,e1,Option.bind_some]
   exact⟨M,rfl,fun _=>e2⟩
end Go.E


namespace Go.E
open Go.RowKit Go.Proofs
set_option linter.unusedSimpArgs false
set_option linter.unusedVariables false

theorem zin {s:D.Qv}(h:s.Qu.length≤400) (i:Nat) (hi:i≤s.Qu.length):(fl redK s.Qu i).length≤2*i:=z9u (b:=2) (fun _ _ _=>by simp [redK]) i hi
theorem ziR {s:D.Qv}{m:Nat}(i:Nat) (hi:i≤s.QM.length):(fl (fullK m) s.QM i).length≤2*i:=z9u (b:=2) (fun _ _ _=>by unfold fullK;split<;>simp) i hi
theorem zfg {s:D.Qv}{m:Nat}(h:∀ c,c∈s.Cells→c.QY.length≤3) (i:Nat) (hi:i≤s.Cells.length):(fl (cellS 1 m) s.Cells i).length≤6*i:=z9u (b:=6) (fun j c hc=>zgO (h c (List.mem_of_getElem? hc))) i hi

abbrev Tup (M:D.Qm):List D.QJ × List D.QV × List (List Int) × List (List Int) × List (List Int) × List (List Int):=(M.QC,M.QH,M.cells,M.QU,M.ends,M.Qy)
section
variable {fuel:Nat}{g:D.Qe}{more:List D.Qd}{L:D.Qm}{at_:List Int}
theorem znt {M0:D.Qm}{ks:List Key}{m:Nat}{s:D.Qv}{z:List D.QJ × List D.QV × List (List Int) × List (List Int) × List (List Int) × List (List Int)}(hf:18446744073709551616≤fuel) (hs:g.sz≤1048576) (hS:Small g) (hI:Items g more L at_) (hR:Run g more L M0 ks) (hm:g.Qg[m]? = some s) (hks:ks.length≤500000):
  ((s.Cells.all fun c=>c.QY.all (aliveN g))=true∧∃ t,iter (z20 fuel g ((m:Int),z) s) fuel (0,Tup M0)=some (.inl t)∧∃ M,t=Tup M∧Run g more L M (ks++fl (cellS 1 m) s.Cells s.Cells.length))∨
  ((s.Cells.all fun c=>c.QY.all (aliveN g))=false∧∃ r,iter (z20 fuel g ((m:Int),z) s) fuel (0,Tup M0)=some (.inr r)∧∃ M,r=.ret (false,M)):=by
 obtain⟨a1,a2,a3,a4,a5⟩:=hS.s s (List.mem_of_getElem? hm)
 have hml:=(List.getElem?_eq_some_iff.1 hm).1
 have hn:=hS.n
 have h:=tryLoop (xs:=s.Cells) (body:=z20 fuel g ((m:Int),z) s) (fuel:=fuel)
  (fun i st=>∃ M:D.Qm,st=((i:Int),Tup M)∧Run g more L M (ks++fl (cellS 1 m) s.Cells i))
  (fun _ c=>c.QY.all (aliveN g))
  (fun t=>∃ M,t=Tup M∧Run g more L M (ks++fl (cellS 1 m) s.Cells s.Cells.length))
  (fun r=>∃ M,r=.ret (false,M)) (s0:=(0,Tup M0)) (by omega) hf (by
  rintro i c _ hc ⟨M,rfl,hM⟩
  have hil:=(List.getElem?_eq_some_iff.1 hc).1
  obtain⟨c1,c2,c3⟩:=a4 c (List.mem_of_getElem? hc)
  have hfl:=zfg (m:=m) (fun c hc=>(a4 c hc).2.1) i (by omega)
  obtain⟨row,r1,r2⟩:=hI.cell m i s c hm hc
  have hp:=zck hS m (by omega)
  have hr:=zbR (t:=1) (m:=m) (fun c hc=>(a4 c hc).2.1) i (by omega)
  obtain⟨M',e1,e2⟩:=zny (fuel:=fuel) (t:=1) (m:=m) (i:=i) (b:=(portK (g.Qg.take m)).length+(rowK 1 m (s.Cells.take i)).length) hf hs hI hM c2 (by rw [List.length_append];omega) (by omega) (fun k hk=>by
   have k0:c.Qj≠0:=fun h0=>by
    unfold shCellN at c3
    rw [if_pos h0,decide_eq_true_eq] at c3
    rw [c3.2.2.2] at hk
    exact absurd hk (Nat.not_lt_zero _)
   exact zj0 hm hc k0 hk)
  have e1':z23 fuel ⟨M.QC,M.QH,M.cells,M.QU,M.ends,M.Qy⟩ g c (((portK (g.Qg.take m)).length+(rowK 1 m (s.Cells.take i)).length:Nat):Int)=some (c.QY.all (aliveN g),M'):=e1
  unfold z20
  dsimp only
  rw [if_pos (by simpa using hil),z9 hc,Option.bind_some,hM.cells,z9 r1,Option.bind_some,z9 r2,Option.bind_some,← hM.cells,e1',Option.bind_some]
  constructor
  ·intro hal
   rw [hal,if_neg (by simp)]
   exact⟨(w64 (i+1),Tup M'),rfl,M',by rw [za (by omega) (by omega)];rfl,by rw [z9t hc,← List.append_assoc];exact e2 hal⟩
  ·intro hal
   rw [hal,if_pos (by simp)]
   exact⟨_,rfl,_,rfl⟩) (by
  rintro _ ⟨M,rfl,hM⟩
  refine⟨_,?_,M,rfl,hM⟩
  unfold z20
  rw [if_neg (by simp)]) ⟨M0,rfl,by rw [z9W,List.append_nil];exact hR⟩
 rw [z7i (p:=fun c:D.Qd=>c.QY.all (aliveN g))] at h
 exact h
theorem znO {M0:D.Qm}{ks:List Key}{s:D.Qv}(hf:18446744073709551616≤fuel) (hs:g.sz≤1048576) (hI:Items g more L at_) (hR:Run g more L M0 ks) (hz:s.Qu.length≤400) (hks:ks.length≤500000):
  ((s.Qu.all fun r=>aliveN g r.A && aliveN g r.B)=true∧∃ t,iter (z1Z fuel g s) fuel (0,Tup M0)=some (.inl t)∧∃ M,t=Tup M∧Run g more L M (ks++fl redK s.Qu s.Qu.length))∨
  ((s.Qu.all fun r=>aliveN g r.A && aliveN g r.B)=false∧∃ r,iter (z1Z fuel g s) fuel (0,Tup M0)=some (.inr r)∧∃ M,r=.ret (false,M)):=by
 have h:=tryLoop (xs:=s.Qu) (body:=z1Z fuel g s) (fuel:=fuel)
  (fun i st=>∃ M:D.Qm,st=((i:Int),Tup M)∧Run g more L M (ks++fl redK s.Qu i))
  (fun _ r=>aliveN g r.A && aliveN g r.B)
  (fun t=>∃ M,t=Tup M∧Run g more L M (ks++fl redK s.Qu s.Qu.length))
  (fun r=>∃ M,r=.ret (false,M)) (s0:=(0,Tup M0)) (by omega) hf (by
  rintro i c _ hc ⟨M,rfl,hM⟩
  have hil:=(List.getElem?_eq_some_iff.1 hc).1
  have hfl:=zin hz i (by omega)
  obtain⟨M',e1,e2⟩:=zgu (fuel:=fuel) (a:=c.A) (b:=c.B) hs hI hM (by rw [List.length_append];omega)
  have e1':z1d fuel ⟨M.QC,M.QH,M.cells,M.QU,M.ends,M.Qy⟩ g c.A c.B=some (aliveN g c.A && aliveN g c.B,M'):=e1
  unfold z1Z
  dsimp only
  rw [if_pos (by simpa using hil),z9 hc,Option.bind_some,Option.bind_some,e1',Option.bind_some]
  constructor
  ·intro hal
   rw [hal,if_neg (by simp)]
   exact⟨(w64 (i+1),Tup M'),rfl,M',by rw [za (by omega) (by omega)];rfl,by rw [z9t hc,← List.append_assoc];exact e2 hal⟩
  ·intro hal
   rw [hal,if_pos (by simp)]
   exact⟨_,rfl,_,rfl⟩) (by
  rintro _ ⟨M,rfl,hM⟩
  refine⟨_,?_,M,rfl,hM⟩
  unfold z1Z
  rw [if_neg (by simp)]) ⟨M0,rfl,by rw [z9W,List.append_nil];exact hR⟩
 rw [z7i (p:=fun r:D.Qn=>aliveN g r.A && aliveN g r.B)] at h
 exact h
theorem znD {M0:D.Qm}{ks:List Key}{m:Nat}{s:D.Qv}{z:List D.QJ × List D.QV × List (List Int) × List (List Int) × List (List Int) × List (List Int)}(hf:18446744073709551616≤fuel) (hs:g.sz≤1048576) (hI:Items g more L at_) (hR:Run g more L M0 ks) (hz:s.QM.length≤400) (hks:ks.length≤500000):
  ((s.QM.zipIdx.all fun x=>fullA g m x.2 x.1)=true∧∃ t,iter (z1Y fuel g ((m:Int),z) s) fuel (0,Tup M0)=some (.inl t)∧∃ M,t=Tup M∧Run g more L M (ks++fl (fullK m) s.QM s.QM.length))∨
  ((s.QM.zipIdx.all fun x=>fullA g m x.2 x.1)=false∧∃ r,iter (z1Y fuel g ((m:Int),z) s) fuel (0,Tup M0)=some (.inr r)∧∃ M,r=.ret (false,M)):=by
 exact tryLoop (xs:=s.QM) (body:=z1Y fuel g ((m:Int),z) s) (fuel:=fuel)
  (fun i st=>∃ M:D.Qm,st=((i:Int),Tup M)∧Run g more L M (ks++fl (fullK m) s.QM i))
  (fun i v=>fullA g m i v)
  (fun t=>∃ M,t=Tup M∧Run g more L M (ks++fl (fullK m) s.QM s.QM.length))
  (fun r=>∃ M,r=.ret (false,M)) (s0:=(0,Tup M0)) (by omega) hf (by
  rintro i c _ hc ⟨M,rfl,hM⟩
  have hil:=(List.getElem?_eq_some_iff.1 hc).1
  have hfl:=ziR (m:=m) i (by omega:i≤s.QM.length)
  obtain⟨M',e1,e2⟩:=zgu (fuel:=fuel) (a:=⟨(m:Int),2,(i:Int)⟩) (b:=c.QX) hs hI hM (by rw [List.length_append];omega)
  have e1':z1d fuel ⟨M.QC,M.QH,M.cells,M.QU,M.ends,M.Qy⟩ g ⟨(m:Int),2,(i:Int)⟩ c.QX=some (aliveN g ⟨(m:Int),2,(i:Int)⟩ && aliveN g c.QX,M'):=e1
  unfold z1Y
  dsimp only
  rw [if_pos (by simpa using hil),z9 hc,Option.bind_some]
  unfold fullA
  cases hF:c.Qa3 with
  | false=>
   rw [if_neg (by simp)]
   refine⟨fun _=>⟨(w64 (i+1),Tup M),?_,M,by rw [za (by omega) (by omega)];rfl,?_⟩,fun h=>by cases h⟩
   ·unfold z51;rfl
   ·rw [z9t hc];unfold fullK;rw [hF,if_neg (by simp),List.append_nil];exact hM
  | true=>
   rw [if_pos rfl,Option.bind_some,e1',Option.bind_some]
   unfold z51
   rw [Bool.not_true,Bool.false_or]
   constructor
   ·intro hal
    rw [hal]
    refine⟨(w64 (i+1),Tup M'),rfl,M',by rw [za (by omega) (by omega)];rfl,?_⟩
    rw [z9t hc,← List.append_assoc]
    have h9:=e2 hal
    unfold fullK
    rw [hF,if_pos rfl]
    have:keyA ⟨(m:Int),2,(i:Int)⟩=(2,m,i,0):=by unfold keyA;simp
    rw [this] at h9
    exact h9
   ·intro hal
    rw [hal]
    exact⟨_,rfl,_,rfl⟩) (by
  rintro _ ⟨M,rfl,hM⟩
  refine⟨_,?_,M,rfl,hM⟩
  unfold z1Y
  rw [if_neg (by simp)]) ⟨M0,rfl,by rw [z9W,List.append_nil];exact hR⟩
theorem zh7 {m:Nat}{s:D.Qv}(hS:Small g) (hm:g.Qg[m]? = some s):(shardS m s).length≤4000:=by
 obtain⟨a1,a2,a3,a4,a5⟩:=hS.s s (List.mem_of_getElem? hm)
 unfold shardS
 rw [List.length_append,List.length_append]
 have:=zfg (m:=m) (fun c hc=>(a4 c hc).2.1) s.Cells.length (Nat.le_refl _)
 have:=zin a3 s.Qu.length (Nat.le_refl _)
 have:=ziR (m:=m) s.QM.length (Nat.le_refl _)
 omega
theorem zjL (hI:Items g more L at_):Run g more L L [] where
 QH:=rfl
 cells:=rfl
 QU:=rfl
 ends:=by
  rw [hI.ends]
  refine⟨by simp,fun x key hx=>⟨[],?_,rfl⟩⟩
  have:=(List.getElem?_eq_some_iff.1 hx).1
  rw [List.getElem?_replicate,if_pos this]
 Qy:=by rw [hI.Qy];exact Nat.le_refl _
theorem zpr (hf:18446744073709551616≤fuel) (hs:g.sz≤1048576) (hS:Small g) (hI:Items g more L at_):
  ∃ L',z8X fuel g L=some (gridA g,L')∧(gridA g=true→Run g more L L' (gridS g)):=by
 have hn:=hS.n
 unfold z8X gridA
 rw [zbp hs,Option.bind_some]
 cases hr:aliveN g g.Qo with
 | false=>exact⟨L,rfl,fun h=>by cases h⟩
 | true=>
  obtain⟨x,x1,x2⟩:=zd3 (fuel:=fuel) (L':=L) hI rfl rfl hr
  obtain⟨M0,e1,e2⟩:=zcQ (fuel:=fuel) (x:=0) (k1:=(0,0,0,0)) (zjL hI) (by unfold allK portK;rfl) x2 (Nat.zero_le _)
  rw [if_neg (by simp),x1,Option.bind_some]
  have e1':zQ fuel L 0 (x:Int)=some M0:=e1
  rw [e1',Option.bind_some,Bool.true_and]
  have h:=tryLoop (xs:=g.Qg) (body:=z3C fuel g) (fuel:=fuel)
   (fun m st=>∃ M:D.Qm,st=((m:Int),Tup M)∧Run g more L M (rootS g++fl shardS g.Qg m))
   (fun m s=>shardA g m s)
   (fun t=>∃ M,t=Tup M∧Run g more L M (gridS g))
   (fun r=>∃ M,r=(false,M)) (s0:=(0,Tup M0)) (by omega) hf (by
   rintro m s _ hm ⟨M,rfl,hM⟩
   have hml:=(List.getElem?_eq_some_iff.1 hm).1
   obtain⟨a1,a2,a3,a4,a5⟩:=hS.s s (List.mem_of_getElem? hm)
   have hfl:=z9u (f:=shardS) (xs:=g.Qg) (b:=4000) (fun j c hc=>zh7 hS hc) m (by omega)
   have d:(rootS g++fl shardS g.Qg m).length≤100000:=by rw [List.length_append];unfold rootS;simp only [List.length_cons,List.length_nil];omega
   have hfc:=zfg (m:=m) (fun c hc=>(a4 c hc).2.1) s.Cells.length (Nat.le_refl _)
   have hfr:=zin a3 s.Qu.length (Nat.le_refl _)
   unfold z3C
   dsimp only
   rw [if_pos (by simpa using hml),z9 hm,Option.bind_some]
   unfold shardA
   rcases znt (z:=Tup M) hf hs hS hI hM hm (by omega) with⟨c1,t,c2,M1,rfl,c3⟩ | ⟨c1,r,c2,M1,rfl⟩
   ·have c2':iter (z20 fuel g ((m:Int),M.QC,M.QH,M.cells,M.QU,M.ends,M.Qy) s) fuel (0,M.QC,M.QH,M.cells,M.QU,M.ends,M.Qy)=_:=c2
    rw [c1,Bool.true_and,c2',Option.bind_some,z8]
    unfold z9U
    dsimp only
    rcases znO (s:=s) hf hs hI c3 a3 (by rw [List.length_append];omega) with⟨d1,t,d2,M2,rfl,d3⟩ | ⟨d1,r,d2,M2,rfl⟩
    ·have d2':iter (z1Z fuel g s) fuel (0,M1.QC,M1.QH,M1.cells,M1.QU,M1.ends,M1.Qy)=_:=d2
     rw [d1,Bool.true_and,d2',Option.bind_some,z8]
     unfold z9T
     dsimp only
     rcases znD (m:=m) (s:=s) (z:=Tup M) hf hs hI d3 a2 (by rw [List.length_append,List.length_append];omega) with⟨f1,t,f2,M3,rfl,f3⟩ | ⟨f1,r,f2,M3,rfl⟩
     ·have f2':iter (z1Y fuel g ((m:Int),M.QC,M.QH,M.cells,M.QU,M.ends,M.Qy) s) fuel (0,M2.QC,M2.QH,M2.cells,M2.QU,M2.ends,M2.Qy)=_:=f2
      rw [f1,f2',Option.bind_some,z8]
      refine⟨fun _=>⟨(w64 (m+1),Tup M3),rfl,M3,by rw [za (by omega) (by omega)];rfl,?_⟩,fun h=>by cases h⟩
      rw [z9t hm]
      unfold shardS
      simp only [List.append_assoc] at f3 ⊢
      exact f3
     ·have f2':iter (z1Y fuel g ((m:Int),M.QC,M.QH,M.cells,M.QU,M.ends,M.Qy) s) fuel (0,M2.QC,M2.QH,M2.cells,M2.QU,M2.ends,M2.Qy)=_:=f2
      rw [f1,f2',Option.bind_some]
      exact⟨fun h=>(by cases h),fun _=>⟨_,rfl,_,rfl⟩⟩
    ·have d2':iter (z1Z fuel g s) fuel (0,M1.QC,M1.QH,M1.cells,M1.QU,M1.ends,M1.Qy)=_:=d2
     rw [d1,d2',Option.bind_some]
     exact⟨fun h=>(by cases h),fun _=>⟨_,rfl,_,rfl⟩⟩
   ·have c2':iter (z20 fuel g ((m:Int),M.QC,M.QH,M.cells,M.QU,M.ends,M.Qy) s) fuel (0,M.QC,M.QH,M.cells,M.QU,M.ends,M.Qy)=_:=c2
    rw [c1,c2',Option.bind_some]
    exact⟨fun h=>(by cases h),fun _=>⟨_,rfl,_,rfl⟩⟩) (by
   rintro _ ⟨M,rfl,hM⟩
   refine⟨_,?_,M,rfl,hM⟩
   unfold z3C
   rw [if_neg (by simp)]) ⟨M0,rfl,by rw [z9W,List.append_nil];exact e2⟩
  rcases h with⟨h1,t,h2,M,rfl,h3⟩ | ⟨h1,r,h2,M,rfl⟩
  ·have h2':iter (z3C fuel g) fuel (0,M0.QC,M0.QH,M0.cells,M0.QU,M0.ends,M0.Qy)=_:=h2
   rw [h2',Option.bind_some,z8,h1]
   exact⟨M,rfl,fun _=>h3⟩
  ·have h2':iter (z3C fuel g) fuel (0,M0.QC,M0.QH,M0.cells,M0.QU,M0.ends,M0.Qy)=_:=h2
   rw [h2',Option.bind_some,h1]
   exact⟨M,rfl,fun h=>by cases h⟩
def varC (S:List Key) (m:Nat) (s:D.Qv):Bool:=s.QM.zipIdx.all fun y=>!y.1.Qa2 || decide (S.count (2,m,y.2,0)=2)
def countsN (g:D.Qe) (more:List D.Qd) (S:List Key):Bool:=((portK g.Qg++rowK 3 0 more).all fun k=>decide (S.count k=1)) && g.Qg.zipIdx.all fun x=>varC S x.2 x.1
theorem zjE {M:D.Qm}{S:List Key}(hf:18446744073709551616≤fuel) (hs:g.sz≤1048576) (hI:Items g more L at_) (hR:Run g more L M S) (hp:L.QH.length≤1048576):z4Z fuel g M=some (countsN g more S):=by
 have hm:maxLen=9223372036854775807:=rfl
 obtain⟨z1,z2⟩:=zc8 hs
 have hpl:M.QH.length=(portK g.Qg++rowK 3 0 more).length:=by rw [hR.QH];exact hI.QH
 unfold z4Z
 have hP:=allLoop (xs:=portK g.Qg++rowK 3 0 more) (body:=z4w fuel M) (p:=fun _ k=>decide (S.count k=1)) (t:=()) (v:=false) (fuel:=fuel) (by rw [← hpl,hR.QH];omega) hf (fun i k hi hx=>by
  obtain⟨e,e1,e2⟩:=hR.ends.2 i k (by unfold allK;rw [List.getElem?_append_left hi];exact hx)
  unfold z4w
  rw [if_pos (by simp only [decide_eq_true_eq];omega),z9 e1,Option.bind_some,e2]
  by_cases h:S.count k=1
  ·rw [if_neg (by simp [h]),if_pos (decide_eq_true h)]
  ·rw [if_pos (by simp only [bne_iff_ne,ne_eq];omega),if_neg (by simpa using h)]) (by unfold z4w;rw [← hpl,if_neg (by simp)])
 rw [z7i (p:=fun k=>decide (S.count k=1))] at hP
 rw [hP,Option.bind_some]
 unfold countsN
 cases ((portK g.Qg++rowK 3 0 more).all fun k=>decide (S.count k=1)) with
 | false=>rfl
 | true=>
  rw [if_pos rfl,z8,Bool.true_and]
  unfold z8z
  have hG:=allLoop (xs:=g.Qg) (body:=z4v fuel g M) (p:=fun m s=>varC S m s) (t:=()) (v:=false) (fuel:=fuel) (by omega) hf (fun m s hi hx=>by
   obtain⟨y1,y2,y3,y4⟩:=zaN (z2 s (List.mem_of_getElem? hx))
   unfold z4v
   rw [if_pos (by simpa using hi)]
   have hV:=allLoop (xs:=s.QM) (body:=z4u fuel g M (m:Int)) (p:=fun i v=>!v.Qa2 || decide (S.count (2,m,i,0)=2)) (t:=()) (v:=Rd.ret false) (fuel:=fuel) (by omega) hf (fun i v hj hv=>by
    obtain⟨row,r1,r2⟩:=hI.var m i s hx hj
    obtain⟨e,e1,e2⟩:=hR.ends.2 _ _ (znA hx hj)
    unfold z4u
    rw [z9 hx,Option.bind_some,if_pos (by simpa using hj),Option.bind_some,z9 hv,Option.bind_some]
    unfold z4t
    cases v.Qa2 with
    | false=>rfl
    | true=>
     rw [if_pos rfl,hR.QU,z9 r1,Option.bind_some,z9 r2,Option.bind_some,z9 e1,Option.bind_some,e2]
     by_cases h:S.count (2,m,i,0)=2
     ·rw [if_neg (by simp [h]),if_pos (by simp [h])]
     ·rw [if_pos (by simp only [bne_iff_ne,ne_eq];omega),if_neg (by simpa using h)]) (by unfold z4u;rw [z9 hx,Option.bind_some,if_neg (by simp)])
   rw [hV,Option.bind_some]
   unfold varC
   cases (s.QM.zipIdx.all fun y=>!y.1.Qa2 || decide (S.count (2,m,y.2,0)=2))<;>rfl) (by unfold z4v;rw [if_neg (by simp)])
  rw [hG,Option.bind_some]
  cases (g.Qg.zipIdx.all fun x=>varC S x.2 x.1)<;>rfl
end
end Go.E


namespace Go.E
open Go.RowKit Go.Proofs
set_option linter.unusedSimpArgs false
set_option linter.unusedVariables false

def thA (a:D.Qc):D.QS:=⟨a,0,false⟩
def auxT (m i k:Nat) (a:D.Qc):List D.Qh:=[⟨⟨⟨(m:Int),1,(i:Int)⟩,(k:Int)+1,true⟩,thA a⟩]
def redT (_:Nat) (r:D.Qn):List D.Qh:=[⟨thA r.A,thA r.B⟩]
def fullT (m i:Nat) (v:D.Qp):List D.Qh:=if v.Qa3=true then [⟨thA ⟨(m:Int),2,(i:Int)⟩,thA v.QX⟩] else []
def cellT (m i:Nat) (c:D.Qd):List D.Qh:=fl (auxT m i) c.QY c.QY.length
def shardT (m:Nat) (s:D.Qv):List D.Qh:=fl (cellT m) s.Cells s.Cells.length++(fl redT s.Qu s.Qu.length++fl (fullT m) s.QM s.QM.length)
def rootT (g:D.Qe):List D.Qh:=[⟨⟨noneN,0,true⟩,thA g.Qo⟩]
def gridT (g:D.Qe):List D.Qh:=rootT g++fl shardT g.Qg g.Qg.length

theorem addLoop {α S τ ρ β:Type}{xs:List α}{body:S→Option (Rd S τ ρ)}{mk:Int→List β→S}{out:List β→τ}(f:Nat→α→List β){s0:List β}{fuel:Nat}(hl:xs.length≤1048576) (hf:18446744073709551616≤fuel)
  (step:∀ (i:Nat) x,xs[i]? = some x→body (mk i (s0++fl f xs i))=some (.next (mk (w64 (i+1)) (s0++fl f xs i++f i x))))
  (last:body (mk xs.length (s0++fl f xs xs.length))=some (.brk (out (s0++fl f xs xs.length)))):
  iter body fuel (mk 0 s0)=some (.inl (out (s0++fl f xs xs.length))):=by
 obtain⟨o,h1,h2⟩:=z1g (body:=body) (fun k s=>s=mk k (s0++fl f xs k)) xs.length (fun o=>o=.inl (out (s0++fl f xs xs.length))) (by
  rintro k s hk rfl
  obtain⟨x,hx⟩:=z42 hk
  refine .inl ⟨_,step k x hx,?_⟩
  rw [za (by omega) (by omega),z9t hx,List.append_assoc]
  rfl) (by
  rintro s rfl
  exact .inr ⟨_,last,rfl⟩) (fuel:=fuel) (i:=0) (s:=mk 0 s0) (Nat.zero_le _) (by omega) (by rw [z9W,List.append_nil];rfl)
 rw [h1,h2]
theorem zp2 {fuel:Nat}{m i:Nat}{aux:List D.Qc}(hf:18446744073709551616≤fuel) (hl:aux.length≤3):z1u fuel ⟨(m:Int),1,(i:Int)⟩ aux=some (fl (auxT m i) aux aux.length):=by
 unfold z1u
 have h:=addLoop (xs:=aux) (body:=z15 fuel ⟨(m:Int),1,(i:Int)⟩ aux) (mk:=fun k s=>(s,k)) (out:=fun s=>s) (auxT m i) (s0:=[]) (by omega) hf (fun k a ha=>by
  have hkl:=(List.getElem?_eq_some_iff.1 ha).1
  have hfl:=z9u (f:=auxT m i) (xs:=aux) (b:=1) (fun _ _ _=>by simp [auxT]) k (by omega)
  rw [List.nil_append]
  generalize fl (auxT m i) aux k=s at hfl ⊢
  unfold z15 z6J
  dsimp only
  have hw:w64 ((k:Int)+1)=(k:Int)+1:=za (by omega) (by omega)
  rw [if_pos (by simpa using hkl),z9 ha,Option.bind_some,hw,if_pos (decide_eq_true (by omega)),Option.bind_some,if_pos (by simp;omega)]
  unfold z2u
  dsimp only
  rw [hw]
  rfl) (by
  unfold z15
  rw [if_neg (by simp)])
 rw [h,Option.bind_some,z8]
 rfl
theorem zgP {m i:Nat}{c:D.Qd}(h:c.QY.length≤3):(cellT m i c).length≤3:=by
 have:=z9u (f:=auxT m i) (xs:=c.QY) (b:=1) (fun _ _ _=>by simp [auxT]) c.QY.length (Nat.le_refl _)
 unfold cellT
 omega
theorem zh6 {g:D.Qe}{m:Nat}{s:D.Qv}(hS:Small g) (hm:g.Qg[m]? = some s):(shardT m s).length≤2000:=by
 obtain⟨a1,a2,a3,a4,a5⟩:=hS.s s (List.mem_of_getElem? hm)
 unfold shardT
 rw [List.length_append,List.length_append]
 have:=z9u (f:=cellT m) (xs:=s.Cells) (b:=3) (fun j c hc=>zgP (a4 c (List.mem_of_getElem? hc)).2.1) s.Cells.length (Nat.le_refl _)
 have:=z9u (f:=redT) (xs:=s.Qu) (b:=1) (fun j c hc=>by simp [redT]) s.Qu.length (Nat.le_refl _)
 have:=z9u (f:=fullT m) (xs:=s.QM) (b:=1) (fun j c hc=>by unfold fullT;split<;>simp) s.QM.length (Nat.le_refl _)
 omega
theorem zfv {fuel:Nat}{g:D.Qe}(hf:18446744073709551616≤fuel) (hS:Small g):z2M fuel g=some (gridT g):=by
 have hn:=hS.n
 unfold z2M z6J
 rw [if_neg (by simp),Option.bind_some]
 have h:=addLoop (xs:=g.Qg) (body:=z19 fuel g) (mk:=fun k s=>(k,s)) (out:=fun s=>s) shardT (s0:=rootT g) (fuel:=fuel) (by omega) hf (fun m s hm=>by
  obtain⟨a1,a2,a3,a4,a5⟩:=hS.s s (List.mem_of_getElem? hm)
  have hml:=(List.getElem?_eq_some_iff.1 hm).1
  have hfl:=z9u (f:=shardT) (xs:=g.Qg) (b:=2000) (fun j c hc=>zh6 hS hc) m (by omega)
  have q:(rootT g++fl shardT g.Qg m).length≤100000:=by rw [List.length_append];unfold rootT;simp only [List.length_cons,List.length_nil];omega
  generalize rootT g++fl shardT g.Qg m=s0 at q ⊢
  unfold z19
  dsimp only
  rw [if_pos (by simpa using hml),z9 hm,Option.bind_some]
  have h1:=addLoop (xs:=s.Cells) (body:=z1R fuel ((m:Int),s0) s) (mk:=fun k s=>(k,s)) (out:=fun s=>s) (cellT m) (s0:=s0) (fuel:=fuel) (by omega) hf (fun i c hc=>by
   have hil:=(List.getElem?_eq_some_iff.1 hc).1
   have c2:=(a4 c (List.mem_of_getElem? hc)).2.1
   have hfl:=z9u (f:=cellT m) (xs:=s.Cells) (b:=3) (fun j c hc=>zgP (a4 c (List.mem_of_getElem? hc)).2.1) i (by omega)
   have hcl:=zgP (m:=m) (i:=i) c2
   have d:(s0++fl (cellT m) s.Cells i).length≤200000:=by rw [List.length_append];omega
   generalize s0++fl (cellT m) s.Cells i=s1 at d ⊢
   unfold z1R z3y
   dsimp only
   rw [if_pos (by simpa using hil),z9 hc,Option.bind_some,Option.bind_some,zp2 hf c2,Option.bind_some,if_pos (by unfold cellT at hcl;simp only [decide_eq_true_eq];omega)]
   rfl) (by
   unfold z1R
   rw [if_neg (by simp)])
  try dsimp only at h1
  rw [h1,Option.bind_some,z8]
  have G:=z9u (f:=cellT m) (xs:=s.Cells) (b:=3) (fun j c hc=>zgP (a4 c (List.mem_of_getElem? hc)).2.1) s.Cells.length (Nat.le_refl _)
  have d:(s0++fl (cellT m) s.Cells s.Cells.length).length≤200000:=by rw [List.length_append];omega
  unfold shardT
  rw [← List.append_assoc,← List.append_assoc]
  generalize s0++fl (cellT m) s.Cells s.Cells.length=s1 at d ⊢
  unfold z5J
  try dsimp only
  have h2:=addLoop (xs:=s.Qu) (body:=z1Q fuel s) (mk:=fun k s=>(k,s)) (out:=fun s=>s) redT (s0:=s1) (fuel:=fuel) (by omega) hf (fun i c hc=>by
   have hil:=(List.getElem?_eq_some_iff.1 hc).1
   have hfl:=z9u (f:=redT) (xs:=s.Qu) (b:=1) (fun j c hc=>by simp [redT]) i (by omega)
   have o:(s1++fl redT s.Qu i).length≤300000:=by rw [List.length_append];omega
   generalize s1++fl redT s.Qu i=s2 at o ⊢
   unfold z1Q
   dsimp only
   rw [if_pos (by simpa using hil),z9 hc,Option.bind_some,if_pos (by simp;omega)]
   rfl) (by
   unfold z1Q
   rw [if_neg (by simp)])
  try dsimp only at h2
  rw [h2,Option.bind_some,z8]
  have H:=z9u (f:=redT) (xs:=s.Qu) (b:=1) (fun j c hc=>by simp [redT]) s.Qu.length (Nat.le_refl _)
  have o:(s1++fl redT s.Qu s.Qu.length).length≤300000:=by rw [List.length_append];omega
  generalize s1++fl redT s.Qu s.Qu.length=s2 at o ⊢
  unfold z5H
  have h3:=addLoop (xs:=s.QM) (body:=z1P fuel ((m:Int),s0) s) (mk:=fun k s=>(k,s)) (out:=fun s=>s) (fullT m) (s0:=s2) (fuel:=fuel) (by omega) hf (fun i c hc=>by
   have hil:=(List.getElem?_eq_some_iff.1 hc).1
   have hfl:=z9u (f:=fullT m) (xs:=s.QM) (b:=1) (fun j c hc=>by unfold fullT;split<;>simp) i (by omega)
   have y:(s2++fl (fullT m) s.QM i).length≤400000:=by rw [List.length_append];omega
   generalize s2++fl (fullT m) s.QM i=s3 at y ⊢
   unfold z1P z4f fullT z30 z1O
   dsimp only
   rw [if_pos (by simpa using hil),z9 hc,Option.bind_some]
   cases c.Qa3 with
   | false=>rw [if_neg (by simp),if_neg (by simp),List.append_nil]
   | true=>
    rw [if_pos rfl,if_pos rfl,Option.bind_some,if_pos (by simp;omega)]
    rfl) (by
   unfold z1P
   rw [if_neg (by simp)])
  try dsimp only at h3
  rw [h3,Option.bind_some,z8]
  rfl) (by
  unfold z19
  rw [if_neg (by simp)])
 have h':iter (z19 fuel g) fuel (0,[⟨⟨⟨0,0,0⟩,0,true⟩,⟨⟨g.Qo.Qb,g.Qo.Qj,g.Qo.Qk⟩,0,false⟩⟩])=some (.inl (gridT g)):=h
 have h'':iter (z19 fuel g) fuel (0,[⟨⟨⟨0,0,0⟩,0,(0:Int) != 1⟩,⟨⟨g.Qo.Qb,g.Qo.Qj,g.Qo.Qk⟩,0,false⟩⟩])=some (.inl (gridT g)):=h'
 rw [h'',Option.bind_some,z8]
 rfl


def nameT (t:D.QS):List D.Qc:=if t.own=true then [] else [t.at_]
def namesT (st:D.Qh):List D.Qc:=nameT st.a++nameT st.b
def namesK (T:List D.Qh):List D.Qc:=fl (fun _ st=>namesT st) T T.length
def Cnt (M:List (D.Qc × Int)) (N:List D.Qc):Prop:=∀ a,(mget M a).getD 0=(N.count a:Nat)
theorem zpq {M:List (D.Qc × Int)}{N:List D.Qc}{a:D.Qc}(h:Cnt M N) (hN:N.length≤1000000):Cnt (mput M a (w64 ((mget M a).getD 0+1))) (N++[a]):=by
 intro b
 have hl:=List.count_le_length (a:=a) (l:=N)
 rw [h a,za (by omega) (by omega),zhm,List.count_append,List.count_singleton]
 by_cases hab:a=b
 ·subst hab;simp
 ·rw [if_neg hab,h b]
  simp [hab]
theorem zkf {fuel:Nat}{st:D.Qh}{M:List (D.Qc × Int)}{N:List D.Qc}(hf:18446744073709551616≤fuel) (h:Cnt M N) (hN:N.length≤900000):
  ∃ M',iter (z1N fuel st) fuel (0,M)=some (.inl M')∧Cnt M' (N++namesT st):=by
 have hfu:∃ n,fuel=n+3:=⟨fuel - 3,by omega⟩
 have key:∀ (i:Nat) (x:D.QS) (M:List (D.Qc × Int)) (N:List D.Qc),i<2→[st.a,st.b][i]? = some x→Cnt M N→N.length≤1000000→∃ M',z1N fuel st ((i:Int),M)=some (.next (w64 (i+1),M'))∧Cnt M' (N++nameT x):=by
  intro i x M N hi hx hC hN
  unfold z1N
  dsimp only
  rw [if_pos (by simp;omega),z9 hx,Option.bind_some]
  unfold nameT z98 z7G
  cases x.own with
  | true=>exact⟨M,by rw [if_neg (by simp)],by rw [if_pos rfl,List.append_nil];exact hC⟩
  | false=>exact⟨_,by rw [if_pos (by simp)],by rw [if_neg (by simp)];exact zpq hC hN⟩
 obtain⟨M1,e1,c1⟩:=key 0 st.a M N (by omega) rfl h (by omega)
 have hna:(nameT st.a).length≤1:=by unfold nameT;split<;>simp
 obtain⟨M2,e2,c2⟩:=key 1 st.b M1 (N++nameT st.a) (by omega) rfl c1 (by rw [List.length_append];omega)
 have e3:z1N fuel st (2,M2)=some (.brk M2):=by unfold z1N;rw [if_neg (by simp)]
 have w1:w64 (((0:Nat):Int)+1)=1:=by rw [za (by omega) (by omega)];rfl
 have w2:w64 (((1:Nat):Int)+1)=2:=by rw [za (by omega) (by omega)];rfl
 rw [w1] at e1
 rw [w2] at e2
 refine⟨M2,?_,by unfold namesT;rw [← List.append_assoc];exact c2⟩
 have e1':z1N fuel st (0,M)=some (.next (1,M1)):=e1
 have e2':z1N fuel st (1,M1)=some (.next (2,M2)):=e2
 generalize hb:z1N fuel st=B at *
 obtain⟨n,rfl⟩:=hfu
 simp only [iter,e1',e2',e3]
theorem zkd {st:D.Qh}:(namesT st).length≤2:=by
 unfold namesT nameT
 rw [List.length_append]
 split<;>split<;>simp
theorem zke {fuel:Nat}{T:List D.Qh}(hf:18446744073709551616≤fuel) (hT:T.length≤400000):∃ M,z9O fuel T=some M∧Cnt M (namesK T):=by
 unfold z9O
 obtain⟨o,h1,M,rfl,h2⟩:=z1g (body:=z7H fuel T) (fun i s=>∃ M,s=((i:Int),M)∧Cnt M (fl (fun _ st=>namesT st) T i)) T.length (fun o=>∃ M,o=.inl M∧Cnt M (namesK T)) (by
  rintro i _ hi ⟨M,rfl,hM⟩
  obtain⟨st,hst⟩:=z42 hi
  have hfl:=z9u (f:=fun _ st=>namesT st) (xs:=T) (b:=2) (fun _ _ _=>zkd) i (by omega)
  obtain⟨M',e1,e2⟩:=zkf (fuel:=fuel) (st:=st) hf hM (by omega)
  refine .inl ⟨(w64 (i+1),M'),?_,M',by rw [za (by omega) (by omega)];rfl,by rw [z9t hst];exact e2⟩
  unfold z7H
  dsimp only
  rw [if_pos (by simpa using hi),z9 hst,Option.bind_some,e1,Option.bind_some,z8]
  rfl) (by
  rintro _ ⟨M,rfl,hM⟩
  refine .inr ⟨M,?_,M,rfl,hM⟩
  unfold z7H
  rw [if_neg (by simp)]) (fuel:=fuel) (i:=0) (s:=(0,[])) (Nat.zero_le _) (by omega) ⟨[],rfl,fun a=>by rw [z9W];rfl⟩
 rw [h1,Option.bind_some,z8]
 exact⟨M,rfl,h2⟩
def okTh (g:D.Qe) (t:D.QS):Bool:=t.own || aliveN g t.at_
def okT (g:D.Qe) (st:D.Qh):Bool:=okTh g st.a && okTh g st.b
def shardC (N:List D.Qc) (m:Nat) (s:D.Qv):Bool:=(s.Cells.zipIdx.all fun y=>decide (y.1.Qj=0) || decide (N.count ⟨(m:Int),1,(y.2:Int)⟩=1)) && s.QM.zipIdx.all fun y=>!y.1.Qa2 || decide (N.count ⟨(m:Int),2,(y.2:Int)⟩=2)
def implN (g:D.Qe) (T:List D.Qh):Bool:=T.all (okT g) && g.Qg.zipIdx.all fun x=>shardC (namesK T) x.2 x.1
theorem zk4 {fuel:Nat}{g:D.Qe}{T:List D.Qh}(hf:18446744073709551616≤fuel) (hs:g.sz≤1048576) (hT:T.length≤400000):z2N fuel g T=some (implN g T):=by
 have hm:maxLen=9223372036854775807:=rfl
 obtain⟨z1,z2⟩:=zc8 hs
 unfold z2N implN
 have h1:=allLoop (xs:=T) (body:=z1X fuel g T) (p:=fun _ st=>okT g st) (t:=()) (v:=false) (fuel:=fuel) (by omega) hf (fun i st hi hx=>by
  unfold z1X
  rw [if_pos (by simpa using hi),z9 hx,Option.bind_some]
  have j7:∀ b,zB fuel (i:Int) b=if b=true then some (.ret false) else some (.next (w64 (i+1))):=fun b=>by unfold zB;rfl
  simp only [zjt,Option.bind_some,j7]
  unfold okT okTh
  cases st.a.own<;>cases st.b.own<;>cases aliveN g st.a.at_<;>cases aliveN g st.b.at_<;>rfl) (by unfold z1X;rw [if_neg (by simp)])
 rw [z7i (p:=okT g)] at h1
 rw [h1,Option.bind_some]
 cases T.all (okT g) with
 | false=>rfl
 | true=>
  rw [if_pos rfl,z8,Bool.true_and]
  unfold z5L
  obtain⟨M,e1,hC⟩:=zke (T:=T) hf hT
  rw [e1,Option.bind_some]
  have h2:=allLoop (xs:=g.Qg) (body:=z1W fuel g M) (p:=fun m s=>shardC (namesK T) m s) (t:=()) (v:=false) (fuel:=fuel) (by omega) hf (fun m s hi hx=>by
   obtain⟨y1,y2,y3,y4⟩:=zaN (z2 s (List.mem_of_getElem? hx))
   unfold z1W
   rw [if_pos (by simpa using hi),z9 hx,Option.bind_some]
   have hcs:=allLoop (xs:=s.Cells) (body:=z1V fuel M (m:Int) s) (p:=fun i c=>decide (c.Qj=0) || decide ((namesK T).count ⟨(m:Int),1,(i:Int)⟩=1)) (t:=()) (v:=Rd.ret false) (fuel:=fuel) (by omega) hf (fun i c hj hc=>by
    unfold z1V z3y z1S
    rw [if_pos (by simpa using hj),z9 hc,Option.bind_some,Option.bind_some,hC]
    by_cases k0:c.Qj=0
    ·simp [k0]
    ·by_cases h:(namesK T).count ⟨(m:Int),1,(i:Int)⟩=1
     ·simp [k0,h]
     ·have h9:¬ (((namesK T).count ⟨(m:Int),1,(i:Int)⟩:Nat):Int)=1:=by omega
      simp [k0,h,h9]) (by unfold z1V;rw [if_neg (by simp)])
   have hvs:=allLoop (xs:=s.QM) (body:=z1U fuel M (m:Int) s) (p:=fun i v=>!v.Qa2 || decide ((namesK T).count ⟨(m:Int),2,(i:Int)⟩=2)) (t:=()) (v:=Rd.ret false) (fuel:=fuel) (by omega) hf (fun i c hj hc=>by
    unfold z1U z4f z1T
    rw [if_pos (by simpa using hj),z9 hc,Option.bind_some,Option.bind_some,hC]
    cases c.Qa2 with
    | false=>rfl
    | true=>
     by_cases h:(namesK T).count ⟨(m:Int),2,(i:Int)⟩=2
     ·simp [h]
     ·have h9:¬ (((namesK T).count ⟨(m:Int),2,(i:Int)⟩:Nat):Int)=2:=by omega
      simp [h,h9]) (by unfold z1U;rw [if_neg (by simp)])
   rw [hcs,Option.bind_some]
   unfold shardC
   cases (s.Cells.zipIdx.all fun y=>decide (y.1.Qj=0) || decide ((namesK T).count ⟨(m:Int),1,(y.2:Int)⟩=1)) with
   | false=>rfl
   | true=>
    rw [if_pos rfl,z8,Bool.true_and]
    unfold z5K
    rw [hvs,Option.bind_some]
    cases (s.QM.zipIdx.all fun y=>!y.1.Qa2 || decide ((namesK T).count ⟨(m:Int),2,(y.2:Int)⟩=2))<;>rfl) (by unfold z1W;rw [if_neg (by simp)])
  rw [h2,Option.bind_some]
  cases (g.Qg.zipIdx.all fun x=>shardC (namesK T) x.2 x.1)<;>rfl
end Go.E


