/- Grids: their parts by themselves, at both sides. Conditions: the grid's own size. -/
import Derived.Test.YteommboffflkbaaGreatShort
import Derived.Test.YteommboffflkbaaGreatRounds
import Derived.Test.YteommboffflkbaaGreatFGe
namespace Go.E
open Go.RowKit Go.Proofs
set_option linter.unusedSimpArgs false
set_option linter.unusedVariables false

def agentOf (c:D.Qb):D.QJ:=⟨c.Qj,c.QL,c.Value,c.Data,List.replicate (c.QX.length+1) ⟨0,0⟩⟩
def shCellN (c:D.Qb):Bool:=if c.Qj=0 then decide (c.QL=0∧c.Value=0∧c.Data=[]∧c.QX=[]) else decide (c.Qj≠1) && agN (agentOf c)
def noneN:D.Qf:=⟨0,0,0⟩
def shVarN (v:D.Qn):Bool:=(v.Qa0 || !v.Qa1) && (v.Qa1 || decide (v.QV=noneN))
def shardN (s:D.Qp):Bool:=decide (s.Cells.length≤400∧s.QG.length≤400∧s.Qu.length≤400) && (s.Cells.all shCellN && s.QG.all shVarN)
def piecesN (g:D.Qi):Bool:=decide (1≤g.Qc.length∧g.Qc.length≤4) && g.Qc.all shardN

theorem zp9 {k f:Int}:portsN k f≤4:=by
 unfold portsN
 split
 ·split<;>omega
 ·split
  ·omega
  ·split
   ·omega
   ·split
    ·omega
    ·split<;>omega
theorem zqw {a:D.QJ}(h:agN a=true):a.QY.length≤4:=by
 unfold agN agentN at h
 rw [Bool.and_eq_true,Bool.and_eq_true,decide_eq_true_eq,decide_eq_true_eq] at h
 have h2:=h.2.1
 have:=zp9 (k:=a.Qj) (f:=if a.Qj=9 then(a.QY.length:Int) - 1 else 0)
 rw [h2] at this
 omega
theorem zjU {c:D.Qb}(h:shCellN c=true):c.QX.length≤3:=by
 unfold shCellN at h
 split at h
 ·rw [decide_eq_true_eq] at h
  rw [h.2.2.2];simp
 ·rw [Bool.and_eq_true] at h
  have:=zqw h.2
  unfold agentOf at this
  simp only [List.length_replicate] at this
  omega
theorem zgs {a b:D.Qf}:(((a.Qg:Int) == b.Qg) && (((a.Qj:Int) == b.Qj) && (((a.Qs:Int) == b.Qs) && true)))=decide (a=b):=by
 obtain⟨a1,a2,a3⟩:=a
 obtain⟨b1,b2,b3⟩:=b
 by_cases h1:a1=b1<;>by_cases h2:a2=b2<;>by_cases h3:a3=b3<;>simp [h1,h2,h3]
theorem zjV {fu:Nat}{c:D.Qb}(hs:c.sz≤1048576):z6S fu c=some (agentOf c):=by
 unfold D.Qb.sz at hs
 unfold z6S z5Q agentOf
 rw [if_pos (by simp;omega),bsm,zf (by omega) (by omega),if_pos (by simp;omega)]
 have:((c.QX.length:Int)+1).toNat=c.QX.length+1:=by omega
 rw [this]
 rfl
theorem zht {fu:Nat}{c:D.Qb}(hs:c.sz≤1048576):z7a fu c=some (agentOf c):=by
 unfold D.Qb.sz at hs
 unfold z7a zp agentOf
 rw [if_pos (by simp;omega),bsm,zf (by omega) (by omega),if_pos (by simp;omega)]
 have:((c.QX.length:Int)+1).toNat=c.QX.length+1:=by omega
 rw [this]
 rfl
theorem zjg {fu:Nat}{c:D.Qb}(hf:Big fu) (hs:c.sz≤1048576):z5B fu c=some (shCellN c):=by
 have hm:maxLen=9223372036854775807:=rfl
 unfold z5B
 rw [zjV hs,bsm]
 have d:=hs
 unfold D.Qb.sz at d
 by_cases k0:c.Qj=0
 ·unfold shCellN
  by_cases h1:c.QL=0<;>by_cases h2:c.Value=0<;>by_cases h3:c.Data=[]<;>by_cases h4:c.QX=[]<;>simp [k0,h1,h2,h3,h4]
 ·rw [if_neg (by simpa using k0)]
  by_cases ha:c.QX.length≤3
  ·rw [if_neg (by simp;omega)]
   unfold shCellN
   rw [if_neg k0]
   by_cases k1:c.Qj=1
   ·rw [if_neg (by simp [agentOf,k1])];simp [k1]
   ·rw [if_pos (by simpa [agentOf] using k1),show(agentOf c)=agentOf c from rfl,zqp hf (by unfold agentOf;dsimp only;omega) (by unfold agentOf;simp only [List.length_replicate];omega)]
    simp [k1]
  ·rw [if_pos (by simp;omega)]
   cases hh:shCellN c with
   | false=>rfl
   | true=>exact absurd (zjU hh) ha
theorem zhd {fu:Nat}{xs ys:List Int}(hf:Big fu) (hl:xs.length≤maxLen):z1Z fu xs ys=some (decide (xs=ys)):=by
 unfold z1Z
 exact eqWhole hl hf rfl (fun i a b hi ha hb=>by
  unfold z2o
  rw [if_pos (by simpa using hi),zd ha,bsm,zd hb,bsm]
  by_cases h:a=b<;>simp [h]) (by unfold z2o;rw [if_neg (by simp)])
theorem zg3 {fu:Nat}{xs ys:List D.Qf}(hf:Big fu) (hl:xs.length≤maxLen):zJ fu xs ys=some (decide (xs=ys)):=by
 unfold zJ
 exact eqWhole hl hf rfl (fun i a b hi ha hb=>by
  unfold z10
  rw [if_pos (by simpa using hi),zd ha,bsm,zd hb,bsm,zgs]
  by_cases h:a=b<;>simp [h]) (by unfold z10;rw [if_neg (by simp)])
theorem zjh {fu:Nat}{c:D.Qb}(hf:Big fu) (hs:c.sz≤1048576):z2x fu c=some (shCellN c):=by
 have hm:maxLen=9223372036854775807:=rfl
 have d:=hs
 unfold D.Qb.sz at d
 unfold z2x z1L
 dsimp only
 rw [zhd hf (by omega),zg3 hf (by omega),zht hs,bsm,bsm,bsm,zqq hf (by unfold agentOf;dsimp only;omega) (by unfold agentOf;simp only [List.length_replicate];omega)]
 unfold shCellN
 by_cases k0:c.Qj=0
 ·by_cases h1:c.QL=0<;>by_cases h2:c.Value=0<;>by_cases h3:c.Data=[]<;>by_cases h4:c.QX=[]<;>simp [k0,h1,h2,h3,h4]
 ·by_cases k1:c.Qj=1<;>simp [k0,k1]
theorem zgH {fu:Nat}{p:D.Qb→Bool}{f:D.Qb→Option Bool}{xs:List D.Qb}(hf:Big fu) (hl:xs.length≤maxLen) (h:∀ n,n∈xs→f n=some (p n)):
  zm fu xs f=some (xs.any p):=by
 unfold zm zH
 obtain⟨r,h1,h2⟩:=askIndex (xs:=xs) (p:=p) (body:=zk fu xs f) (j:=z16 fu) (t:=()) hl hf rfl (fun i x hi hx=>by
  simp only [zk,zd hx,h x (List.mem_of_getElem? hx),lt_t (show(i:Int)<xs.length by omega),if_true,bsm]) (by simp [zk])
 rw [h1,bsm,h2]
theorem zhL {fu:Nat}{p:D.Qn→Bool}{f:D.Qn→Option Bool}{xs:List D.Qn}(hf:Big fu) (hl:xs.length≤maxLen) (h:∀ n,n∈xs→f n=some (p n)):
  zo fu xs f=some (xs.any p):=by
 unfold zo zR
 obtain⟨r,h1,h2⟩:=askIndex (xs:=xs) (p:=p) (body:=zn fu xs f) (j:=z1e fu) (t:=()) hl hf rfl (fun i x hi hx=>by
  simp only [zn,zd hx,h x (List.mem_of_getElem? hx),lt_t (show(i:Int)<xs.length by omega),if_true,bsm]) (by simp [zn])
 rw [h1,bsm,h2]
theorem zgG {fu:Nat}{p:D.Qp→Bool}{f:D.Qp→Option Bool}{xs:List D.Qp}(hf:Big fu) (hl:xs.length≤maxLen) (h:∀ n,n∈xs→f n=some (p n)):
  zB fu xs f=some (xs.any p):=by
 unfold zB z1d
 obtain⟨r,h1,h2⟩:=askIndex (xs:=xs) (p:=p) (body:=zy fu xs f) (j:=z1E fu) (t:=()) hl hf rfl (fun i x hi hx=>by
  simp only [zy,zd hx,h x (List.mem_of_getElem? hx),lt_t (show(i:Int)<xs.length by omega),if_true,bsm]) (by simp [zy])
 rw [h1,bsm,h2]
theorem zoZ {fu:Nat}{v:D.Qn}:z4A fu v=some (!shVarN v):=by
 have e:=zgs (a:=v.QV) (b:=noneN)
 unfold noneN at e
 unfold z4A z6F shVarN noneN
 dsimp only at e
 rw [e]
 cases v.Qa0<;>cases v.Qa1<;>cases decide (v.QV=⟨0,0,0⟩)<;>rfl
theorem zby {s:D.Qp}(h:s.sz≤1048576):s.Cells.length≤1048576∧s.QG.length≤1048576∧s.Qu.length≤1048576∧∀ c,c∈s.Cells→c.sz≤1048576:=by
 unfold D.Qp.sz at h
 have h1:szL D.Qb.sz s.Cells≤1048576:=by omega
 exact⟨z2C h1,by omega,by omega,fun c hc=>z2G h1 hc⟩
theorem zgZ {fu:Nat}{s:D.Qp}(hf:Big fu) (hs:s.sz≤1048576):z4S fu s=some (shardN s):=by
 have hm:maxLen=9223372036854775807:=rfl
 obtain⟨z1,z2,z3,z4⟩:=zby hs
 unfold z4S z32 shardN
 rw [zgH (p:=fun c=>!shCellN c) hf (by omega) (fun c hc=>by unfold z6E;rw [zjh hf (z4 c hc)];rfl),zhL (p:=fun v=>!shVarN v) hf (by omega) (fun v _=>zoZ),zbS,zbS]
 by_cases h1:s.Cells.length≤400
 ·by_cases h2:s.QG.length≤400
  ·by_cases h3:s.Qu.length≤400
   ·rw [if_neg (by simp;omega),if_neg (by simp;omega),if_neg (by simp;omega),dct ⟨h1,h2,h3⟩]
    cases s.Cells.all shCellN<;>cases s.QG.all shVarN<;>rfl
   ·rw [if_neg (by simp;omega),if_neg (by simp;omega),if_pos (by simp;omega),decide_eq_false (fun h=>h3 h.2.2)];rfl
  ·rw [if_neg (by simp;omega),if_pos (by simp;omega),decide_eq_false (fun h=>h2 h.2.1)];rfl
 ·rw [if_pos (by simp;omega),decide_eq_false (fun h=>h1 h.1)];rfl
theorem zdF {g:D.Qi}(h:g.sz≤1048576):g.Qc.length≤1048576∧∀ s,s∈g.Qc→s.sz≤1048576:=by
 unfold D.Qi.sz at h
 have h1:szL D.Qp.sz g.Qc≤1048576:=by omega
 exact⟨z2C h1,fun s hs=>z2G h1 hs⟩
theorem zjG {fu:Nat}{g:D.Qi}{xs:List D.Qd}(hf:Big fu) (hs:g.sz≤1048576):z2A fu g xs=z1w fu g xs (!piecesN g):=by
 have hm:maxLen=9223372036854775807:=rfl
 obtain⟨z1,z2⟩:=zdF hs
 unfold z2A piecesN
 rw [zgG (p:=fun s=>!shardN s) hf (by omega) (fun s h=>by unfold z48;rw [zgZ hf (z2 s h)];rfl),zbS,bsm]
 by_cases h1:1≤g.Qc.length
 ·by_cases h2:g.Qc.length≤4
  ·rw [if_neg (by simp;omega),if_neg (by simp;omega),dct ⟨h1,h2⟩,Bool.true_and]
  ·rw [if_neg (by simp;omega),if_pos (by simp;omega),decide_eq_false (fun h=>h2 h.2)];rfl
 ·rw [if_pos (by simp;omega),decide_eq_false (fun h=>h1 h.1)];rfl
theorem zkO {fu:Nat}{s:D.Qp}{k:Int}(hf:Big fu) (hs:s.sz≤1048576) (hc:s.Cells.length≤400∧s.QG.length≤400∧s.Qu.length≤400):
  z1B fu k s false=if(s.Cells.all shCellN && s.QG.all shVarN)=true then some (.next (w64 (k+1))) else some (.ret false):=by
 have hm:maxLen=9223372036854775807:=rfl
 obtain⟨z1,z2,z3,z4⟩:=zby hs
 have hC:=allLoop (xs:=s.Cells) (body:=z53 fu s) (p:=fun _ c=>shCellN c) (t:=()) (v:=Rd.ret false) (fu:=fu) (by omega) hf (fun i c hi hx=>by
  unfold z53
  rw [if_pos (by simpa using hi),zd hx,bsm,zjg hf (z4 c (List.mem_of_getElem? hx)),bsm]
  cases shCellN c<;>simp) (by unfold z53;rw [if_neg (by simp)])
 have hV:=allLoop (xs:=s.QG) (body:=z52 fu s) (p:=fun _ v=>shVarN v) (t:=()) (v:=Rd.ret false) (fu:=fu) (by omega) hf (fun i v hi hx=>by
  have e:=zgs (a:=v.QV) (b:=noneN)
  unfold noneN at e
  dsimp only at e
  unfold z52 z1R shVarN noneN
  rw [if_pos (by simpa using hi),zd hx,bsm,e]
  cases v.Qa0<;>cases v.Qa1<;>cases decide (v.QV=⟨0,0,0⟩)<;>rfl) (by unfold z52;rw [if_neg (by simp)])
 rw [z7d] at hC hV
 unfold z1B
 rw [if_neg (by simp),hC,bsm]
 cases s.Cells.all shCellN with
 | false=>rfl
 | true=>
  rw [if_pos rfl]
  simp only [aft]
  unfold z96
  rw [hV,bsm]
  cases s.QG.all shVarN with
  | false=>rfl
  | true=>rfl
theorem zfS {fu:Nat}{g:D.Qi}(hf:Big fu) (hs:g.sz≤1048576):z4a fu g=some (piecesN g):=by
 have hm:maxLen=9223372036854775807:=rfl
 obtain⟨z1,z2⟩:=zdF hs
 unfold z4a
 rw [z9e,bsm]
 have hS:=allLoop (xs:=g.Qc) (body:=z54 fu g) (p:=fun _ s=>shardN s) (t:=()) (v:=false) (fu:=fu) (by omega) hf (fun i s hi hx=>by
  have hss:=z2 s (List.mem_of_getElem? hx)
  unfold z54
  rw [if_pos (by simpa using hi),zd hx,bsm]
  have no:z1B fu (i:Int) s true=some (.ret false):=by unfold z1B;rfl
  unfold shardN
  by_cases h1:s.Cells.length≤400
  ·by_cases h2:s.QG.length≤400
   ·by_cases h3:s.Qu.length≤400
    ·rw [if_neg (by simp;omega),if_neg (by simp;omega),show decide ((s.Qu.length:Int)>400)=false by simp;omega,zkO hf hss ⟨h1,h2,h3⟩,dct ⟨h1,h2,h3⟩,Bool.true_and]
    ·rw [if_neg (by simp;omega),if_neg (by simp;omega),show decide ((s.Qu.length:Int)>400)=true by simp;omega,no,decide_eq_false (fun h=>h3 h.2.2)];rfl
   ·rw [if_neg (by simp;omega),if_pos (by simp;omega),no,decide_eq_false (fun h=>h2 h.2.1)];rfl
  ·rw [if_pos (by simp;omega),no,decide_eq_false (fun h=>h1 h.1)];rfl) (by unfold z54;rw [if_neg (by simp)])
 rw [z7d] at hS
 unfold piecesN
 rw [hS,bsm]
 have hd:decide ((1:Int)≤(g.Qc.length:Int)∧(g.Qc.length:Int)≤4)=decide (1≤g.Qc.length∧g.Qc.length≤4):=by
  rw [decide_eq_decide];omega
 rw [hd]
 cases decide (1≤g.Qc.length∧g.Qc.length≤4) with
 | false=>rfl
 | true=>
  rw [if_neg (by simp)]
  cases g.Qc.all shardN<;>rfl
end Go.E


namespace Go.E
open Go.RowKit Go.Proofs
set_option linter.unusedSimpArgs false
set_option linter.unusedVariables false


abbrev Key:=Nat × Nat × Nat × Nat
def cellK (t m i:Nat) (c:D.Qb):List Key:=if c.Qj=0 then [] else(List.range (c.QX.length+1)).map fun k=>(t,m,i,k)
def rowK (t m:Nat) (cs:List D.Qb):List Key:=cs.zipIdx.flatMap fun x=>cellK t m x.2 x.1
def portK (ss:List D.Qp):List Key:=(0,0,0,0)::ss.zipIdx.flatMap fun x=>rowK 1 x.2 x.1.Cells
def varR (m:Nat) (s:D.Qp):List Key:=(List.range s.QG.length).map fun i=>(2,m,i,0)
def varK (ss:List D.Qp):List Key:=ss.zipIdx.flatMap fun x=>varR x.2 x.1
def allK (g:D.Qi) (more:List D.Qb):List Key:=(portK g.Qc++rowK 3 0 more)++varK g.Qc

theorem zfg {α β:Type}{xs:List α}{g:Nat→α→List β}{i k:Nat}{x:α}(hx:xs[i]? = some x) (hk:k<(g i x).length):
  (xs.zipIdx.flatMap fun y=>g y.2 y.1)[((xs.take i).zipIdx.flatMap fun y=>g y.2 y.1).length+k]? = (g i x)[k]?:=by
 have h1:xs.zipIdx=(xs.take (i+1)).zipIdx++(xs.drop (i+1)).zipIdx (xs.take (i+1)).length:=by
  have:=List.zipIdx_append (xs:=xs.take (i+1)) (ys:=xs.drop (i+1)) (k:=0)
  rw [List.take_append_drop] at this
  simpa using this
 rw [h1,zdK hx,List.flatMap_append,List.flatMap_append,List.append_assoc,List.getElem?_append_right (Nat.le_add_right _ _),Nat.add_sub_cancel_left]
 simp only [List.flatMap_cons,List.flatMap_nil,List.append_nil]
 rw [List.getElem?_append_left hk]
theorem zeH {α β:Type}{xs:List α}{g:Nat→α→List β}(f:β→Nat) (h1:∀ i x,xs[i]? = some x→(g i x).Nodup) (h2:∀ i x y,y∈g i x→f y=i):(xs.zipIdx.flatMap fun y=>g y.2 y.1).Nodup:=by
 unfold List.Nodup
 rw [List.pairwise_flatMap]
 constructor
 ·rintro⟨a,i⟩ h
  rw [List.mem_zipIdx_iff_getElem?] at h
  exact h1 i a h
 ·rw [List.pairwise_iff_getElem]
  intro i j hi hj hij p hp q hq he
  simp only [List.getElem_zipIdx] at hp hq
  have a:=h2 _ _ _ hp
  have b:=h2 _ _ _ hq
  rw [he] at a
  omega
theorem zgo {t m i:Nat}{c:D.Qb}{k:Key}(h:k∈cellK t m i c):k.1=t∧k.2.1=m∧k.2.2.1=i:=by
 unfold cellK at h
 split at h
 ·cases h
 ·obtain⟨j,_,rfl⟩:=List.mem_map.1 h
  exact⟨rfl,rfl,rfl⟩
theorem ze3 {t m:Nat}{cs:List D.Qb}{k:Key}(h:k∈rowK t m cs):k.1=t∧k.2.1=m:=by
 obtain⟨x,_,h2⟩:=List.mem_flatMap.1 h
 exact⟨(zgo h2).1,(zgo h2).2.1⟩
theorem zjQ {t m i:Nat}{c:D.Qb}:(cellK t m i c).Nodup:=by
 unfold cellK
 split
 ·exact List.nodup_nil
 ·unfold List.Nodup
  rw [List.pairwise_map]
  refine List.Pairwise.imp ?_ (List.nodup_range (n:=c.QX.length+1))
  intro x y hxy he
  simp only [Prod.mk.injEq,true_and] at he
  exact hxy he
theorem zh3 {t m:Nat}{cs:List D.Qb}:(rowK t m cs).Nodup:=
 zeH (g:=fun i c=>cellK t m i c) (fun k:Key=>k.2.2.1) (fun i x _=>zjQ) (fun i x y h=>(zgo h).2.2)
theorem zii {ss:List D.Qp}{k:Key}(h:k∈portK ss):k.1=0∨k.1=1:=by
 unfold portK at h
 rcases List.mem_cons.1 h with rfl | h
 ·exact .inl rfl
 ·obtain⟨x,_,h2⟩:=List.mem_flatMap.1 h
  exact .inr (ze3 h2).1
theorem zp0 {ss:List D.Qp}{k:Key}(h:k∈varK ss):k.1=2:=by
 obtain⟨x,_,h2⟩:=List.mem_flatMap.1 h
 obtain⟨j,_,rfl⟩:=List.mem_map.1 h2
 rfl
theorem zhi {g:D.Qi}{more:List D.Qb}:(allK g more).Nodup:=by
 unfold allK
 refine List.nodup_append.2 ⟨List.nodup_append.2 ⟨?_,zh3,?_⟩,?_,?_⟩
 ·unfold portK
  refine List.nodup_cons.2 ⟨fun h=>?_,zeH (g:=fun i (s:D.Qp)=>rowK 1 i s.Cells) (fun k:Key=>k.2.1) (fun i x _=>zh3) (fun i x y h=>(ze3 h).2)⟩
  obtain⟨x,_,h2⟩:=List.mem_flatMap.1 h
  exact absurd (ze3 h2).1 (by decide)
 ·intro a ha b hb he
  have h1:=zii ha
  have h2:=(ze3 hb).1
  rw [he] at h1
  omega
 ·refine zeH (g:=fun i (s:D.Qp)=>varR i s) (fun k:Key=>k.2.1) (fun i x _=>?_) (fun i x y h=>?_)
  ·unfold varR List.Nodup
   rw [List.pairwise_map]
   refine List.Pairwise.imp ?_ (List.nodup_range (n:=x.QG.length))
   intro x y hxy he
   simp only [Prod.mk.injEq,true_and,and_true] at he
   exact hxy he
  ·obtain⟨j,_,rfl⟩:=List.mem_map.1 h
   rfl
 ·intro a ha b hb he
  have h2:=zp0 hb
  rcases List.mem_append.1 ha with h | h
  ·have h1:=zii h
   rw [he] at h1
   omega
  ·have h1:=(ze3 h).1
   rw [he] at h1
   omega
theorem zoL {t m i t' m' i':Nat}{c:D.Qb}:(cellK t m i c).length=(cellK t' m' i' c).length:=by
 unfold cellK
 split<;>simp
theorem zpY {t m i:Nat}{c:D.Qb}(h:c.QX.length≤3):(cellK t m i c).length≤4:=by
 unfold cellK
 split
 ·simp
 ·simp;omega
theorem zcG {t m i:Nat}{cs:List D.Qb}{c:D.Qb}(h:cs[i]? = some c):rowK t m (cs.take (i+1))=rowK t m (cs.take i)++cellK t m i c:=by
 unfold rowK
 rw [zdK h,List.flatMap_append]
 simp
theorem zcH {t m:Nat}{cs:List D.Qb}(h:∀ c,c∈cs→c.QX.length≤3):∀ i,i≤cs.length→(rowK t m (cs.take i)).length≤4*i
 | 0,_=>by simp [rowK]
 | i+1,hi=>by
  obtain⟨c,hc⟩:=z5i (xs:=cs) (i:=i) (by omega)
  rw [zcG hc,List.length_append]
  have:=zcH (t:=t) (m:=m) h i (by omega)
  have:=zpY (t:=t) (m:=m) (i:=i) (h c (List.mem_of_getElem? hc))
  omega
theorem ze4 {t m t' m':Nat}{cs:List D.Qb}:∀ i,i≤cs.length→(rowK t m (cs.take i)).length=(rowK t' m' (cs.take i)).length
 | 0,_=>by simp [rowK]
 | i+1,hi=>by
  obtain⟨c,hc⟩:=z5i (xs:=cs) (i:=i) (by omega)
  rw [zcG hc,zcG hc,List.length_append,List.length_append,ze4 i (by omega),zoL (t':=t') (m':=m') (i':=i)]
theorem zh5 {m:Nat}{ss:List D.Qp}{s:D.Qp}(h:ss[m]? = some s):portK (ss.take (m+1))=portK (ss.take m)++rowK 1 m s.Cells:=by
 unfold portK
 rw [zdK h,List.flatMap_append]
 simp
theorem zhT {m:Nat}{ss:List D.Qp}{s:D.Qp}(h:ss[m]? = some s):varK (ss.take (m+1))=varK (ss.take m)++varR m s:=by
 unfold varK
 rw [zdK h,List.flatMap_append]
 simp
theorem zks {g:D.Qi}{more:List D.Qb}{m i k:Nat}{s:D.Qp}{c:D.Qb}(hs:g.Qc[m]? = some s) (hc:s.Cells[i]? = some c) (h0:c.Qj≠0) (hk:k≤c.QX.length):
  (allK g more)[(portK (g.Qc.take m)).length+(rowK 1 m (s.Cells.take i)).length+k]? = some (1,m,i,k):=by
 have hcl:k<(cellK 1 m i c).length:=by unfold cellK;rw [if_neg h0];simp;omega
 have h2:=zfg (g:=fun i c=>cellK 1 m i c) hc hcl
 have h3:(cellK 1 m i c)[k]? = some (1,m,i,k):=by unfold cellK;rw [if_neg h0,List.getElem?_map,List.getElem?_range (by omega)];rfl
 rw [h3] at h2
 have h2':(rowK 1 m s.Cells)[(rowK 1 m (s.Cells.take i)).length+k]? = some (1,m,i,k):=h2
 have hlt:=(List.getElem?_eq_some_iff.1 h2').1
 have h4:=zfg (g:=fun i (s:D.Qp)=>rowK 1 i s.Cells) hs hlt
 rw [h2'] at h4
 have h5:(portK g.Qc)[(portK (g.Qc.take m)).length+(rowK 1 m (s.Cells.take i)).length+k]? = some (1,m,i,k):=by
  unfold portK
  rw [List.length_cons,show ∀ a b c:Nat,a+1+b+c=(a+(b+c))+1 by omega,List.getElem?_cons_succ]
  exact h4
 have d:=(List.getElem?_eq_some_iff.1 h5).1
 unfold allK
 rw [List.append_assoc,List.getElem?_append_left d]
 exact h5
theorem zkt {g:D.Qi}{more:List D.Qb}{i k:Nat}{c:D.Qb}(hc:more[i]? = some c) (h0:c.Qj≠0) (hk:k≤c.QX.length):
  (allK g more)[(portK g.Qc).length+(rowK 3 0 (more.take i)).length+k]? = some (3,0,i,k):=by
 have hcl:k<(cellK 3 0 i c).length:=by unfold cellK;rw [if_neg h0];simp;omega
 have h2:=zfg (g:=fun i c=>cellK 3 0 i c) hc hcl
 have h3:(cellK 3 0 i c)[k]? = some (3,0,i,k):=by unfold cellK;rw [if_neg h0,List.getElem?_map,List.getElem?_range (by omega)];rfl
 rw [h3] at h2
 have h2':(rowK 3 0 more)[(rowK 3 0 (more.take i)).length+k]? = some (3,0,i,k):=h2
 have hlt:=(List.getElem?_eq_some_iff.1 h2').1
 unfold allK
 rw [List.getElem?_append_left (by rw [List.length_append];omega),Nat.add_assoc,List.getElem?_append_right (Nat.le_add_right _ _),Nat.add_sub_cancel_left]
 exact h2'
theorem zoT {g:D.Qi}{more:List D.Qb}{m i:Nat}{s:D.Qp}(hs:g.Qc[m]? = some s) (hi:i<s.QG.length):
  (allK g more)[(portK g.Qc).length+(rowK 3 0 more).length+(varK (g.Qc.take m)).length+i]? = some (2,m,i,0):=by
 have h4:=zfg (g:=fun i (s:D.Qp)=>varR i s) (k:=i) hs (by unfold varR;simpa using hi)
 have h3:(varR m s)[i]? = some (2,m,i,0):=by unfold varR;rw [List.getElem?_map,List.getElem?_range hi];rfl
 rw [h3] at h4
 unfold allK
 rw [List.getElem?_append_right (by rw [List.length_append];omega),List.length_append,Nat.add_assoc,Nat.add_sub_cancel_left]
 exact h4


theorem zha {fu:Nat}{L:D.Qm}{c:D.Qb}{t m i:Nat}(hf:Big fu) (hs:c.sz≤1048576) (ha:c.QX.length≤3) (hp:L.QH.length≤1000000) (hg:L.QB.length≤1000000):
  ∃ P A,z30 fu L c=some ((L.QH.length:Int),⟨A,P,L.cells,L.QM,L.ends,L.Qv⟩)∧P.length=L.QH.length+(cellK t m i c).length∧A.length≤L.QB.length+1:=by
 unfold z30
 by_cases k0:c.Qj=0
 ·rw [if_pos (by simp [k0])]
  exact⟨L.QH,L.QB,rfl,by unfold cellK;rw [if_pos k0];rfl,by omega⟩
 ·rw [if_neg (by simpa using k0)]
  obtain⟨o,h1,P,rfl,h2⟩:=z1A (body:=z2M fu L c) (fun k s=>∃ P:List D.QS,s=((k:Int),P)∧P.length=L.QH.length+k) (c.QX.length+1) (fun o=>∃ P,o=.inl P∧P.length=L.QH.length+(c.QX.length+1)) (by
   rintro k s hk ⟨P,rfl,hP⟩
   refine .inl ⟨(w64 (k+1),P++[⟨(L.QB.length:Int),(k:Int)⟩]),?_,_,by rw [zf (by omega) (by omega)];rfl,by simp [hP];omega⟩
   unfold z2M
   dsimp only
   rw [if_pos (by simp;omega),if_pos (by simp;omega)]) (by
   rintro s ⟨P,rfl,hP⟩
   refine .inr ⟨P,?_,P,rfl,hP⟩
   unfold z2M
   rw [if_neg (by simp;omega)]) (fu:=fu) (i:=0) (s:=(0,L.QH)) (Nat.zero_le _) (by omega) ⟨_,rfl,rfl⟩
  rw [h1,bsm]
  simp only [aft]
  unfold z7i
  rw [zjV hs,bsm,if_pos (by simp;omega)]
  exact⟨P,_,rfl,by rw [h2];unfold cellK;rw [if_neg k0];simp,by simp⟩

def baseL (b:Nat) (cs:List D.Qb) (n:Nat):List Int:=(List.range n).map fun i=>((b+(rowK 1 0 (cs.take i)).length:Nat):Int)
theorem zjj {b n:Nat}{cs:List D.Qb}:baseL b cs (n+1)=baseL b cs n++[((b+(rowK 1 0 (cs.take n)).length:Nat):Int)]:=by
 unfold baseL
 rw [List.range_succ,List.map_append]
 rfl
theorem zoP {b n i:Nat}{cs:List D.Qb}(h:i<n):(baseL b cs n)[i]? = some ((b+(rowK 1 0 (cs.take i)).length:Nat):Int):=by
 unfold baseL
 rw [List.getElem?_map,List.getElem?_range h]
 rfl

theorem zq5 {fu:Nat}{g:D.Qi}{m:Nat}{s:D.Qp}{z:List (List Int) × List (List Int) × List (List Int) × List (List Int) × List D.QS × List D.QJ}{C V E Q:List (List Int)}{P:List D.QS}{A:List D.QJ}
  (hf:Big fu) (hm:g.Qc[m]? = some s) (hz:s.Cells.length≤400) (hs:∀ c,c∈s.Cells→c.sz≤1048576∧c.QX.length≤3) (hP:P.length≤100000) (hA:A.length≤100000):
  ∃ P' A',iter (z3V fu g ((m:Int),z)) fu (0,[],C,V,E,Q,P,A)=some (.inl (baseL P.length s.Cells s.Cells.length,C,V,E,Q,P',A'))∧P'.length=P.length+(rowK 1 m s.Cells).length∧A'.length≤A.length+s.Cells.length:=by
 have hle:=fun i hi=>zcH (t:=1) (m:=m) (cs:=s.Cells) (fun c hc=>(hs c hc).2) i hi
 obtain⟨o,h1,P',A',rfl,h2,h3⟩:=z1A (body:=z3V fu g ((m:Int),z)) (fun i st=>∃ P' A',st=((i:Int),baseL P.length s.Cells i,C,V,E,Q,P',A')∧P'.length=P.length+(rowK 1 m (s.Cells.take i)).length∧A'.length≤A.length+i) s.Cells.length
  (fun o=>∃ P' A',o=.inl (baseL P.length s.Cells s.Cells.length,C,V,E,Q,P',A')∧P'.length=P.length+(rowK 1 m s.Cells).length∧A'.length≤A.length+s.Cells.length) (by
  rintro i st hi ⟨P',A',rfl,hP',hA'⟩
  obtain⟨c,hc⟩:=z5i hi
  obtain⟨c1,c2⟩:=hs c (List.mem_of_getElem? hc)
  have:=hle i (by omega)
  obtain⟨P2,A2,e1,e2,e3⟩:=zha (L:=⟨A',P',C,V,E,Q⟩) (t:=1) (m:=m) (i:=i) hf c1 c2 (by dsimp only;omega) (by dsimp only;omega)
  dsimp only at e1 e2 e3
  refine .inl ⟨(w64 (i+1),baseL P.length s.Cells (i+1),C,V,E,Q,P2,A2),?_,P2,A2,by rw [zf (by omega) (by omega)];rfl,by rw [e2,hP',zcG hc,List.length_append];omega,by omega⟩
  unfold z3V
  dsimp only
  rw [zd hm,bsm,if_pos (by simpa using hi),bsm,zd hc,bsm,e1,bsm]
  dsimp only
  rw [if_pos (by unfold baseL;simp;omega),zjj,hP',ze4 (t:=1) (m:=m) (t':=1) (m':=0) i (by omega)]) (by
  rintro st ⟨P',A',rfl,hP',hA'⟩
  rw [List.take_length] at hP'
  refine .inr ⟨_,?_,P',A',rfl,hP',hA'⟩
  unfold z3V
  dsimp only
  rw [zd hm,bsm,if_neg (by simp)]) (fu:=fu) (i:=0) (s:=(0,[],C,V,E,Q,P,A)) (Nat.zero_le _) (by omega) ⟨P,A,rfl,by simp [rowK],by omega⟩
 exact⟨P',A',h1,h2,h3⟩

theorem zpr {fu:Nat}{more:List D.Qb}{C V E Q:List (List Int)}{P:List D.QS}{A:List D.QJ}
  (hf:Big fu) (hz:more.length≤20000) (hs:∀ c,c∈more→c.sz≤1048576∧c.QX.length≤3) (hP:P.length≤100000) (hA:A.length≤100000):
  ∃ P' A',iter (z3Y fu more) fu (0,[],C,V,E,Q,P,A)=some (.inl (baseL P.length more more.length,C,V,E,Q,P',A'))∧P'.length=P.length+(rowK 3 0 more).length∧A'.length≤A.length+more.length:=by
 have hle:=fun i hi=>zcH (t:=3) (m:=0) (cs:=more) (fun c hc=>(hs c hc).2) i hi
 obtain⟨o,h1,P',A',rfl,h2,h3⟩:=z1A (body:=z3Y fu more) (fun i st=>∃ P' A',st=((i:Int),baseL P.length more i,C,V,E,Q,P',A')∧P'.length=P.length+(rowK 3 0 (more.take i)).length∧A'.length≤A.length+i) more.length
  (fun o=>∃ P' A',o=.inl (baseL P.length more more.length,C,V,E,Q,P',A')∧P'.length=P.length+(rowK 3 0 more).length∧A'.length≤A.length+more.length) (by
  rintro i st hi ⟨P',A',rfl,hP',hA'⟩
  obtain⟨c,hc⟩:=z5i hi
  obtain⟨c1,c2⟩:=hs c (List.mem_of_getElem? hc)
  have:=hle i (by omega)
  obtain⟨P2,A2,e1,e2,e3⟩:=zha (L:=⟨A',P',C,V,E,Q⟩) (t:=3) (m:=0) (i:=i) hf c1 c2 (by dsimp only;omega) (by dsimp only;omega)
  dsimp only at e1 e2 e3
  refine .inl ⟨(w64 (i+1),baseL P.length more (i+1),C,V,E,Q,P2,A2),?_,P2,A2,by rw [zf (by omega) (by omega)];rfl,by rw [e2,hP',zcG hc,List.length_append];omega,by omega⟩
  unfold z3Y
  dsimp only
  rw [if_pos (by simpa using hi),zd hc,bsm,e1,bsm]
  dsimp only
  rw [if_pos (by unfold baseL;simp;omega),zjj,hP',ze4 (t:=3) (m:=0) (t':=1) (m':=0) i (by omega)]) (by
  rintro st ⟨P',A',rfl,hP',hA'⟩
  rw [List.take_length] at hP'
  refine .inr ⟨_,?_,P',A',rfl,hP',hA'⟩
  unfold z3Y
  rw [if_neg (by simp)]) (fu:=fu) (i:=0) (s:=(0,[],C,V,E,Q,P,A)) (Nat.zero_le _) (by omega) ⟨P,A,rfl,by simp [rowK],by omega⟩
 exact⟨P',A',h1,h2,h3⟩

theorem zoX {fu:Nat}{g:D.Qi}{m n:Nat}{s:D.Qp}{z1:Int}{z2:List (List Int)}(hf:Big fu) (hm:g.Qc[m]? = some s) (hz:s.QG.length≤400) (hn:n≤1000000):
  iter (z3W fu g (z1,(m:Int),z2)) fu ((n:Int),0,[])=some (.inl (((n+s.QG.length:Nat):Int),(List.range s.QG.length).map fun i=>((n+i:Nat):Int))):=by
 obtain⟨o,h1,h2⟩:=z1A (body:=z3W fu g (z1,(m:Int),z2)) (fun i st=>st=(((n+i:Nat):Int),(i:Int),(List.range i).map fun j=>((n+j:Nat):Int))) s.QG.length (fun o=>o=.inl (((n+s.QG.length:Nat):Int),(List.range s.QG.length).map fun i=>((n+i:Nat):Int))) (by
  rintro i st hi rfl
  refine .inl ⟨(w64 (((n+i:Nat):Int)+1),w64 (i+1),((List.range i).map fun j=>((n+j:Nat):Int))++[((n+i:Nat):Int)]),?_,?_⟩
  ·unfold z3W
   dsimp only
   rw [zd hm,bsm,if_pos (by simpa using hi),if_pos (by simp;omega)]
  ·rw [zf (by omega) (by omega),zf (by omega) (by omega),List.range_succ,List.map_append]
   rfl) (by
  rintro st rfl
  refine .inr ⟨_,?_,rfl⟩
  unfold z3W
  dsimp only
  rw [zd hm,bsm,if_neg (by simp)]) (fu:=fu) (i:=0) (s:=((n:Int),0,[])) (Nat.zero_le _) (by omega) rfl
 rw [h1,h2]
end Go.E


namespace Go.E
open Go.RowKit Go.Proofs
set_option linter.unusedSimpArgs false
set_option linter.unusedVariables false


structure Small (g:D.Qi):Prop where
 n:g.Qc.length≤4
 s:∀ s,s∈g.Qc→s.Cells.length≤400∧s.QG.length≤400∧s.Qu.length≤400∧(∀ c,c∈s.Cells→c.sz≤1048576∧c.QX.length≤3∧shCellN c=true)∧∀ v,v∈s.QG→shVarN v=true
theorem zhr {g:D.Qi}(hs:g.sz≤1048576) (hp:piecesN g=true):Small g:=by
 unfold piecesN at hp
 rw [Bool.and_eq_true,decide_eq_true_eq] at hp
 refine⟨hp.1.2,fun s hm=>?_⟩
 have h1:=List.all_eq_true.1 hp.2 s hm
 unfold shardN at h1
 rw [Bool.and_eq_true,Bool.and_eq_true,decide_eq_true_eq] at h1
 obtain⟨⟨a1,a2,a3⟩,a4,a5⟩:=h1
 have z:=(zby ((zdF hs).2 s hm)).2.2.2
 exact⟨a1,a2,a3,fun c hc=>⟨z c hc,zjU (List.all_eq_true.1 a4 c hc),List.all_eq_true.1 a4 c hc⟩,fun v hv=>List.all_eq_true.1 a5 v hv⟩
def moreOk (more:List D.Qb):Prop:=more.length≤20000∧∀ c,c∈more→c.sz≤1048576∧c.QX.length≤3
structure Items (g:D.Qi) (more:List D.Qb) (L:D.Qm) (at_:List Int):Prop where
 QH:L.QH.length=(portK g.Qc++rowK 3 0 more).length
 cell:∀ (m i:Nat) s c,g.Qc[m]? = some s→s.Cells[i]? = some c→∃ row,L.cells[m]? = some row∧row[i]? = some (((portK (g.Qc.take m)).length+(rowK 1 m (s.Cells.take i)).length:Nat):Int)
 var:∀ (m i:Nat) s,g.Qc[m]? = some s→i<s.QG.length→∃ row,L.QM[m]? = some row∧row[i]? = some (((portK g.Qc).length+(rowK 3 0 more).length+(varK (g.Qc.take m)).length+i:Nat):Int)
 ends:L.ends=List.replicate (allK g more).length []
 Qv:L.Qv=[]
 more:∀ (i:Nat) c,more[i]? = some c→at_[i]? = some (((portK g.Qc).length+(rowK 3 0 (more.take i)).length:Nat):Int)
theorem zdb {g:D.Qi}(hS:Small g):∀ m,m≤g.Qc.length→(portK (g.Qc.take m)).length≤1+1600*m
 | 0,_=>by simp [portK]
 | m+1,hm=>by
  obtain⟨s,hs⟩:=z5i (xs:=g.Qc) (i:=m) (by omega)
  obtain⟨a1,a2,a3,a4,a5⟩:=hS.s s (List.mem_of_getElem? hs)
  rw [zh5 hs,List.length_append]
  have:=zdb hS m (by omega)
  have h2:=zcH (t:=1) (m:=m) (cs:=s.Cells) (fun c hc=>(a4 c hc).2.1) s.Cells.length (Nat.le_refl _)
  rw [List.take_length] at h2
  omega
theorem zjo {g:D.Qi}(hS:Small g):∀ m,m≤g.Qc.length→(varK (g.Qc.take m)).length≤400*m
 | 0,_=>by simp [varK]
 | m+1,hm=>by
  obtain⟨s,hs⟩:=z5i (xs:=g.Qc) (i:=m) (by omega)
  obtain⟨a1,a2,a3,a4,a5⟩:=hS.s s (List.mem_of_getElem? hs)
  rw [zhT hs,List.length_append]
  have:=zjo hS m (by omega)
  unfold varR
  simp only [List.length_map,List.length_range]
  omega
theorem zjR {fu:Nat}{g:D.Qi}(hf:Big fu) (hS:Small g):∃ (C:List (List Int)) (P:List D.QS) (A:List D.QJ),iter (z3Z fu g) fu (0,[],[],[],[],[⟨0,0⟩],[⟨1,0,0,[],List.replicate (1:Int).toNat ⟨0,0⟩⟩])=some (.inl (C,[],[],[],P,A))∧C.length=g.Qc.length∧(∀ (j:Nat) s,g.Qc[j]? = some s→C[j]? = some (baseL (portK (g.Qc.take j)).length s.Cells s.Cells.length))∧P.length=(portK g.Qc).length∧A.length≤2000:=by
 have hn:=hS.n
 obtain⟨o,h1,C,P,A,rfl,h2,h3,h4,h5⟩:=z1A (body:=z3Z fu g) (fun m st=>∃ (C:List (List Int)) (P:List D.QS) (A:List D.QJ),st=((m:Int),C,[],[],[],P,A)∧C.length=m∧(∀ (j:Nat) s,j<m→g.Qc[j]? = some s→C[j]? = some (baseL (portK (g.Qc.take j)).length s.Cells s.Cells.length))∧P.length=(portK (g.Qc.take m)).length∧A.length≤1+400*m) g.Qc.length
  (fun o=>∃ (C:List (List Int)) (P:List D.QS) (A:List D.QJ),o=.inl (C,[],[],[],P,A)∧C.length=g.Qc.length∧(∀ (j:Nat) s,g.Qc[j]? = some s→C[j]? = some (baseL (portK (g.Qc.take j)).length s.Cells s.Cells.length))∧P.length=(portK g.Qc).length∧A.length≤2000) (by
  rintro m st hm ⟨C,P,A,rfl,hC,hr,hP,hA⟩
  obtain⟨s,hs⟩:=z5i hm
  obtain⟨a1,a2,a3,a4,a5⟩:=hS.s s (List.mem_of_getElem? hs)
  have hpl:=zdb hS m (by omega)
  obtain⟨P',A',e1,e2,e3⟩:=zq5 (z:=(C,[],[],[],P,A)) (C:=C) (V:=[]) (E:=[]) (Q:=[]) (P:=P) (A:=A) hf hs a1 (fun c hc=>⟨(a4 c hc).1,(a4 c hc).2.1⟩) (by omega) (by omega)
  refine .inl ⟨(w64 (m+1),C++[baseL P.length s.Cells s.Cells.length],[],[],[],P',A'),?_,_,P',A',by rw [zf (by omega) (by omega)];rfl,by simp [hC],?_,?_,by omega⟩
  ·unfold z3Z
   dsimp only
   rw [if_pos (by simpa using hm),e1,bsm]
   rw [z8]
   unfold z9v
   dsimp only
   rw [if_pos (by simp;omega)]
  ·intro j s' hj hs'
   by_cases hjm:j<m
   ·rw [List.getElem?_append_left (by omega)]
    exact hr j s' hjm hs'
   ·obtain rfl:j=m:=by omega
    rw [hs] at hs'
    cases hs'
    rw [List.getElem?_append_right (by omega),hC,Nat.sub_self,hP]
    rfl
  ·rw [e2,hP,zh5 hs,List.length_append]) (by
  rintro st ⟨C,P,A,rfl,hC,hr,hP,hA⟩
  rw [List.take_length] at hP
  refine .inr ⟨_,?_,C,P,A,rfl,hC,fun j s hs=>hr j s (List.getElem?_eq_some_iff.1 hs).1 hs,hP,by omega⟩
  unfold z3Z
  rw [if_neg (by simp)]) (fu:=fu) (i:=0) (s:=(0,[],[],[],[],[⟨0,0⟩],[⟨1,0,0,[],List.replicate (1:Int).toNat ⟨0,0⟩⟩])) (Nat.zero_le _) (by omega) ⟨_,_,_,rfl,rfl,fun j s hj _=>absurd hj (Nat.not_lt_zero _),by simp [portK],by simp⟩
 exact⟨C,P,A,h1,h2,h3,h4,h5⟩
theorem zm6 {fu N:Nat}{g:D.Qi}(hf:Big fu) (hS:Small g) (hN:N≤500000):∃ V:List (List Int),iter (z3X fu g) fu ((N:Int),0,[])=some (.inl (((N+(varK g.Qc).length:Nat):Int),V))∧V.length=g.Qc.length∧∀ (j:Nat) s,g.Qc[j]? = some s→V[j]? = some ((List.range s.QG.length).map fun i=>((N+(varK (g.Qc.take j)).length+i:Nat):Int)):=by
 have hn:=hS.n
 obtain⟨o,f1,V,rfl,f2,f3⟩:=z1A (body:=z3X fu g) (fun m st=>∃ V:List (List Int),st=(((N+(varK (g.Qc.take m)).length:Nat):Int),(m:Int),V)∧V.length=m∧∀ (j:Nat) s,j<m→g.Qc[j]? = some s→V[j]? = some ((List.range s.QG.length).map fun i=>((N+(varK (g.Qc.take j)).length+i:Nat):Int))) g.Qc.length
  (fun o=>∃ V:List (List Int),o=.inl (((N+(varK g.Qc).length:Nat):Int),V)∧V.length=g.Qc.length∧∀ (j:Nat) s,g.Qc[j]? = some s→V[j]? = some ((List.range s.QG.length).map fun i=>((N+(varK (g.Qc.take j)).length+i:Nat):Int))) (by
  rintro m st hm ⟨V,rfl,hV,hr⟩
  obtain⟨s,hs⟩:=z5i hm
  obtain⟨a1,a2,a3,a4,a5⟩:=hS.s s (List.mem_of_getElem? hs)
  have hvl:=zjo hS m (by omega)
  have e1:=zoX (z1:=((N+(varK (g.Qc.take m)).length:Nat):Int)) (z2:=V) (n:=N+(varK (g.Qc.take m)).length) hf hs a2 (by omega)
  refine .inl ⟨(((N+(varK (g.Qc.take m)).length+s.QG.length:Nat):Int),w64 (m+1),V++[(List.range s.QG.length).map fun i=>((N+(varK (g.Qc.take m)).length+i:Nat):Int)]),?_,V++[(List.range s.QG.length).map fun i=>((N+(varK (g.Qc.take m)).length+i:Nat):Int)],?_,by simp [hV],?_⟩
  ·unfold z3X
   dsimp only
   rw [if_pos (by simpa using hm),e1,bsm]
   rw [z8]
   unfold z9w
   dsimp only
   rw [if_pos (by simp;omega)]
  ·rw [zf (by omega) (by omega),zhT hs,List.length_append]
   unfold varR
   simp only [List.length_map,List.length_range,Nat.add_assoc]
   rfl
  ·intro j s' hj hs'
   by_cases hjm:j<m
   ·rw [List.getElem?_append_left (by omega)]
    exact hr j s' hjm hs'
   ·obtain rfl:j=m:=by omega
    rw [hs] at hs'
    cases hs'
    rw [List.getElem?_append_right (by omega),hV,Nat.sub_self]
    rfl) (by
  rintro st ⟨V,rfl,hV,hr⟩
  rw [List.take_length]
  refine .inr ⟨_,?_,V,rfl,hV,fun j s hs=>hr j s (List.getElem?_eq_some_iff.1 hs).1 hs⟩
  unfold z3X
  rw [if_neg (by simp)]) (fu:=fu) (i:=0) (s:=((N:Int),0,[])) (Nat.zero_le _) (by omega) ⟨[],by simp [varK],rfl,fun j s hj _=>absurd hj (Nat.not_lt_zero _)⟩
 exact⟨V,f1,f2,f3⟩
theorem zoO {fu:Nat}{g:D.Qi}{more:List D.Qb}(hf:Big fu) (hS:Small g) (hM:moreOk more):∃ L at_,z8d fu g more=some (L,at_)∧Items g more L at_:=by
 have hn:=hS.n
 unfold z8d
 rw [if_pos (by simp)]
 obtain⟨C,P,A,h1,h2,h3,h4,h5⟩:=zjR hf hS
 rw [h1,bsm]
 rw [z8]
 unfold z9z
 dsimp only
 have hpl:=zdb hS g.Qc.length (Nat.le_refl _)
 rw [List.take_length] at hpl
 obtain⟨P',A',e1,e2,e3⟩:=zpr (more:=more) (C:=C) (V:=[]) (E:=[]) (Q:=[]) (P:=P) (A:=A) hf hM.1 hM.2 (by omega) (by omega)
 rw [e1,bsm]
 rw [z8]
 unfold z9y
 dsimp only
 have hmore:=zcH (t:=3) (m:=0) (cs:=more) (fun c hc=>(hM.2 c hc).2) more.length (Nat.le_refl _)
 rw [List.take_length] at hmore
 have hM1:=hM.1
 have hPl:P'.length=(portK g.Qc).length+(rowK 3 0 more).length:=by rw [e2,h4]
 obtain⟨V,f1,f2,f3⟩:=zm6 (N:=P'.length) hf hS (by omega)
 rw [f1,bsm]
 rw [z8]
 unfold z9x
 dsimp only
 have hvl:=zjo hS g.Qc.length (Nat.le_refl _)
 rw [List.take_length] at hvl
 rw [if_pos (by simp;omega)]
 refine⟨_,_,rfl,?_,?_,?_,?_,rfl,?_⟩
 ·dsimp only;rw [hPl,List.length_append]
 ·intro m i s c hs hc
  have hi:=(List.getElem?_eq_some_iff.1 hc).1
  refine⟨_,h3 m s hs,?_⟩
  rw [zoP hi,ze4 (t:=1) (m:=0) (t':=1) (m':=m) i (by omega)]
 ·intro m i s hs hi
  refine⟨_,f3 m s hs,?_⟩
  rw [List.getElem?_map,List.getElem?_range hi,hPl]
  rfl
 ·dsimp only
  congr 1
  unfold allK
  rw [List.length_append,List.length_append,← hPl]
  omega
 ·intro i c hc
  have hi:=(List.getElem?_eq_some_iff.1 hc).1
  rw [zoP hi,h4,ze4 (t:=1) (m:=0) (t':=3) (m':=0) i (by omega)]
end Go.E


namespace Go.E
open Go.RowKit Go.Proofs
set_option linter.unusedSimpArgs false
set_option linter.unusedVariables false

def aliveN (g:D.Qi) (a:D.Qf):Bool:=decide (0≤a.Qg∧0≤a.Qs) && (g.Qc[a.Qg.toNat]?).any fun s=>if a.Qj=1 then(s.Cells[a.Qs.toNat]?).any fun c=>decide (c.Qj≠0) else if a.Qj=2 then(s.QG[a.Qs.toNat]?).any fun v=>v.Qa0 else false
def keyA (a:D.Qf):Key:=if a.Qj=1 then(1,a.Qg.toNat,a.Qs.toNat,0) else(2,a.Qg.toNat,a.Qs.toNat,0)

theorem zdd {α:Type}{xs:List α}{i:Int}(h:(xs.length:Int)≤i):xs[i.toNat]? = none:=List.getElem?_eq_none (by omega)
theorem zhc {α:Type}{xs:List α}{i:Int}(h0:0≤i) (h:i<xs.length):∃ x,xs[i.toNat]? = some x∧idx xs i=some x:=by
 obtain⟨x,hx⟩:=z5i (xs:=xs) (i:=i.toNat) (by omega)
 exact⟨x,hx,by unfold idx;rw [if_pos h0,hx]⟩
theorem zcc {fu:Nat}{g:D.Qi}{a:D.Qf}(hs:g.sz≤1048576):z2N fu g a=some (aliveN g a):=by
 have hm:maxLen=9223372036854775807:=rfl
 obtain⟨z1,z2⟩:=zdF hs
 unfold z2N aliveN
 rw [zdf (by omega),z9e,bsm]
 by_cases hM:0≤a.Qg∧a.Qg≤(g.Qc.length:Int) - 1
 ·obtain⟨s,s1,s2⟩:=zhc (xs:=g.Qc) hM.1 (by omega)
  obtain⟨y1,y2,y3,y4⟩:=zby (z2 s (List.mem_of_getElem? s1))
  rw [dct hM,if_neg (by simp),s2,bsm,s1,Option.any_some]
  by_cases k1:a.Qj=1
  ·rw [if_pos (by simp [k1]),if_pos k1,zdf (by omega),z9e,bsm]
   by_cases hi:0≤a.Qs∧a.Qs≤(s.Cells.length:Int) - 1
   ·obtain⟨c,c1,c2⟩:=zhc (xs:=s.Cells) hi.1 (by omega)
    rw [if_pos (dct hi),c2,bsm,c1,Option.any_some,dct ⟨hM.1,hi.1⟩]
    by_cases h:c.Qj=0<;>simp [h]
   ·rw [if_neg (by simpa using hi)]
    by_cases h0:0≤a.Qs
    ·rw [zdd (by omega)];simp
    ·rw [decide_eq_false (fun h=>h0 h.2)];rfl
  ·rw [if_neg (by simpa using k1),if_neg k1]
   by_cases k2:a.Qj=2
   ·rw [if_pos (by simp [k2]),if_pos k2,zdf (by omega),z9e,bsm]
    by_cases hi:0≤a.Qs∧a.Qs≤(s.QG.length:Int) - 1
    ·obtain⟨c,c1,c2⟩:=zhc (xs:=s.QG) hi.1 (by omega)
     rw [if_pos (dct hi),c2,bsm,c1,Option.any_some,dct ⟨hM.1,hi.1⟩]
     rfl
    ·rw [if_neg (by simpa using hi)]
     by_cases h0:0≤a.Qs
     ·rw [zdd (by omega)];simp
     ·rw [decide_eq_false (fun h=>h0 h.2)];rfl
   ·rw [if_neg (by simpa using k2),if_neg k2];simp
 ·rw [decide_eq_false hM,if_pos (by simp)]
  by_cases h0:0≤a.Qg
  ·rw [zdd (by omega)];simp
  ·rw [decide_eq_false (fun h=>h0 h.1)];rfl
theorem zkT {fu:Nat}{g:D.Qi}{a:D.Qf}:z3q fu g a=some (aliveN g a):=by
 unfold z3q z34 aliveN
 by_cases h1:a.Qg<0
 ·rw [if_pos (dct h1),if_pos rfl,decide_eq_false (fun h=>by omega)];rfl
 ·rw [if_neg (by simpa using h1)]
  by_cases h2:a.Qg≥(g.Qc.length:Int)
  ·rw [if_pos (dct h2),if_pos rfl,zdd h2];simp
  ·rw [if_neg (by simpa using h2)]
   obtain⟨s,s1,s2⟩:=zhc (xs:=g.Qc) (i:=a.Qg) (by omega) (by omega)
   rw [s1,Option.any_some]
   by_cases h3:a.Qs<0
   ·rw [if_pos (dct h3),decide_eq_false (fun h=>by omega)];rfl
   ·rw [if_neg (by simpa using h3),s2,bsm,dct (p:=0≤a.Qg∧0≤a.Qs) ⟨by omega,by omega⟩,Bool.true_and]
    by_cases k1:a.Qj=1
    ·rw [if_pos (by simp [k1]),if_pos k1]
     by_cases hi:a.Qs<(s.Cells.length:Int)
     ·obtain⟨c,c1,c2⟩:=zhc (xs:=s.Cells) (i:=a.Qs) (by omega) hi
      rw [if_pos (dct hi),c2,bsm,c1,Option.any_some]
      by_cases h:c.Qj=0<;>simp [h]
     ·rw [if_neg (by simpa using hi),zdd (by omega)];rfl
    ·rw [if_neg (by simpa using k1),if_neg k1]
     by_cases k2:a.Qj=2
     ·rw [if_pos (by simp [k2]),if_pos k2]
      by_cases hi:a.Qs<(s.QG.length:Int)
      ·obtain⟨c,c1,c2⟩:=zhc (xs:=s.QG) (i:=a.Qs) (by omega) hi
       rw [if_pos (dct hi),c2,bsm,c1,Option.any_some]
      ·rw [if_neg (by simpa using hi),zdd (by omega)];rfl
     ·rw [if_neg (by simpa using k2),if_neg k2]

theorem zgr {g:D.Qi}{a:D.Qf}(h:aliveN g a=true):0≤a.Qg∧0≤a.Qs∧∃ s,g.Qc[a.Qg.toNat]? = some s∧
  ((a.Qj=1∧∃ c,s.Cells[a.Qs.toNat]? = some c∧c.Qj≠0)∨(a.Qj=2∧∃ v,s.QG[a.Qs.toNat]? = some v∧v.Qa0=true)):=by
 unfold aliveN at h
 rw [Bool.and_eq_true,decide_eq_true_eq] at h
 obtain⟨⟨h1,h2⟩,h3⟩:=h
 refine⟨h1,h2,?_⟩
 cases hs:g.Qc[a.Qg.toNat]? with
 | none=>rw [hs] at h3;cases h3
 | some s=>
  rw [hs,Option.any_some] at h3
  refine⟨s,rfl,?_⟩
  by_cases k1:a.Qj=1
  ·rw [if_pos k1] at h3
   cases hc:s.Cells[a.Qs.toNat]? with
   | none=>rw [hc] at h3;cases h3
   | some c=>rw [hc,Option.any_some,decide_eq_true_eq] at h3;exact .inl ⟨k1,c,rfl,h3⟩
  ·rw [if_neg k1] at h3
   by_cases k2:a.Qj=2
   ·rw [if_pos k2] at h3
    cases hc:s.QG[a.Qs.toNat]? with
    | none=>rw [hc] at h3;cases h3
    | some c=>rw [hc,Option.any_some] at h3;exact .inr ⟨k2,c,rfl,h3⟩
   ·rw [if_neg k2] at h3;cases h3
theorem ze8 {fu:Nat}{g:D.Qi}{more:List D.Qb}{L L':D.Qm}{at_:List Int}{a:D.Qf}(hI:Items g more L at_) (hc:L'.cells=L.cells) (hv:L'.QM=L.QM) (h:aliveN g a=true):
  ∃ x:Nat,z1a fu L' a=some (x:Int)∧(allK g more)[x]? = some (keyA a):=by
 obtain⟨h1,h2,s,hs,h3⟩:=zgr h
 have em:a.Qg=((a.Qg.toNat:Nat):Int):=by omega
 have ei:a.Qs=((a.Qs.toNat:Nat):Int):=by omega
 unfold z1a keyA
 rcases h3 with⟨k1,c,c1,c2⟩ | ⟨k2,v,v1,v2⟩
 ·rw [if_pos (by simp [k1]),if_pos k1,hc]
  obtain⟨row,r1,r2⟩:=hI.cell _ _ s c hs c1
  refine⟨_,?_,zks (k:=0) hs c1 c2 (Nat.zero_le _)⟩
  rw [em,zd r1,bsm,ei,zd r2]
  rfl
 ·have hi:=(List.getElem?_eq_some_iff.1 v1).1
  rw [if_neg (by simp [k2]),if_neg (by omega),hv]
  obtain⟨row,r1,r2⟩:=hI.var _ _ s hs hi
  refine⟨_,?_,zoT hs hi⟩
  rw [em,zd r1,bsm,ei,zd r2]
  rfl


def EndsOk (ks0:List Key) (E:List (List Int)) (ks:List Key):Prop:=E.length=ks0.length∧∀ (x:Nat) key,ks0[x]? = some key→∃ e,E[x]? = some e∧e.length=ks.count key
theorem zpq {α:Type}{xs:List α}(h:xs.Nodup){i j:Nat}{a:α}(hi:xs[i]? = some a) (hj:xs[j]? = some a):i=j:=by
 obtain⟨h1,h2⟩:=List.getElem?_eq_some_iff.1 hi
 obtain⟨h3,h4⟩:=List.getElem?_eq_some_iff.1 hj
 have hp:=List.pairwise_iff_getElem.1 h
 rcases Nat.lt_trichotomy i j with hl | hl | hl
 ·exact absurd (h2.trans h4.symm) (hp i j h1 h3 hl)
 ·exact hl
 ·exact absurd (h4.trans h2.symm) (hp j i h3 h1 hl)
theorem zj6 {ks0:List Key}(hn:ks0.Nodup){E:List (List Int)}{ks:List Key}(h:EndsOk ks0 E ks){x:Nat}{k:Key}(hx:ks0[x]? = some k) (n:Int):
  ∃ e,E[x]? = some e∧e.length≤ks.length∧EndsOk ks0 (E.set x (e++[n])) (ks++[k]):=by
 obtain⟨hl,he⟩:=h
 obtain⟨e,e1,e2⟩:=he x k hx
 refine⟨e,e1,by rw [e2];exact List.count_le_length,by simp [hl],fun y key hy=>?_⟩
 obtain⟨f,f1,f2⟩:=he y key hy
 by_cases hxy:x=y
 ·subst hxy
  rw [hx] at hy
  cases hy
  have hlt:=(List.getElem?_eq_some_iff.1 e1).1
  exact⟨_,List.getElem?_set_self hlt,by simp [e2]⟩
 ·refine⟨f,by rw [List.getElem?_set_ne hxy];exact f1,?_⟩
  have hk:k≠key:=fun e=>hxy (zpq hn hx (by rw [e];exact hy))
  rw [f2,List.count_append,List.count_singleton]
  simp [hk]

structure Run (g:D.Qi) (more:List D.Qb) (L L':D.Qm) (ks:List Key):Prop where
 QH:L'.QH=L.QH
 cells:L'.cells=L.cells
 QM:L'.QM=L.QM
 ends:EndsOk (allK g more) L'.ends ks
 Qv:L'.Qv.length≤ks.length
theorem zdS {fu:Nat}{g:D.Qi}{more:List D.Qb}{L L':D.Qm}{ks:List Key}{x y:Nat}{k1 k2:Key}(hR:Run g more L L' ks) (hx:(allK g more)[x]? = some k1) (hy:(allK g more)[y]? = some k2) (hb:ks.length≤1000000):
  ∃ L'',z12 fu L' (x:Int) (y:Int)=some L''∧Run g more L L'' (ks++[k1,k2]):=by
 obtain⟨e,e1,e2,e3⟩:=zj6 zhi hR.ends hx (L'.Qv.length:Int)
 obtain⟨f,f1,f2,f3⟩:=zj6 zhi e3 hy (L'.Qv.length:Int)
 have hp:=hR.Qv
 rw [List.length_append,List.length_singleton] at f2
 unfold z12
 rw [if_pos (by simp only [List.length_singleton,decide_eq_true_eq];omega),zd e1,bsm,if_pos (by simp only [List.length_singleton,decide_eq_true_eq];omega)]
 unfold z3U
 rw [Int.toNat_natCast,zd f1,bsm,if_pos (by simp only [List.length_singleton,decide_eq_true_eq];omega),Int.toNat_natCast]
 refine⟨_,rfl,hR.QH,hR.cells,hR.QM,?_,?_⟩
 ·rw [List.append_assoc] at f3
  exact f3
 ·simp only [List.length_append,List.length_cons,List.length_nil]
  omega


theorem tryLoop {α S τ ρ:Type}{xs:List α}{body:S→Option (Rd S τ ρ)}(J:Nat→S→Prop) (p:Nat→α→Bool) (QT:τ→Prop) (QR:ρ→Prop){s0:S}{fu:Nat}(hl:xs.length≤1048576) (hf:Big fu)
  (step:∀ (i:Nat) x s,xs[i]? = some x→J i s→(p i x=true→∃ s',body s=some (.next s')∧J (i+1) s')∧(p i x=false→∃ r,body s=some (.ret r)∧QR r))
  (last:∀ s,J xs.length s→∃ t,body s=some (.brk t)∧QT t) (h0:J 0 s0):
  ((xs.zipIdx.all fun y=>p y.2 y.1)=true∧∃ t,iter body fu s0=some (.inl t)∧QT t)∨((xs.zipIdx.all fun y=>p y.2 y.1)=false∧∃ r,iter body fu s0=some (.inr r)∧QR r):=by
 obtain⟨o,h1,h2⟩:=z1A (body:=body) (fun i s=>J i s∧∀ (j:Nat) x,j<i→xs[j]? = some x→p j x=true) xs.length (fun o=>((xs.zipIdx.all fun y=>p y.2 y.1)=true∧∃ t,o=.inl t∧QT t)∨((xs.zipIdx.all fun y=>p y.2 y.1)=false∧∃ r,o=.inr r∧QR r)) (by
  rintro i s hi ⟨hJ,hp⟩
  obtain⟨x,hx⟩:=z5i hi
  obtain⟨g1,g2⟩:=step i x s hx hJ
  cases hpx:p i x with
  | true=>
   obtain⟨s',e1,e2⟩:=g1 hpx
   refine .inl ⟨s',e1,e2,fun j y hj hy=>?_⟩
   by_cases hji:j<i
   ·exact hp j y hji hy
   ·obtain rfl:j=i:=by omega
    rw [hx] at hy;cases hy;exact hpx
  | false=>
   obtain⟨r,e1,e2⟩:=g2 hpx
   refine .inr (.inl ⟨r,e1,.inr ⟨?_,r,rfl,e2⟩⟩)
   cases hz:(xs.zipIdx.all fun y=>p y.2 y.1) with
   | false=>rfl
   | true=>
    have:=z87.1 hz i x hx
    rw [Nat.zero_add,hpx] at this
    cases this) (by
  rintro s ⟨hJ,hp⟩
  obtain⟨t,e1,e2⟩:=last s hJ
  refine .inr ⟨t,e1,.inl ⟨?_,t,rfl,e2⟩⟩
  refine z87.2 fun i x hx=>?_
  rw [Nat.zero_add]
  exact hp i x (List.getElem?_eq_some_iff.1 hx).1 hx) (fu:=fu) (i:=0) (s:=s0) (Nat.zero_le _) (by omega) ⟨h0,fun j x hj _=>absurd hj (Nat.not_lt_zero _)⟩
 rw [h1]
 rcases h2 with⟨a,t,rfl,b⟩ | ⟨a,r,rfl,b⟩
 ·exact .inl ⟨a,t,rfl,b⟩
 ·exact .inr ⟨a,r,rfl,b⟩

def fl {α β:Type}(f:Nat→α→List β) (xs:List α) (i:Nat):List β:=(xs.take i).zipIdx.flatMap fun x=>f x.2 x.1
theorem zaE {α β:Type}{f:Nat→α→List β}{xs:List α}:fl f xs 0=[]:=by simp [fl]
theorem zad {α β:Type}{f:Nat→α→List β}{xs:List α}{i:Nat}{x:α}(h:xs[i]? = some x):fl f xs (i+1)=fl f xs i++f i x:=by
 unfold fl
 rw [zdK h,List.flatMap_append]
 simp
theorem zae {α β:Type}{f:Nat→α→List β}{xs:List α}{b:Nat}(h:∀ i x,xs[i]? = some x→(f i x).length≤b):∀ i,i≤xs.length→(fl f xs i).length≤b*i
 | 0,_=>by simp [zaE]
 | i+1,hi=>by
  obtain⟨x,hx⟩:=z5i (xs:=xs) (i:=i) (by omega)
  rw [zad hx,List.length_append,Nat.mul_succ]
  have:=zae h i (by omega)
  have:=h i x hx
  omega
def auxK (t m i k:Nat) (a:D.Qf):List Key:=[(t,m,i,k+1),keyA a]
def redK (_:Nat) (r:D.Qk):List Key:=[keyA r.A,keyA r.B]
def fullK (m i:Nat) (v:D.Qn):List Key:=if v.Qa1=true then [(2,m,i,0),keyA v.QV] else []
def cellS (t m i:Nat) (c:D.Qb):List Key:=fl (auxK t m i) c.QX c.QX.length
def shardS (m:Nat) (s:D.Qp):List Key:=fl (cellS 1 m) s.Cells s.Cells.length++(fl redK s.Qu s.Qu.length++fl (fullK m) s.QG s.QG.length)
def rootS (g:D.Qi):List Key:=[(0,0,0,0),keyA g.Qy]
def gridS (g:D.Qi):List Key:=rootS g++fl shardS g.Qc g.Qc.length
def fullA (g:D.Qi) (m i:Nat) (v:D.Qn):Bool:=!v.Qa1 || (aliveN g ⟨m,2,i⟩ && aliveN g v.QV)
def shardA (g:D.Qi) (m:Nat) (s:D.Qp):Bool:=(s.Cells.all fun c=>c.QX.all (aliveN g)) && ((s.Qu.all fun r=>aliveN g r.A && aliveN g r.B) && s.QG.zipIdx.all fun x=>fullA g m x.2 x.1)
def gridA (g:D.Qi):Bool:=aliveN g g.Qy && g.Qc.zipIdx.all fun x=>shardA g x.2 x.1
theorem zhP {t m i:Nat}{c:D.Qb}(h:c.QX.length≤3):(cellS t m i c).length≤6:=by
 have:=zae (f:=auxK t m i) (xs:=c.QX) (b:=2) (fun _ _ _=>by simp [auxK]) c.QX.length (Nat.le_refl _)
 unfold cellS
 omega
theorem zoQ {fu:Nat}{g:D.Qi}{more:List D.Qb}{L L':D.Qm}{at_:List Int}{ks:List Key}{c:D.Qb}{b t m i:Nat}(hf:Big fu) (hs:g.sz≤1048576) (hI:Items g more L at_) (hR:Run g more L L' ks) (hc:c.QX.length≤3) (hks:ks.length≤900000)
  (hb:b≤1000000) (hk:∀ k,k<c.QX.length→(allK g more)[b+k+1]? = some (t,m,i,k+1)):
  ∃ L'',z2q fu L' g c (b:Int)=some (c.QX.all (aliveN g),L'')∧(c.QX.all (aliveN g)=true→Run g more L L'' (ks++cellS t m i c)):=by
 unfold z2q
 have h:=tryLoop (xs:=c.QX) (body:=z38 fu g c (b:Int)) (fu:=fu)
  (fun k st=>∃ M:D.Qm,st=((k:Int),M.QB,M.QH,M.cells,M.QM,M.ends,M.Qv)∧Run g more L M (ks++fl (auxK t m i) c.QX k))
  (fun _ a=>aliveN g a)
  (fun tt=>∃ M:D.Qm,tt=(M.QB,M.QH,M.cells,M.QM,M.ends,M.Qv)∧Run g more L M (ks++cellS t m i c))
  (fun r=>∃ M:D.Qm,r=(false,M)) (s0:=(0,L'.QB,L'.QH,L'.cells,L'.QM,L'.ends,L'.Qv)) (by omega) hf (by
  rintro k a _ ha ⟨M,rfl,hM⟩
  have hkl:=(List.getElem?_eq_some_iff.1 ha).1
  have hfl:=zae (f:=auxK t m i) (xs:=c.QX) (b:=2) (fun _ _ _=>by simp [auxK]) k (by omega)
  unfold z38
  dsimp only
  rw [if_pos (by simpa using hkl),zd ha,bsm,zcc hs,bsm]
  constructor
  ·intro hal
   rw [hal]
   obtain⟨y,y1,y2⟩:=ze8 (fu:=fu) (L':=M) hI hM.cells hM.QM hal
   obtain⟨M',e1,e2⟩:=zdS (fu:=fu) hM (hk k hkl) y2 (by rw [List.length_append];omega)
   refine⟨(w64 (k+1),M'.QB,M'.QH,M'.cells,M'.QM,M'.ends,M'.Qv),?_,M',?_,?_⟩
   ·rw [if_neg (by simp),bsm]
    have y1':z1a fu ⟨M.QB,M.QH,M.cells,M.QM,M.ends,M.Qv⟩ a=some (y:Int):=y1
    have e1':z12 fu ⟨M.QB,M.QH,M.cells,M.QM,M.ends,M.Qv⟩ ((b+k+1:Nat):Int) (y:Int)=some M':=e1
    rw [y1',bsm,zf (n:=(b:Int)+k) (by omega) (by omega),zf (by omega) (by omega),show(b:Int)+(k:Int)+1=((b+k+1:Nat):Int) by omega,e1',bsm]
   ·rw [zf (by omega) (by omega)];rfl
   ·rw [zad ha,← List.append_assoc];exact e2
  ·intro hal
   rw [hal]
   exact⟨_,rfl,M,rfl⟩) (by
  rintro _ ⟨M,rfl,hM⟩
  refine⟨_,?_,M,rfl,hM⟩
  unfold z38
  rw [if_neg (by simp)]) ⟨L',rfl,by rw [zaE,List.append_nil];exact hR⟩
 rw [z7d (p:=aliveN g)] at h
 rcases h with⟨h1,tt,h2,M,rfl,h3⟩ | ⟨h1,r,h2,M,rfl⟩
 ·rw [h2,bsm,z8,h1]
  exact⟨M,rfl,fun _=>h3⟩
 ·rw [h2,bsm,h1]
  exact⟨M,rfl,fun h=>by cases h⟩
theorem zhz {fu:Nat}{g:D.Qi}{more:List D.Qb}{L L':D.Qm}{at_:List Int}{ks:List Key}{a b:D.Qf}(hs:g.sz≤1048576) (hI:Items g more L at_) (hR:Run g more L L' ks) (hks:ks.length≤900000):
  ∃ L'',z1u fu L' g a b=some (aliveN g a && aliveN g b,L'')∧((aliveN g a && aliveN g b)=true→Run g more L L'' (ks++[keyA a,keyA b])):=by
 unfold z1u
 rw [zcc hs,zcc hs,bsm,bsm]
 unfold z2L
 cases ha:aliveN g a with
 | false=>exact⟨_,rfl,fun h=>by cases h⟩
 | true=>
  cases hb:aliveN g b with
  | false=>exact⟨_,rfl,fun h=>by cases h⟩
  | true=>
   obtain⟨x,x1,x2⟩:=ze8 (fu:=fu) (L':=L') hI hR.cells hR.QM ha
   obtain⟨y,y1,y2⟩:=ze8 (fu:=fu) (L':=L') hI hR.cells hR.QM hb
   obtain⟨M,e1,e2⟩:=zdS (fu:=fu) hR x2 y2 (by omega)
   rw [if_neg (by simp),if_neg (by simp),x1,bsm,y1,bsm,e1,bsm]
   exact⟨M,rfl,fun _=>e2⟩
end Go.E


namespace Go.E
open Go.RowKit Go.Proofs
set_option linter.unusedSimpArgs false
set_option linter.unusedVariables false

theorem zjF {s:D.Qp}(h:s.Qu.length≤400) (i:Nat) (hi:i≤s.Qu.length):(fl redK s.Qu i).length≤2*i:=zae (b:=2) (fun _ _ _=>by simp [redK]) i hi
theorem zk2 {s:D.Qp}{m:Nat}(i:Nat) (hi:i≤s.QG.length):(fl (fullK m) s.QG i).length≤2*i:=zae (b:=2) (fun _ _ _=>by unfold fullK;split<;>simp) i hi
theorem zgn {s:D.Qp}{m:Nat}(h:∀ c,c∈s.Cells→c.QX.length≤3) (i:Nat) (hi:i≤s.Cells.length):(fl (cellS 1 m) s.Cells i).length≤6*i:=zae (b:=6) (fun j c hc=>zhP (h c (List.mem_of_getElem? hc))) i hi

abbrev Tup (M:D.Qm):List D.QJ × List D.QS × List (List Int) × List (List Int) × List (List Int) × List (List Int):=(M.QB,M.QH,M.cells,M.QM,M.ends,M.Qv)
section
variable {fu:Nat}{g:D.Qi}{more:List D.Qb}{L:D.Qm}{at_:List Int}
theorem zoK {M0:D.Qm}{ks:List Key}{m:Nat}{s:D.Qp}{z:List D.QJ × List D.QS × List (List Int) × List (List Int) × List (List Int) × List (List Int)}(hf:Big fu) (hs:g.sz≤1048576) (hS:Small g) (hI:Items g more L at_) (hR:Run g more L M0 ks) (hm:g.Qc[m]? = some s) (hks:ks.length≤500000):
  ((s.Cells.all fun c=>c.QX.all (aliveN g))=true∧∃ t,iter (z2n fu g ((m:Int),z) s) fu (0,Tup M0)=some (.inl t)∧∃ M,t=Tup M∧Run g more L M (ks++fl (cellS 1 m) s.Cells s.Cells.length))∨
  ((s.Cells.all fun c=>c.QX.all (aliveN g))=false∧∃ r,iter (z2n fu g ((m:Int),z) s) fu (0,Tup M0)=some (.inr r)∧∃ M,r=.ret (false,M)):=by
 obtain⟨a1,a2,a3,a4,a5⟩:=hS.s s (List.mem_of_getElem? hm)
 have hml:=(List.getElem?_eq_some_iff.1 hm).1
 have hn:=hS.n
 have h:=tryLoop (xs:=s.Cells) (body:=z2n fu g ((m:Int),z) s) (fu:=fu)
  (fun i st=>∃ M:D.Qm,st=((i:Int),Tup M)∧Run g more L M (ks++fl (cellS 1 m) s.Cells i))
  (fun _ c=>c.QX.all (aliveN g))
  (fun t=>∃ M,t=Tup M∧Run g more L M (ks++fl (cellS 1 m) s.Cells s.Cells.length))
  (fun r=>∃ M,r=.ret (false,M)) (s0:=(0,Tup M0)) (by omega) hf (by
  rintro i c _ hc ⟨M,rfl,hM⟩
  have hil:=(List.getElem?_eq_some_iff.1 hc).1
  obtain⟨c1,c2,c3⟩:=a4 c (List.mem_of_getElem? hc)
  have hfl:=zgn (m:=m) (fun c hc=>(a4 c hc).2.1) i (by omega)
  obtain⟨row,r1,r2⟩:=hI.cell m i s c hm hc
  have hp:=zdb hS m (by omega)
  have hr:=zcH (t:=1) (m:=m) (fun c hc=>(a4 c hc).2.1) i (by omega)
  obtain⟨M',e1,e2⟩:=zoQ (fu:=fu) (t:=1) (m:=m) (i:=i) (b:=(portK (g.Qc.take m)).length+(rowK 1 m (s.Cells.take i)).length) hf hs hI hM c2 (by rw [List.length_append];omega) (by omega) (fun k hk=>by
   have k0:c.Qj≠0:=fun h0=>by
    unfold shCellN at c3
    rw [if_pos h0,decide_eq_true_eq] at c3
    rw [c3.2.2.2] at hk
    exact absurd hk (Nat.not_lt_zero _)
   exact zks hm hc k0 hk)
  have e1':z2q fu ⟨M.QB,M.QH,M.cells,M.QM,M.ends,M.Qv⟩ g c (((portK (g.Qc.take m)).length+(rowK 1 m (s.Cells.take i)).length:Nat):Int)=some (c.QX.all (aliveN g),M'):=e1
  unfold z2n
  dsimp only
  rw [if_pos (by simpa using hil),zd hc,bsm,hM.cells,zd r1,bsm,zd r2,bsm,← hM.cells,e1',bsm]
  constructor
  ·intro hal
   rw [hal,if_neg (by simp)]
   exact⟨(w64 (i+1),Tup M'),rfl,M',by rw [zf (by omega) (by omega)];rfl,by rw [zad hc,← List.append_assoc];exact e2 hal⟩
  ·intro hal
   rw [hal,if_pos (by simp)]
   exact⟨_,rfl,_,rfl⟩) (by
  rintro _ ⟨M,rfl,hM⟩
  refine⟨_,?_,M,rfl,hM⟩
  unfold z2n
  rw [if_neg (by simp)]) ⟨M0,rfl,by rw [zaE,List.append_nil];exact hR⟩
 rw [z7d (p:=fun c:D.Qb=>c.QX.all (aliveN g))] at h
 exact h
theorem zp8 {M0:D.Qm}{ks:List Key}{s:D.Qp}(hf:Big fu) (hs:g.sz≤1048576) (hI:Items g more L at_) (hR:Run g more L M0 ks) (hz:s.Qu.length≤400) (hks:ks.length≤500000):
  ((s.Qu.all fun r=>aliveN g r.A && aliveN g r.B)=true∧∃ t,iter (z2m fu g s) fu (0,Tup M0)=some (.inl t)∧∃ M,t=Tup M∧Run g more L M (ks++fl redK s.Qu s.Qu.length))∨
  ((s.Qu.all fun r=>aliveN g r.A && aliveN g r.B)=false∧∃ r,iter (z2m fu g s) fu (0,Tup M0)=some (.inr r)∧∃ M,r=.ret (false,M)):=by
 have h:=tryLoop (xs:=s.Qu) (body:=z2m fu g s) (fu:=fu)
  (fun i st=>∃ M:D.Qm,st=((i:Int),Tup M)∧Run g more L M (ks++fl redK s.Qu i))
  (fun _ r=>aliveN g r.A && aliveN g r.B)
  (fun t=>∃ M,t=Tup M∧Run g more L M (ks++fl redK s.Qu s.Qu.length))
  (fun r=>∃ M,r=.ret (false,M)) (s0:=(0,Tup M0)) (by omega) hf (by
  rintro i c _ hc ⟨M,rfl,hM⟩
  have hil:=(List.getElem?_eq_some_iff.1 hc).1
  have hfl:=zjF hz i (by omega)
  obtain⟨M',e1,e2⟩:=zhz (fu:=fu) (a:=c.A) (b:=c.B) hs hI hM (by rw [List.length_append];omega)
  have e1':z1u fu ⟨M.QB,M.QH,M.cells,M.QM,M.ends,M.Qv⟩ g c.A c.B=some (aliveN g c.A && aliveN g c.B,M'):=e1
  unfold z2m
  dsimp only
  rw [if_pos (by simpa using hil),zd hc,bsm,bsm,e1',bsm]
  constructor
  ·intro hal
   rw [hal,if_neg (by simp)]
   exact⟨(w64 (i+1),Tup M'),rfl,M',by rw [zf (by omega) (by omega)];rfl,by rw [zad hc,← List.append_assoc];exact e2 hal⟩
  ·intro hal
   rw [hal,if_pos (by simp)]
   exact⟨_,rfl,_,rfl⟩) (by
  rintro _ ⟨M,rfl,hM⟩
  refine⟨_,?_,M,rfl,hM⟩
  unfold z2m
  rw [if_neg (by simp)]) ⟨M0,rfl,by rw [zaE,List.append_nil];exact hR⟩
 rw [z7d (p:=fun r:D.Qk=>aliveN g r.A && aliveN g r.B)] at h
 exact h
theorem zoY {M0:D.Qm}{ks:List Key}{m:Nat}{s:D.Qp}{z:List D.QJ × List D.QS × List (List Int) × List (List Int) × List (List Int) × List (List Int)}(hf:Big fu) (hs:g.sz≤1048576) (hI:Items g more L at_) (hR:Run g more L M0 ks) (hz:s.QG.length≤400) (hks:ks.length≤500000):
  ((s.QG.zipIdx.all fun x=>fullA g m x.2 x.1)=true∧∃ t,iter (z2k fu g ((m:Int),z) s) fu (0,Tup M0)=some (.inl t)∧∃ M,t=Tup M∧Run g more L M (ks++fl (fullK m) s.QG s.QG.length))∨
  ((s.QG.zipIdx.all fun x=>fullA g m x.2 x.1)=false∧∃ r,iter (z2k fu g ((m:Int),z) s) fu (0,Tup M0)=some (.inr r)∧∃ M,r=.ret (false,M)):=by
 exact tryLoop (xs:=s.QG) (body:=z2k fu g ((m:Int),z) s) (fu:=fu)
  (fun i st=>∃ M:D.Qm,st=((i:Int),Tup M)∧Run g more L M (ks++fl (fullK m) s.QG i))
  (fun i v=>fullA g m i v)
  (fun t=>∃ M,t=Tup M∧Run g more L M (ks++fl (fullK m) s.QG s.QG.length))
  (fun r=>∃ M,r=.ret (false,M)) (s0:=(0,Tup M0)) (by omega) hf (by
  rintro i c _ hc ⟨M,rfl,hM⟩
  have hil:=(List.getElem?_eq_some_iff.1 hc).1
  have hfl:=zk2 (m:=m) i (by omega:i≤s.QG.length)
  obtain⟨M',e1,e2⟩:=zhz (fu:=fu) (a:=⟨(m:Int),2,(i:Int)⟩) (b:=c.QV) hs hI hM (by rw [List.length_append];omega)
  have e1':z1u fu ⟨M.QB,M.QH,M.cells,M.QM,M.ends,M.Qv⟩ g ⟨(m:Int),2,(i:Int)⟩ c.QV=some (aliveN g ⟨(m:Int),2,(i:Int)⟩ && aliveN g c.QV,M'):=e1
  unfold z2k
  dsimp only
  rw [if_pos (by simpa using hil),zd hc,bsm]
  unfold fullA
  cases hF:c.Qa1 with
  | false=>
   rw [if_neg (by simp)]
   refine⟨fun _=>⟨(w64 (i+1),Tup M),?_,M,by rw [zf (by omega) (by omega)];rfl,?_⟩,fun h=>by cases h⟩
   ·unfold z5C;rfl
   ·rw [zad hc];unfold fullK;rw [hF,if_neg (by simp),List.append_nil];exact hM
  | true=>
   rw [if_pos rfl,bsm,e1',bsm]
   unfold z5C
   rw [Bool.not_true,Bool.false_or]
   constructor
   ·intro hal
    rw [hal]
    refine⟨(w64 (i+1),Tup M'),rfl,M',by rw [zf (by omega) (by omega)];rfl,?_⟩
    rw [zad hc,← List.append_assoc]
    have h9:=e2 hal
    unfold fullK
    rw [hF,if_pos rfl]
    have:keyA ⟨(m:Int),2,(i:Int)⟩=(2,m,i,0):=by unfold keyA;simp
    rw [this] at h9
    exact h9
   ·intro hal
    rw [hal]
    exact⟨_,rfl,_,rfl⟩) (by
  rintro _ ⟨M,rfl,hM⟩
  refine⟨_,?_,M,rfl,hM⟩
  unfold z2k
  rw [if_neg (by simp)]) ⟨M0,rfl,by rw [zaE,List.append_nil];exact hR⟩
theorem zic {m:Nat}{s:D.Qp}(hS:Small g) (hm:g.Qc[m]? = some s):(shardS m s).length≤4000:=by
 obtain⟨a1,a2,a3,a4,a5⟩:=hS.s s (List.mem_of_getElem? hm)
 unfold shardS
 rw [List.length_append,List.length_append]
 have:=zgn (m:=m) (fun c hc=>(a4 c hc).2.1) s.Cells.length (Nat.le_refl _)
 have:=zjF a3 s.Qu.length (Nat.le_refl _)
 have:=zk2 (m:=m) s.QG.length (Nat.le_refl _)
 omega
theorem zm7 (hI:Items g more L at_):Run g more L L [] where
 QH:=rfl
 cells:=rfl
 QM:=rfl
 ends:=by
  rw [hI.ends]
  refine⟨by simp,fun x key hx=>⟨[],?_,rfl⟩⟩
  have:=(List.getElem?_eq_some_iff.1 hx).1
  rw [List.getElem?_replicate,if_pos this]
 Qv:=by rw [hI.Qv];exact Nat.le_refl _
theorem zqo (hf:Big fu) (hs:g.sz≤1048576) (hS:Small g) (hI:Items g more L at_):
  ∃ L',z9A fu g L=some (gridA g,L')∧(gridA g=true→Run g more L L' (gridS g)):=by
 have hn:=hS.n
 unfold z9A gridA
 rw [zcc hs,bsm]
 cases hr:aliveN g g.Qy with
 | false=>exact⟨L,rfl,fun h=>by cases h⟩
 | true=>
  obtain⟨x,x1,x2⟩:=ze8 (fu:=fu) (L':=L) hI rfl rfl hr
  obtain⟨M0,e1,e2⟩:=zdS (fu:=fu) (x:=0) (k1:=(0,0,0,0)) (zm7 hI) (by unfold allK portK;rfl) x2 (Nat.zero_le _)
  rw [if_neg (by simp),x1,bsm]
  have e1':z12 fu L 0 (x:Int)=some M0:=e1
  rw [e1',bsm,Bool.true_and]
  have h:=tryLoop (xs:=g.Qc) (body:=z4b fu g) (fu:=fu)
   (fun m st=>∃ M:D.Qm,st=((m:Int),Tup M)∧Run g more L M (rootS g++fl shardS g.Qc m))
   (fun m s=>shardA g m s)
   (fun t=>∃ M,t=Tup M∧Run g more L M (gridS g))
   (fun r=>∃ M,r=(false,M)) (s0:=(0,Tup M0)) (by omega) hf (by
   rintro m s _ hm ⟨M,rfl,hM⟩
   have hml:=(List.getElem?_eq_some_iff.1 hm).1
   obtain⟨a1,a2,a3,a4,a5⟩:=hS.s s (List.mem_of_getElem? hm)
   have hfl:=zae (f:=shardS) (xs:=g.Qc) (b:=4000) (fun j c hc=>zic hS hc) m (by omega)
   have d:(rootS g++fl shardS g.Qc m).length≤100000:=by rw [List.length_append];unfold rootS;simp only [List.length_cons,List.length_nil];omega
   have hfc:=zgn (m:=m) (fun c hc=>(a4 c hc).2.1) s.Cells.length (Nat.le_refl _)
   have hfr:=zjF a3 s.Qu.length (Nat.le_refl _)
   unfold z4b
   dsimp only
   rw [if_pos (by simpa using hml),zd hm,bsm]
   unfold shardA
   rcases zoK (z:=Tup M) hf hs hS hI hM hm (by omega) with⟨c1,t,c2,M1,rfl,c3⟩ | ⟨c1,r,c2,M1,rfl⟩
   ·have c2':iter (z2n fu g ((m:Int),M.QB,M.QH,M.cells,M.QM,M.ends,M.Qv) s) fu (0,M.QB,M.QH,M.cells,M.QM,M.ends,M.Qv)=_:=c2
    rw [c1,Bool.true_and,c2',bsm,z8]
    unfold zaD
    dsimp only
    rcases zp8 (s:=s) hf hs hI c3 a3 (by rw [List.length_append];omega) with⟨d1,t,d2,M2,rfl,d3⟩ | ⟨d1,r,d2,M2,rfl⟩
    ·have d2':iter (z2m fu g s) fu (0,M1.QB,M1.QH,M1.cells,M1.QM,M1.ends,M1.Qv)=_:=d2
     rw [d1,Bool.true_and,d2',bsm,z8]
     unfold zaC
     dsimp only
     rcases zoY (m:=m) (s:=s) (z:=Tup M) hf hs hI d3 a2 (by rw [List.length_append,List.length_append];omega) with⟨f1,t,f2,M3,rfl,f3⟩ | ⟨f1,r,f2,M3,rfl⟩
     ·have f2':iter (z2k fu g ((m:Int),M.QB,M.QH,M.cells,M.QM,M.ends,M.Qv) s) fu (0,M2.QB,M2.QH,M2.cells,M2.QM,M2.ends,M2.Qv)=_:=f2
      rw [f1,f2',bsm,z8]
      refine⟨fun _=>⟨(w64 (m+1),Tup M3),rfl,M3,by rw [zf (by omega) (by omega)];rfl,?_⟩,fun h=>by cases h⟩
      rw [zad hm]
      unfold shardS
      simp only [List.append_assoc] at f3 ⊢
      exact f3
     ·have f2':iter (z2k fu g ((m:Int),M.QB,M.QH,M.cells,M.QM,M.ends,M.Qv) s) fu (0,M2.QB,M2.QH,M2.cells,M2.QM,M2.ends,M2.Qv)=_:=f2
      rw [f1,f2',bsm]
      exact⟨fun h=>(by cases h),fun _=>⟨_,rfl,_,rfl⟩⟩
    ·have d2':iter (z2m fu g s) fu (0,M1.QB,M1.QH,M1.cells,M1.QM,M1.ends,M1.Qv)=_:=d2
     rw [d1,d2',bsm]
     exact⟨fun h=>(by cases h),fun _=>⟨_,rfl,_,rfl⟩⟩
   ·have c2':iter (z2n fu g ((m:Int),M.QB,M.QH,M.cells,M.QM,M.ends,M.Qv) s) fu (0,M.QB,M.QH,M.cells,M.QM,M.ends,M.Qv)=_:=c2
    rw [c1,c2',bsm]
    exact⟨fun h=>(by cases h),fun _=>⟨_,rfl,_,rfl⟩⟩) (by
   rintro _ ⟨M,rfl,hM⟩
   refine⟨_,?_,M,rfl,hM⟩
   unfold z4b
   rw [if_neg (by simp)]) ⟨M0,rfl,by rw [zaE,List.append_nil];exact e2⟩
  rcases h with⟨h1,t,h2,M,rfl,h3⟩ | ⟨h1,r,h2,M,rfl⟩
  ·have h2':iter (z4b fu g) fu (0,M0.QB,M0.QH,M0.cells,M0.QM,M0.ends,M0.Qv)=_:=h2
   rw [h2',bsm,z8,h1]
   exact⟨M,rfl,fun _=>h3⟩
  ·have h2':iter (z4b fu g) fu (0,M0.QB,M0.QH,M0.cells,M0.QM,M0.ends,M0.Qv)=_:=h2
   rw [h2',bsm,h1]
   exact⟨M,rfl,fun h=>by cases h⟩
def varC (S:List Key) (m:Nat) (s:D.Qp):Bool:=s.QG.zipIdx.all fun y=>!y.1.Qa0 || decide (S.count (2,m,y.2,0)=2)
def countsN (g:D.Qi) (more:List D.Qb) (S:List Key):Bool:=((portK g.Qc++rowK 3 0 more).all fun k=>decide (S.count k=1)) && g.Qc.zipIdx.all fun x=>varC S x.2 x.1
theorem zm3 {M:D.Qm}{S:List Key}(hf:Big fu) (hs:g.sz≤1048576) (hI:Items g more L at_) (hR:Run g more L M S) (hp:L.QH.length≤1048576):z5A fu g M=some (countsN g more S):=by
 have hm:maxLen=9223372036854775807:=rfl
 obtain⟨z1,z2⟩:=zdF hs
 have hpl:M.QH.length=(portK g.Qc++rowK 3 0 more).length:=by rw [hR.QH];exact hI.QH
 unfold z5A
 have hP:=allLoop (xs:=portK g.Qc++rowK 3 0 more) (body:=z58 fu M) (p:=fun _ k=>decide (S.count k=1)) (t:=()) (v:=false) (fu:=fu) (by rw [← hpl,hR.QH];omega) hf (fun i k hi hx=>by
  obtain⟨e,e1,e2⟩:=hR.ends.2 i k (by unfold allK;rw [List.getElem?_append_left hi];exact hx)
  unfold z58
  rw [if_pos (by simp only [decide_eq_true_eq];omega),zd e1,bsm,e2]
  by_cases h:S.count k=1
  ·rw [if_neg (by simp [h]),if_pos (dct h)]
  ·rw [if_pos (by simp only [bne_iff_ne,ne_eq];omega),if_neg (by simpa using h)]) (by unfold z58;rw [← hpl,if_neg (by simp)])
 rw [z7d (p:=fun k=>decide (S.count k=1))] at hP
 rw [hP,bsm]
 unfold countsN
 cases ((portK g.Qc++rowK 3 0 more).all fun k=>decide (S.count k=1)) with
 | false=>rfl
 | true=>
  rw [if_pos rfl,z8,Bool.true_and]
  unfold z97
  have hG:=allLoop (xs:=g.Qc) (body:=z57 fu g M) (p:=fun m s=>varC S m s) (t:=()) (v:=false) (fu:=fu) (by omega) hf (fun m s hi hx=>by
   obtain⟨y1,y2,y3,y4⟩:=zby (z2 s (List.mem_of_getElem? hx))
   unfold z57
   rw [if_pos (by simpa using hi)]
   have hV:=allLoop (xs:=s.QG) (body:=z56 fu g M (m:Int)) (p:=fun i v=>!v.Qa0 || decide (S.count (2,m,i,0)=2)) (t:=()) (v:=Rd.ret false) (fu:=fu) (by omega) hf (fun i v hj hv=>by
    obtain⟨row,r1,r2⟩:=hI.var m i s hx hj
    obtain⟨e,e1,e2⟩:=hR.ends.2 _ _ (zoT hx hj)
    unfold z56
    rw [zd hx,bsm,if_pos (by simpa using hj),bsm,zd hv,bsm]
    unfold z55
    cases v.Qa0 with
    | false=>rfl
    | true=>
     rw [if_pos rfl,hR.QM,zd r1,bsm,zd r2,bsm,zd e1,bsm,e2]
     by_cases h:S.count (2,m,i,0)=2
     ·rw [if_neg (by simp [h]),if_pos (by simp [h])]
     ·rw [if_pos (by simp only [bne_iff_ne,ne_eq];omega),if_neg (by simpa using h)]) (by unfold z56;rw [zd hx,bsm,if_neg (by simp)])
   rw [hV,bsm]
   unfold varC
   cases (s.QG.zipIdx.all fun y=>!y.1.Qa0 || decide (S.count (2,m,y.2,0)=2))<;>rfl) (by unfold z57;rw [if_neg (by simp)])
  rw [hG,bsm]
  cases (g.Qc.zipIdx.all fun x=>varC S x.2 x.1)<;>rfl
end
end Go.E


namespace Go.E
open Go.RowKit Go.Proofs
set_option linter.unusedSimpArgs false
set_option linter.unusedVariables false

def thA (a:D.Qf):D.QO:=⟨a,0,false⟩
def auxT (m i k:Nat) (a:D.Qf):List D.Qd:=[⟨⟨⟨(m:Int),1,(i:Int)⟩,(k:Int)+1,true⟩,thA a⟩]
def redT (_:Nat) (r:D.Qk):List D.Qd:=[⟨thA r.A,thA r.B⟩]
def fullT (m i:Nat) (v:D.Qn):List D.Qd:=if v.Qa1=true then [⟨thA ⟨(m:Int),2,(i:Int)⟩,thA v.QV⟩] else []
def cellT (m i:Nat) (c:D.Qb):List D.Qd:=fl (auxT m i) c.QX c.QX.length
def shardT (m:Nat) (s:D.Qp):List D.Qd:=fl (cellT m) s.Cells s.Cells.length++(fl redT s.Qu s.Qu.length++fl (fullT m) s.QG s.QG.length)
def rootT (g:D.Qi):List D.Qd:=[⟨⟨noneN,0,true⟩,thA g.Qy⟩]
def gridT (g:D.Qi):List D.Qd:=rootT g++fl shardT g.Qc g.Qc.length

theorem addLoop {α S τ ρ β:Type}{xs:List α}{body:S→Option (Rd S τ ρ)}{mk:Int→List β→S}{out:List β→τ}(f:Nat→α→List β){s0:List β}{fu:Nat}(hl:xs.length≤1048576) (hf:Big fu)
  (step:∀ (i:Nat) x,xs[i]? = some x→body (mk i (s0++fl f xs i))=some (.next (mk (w64 (i+1)) (s0++fl f xs i++f i x))))
  (last:body (mk xs.length (s0++fl f xs xs.length))=some (.brk (out (s0++fl f xs xs.length)))):
  iter body fu (mk 0 s0)=some (.inl (out (s0++fl f xs xs.length))):=by
 obtain⟨o,h1,h2⟩:=z1A (body:=body) (fun k s=>s=mk k (s0++fl f xs k)) xs.length (fun o=>o=.inl (out (s0++fl f xs xs.length))) (by
  rintro k s hk rfl
  obtain⟨x,hx⟩:=z5i hk
  refine .inl ⟨_,step k x hx,?_⟩
  rw [zf (by omega) (by omega),zad hx,List.append_assoc]
  rfl) (by
  rintro s rfl
  exact .inr ⟨_,last,rfl⟩) (fu:=fu) (i:=0) (s:=mk 0 s0) (Nat.zero_le _) (by omega) (by rw [zaE,List.append_nil];rfl)
 rw [h1,h2]
theorem zpZ {fu:Nat}{m i:Nat}{aux:List D.Qf}(hf:Big fu) (hl:aux.length≤3):z1M fu ⟨(m:Int),1,(i:Int)⟩ aux=some (fl (auxT m i) aux aux.length):=by
 unfold z1M
 have h:=addLoop (xs:=aux) (body:=z1h fu ⟨(m:Int),1,(i:Int)⟩ aux) (mk:=fun k s=>(s,k)) (out:=fun s=>s) (auxT m i) (s0:=[]) (by omega) hf (fun k a ha=>by
  have hkl:=(List.getElem?_eq_some_iff.1 ha).1
  have hfl:=zae (f:=auxT m i) (xs:=aux) (b:=1) (fun _ _ _=>by simp [auxT]) k (by omega)
  rw [List.nil_append]
  generalize fl (auxT m i) aux k=s at hfl ⊢
  unfold z1h z7s
  dsimp only
  have hw:w64 ((k:Int)+1)=(k:Int)+1:=zf (by omega) (by omega)
  rw [if_pos (by simpa using hkl),zd ha,bsm,hw,if_pos (dct (by omega)),bsm,if_pos (by simp;omega)]
  unfold z2U
  dsimp only
  rw [hw]
  rfl) (by
  unfold z1h
  rw [if_neg (by simp)])
 rw [h,bsm,z8]
 rfl
theorem zhQ {m i:Nat}{c:D.Qb}(h:c.QX.length≤3):(cellT m i c).length≤3:=by
 have:=zae (f:=auxT m i) (xs:=c.QX) (b:=1) (fun _ _ _=>by simp [auxT]) c.QX.length (Nat.le_refl _)
 unfold cellT
 omega
theorem zib {g:D.Qi}{m:Nat}{s:D.Qp}(hS:Small g) (hm:g.Qc[m]? = some s):(shardT m s).length≤2000:=by
 obtain⟨a1,a2,a3,a4,a5⟩:=hS.s s (List.mem_of_getElem? hm)
 unfold shardT
 rw [List.length_append,List.length_append]
 have:=zae (f:=cellT m) (xs:=s.Cells) (b:=3) (fun j c hc=>zhQ (a4 c (List.mem_of_getElem? hc)).2.1) s.Cells.length (Nat.le_refl _)
 have:=zae (f:=redT) (xs:=s.Qu) (b:=1) (fun j c hc=>by simp [redT]) s.Qu.length (Nat.le_refl _)
 have:=zae (f:=fullT m) (xs:=s.QG) (b:=1) (fun j c hc=>by unfold fullT;split<;>simp) s.QG.length (Nat.le_refl _)
 omega
theorem zgB {fu:Nat}{g:D.Qi}(hf:Big fu) (hS:Small g):z3f fu g=some (gridT g):=by
 have hn:=hS.n
 unfold z3f z7s
 rw [if_neg (by simp),bsm]
 have h:=addLoop (xs:=g.Qc) (body:=z1m fu g) (mk:=fun k s=>(k,s)) (out:=fun s=>s) shardT (s0:=rootT g) (fu:=fu) (by omega) hf (fun m s hm=>by
  obtain⟨a1,a2,a3,a4,a5⟩:=hS.s s (List.mem_of_getElem? hm)
  have hml:=(List.getElem?_eq_some_iff.1 hm).1
  have hfl:=zae (f:=shardT) (xs:=g.Qc) (b:=2000) (fun j c hc=>zib hS hc) m (by omega)
  have q:(rootT g++fl shardT g.Qc m).length≤100000:=by rw [List.length_append];unfold rootT;simp only [List.length_cons,List.length_nil];omega
  generalize rootT g++fl shardT g.Qc m=s0 at q ⊢
  unfold z1m
  dsimp only
  rw [if_pos (by simpa using hml),zd hm,bsm]
  have h1:=addLoop (xs:=s.Cells) (body:=z2d fu ((m:Int),s0) s) (mk:=fun k s=>(k,s)) (out:=fun s=>s) (cellT m) (s0:=s0) (fu:=fu) (by omega) hf (fun i c hc=>by
   have hil:=(List.getElem?_eq_some_iff.1 hc).1
   have c2:=(a4 c (List.mem_of_getElem? hc)).2.1
   have hfl:=zae (f:=cellT m) (xs:=s.Cells) (b:=3) (fun j c hc=>zhQ (a4 c (List.mem_of_getElem? hc)).2.1) i (by omega)
   have hcl:=zhQ (m:=m) (i:=i) c2
   have d:(s0++fl (cellT m) s.Cells i).length≤200000:=by rw [List.length_append];omega
   generalize s0++fl (cellT m) s.Cells i=s1 at d ⊢
   unfold z2d z46
   dsimp only
   rw [if_pos (by simpa using hil),zd hc,bsm,bsm,zpZ hf c2,bsm,if_pos (by unfold cellT at hcl;simp only [decide_eq_true_eq];omega)]
   rfl) (by
   unfold z2d
   rw [if_neg (by simp)])
  try dsimp only at h1
  rw [h1,bsm,z8]
  have H:=zae (f:=cellT m) (xs:=s.Cells) (b:=3) (fun j c hc=>zhQ (a4 c (List.mem_of_getElem? hc)).2.1) s.Cells.length (Nat.le_refl _)
  have d:(s0++fl (cellT m) s.Cells s.Cells.length).length≤200000:=by rw [List.length_append];omega
  unfold shardT
  rw [← List.append_assoc,← List.append_assoc]
  generalize s0++fl (cellT m) s.Cells s.Cells.length=s1 at d ⊢
  unfold z6p
  try dsimp only
  have h2:=addLoop (xs:=s.Qu) (body:=z2c fu s) (mk:=fun k s=>(k,s)) (out:=fun s=>s) redT (s0:=s1) (fu:=fu) (by omega) hf (fun i c hc=>by
   have hil:=(List.getElem?_eq_some_iff.1 hc).1
   have hfl:=zae (f:=redT) (xs:=s.Qu) (b:=1) (fun j c hc=>by simp [redT]) i (by omega)
   have o:(s1++fl redT s.Qu i).length≤300000:=by rw [List.length_append];omega
   generalize s1++fl redT s.Qu i=s2 at o ⊢
   unfold z2c
   dsimp only
   rw [if_pos (by simpa using hil),zd hc,bsm,if_pos (by simp;omega)]
   rfl) (by
   unfold z2c
   rw [if_neg (by simp)])
  try dsimp only at h2
  rw [h2,bsm,z8]
  have M:=zae (f:=redT) (xs:=s.Qu) (b:=1) (fun j c hc=>by simp [redT]) s.Qu.length (Nat.le_refl _)
  have o:(s1++fl redT s.Qu s.Qu.length).length≤300000:=by rw [List.length_append];omega
  generalize s1++fl redT s.Qu s.Qu.length=s2 at o ⊢
  unfold z6o
  have h3:=addLoop (xs:=s.QG) (body:=z2b fu ((m:Int),s0) s) (mk:=fun k s=>(k,s)) (out:=fun s=>s) (fullT m) (s0:=s2) (fu:=fu) (by omega) hf (fun i c hc=>by
   have hil:=(List.getElem?_eq_some_iff.1 hc).1
   have hfl:=zae (f:=fullT m) (xs:=s.QG) (b:=1) (fun j c hc=>by unfold fullT;split<;>simp) i (by omega)
   have G:(s2++fl (fullT m) s.QG i).length≤400000:=by rw [List.length_append];omega
   generalize s2++fl (fullT m) s.QG i=s3 at G ⊢
   unfold z2b z4R fullT z3v z2a
   dsimp only
   rw [if_pos (by simpa using hil),zd hc,bsm]
   cases c.Qa1 with
   | false=>rw [if_neg (by simp),if_neg (by simp),List.append_nil]
   | true=>
    rw [if_pos rfl,if_pos rfl,bsm,if_pos (by simp;omega)]
    rfl) (by
   unfold z2b
   rw [if_neg (by simp)])
  try dsimp only at h3
  rw [h3,bsm,z8]
  rfl) (by
  unfold z1m
  rw [if_neg (by simp)])
 have h':iter (z1m fu g) fu (0,[⟨⟨⟨0,0,0⟩,0,true⟩,⟨⟨g.Qy.Qg,g.Qy.Qj,g.Qy.Qs⟩,0,false⟩⟩])=some (.inl (gridT g)):=h
 have h'':iter (z1m fu g) fu (0,[⟨⟨⟨0,0,0⟩,0,(0:Int) != 1⟩,⟨⟨g.Qy.Qg,g.Qy.Qj,g.Qy.Qs⟩,0,false⟩⟩])=some (.inl (gridT g)):=h'
 rw [h'',bsm,z8]
 rfl


def nameT (t:D.QO):List D.Qf:=if t.own=true then [] else [t.at_]
def namesT (st:D.Qd):List D.Qf:=nameT st.a++nameT st.b
def namesK (T:List D.Qd):List D.Qf:=fl (fun _ st=>namesT st) T T.length
def Cnt (M:List (D.Qf × Int)) (N:List D.Qf):Prop:=∀ a,(mget M a).getD 0=(N.count a:Nat)
theorem zqn {M:List (D.Qf × Int)}{N:List D.Qf}{a:D.Qf}(h:Cnt M N) (hN:N.length≤1000000):Cnt (mput M a (w64 ((mget M a).getD 0+1))) (N++[a]):=by
 intro b
 have hl:=List.count_le_length (a:=a) (l:=N)
 rw [h a,zf (by omega) (by omega),ziq,List.count_append,List.count_singleton]
 by_cases hab:a=b
 ·subst hab;simp
 ·rw [if_neg hab,h b]
  simp [hab]
theorem zmJ {fu:Nat}{st:D.Qd}{M:List (D.Qf × Int)}{N:List D.Qf}(hf:Big fu) (h:Cnt M N) (hN:N.length≤900000):
  ∃ M',iter (z29 fu st) fu (0,M)=some (.inl M')∧Cnt M' (N++namesT st):=by
 have hfu:∃ n,fu=n+3:=⟨fu - 3,by omega⟩
 have key:∀ (i:Nat) (x:D.QO) (M:List (D.Qf × Int)) (N:List D.Qf),i<2→[st.a,st.b][i]? = some x→Cnt M N→N.length≤1000000→∃ M',z29 fu st ((i:Int),M)=some (.next (w64 (i+1),M'))∧Cnt M' (N++nameT x):=by
  intro i x M N hi hx hC hN
  unfold z29
  dsimp only
  rw [if_pos (by simp;omega),zd hx,bsm]
  unfold nameT z9O z8k
  cases x.own with
  | true=>exact⟨M,by rw [if_neg (by simp)],by rw [if_pos rfl,List.append_nil];exact hC⟩
  | false=>exact⟨_,by rw [if_pos (by simp)],by rw [if_neg (by simp)];exact zqn hC hN⟩
 obtain⟨M1,e1,c1⟩:=key 0 st.a M N (by omega) rfl h (by omega)
 have hna:(nameT st.a).length≤1:=by unfold nameT;split<;>simp
 obtain⟨M2,e2,c2⟩:=key 1 st.b M1 (N++nameT st.a) (by omega) rfl c1 (by rw [List.length_append];omega)
 have e3:z29 fu st (2,M2)=some (.brk M2):=by unfold z29;rw [if_neg (by simp)]
 have w1:w64 (((0:Nat):Int)+1)=1:=by rw [zf (by omega) (by omega)];rfl
 have w2:w64 (((1:Nat):Int)+1)=2:=by rw [zf (by omega) (by omega)];rfl
 rw [w1] at e1
 rw [w2] at e2
 refine⟨M2,?_,by unfold namesT;rw [← List.append_assoc];exact c2⟩
 have e1':z29 fu st (0,M)=some (.next (1,M1)):=e1
 have e2':z29 fu st (1,M1)=some (.next (2,M2)):=e2
 generalize hb:z29 fu st=B at *
 obtain⟨n,rfl⟩:=hfu
 simp only [iter,e1',e2',e3]
theorem zmG {st:D.Qd}:(namesT st).length≤2:=by
 unfold namesT nameT
 rw [List.length_append]
 split<;>split<;>simp
theorem zmH {fu:Nat}{T:List D.Qd}(hf:Big fu) (hT:T.length≤400000):∃ M,zaw fu T=some M∧Cnt M (namesK T):=by
 unfold zaw
 obtain⟨o,h1,M,rfl,h2⟩:=z1A (body:=z8m fu T) (fun i s=>∃ M,s=((i:Int),M)∧Cnt M (fl (fun _ st=>namesT st) T i)) T.length (fun o=>∃ M,o=.inl M∧Cnt M (namesK T)) (by
  rintro i _ hi ⟨M,rfl,hM⟩
  obtain⟨st,hst⟩:=z5i hi
  have hfl:=zae (f:=fun _ st=>namesT st) (xs:=T) (b:=2) (fun _ _ _=>zmG) i (by omega)
  obtain⟨M',e1,e2⟩:=zmJ (fu:=fu) (st:=st) hf hM (by omega)
  refine .inl ⟨(w64 (i+1),M'),?_,M',by rw [zf (by omega) (by omega)];rfl,by rw [zad hst];exact e2⟩
  unfold z8m
  dsimp only
  rw [if_pos (by simpa using hi),zd hst,bsm,e1,bsm,z8]
  rfl) (by
  rintro _ ⟨M,rfl,hM⟩
  refine .inr ⟨M,?_,M,rfl,hM⟩
  unfold z8m
  rw [if_neg (by simp)]) (fu:=fu) (i:=0) (s:=(0,[])) (Nat.zero_le _) (by omega) ⟨[],rfl,fun a=>by rw [zaE];rfl⟩
 rw [h1,bsm,z8]
 exact⟨M,rfl,h2⟩
def okTh (g:D.Qi) (t:D.QO):Bool:=t.own || aliveN g t.at_
def okT (g:D.Qi) (st:D.Qd):Bool:=okTh g st.a && okTh g st.b
def shardC (N:List D.Qf) (m:Nat) (s:D.Qp):Bool:=(s.Cells.zipIdx.all fun y=>decide (y.1.Qj=0) || decide (N.count ⟨(m:Int),1,(y.2:Int)⟩=1)) && s.QG.zipIdx.all fun y=>!y.1.Qa0 || decide (N.count ⟨(m:Int),2,(y.2:Int)⟩=2)
def implN (g:D.Qi) (T:List D.Qd):Bool:=T.all (okT g) && g.Qc.zipIdx.all fun x=>shardC (namesK T) x.2 x.1
theorem zmq {fu:Nat}{g:D.Qi}{T:List D.Qd}(hf:Big fu) (hs:g.sz≤1048576) (hT:T.length≤400000):z3g fu g T=some (implN g T):=by
 have hm:maxLen=9223372036854775807:=rfl
 obtain⟨z1,z2⟩:=zdF hs
 unfold z3g implN
 have h1:=allLoop (xs:=T) (body:=z2j fu g T) (p:=fun _ st=>okT g st) (t:=()) (v:=false) (fu:=fu) (by omega) hf (fun i st hi hx=>by
  unfold z2j
  rw [if_pos (by simpa using hi),zd hx,bsm]
  have j7:∀ b,zK fu (i:Int) b=if b=true then some (.ret false) else some (.next (w64 (i+1))):=fun b=>by unfold zK;rfl
  simp only [zkT,bsm,j7]
  unfold okT okTh
  cases st.a.own<;>cases st.b.own<;>cases aliveN g st.a.at_<;>cases aliveN g st.b.at_<;>rfl) (by unfold z2j;rw [if_neg (by simp)])
 rw [z7d (p:=okT g)] at h1
 rw [h1,bsm]
 cases T.all (okT g) with
 | false=>rfl
 | true=>
  rw [if_pos rfl,z8,Bool.true_and]
  unfold z6r
  obtain⟨M,e1,hC⟩:=zmH (T:=T) hf hT
  rw [e1,bsm]
  have h2:=allLoop (xs:=g.Qc) (body:=z2i fu g M) (p:=fun m s=>shardC (namesK T) m s) (t:=()) (v:=false) (fu:=fu) (by omega) hf (fun m s hi hx=>by
   obtain⟨y1,y2,y3,y4⟩:=zby (z2 s (List.mem_of_getElem? hx))
   unfold z2i
   rw [if_pos (by simpa using hi),zd hx,bsm]
   have hcs:=allLoop (xs:=s.Cells) (body:=z2h fu M (m:Int) s) (p:=fun i c=>decide (c.Qj=0) || decide ((namesK T).count ⟨(m:Int),1,(i:Int)⟩=1)) (t:=()) (v:=Rd.ret false) (fu:=fu) (by omega) hf (fun i c hj hc=>by
    unfold z2h z46 z2e
    rw [if_pos (by simpa using hj),zd hc,bsm,bsm,hC]
    by_cases k0:c.Qj=0
    ·simp [k0]
    ·by_cases h:(namesK T).count ⟨(m:Int),1,(i:Int)⟩=1
     ·simp [k0,h]
     ·have h9:¬ (((namesK T).count ⟨(m:Int),1,(i:Int)⟩:Nat):Int)=1:=by omega
      simp [k0,h,h9]) (by unfold z2h;rw [if_neg (by simp)])
   have hvs:=allLoop (xs:=s.QG) (body:=z2g fu M (m:Int) s) (p:=fun i v=>!v.Qa0 || decide ((namesK T).count ⟨(m:Int),2,(i:Int)⟩=2)) (t:=()) (v:=Rd.ret false) (fu:=fu) (by omega) hf (fun i c hj hc=>by
    unfold z2g z4R z2f
    rw [if_pos (by simpa using hj),zd hc,bsm,bsm,hC]
    cases c.Qa0 with
    | false=>rfl
    | true=>
     by_cases h:(namesK T).count ⟨(m:Int),2,(i:Int)⟩=2
     ·simp [h]
     ·have h9:¬ (((namesK T).count ⟨(m:Int),2,(i:Int)⟩:Nat):Int)=2:=by omega
      simp [h,h9]) (by unfold z2g;rw [if_neg (by simp)])
   rw [hcs,bsm]
   unfold shardC
   cases (s.Cells.zipIdx.all fun y=>decide (y.1.Qj=0) || decide ((namesK T).count ⟨(m:Int),1,(y.2:Int)⟩=1)) with
   | false=>rfl
   | true=>
    rw [if_pos rfl,z8,Bool.true_and]
    unfold z6q
    rw [hvs,bsm]
    cases (s.QG.zipIdx.all fun y=>!y.1.Qa0 || decide ((namesK T).count ⟨(m:Int),2,(y.2:Int)⟩=2))<;>rfl) (by unfold z2i;rw [if_neg (by simp)])
  rw [h2,bsm]
  cases (g.Qc.zipIdx.all fun x=>shardC (namesK T) x.2 x.1)<;>rfl
end Go.E


