/- Grids: their parts by themselves, at both sides. Conditions: the grid's own size. -/
import Derived.Test.YtfndicpnccabkaaGreatLoops
import Derived.Test.YtfndicpnccabkaaGreatRounds
import Derived.Test.YtfndicpnccabkaaGreatFVb
set_option linter.unusedVariables false
set_option linter.unusedSimpArgs false
namespace Go.E
open Go.RowKit Go.Proofs

variable {fu:Nat}
def z7z (c:Qa):D.Qe:=⟨c.Qi,c.QC,c.Value,c.Data,List.replicate (c.QM.length+1) ⟨0,0⟩⟩
def z40 (c:Qa):Bool:=if c.Qi=0 then decide (c.QC=0∧c.Value=0∧c.Data=[]∧c.QM=[]) else decide (c.Qi≠1) && agN (z7z c)
def noneN:Qb:=⟨0,0,0⟩
def zff (v:Qn):Bool:=(v.QZ || !v.Qa0) && (v.Qa0 || decide (v.QU=noneN))
def zhb (s:Qp):Bool:=decide (s.Cells.length≤400∧s.QJ.length≤400∧s.Qs.length≤400) && (s.Cells.all z40 && s.QJ.all zff)
def z9U (g:D.Qk):Bool:=decide (1≤g.Qf.length∧g.Qf.length≤4) && g.Qf.all zhb

theorem zvt {k f:Int}:zc2 k f≤4:=by
 unfold zc2
 split
 ·split<;>omega
 ·split
  ·omega
  ·split
   ·omega
   ·split
    ·omega
    ·split<;>omega
theorem zxQ {a:D.Qe}(h:agN a=true):a.Qy.length≤4:=by
 unfold agN zjG at h
 rw[Bool.and_eq_true,Bool.and_eq_true,decide_eq_true_eq,decide_eq_true_eq] at h
 have h2:=h.2.1
 have:=zvt (k:=a.Qi) (f:=if a.Qi=9 then(a.Qy.length:Int) - 1 else 0)
 rw[h2] at this
 omega
theorem zpG {c:Qa}(h:z40 c=true):c.QM.length≤3:=by
 unfold z40 at h
 split at h
 ·rw[decide_eq_true_eq] at h
  rw[h.2.2.2];simp
 ·rw[Bool.and_eq_true] at h
  have:=zxQ h.2
  unfold z7z at this
  simp only[List.length_replicate] at this
  omega
theorem zjH {a b:Qb}:(((a.Qj:Int) == b.Qj) && (((a.Qi:Int) == b.Qi) && (((a.Qo:Int) == b.Qo) && true)))=decide (a=b):=by
 obtain⟨a1,a2,a3⟩:=a
 obtain⟨b1,b2,b3⟩:=b
 by_cases h1:a1=b1<;>by_cases h2:a2=b2<;>by_cases h3:a3=b3<;>simp[h1,h2,h3]
theorem zpH {c:Qa}(hs:c.sz≤1048576):z6D fu c=some (z7z c):=by
 unfold Qa.sz at hs
 unfold z6D z3m z7z
 rw[if_pos (by simp;omega),bsm,zb (by omega) (by omega),if_pos (by simp;omega)]
 have:((c.QM.length:Int)+1).toNat=c.QM.length+1:=by omega
 rw[this]
 rfl
theorem zfT {c:Qa}(hs:c.sz≤1048576):z4A fu c=some (z7z c):=by
 unfold Qa.sz at hs
 unfold z4A z1n z7z
 rw[if_pos (by simp;omega),bsm,zb (by omega) (by omega),if_pos (by simp;omega)]
 have:((c.QM.length:Int)+1).toNat=c.QM.length+1:=by omega
 rw[this]
 rfl
theorem zox {c:Qa}(hf:Big fu)(hs:c.sz≤1048576):z5r fu c=some (z40 c):=by
 have hm:maxLen=9223372036854775807:=rfl
 unfold z5r
 rw[zpH hs,bsm]
 have o:=hs
 unfold Qa.sz at o
 by_cases k0:c.Qi=0
 ·unfold z40
  by_cases h1:c.QC=0<;>by_cases h2:c.Value=0<;>by_cases h3:c.Data=[]<;>by_cases h4:c.QM=[]<;>simp[k0,h1,h2,h3,h4]
 ·rw[if_neg (by simpa using k0)]
  by_cases ha:c.QM.length≤3
  ·rw[if_neg (by simp;omega)]
   unfold z40
   rw[if_neg k0]
   by_cases k1:c.Qi=1
   ·rw[if_neg (by simp[z7z,k1])];simp[k1]
   ·rw[if_pos (by simpa [z7z] using k1),show(z7z c)=z7z c from rfl,zxx hf (by unfold z7z;dsimp only;omega) (by unfold z7z;simp only[List.length_replicate];omega)]
    simp[k1]
  ·rw[if_pos (by simp;omega)]
   cases hh:z40 c with
   | false=>rfl
   | true=>exact absurd (zpG hh) ha
theorem zkK {xs ys:L9}(hf:Big fu)(hl:xs.length≤maxLen):z1P fu xs ys=some (decide (xs=ys)):=by
 unfold z1P
 exact zmo hl hf rfl (fun i a b hi ha hb=>by
  unfold z2i
  rw[if_pos (by simpa using hi),za ha,bsm,za hb,bsm]
  by_cases h:a=b<;>simp[h]) (by unfold z2i;rw[if_neg (by simp)])
theorem zji {xs ys:LD}(hf:Big fu)(hl:xs.length≤maxLen):zu fu xs ys=some (decide (xs=ys)):=by
 unfold zu
 exact zmo hl hf rfl (fun i a b hi ha hb=>by
  unfold zJ
  rw[if_pos (by simpa using hi),za ha,bsm,za hb,bsm,zjH]
  by_cases h:a=b<;>simp[h]) (by unfold zJ;rw[if_neg (by simp)])
theorem zoy {c:Qa}(hf:Big fu)(hs:c.sz≤1048576):z2q fu c=some (z40 c):=by
 have hm:maxLen=9223372036854775807:=rfl
 have o:=hs
 unfold Qa.sz at o
 unfold z2q z1T
 dsimp only
 rw[zkK hf (by omega),zji hf (by omega),zfT hs,bsm,bsm,bsm,zxy hf (by unfold z7z;dsimp only;omega) (by unfold z7z;simp only[List.length_replicate];omega)]
 unfold z40
 by_cases k0:c.Qi=0
 ·by_cases h1:c.QC=0<;>by_cases h2:c.Value=0<;>by_cases h3:c.Data=[]<;>by_cases h4:c.QM=[]<;>simp[k0,h1,h2,h3,h4]
 ·by_cases k1:c.Qi=1<;>simp[k0,k1]
theorem zka {p:Qa→Bool}{f:Qa→Option Bool}{xs:LB}(hf:Big fu)(hl:xs.length≤maxLen)(h:∀ n,n∈xs→f n=some (p n)):
  zh fu xs f=some (xs.any p):=by
 unfold zh zr
 obtain⟨r,h1,h2⟩:=zf3 (xs:=xs) (p:=p) (body:=zg fu xs f) (j:=zQ fu) (t:=()) hl hf rfl (fun i x hi hx=>by
  simp only[zg,za hx,h x (List.mem_of_getElem? hx),lt_t (show(i:Int)<xs.length by omega),if_true,bsm]) (by simp[zg])
 rw[h1,bsm,h2]
theorem zmB {p:Qn→Bool}{f:Qn→Option Bool}{xs:LH}(hf:Big fu)(hl:xs.length≤maxLen)(h:∀ n,n∈xs→f n=some (p n)):
  zj fu xs f=some (xs.any p):=by
 unfold zj zA
 obtain⟨r,h1,h2⟩:=zf3 (xs:=xs) (p:=p) (body:=zi fu xs f) (j:=zX fu) (t:=()) hl hf rfl (fun i x hi hx=>by
  simp only[zi,za hx,h x (List.mem_of_getElem? hx),lt_t (show(i:Int)<xs.length by omega),if_true,bsm]) (by simp[zi])
 rw[h1,bsm,h2]
theorem zk9 {p:Qp→Bool}{f:Qp→Option Bool}{xs:LG}(hf:Big fu)(hl:xs.length≤maxLen)(h:∀ n,n∈xs→f n=some (p n)):
  zp fu xs f=some (xs.any p):=by
 unfold zp zW
 obtain⟨r,h1,h2⟩:=zf3 (xs:=xs) (p:=p) (body:=zo fu xs f) (j:=z1s fu) (t:=()) hl hf rfl (fun i x hi hx=>by
  simp only[zo,za hx,h x (List.mem_of_getElem? hx),lt_t (show(i:Int)<xs.length by omega),if_true,bsm]) (by simp[zo])
 rw[h1,bsm,h2]
theorem zva {v:Qn}:z4p fu v=some (!zff v):=by
 have e:=zjH (a:=v.QU) (b:=noneN)
 unfold noneN at e
 unfold z4p z6v zff noneN
 dsimp only at e
 rw[e]
 cases v.QZ<;>cases v.Qa0<;>cases decide (v.QU=⟨0,0,0⟩)<;>rfl
theorem zeS {s:Qp}(h:s.sz≤1048576):s.Cells.length≤1048576∧s.QJ.length≤1048576∧s.Qs.length≤1048576∧∀ c,c∈s.Cells→c.sz≤1048576:=by
 unfold Qp.sz at h
 have h1:szL Qa.sz s.Cells≤1048576:=by omega
 exact⟨z4F h1,by omega,by omega,fun c hc=>z4E h1 hc⟩
theorem zqY {s:Qp}(hf:Big fu)(hs:s.sz≤1048576):z74 fu s=some (zhb s):=by
 have hm:maxLen=9223372036854775807:=rfl
 obtain⟨z1,z2,z3,z4⟩:=zeS hs
 unfold z74 z2P zhb
 rw[zka (p:=fun c=>!z40 c) hf (by omega) (fun c hc=>by unfold z6u;rw[zoy hf (z4 c hc)];rfl),zmB (p:=fun v=>!zff v) hf (by omega) (fun v _=>zva),zdV,zdV]
 by_cases h1:s.Cells.length≤400
 ·by_cases h2:s.QJ.length≤400
  ·by_cases h3:s.Qs.length≤400
   ·rw[if_neg (by simp;omega),if_neg (by simp;omega),if_neg (by simp;omega),dct ⟨h1,h2,h3⟩]
    cases s.Cells.all z40<;>cases s.QJ.all zff<;>rfl
   ·rw[if_neg (by simp;omega),if_neg (by simp;omega),if_pos (by simp;omega),decide_eq_false (fun h=>h3 h.2.2)];rfl
  ·rw[if_neg (by simp;omega),if_pos (by simp;omega),decide_eq_false (fun h=>h2 h.2.1)];rfl
 ·rw[if_pos (by simp;omega),decide_eq_false (fun h=>h1 h.1)];rfl
theorem zgW {g:D.Qk}(h:g.sz≤1048576):g.Qf.length≤1048576∧∀ s,s∈g.Qf→s.sz≤1048576:=by
 unfold D.Qk.sz at h
 have h1:szL Qp.sz g.Qf≤1048576:=by omega
 exact⟨z4F h1,fun s hs=>z4E h1 hs⟩
theorem zp9 {g:D.Qk}{xs:LC}(hf:Big fu)(hs:g.sz≤1048576):z2u fu g xs=z1i fu g xs (!z9U g):=by
 have hm:maxLen=9223372036854775807:=rfl
 obtain⟨z1,z2⟩:=zgW hs
 unfold z2u z9U
 rw[zk9 (p:=fun s=>!zhb s) hf (by omega) (fun s h=>by unfold z3X;rw[zqY hf (z2 s h)];rfl),zdV,bsm]
 by_cases h1:1≤g.Qf.length
 ·by_cases h2:g.Qf.length≤4
  ·rw[if_neg (by simp;omega),if_neg (by simp;omega),dct ⟨h1,h2⟩,Bool.true_and]
  ·rw[if_neg (by simp;omega),if_pos (by simp;omega),decide_eq_false (fun h=>h2 h.2)];rfl
 ·rw[if_pos (by simp;omega),decide_eq_false (fun h=>h1 h.1)];rfl
theorem zqX {s:Qp}{k:Int}(hf:Big fu)(hs:s.sz≤1048576)(hc:s.Cells.length≤400∧s.QJ.length≤400∧s.Qs.length≤400):
  z1o fu k s false=if(s.Cells.all z40 && s.QJ.all zff)=true then some (.next (w64 (k+1))) else some (.ret false):=by
 have hm:maxLen=9223372036854775807:=rfl
 obtain⟨z1,z2,z3,z4⟩:=zeS hs
 have hC:=z9F (xs:=s.Cells) (body:=z4O fu s) (p:=fun _ c=>z40 c) (t:=()) (v:=Rd.ret false) (fu:=fu) (by omega) hf (fun i c hi hx=>by
  unfold z4O
  rw[if_pos (by simpa using hi),za hx,bsm,zox hf (z4 c (List.mem_of_getElem? hx)),bsm]
  cases z40 c<;>simp) (by unfold z4O;rw[if_neg (by simp)])
 have hV:=z9F (xs:=s.QJ) (body:=z4N fu s) (p:=fun _ v=>zff v) (t:=()) (v:=Rd.ret false) (fu:=fu) (by omega) hf (fun i v hi hx=>by
  have e:=zjH (a:=v.QU) (b:=noneN)
  unfold noneN at e
  dsimp only at e
  unfold z4N z1E zff noneN
  rw[if_pos (by simpa using hi),za hx,bsm,e]
  cases v.QZ<;>cases v.Qa0<;>cases decide (v.QU=⟨0,0,0⟩)<;>rfl) (by unfold z4N;rw[if_neg (by simp)])
 rw[z8Y] at hC hV
 unfold z1o
 rw[if_neg (by simp),hC,bsm]
 cases s.Cells.all z40 with
 | false=>rfl
 | true=>
  rw[if_pos rfl]
  simp only[aft]
  unfold z9y
  rw[hV,bsm]
  cases s.QJ.all zff with
  | false=>rfl
  | true=>rfl
theorem zp8 {g:D.Qk}(hf:Big fu)(hs:g.sz≤1048576):z7F fu g=some (z9U g):=by
 have hm:maxLen=9223372036854775807:=rfl
 obtain⟨z1,z2⟩:=zgW hs
 unfold z7F
 rw[z9B,bsm]
 have hS:=z9F (xs:=g.Qf) (body:=z4P fu g) (p:=fun _ s=>zhb s) (t:=()) (v:=false) (fu:=fu) (by omega) hf (fun i s hi hx=>by
  have o:=z2 s (List.mem_of_getElem? hx)
  unfold z4P
  rw[if_pos (by simpa using hi),za hx,bsm]
  have no:z1o fu (i:Int) s true=some (.ret false):=by unfold z1o;rfl
  unfold zhb
  by_cases h1:s.Cells.length≤400
  ·by_cases h2:s.QJ.length≤400
   ·by_cases h3:s.Qs.length≤400
    ·rw[if_neg (by simp;omega),if_neg (by simp;omega),show decide ((s.Qs.length:Int)>400)=false by simp;omega,zqX hf o ⟨h1,h2,h3⟩,dct ⟨h1,h2,h3⟩,Bool.true_and]
    ·rw[if_neg (by simp;omega),if_neg (by simp;omega),show decide ((s.Qs.length:Int)>400)=true by simp;omega,no,decide_eq_false (fun h=>h3 h.2.2)];rfl
   ·rw[if_neg (by simp;omega),if_pos (by simp;omega),no,decide_eq_false (fun h=>h2 h.2.1)];rfl
  ·rw[if_pos (by simp;omega),no,decide_eq_false (fun h=>h1 h.1)];rfl) (by unfold z4P;rw[if_neg (by simp)])
 rw[z8Y] at hS
 unfold z9U
 rw[hS,bsm]
 have hd:decide ((1:Int)≤(g.Qf.length:Int)∧(g.Qf.length:Int)≤4)=decide (1≤g.Qf.length∧g.Qf.length≤4):=by
  rw[decide_eq_decide];omega
 rw[hd]
 cases decide (1≤g.Qf.length∧g.Qf.length≤4) with
 | false=>rfl
 | true=>
  rw[if_neg (by simp)]
  cases g.Qf.all zhb<;>rfl
end Go.E




namespace Go.E
open Go.RowKit Go.Proofs


abbrev Key:=Nat×Nat×Nat×Nat
def z9R (t m i:Nat)(c:Qa):List Key:=if c.Qi=0 then [] else(List.range (c.QM.length+1)).map fun k=>(t,m,i,k)
def zbp (t m:Nat)(cs:LB):List Key:=cs.zipIdx.flatMap fun x=>z9R t m x.2 x.1
def z7g (ss:LG):List Key:=(0,0,0,0)::ss.zipIdx.flatMap fun x=>zbp 1 x.2 x.1.Cells
def zrO (m:Nat)(s:Qp):List Key:=(List.range s.QJ.length).map fun i=>(2,m,i,0)
def zhp (ss:LG):List Key:=ss.zipIdx.flatMap fun x=>zrO x.2 x.1
def zfF (g:D.Qk)(more:LB):List Key:=(z7g g.Qf++zbp 3 0 more)++zhp g.Qf

theorem zi1 {α β:Type}{xs:List α}{g:Nat→α→List β}{i k:Nat}{x:α}(hx:xs[i]? = some x)(hk:k<(g i x).length):
  (xs.zipIdx.flatMap fun y=>g y.2 y.1)[((xs.take i).zipIdx.flatMap fun y=>g y.2 y.1).length+k]? = (g i x)[k]?:=by
 have h1:xs.zipIdx=(xs.take (i+1)).zipIdx++(xs.drop (i+1)).zipIdx (xs.take (i+1)).length:=by
  have:=List.zipIdx_append (xs:=xs.take (i+1)) (ys:=xs.drop (i+1)) (k:=0)
  rw[List.take_append_drop] at this
  simpa using this
 rw[h1,zfH hx,List.flatMap_append,List.flatMap_append,List.append_assoc,List.getElem?_append_right (Nat.le_add_right _ _),Nat.add_sub_cancel_left]
 simp only[List.flatMap_cons,List.flatMap_nil,List.append_nil]
 rw[List.getElem?_append_left hk]
theorem zdr {α β:Type}{xs:List α}{g:Nat→α→List β}(f:β→Nat)(h1:∀ i x,xs[i]? = some x→(g i x).Nodup)(h2:∀ i x y,y∈g i x→f y=i):(xs.zipIdx.flatMap fun y=>g y.2 y.1).Nodup:=by
 unfold List.Nodup
 rw[List.pairwise_flatMap]
 constructor
 ·rintro⟨a,i⟩ h
  rw[List.mem_zipIdx_iff_getElem?] at h
  exact h1 i a h
 ·rw[List.pairwise_iff_getElem]
  intro i j hi hj o p hp q hq he
  simp only[List.getElem_zipIdx] at hp hq
  have a:=h2 _ _ _ hp
  have b:=h2 _ _ _ hq
  rw[he] at a
  omega
theorem zjz {t m i:Nat}{c:Qa}{k:Key}(h:k∈z9R t m i c):k.1=t∧k.2.1=m∧k.2.2.1=i:=by
 unfold z9R at h
 split at h
 ·cases h
 ·obtain⟨j,_,rfl⟩:=List.mem_map.1 h
  exact⟨rfl,rfl,rfl⟩
theorem zfW {t m:Nat}{cs:LB}{k:Key}(h:k∈zbp t m cs):k.1=t∧k.2.1=m:=by
 obtain⟨x,_,h2⟩:=List.mem_flatMap.1 h
 exact⟨(zjz h2).1,(zjz h2).2.1⟩
theorem zpv {t m i:Nat}{c:Qa}:(z9R t m i c).Nodup:=by
 unfold z9R
 split
 ·exact List.nodup_nil
 ·unfold List.Nodup
  rw[List.pairwise_map]
  refine List.Pairwise.imp ?_ (List.nodup_range (n:=c.QM.length+1))
  intro x y o he
  simp only[Prod.mk.injEq,true_and] at he
  exact o he
theorem zku {t m:Nat}{cs:LB}:(zbp t m cs).Nodup:=
 zdr (g:=fun i c=>z9R t m i c) (fun k:Key=>k.2.2.1) (fun i x _=>zpv) (fun i x y h=>(zjz h).2.2)
theorem znj {ss:LG}{k:Key}(h:k∈z7g ss):k.1=0∨k.1=1:=by
 unfold z7g at h
 rcases List.mem_cons.1 h with rfl | h
 ·exact .inl rfl
 ·obtain⟨x,_,h2⟩:=List.mem_flatMap.1 h
  exact .inr (zfW h2).1
theorem zkS {ss:LG}{k:Key}(h:k∈zhp ss):k.1=2:=by
 obtain⟨x,_,h2⟩:=List.mem_flatMap.1 h
 obtain⟨j,_,rfl⟩:=List.mem_map.1 h2
 rfl
theorem zbU {g:D.Qk}{more:LB}:(zfF g more).Nodup:=by
 unfold zfF
 refine List.nodup_append.2 ⟨List.nodup_append.2 ⟨?_,zku,?_⟩,?_,?_⟩
 ·unfold z7g
  refine List.nodup_cons.2 ⟨fun h=>?_,zdr (g:=fun i (s:Qp)=>zbp 1 i s.Cells) (fun k:Key=>k.2.1) (fun i x _=>zku) (fun i x y h=>(zfW h).2)⟩
  obtain⟨x,_,h2⟩:=List.mem_flatMap.1 h
  exact absurd (zfW h2).1 (by decide)
 ·intro a ha b hb he
  have h1:=znj ha
  have h2:=(zfW hb).1
  rw[he] at h1
  omega
 ·refine zdr (g:=fun i (s:Qp)=>zrO i s) (fun k:Key=>k.2.1) (fun i x _=>?_) (fun i x y h=>?_)
  ·unfold zrO List.Nodup
   rw[List.pairwise_map]
   refine List.Pairwise.imp ?_ (List.nodup_range (n:=x.QJ.length))
   intro x y o he
   simp only[Prod.mk.injEq,true_and,and_true] at he
   exact o he
  ·obtain⟨j,_,rfl⟩:=List.mem_map.1 h
   rfl
 ·intro a ha b hb he
  have h2:=zkS hb
  rcases List.mem_append.1 ha with h | h
  ·have h1:=znj h
   rw[he] at h1
   omega
  ·have h1:=(zfW h).1
   rw[he] at h1
   omega
theorem zuP {t m i t' m' i':Nat}{c:Qa}:(z9R t m i c).length=(z9R t' m' i' c).length:=by
 unfold z9R
 split<;>simp
theorem zwR {t m i:Nat}{c:Qa}(h:c.QM.length≤3):(z9R t m i c).length≤4:=by
 unfold z9R
 split
 ·simp
 ·simp;omega
theorem zem {t m i:Nat}{cs:LB}{c:Qa}(h:cs[i]? = some c):zbp t m (cs.take (i+1))=zbp t m (cs.take i)++z9R t m i c:=by
 unfold zbp
 rw[zfH h,List.flatMap_append]
 simp
theorem zen {t m:Nat}{cs:LB}(h:∀ c,c∈cs→c.QM.length≤3):∀ i,i≤cs.length→(zbp t m (cs.take i)).length≤4*i
 | 0,_=>by simp[zbp]
 | i+1,hi=>by
  obtain⟨c,hc⟩:=z1j (xs:=cs) (i:=i) (by omega)
  rw[zem hc,List.length_append]
  have:=zen (t:=t) (m:=m) h i (by omega)
  have:=zwR (t:=t) (m:=m) (i:=i) (h c (List.mem_of_getElem? hc))
  omega
theorem zfX {t m t' m':Nat}{cs:LB}:∀ i,i≤cs.length→(zbp t m (cs.take i)).length=(zbp t' m' (cs.take i)).length
 | 0,_=>by simp[zbp]
 | i+1,hi=>by
  obtain⟨c,hc⟩:=z1j (xs:=cs) (i:=i) (by omega)
  rw[zem hc,zem hc,List.length_append,List.length_append,zfX i (by omega),zuP (t':=t') (m':=m') (i':=i)]
theorem zkx {m:Nat}{ss:LG}{s:Qp}(h:ss[m]? = some s):z7g (ss.take (m+1))=z7g (ss.take m)++zbp 1 m s.Cells:=by
 unfold z7g
 rw[zfH h,List.flatMap_append]
 simp
theorem zmR {m:Nat}{ss:LG}{s:Qp}(h:ss[m]? = some s):zhp (ss.take (m+1))=zhp (ss.take m)++zrO m s:=by
 unfold zhp
 rw[zfH h,List.flatMap_append]
 simp
theorem zqu {g:D.Qk}{more:LB}{m i k:Nat}{s:Qp}{c:Qa}(hs:g.Qf[m]? = some s)(hc:s.Cells[i]? = some c)(h0:c.Qi≠0)(hk:k≤c.QM.length):
  (zfF g more)[(z7g (g.Qf.take m)).length+(zbp 1 m (s.Cells.take i)).length+k]? = some (1,m,i,k):=by
 have G:k<(z9R 1 m i c).length:=by unfold z9R;rw[if_neg h0];simp;omega
 have h2:=zi1 (g:=fun i c=>z9R 1 m i c) hc G
 have h3:(z9R 1 m i c)[k]? = some (1,m,i,k):=by unfold z9R;rw[if_neg h0,List.getElem?_map,List.getElem?_range (by omega)];rfl
 rw[h3] at h2
 have q:(zbp 1 m s.Cells)[(zbp 1 m (s.Cells.take i)).length+k]? = some (1,m,i,k):=h2
 have H:=(List.getElem?_eq_some_iff.1 q).1
 have h4:=zi1 (g:=fun i (s:Qp)=>zbp 1 i s.Cells) hs H
 rw[q] at h4
 have h5:(z7g g.Qf)[(z7g (g.Qf.take m)).length+(zbp 1 m (s.Cells.take i)).length+k]? = some (1,m,i,k):=by
  unfold z7g
  rw[List.length_cons,show ∀ a b c:Nat,a+1+b+c=(a+(b+c))+1 by omega,List.getElem?_cons_succ]
  exact h4
 have o:=(List.getElem?_eq_some_iff.1 h5).1
 unfold zfF
 rw[List.append_assoc,List.getElem?_append_left o]
 exact h5
theorem zqv {g:D.Qk}{more:LB}{i k:Nat}{c:Qa}(hc:more[i]? = some c)(h0:c.Qi≠0)(hk:k≤c.QM.length):
  (zfF g more)[(z7g g.Qf).length+(zbp 3 0 (more.take i)).length+k]? = some (3,0,i,k):=by
 have q:k<(z9R 3 0 i c).length:=by unfold z9R;rw[if_neg h0];simp;omega
 have h2:=zi1 (g:=fun i c=>z9R 3 0 i c) hc q
 have h3:(z9R 3 0 i c)[k]? = some (3,0,i,k):=by unfold z9R;rw[if_neg h0,List.getElem?_map,List.getElem?_range (by omega)];rfl
 rw[h3] at h2
 have o:(zbp 3 0 more)[(zbp 3 0 (more.take i)).length+k]? = some (3,0,i,k):=h2
 have G:=(List.getElem?_eq_some_iff.1 o).1
 unfold zfF
 rw[List.getElem?_append_left (by rw[List.length_append];omega),Nat.add_assoc,List.getElem?_append_right (Nat.le_add_right _ _),Nat.add_sub_cancel_left]
 exact o
theorem zuY {g:D.Qk}{more:LB}{m i:Nat}{s:Qp}(hs:g.Qf[m]? = some s)(hi:i<s.QJ.length):
  (zfF g more)[(z7g g.Qf).length+(zbp 3 0 more).length+(zhp (g.Qf.take m)).length+i]? = some (2,m,i,0):=by
 have h4:=zi1 (g:=fun i (s:Qp)=>zrO i s) (k:=i) hs (by unfold zrO;simpa using hi)
 have h3:(zrO m s)[i]? = some (2,m,i,0):=by unfold zrO;rw[List.getElem?_map,List.getElem?_range hi];rfl
 rw[h3] at h4
 unfold zfF
 rw[List.getElem?_append_right (by rw[List.length_append];omega),List.length_append,Nat.add_assoc,Nat.add_sub_cancel_left]
 exact h4


def zf7 (cs:LB):LB:=cs.filter fun c=>decide (c.Qi≠0)
def zg0 (n:Nat):LB→LF
 | []=>[]
 | c::cs=>((List.range (c.QM.length+1)).map fun k:Nat=>⟨(n:Int),(k:Int)⟩)++zg0 (n+1) cs
def zsb:D.Qe:=⟨1,0,0,[],[⟨0,0⟩]⟩
theorem ziM {c:Qa}:∀ {cs:LB}{n:Nat},zg0 n (cs++[c])=zg0 n cs++((List.range (c.QM.length+1)).map fun k:Nat=>⟨((n+cs.length:Nat):Int),(k:Int)⟩)
 | [],n=>by simp[zg0]
 | d::cs,n=>by
  rw[List.cons_append]
  unfold zg0
  rw[ziM,List.append_assoc,List.length_cons,show n+1+cs.length=n+(cs.length+1) by omega]

structure PA (P:LF) (A:LA) (cs:LB):Prop where
 Qq:A=zsb::(zf7 cs).map z7z
 Qu:P=⟨0,0⟩::zg0 1 (zf7 cs)
theorem znA {cs:LB}{c:Qa}(h:c.Qi=0):zf7 (cs++[c])=zf7 cs:=by unfold zf7;rw[List.filter_append];simp[h]
theorem znz {cs:LB}{c:Qa}(h:c.Qi≠0):zf7 (cs++[c])=zf7 cs++[c]:=by unfold zf7;rw[List.filter_append];simp[h]


theorem zkD {fu:Nat}{L:Qg}{c:Qa}{t m i:Nat}(hf:Big fu)(hs:c.sz≤1048576)(ha:c.QM.length≤3)(hp:L.Qu.length≤1000000)(hg:L.Qq.length≤1000000){cs:LB}(q:PA L.Qu L.Qq cs):
  ∃ P A,z2N fu L c=some ((L.Qu.length:Int),⟨A,P,L.cells,L.QK,L.ends,L.Qt⟩)∧P.length=L.Qu.length+(z9R t m i c).length∧A.length≤L.Qq.length+1∧PA P A (cs++[c]):=by
 unfold z2N
 by_cases k0:c.Qi=0
 ·rw[if_pos (by simp[k0])]
  exact⟨L.Qu,L.Qq,rfl,by unfold z9R;rw[if_pos k0];rfl,by omega,⟨by rw[znA k0];exact q.Qq,by rw[znA k0];exact q.Qu⟩⟩
 ·rw[if_neg (by simpa using k0)]
  obtain⟨o,h1,P,rfl,h2,h3⟩:=zf (body:=z2D fu L c) (fun k s=>∃ P:LF,s=((k:Int),P)∧P.length=L.Qu.length+k∧P=L.Qu++(List.range k).map fun k:Nat=>⟨(L.Qq.length:Int),(k:Int)⟩) (c.QM.length+1) (fun o=>∃ P,o=.inl P∧P.length=L.Qu.length+(c.QM.length+1)∧P=L.Qu++(List.range (c.QM.length+1)).map fun k:Nat=>⟨(L.Qq.length:Int),(k:Int)⟩) (by
   rintro k s hk ⟨P,rfl,hP,G⟩
   refine .inl ⟨(w64 (k+1),P++[⟨(L.Qq.length:Int),(k:Int)⟩]),?_,_,by rw[zb (by omega) (by omega)];rfl,by simp[hP];omega,by rw[G,List.range_succ,List.map_append,List.append_assoc];rfl⟩
   unfold z2D
   dsimp only
   rw[if_pos (by simp;omega),if_pos (by simp;omega)]) (by
   rintro s ⟨P,rfl,hP,G⟩
   refine .inr ⟨P,?_,P,rfl,hP,G⟩
   unfold z2D
   rw[if_neg (by simp;omega)]) (fu:=fu) (i:=0) (s:=(0,L.Qu)) (Nat.zero_le _) (by omega) ⟨_,rfl,rfl,by simp⟩
  rw[h1,bsm]
  simp only[aft]
  unfold z7m
  rw[zpH hs,bsm,if_pos (by simp;omega)]
  refine⟨P,_,rfl,by rw[h2];unfold z9R;rw[if_neg k0];simp,by simp,⟨by rw[znz k0,q.Qq,List.map_append];rfl,?_⟩⟩
  rw[h3,znz k0,ziM,q.Qq,q.Qu]
  simp only[List.length_cons,List.length_map,List.cons_append,Nat.add_comm 1]

def zdT (b:Nat)(cs:LB)(n:Nat):L9:=(List.range n).map fun i=>((b+(zbp 1 0 (cs.take i)).length:Nat):Int)
theorem zoz {b n:Nat}{cs:LB}:zdT b cs (n+1)=zdT b cs n++[((b+(zbp 1 0 (cs.take n)).length:Nat):Int)]:=by
 unfold zdT
 rw[List.range_succ,List.map_append]
 rfl
theorem zuT {b n i:Nat}{cs:LB}(h:i<n):(zdT b cs n)[i]? = some ((b+(zbp 1 0 (cs.take i)).length:Nat):Int):=by
 unfold zdT
 rw[List.getElem?_map,List.getElem?_range h]
 rfl

theorem zxa {fu:Nat}{g:D.Qk}{m:Nat}{s:Qp}{z:LO×LO×LO×LO×LF×LA}{C V E Q:LO}{P:LF}{A:LA}
  (hf:Big fu)(hm:g.Qf[m]? = some s)(hz:s.Cells.length≤400)(hs:∀ c,c∈s.Cells→c.sz≤1048576∧c.QM.length≤3)(hP:P.length≤100000)(hA:A.length≤100000){cs:LB}(O:PA P A cs):
  ∃ P' A',iter (z3L fu g ((m:Int),z)) fu (0,[],C,V,E,Q,P,A)=some (.inl (zdT P.length s.Cells s.Cells.length,C,V,E,Q,P',A'))∧P'.length=P.length+(zbp 1 m s.Cells).length∧A'.length≤A.length+s.Cells.length∧PA P' A' (cs++s.Cells):=by
 have X:=fun i hi=>zen (t:=1) (m:=m) (cs:=s.Cells) (fun c hc=>(hs c hc).2) i hi
 obtain⟨o,h1,P',A',rfl,h2,h3,h4⟩:=zf (body:=z3L fu g ((m:Int),z)) (fun i st=>∃ P' A',st=((i:Int),zdT P.length s.Cells i,C,V,E,Q,P',A')∧P'.length=P.length+(zbp 1 m (s.Cells.take i)).length∧A'.length≤A.length+i∧PA P' A' (cs++s.Cells.take i)) s.Cells.length
  (fun o=>∃ P' A',o=.inl (zdT P.length s.Cells s.Cells.length,C,V,E,Q,P',A')∧P'.length=P.length+(zbp 1 m s.Cells).length∧A'.length≤A.length+s.Cells.length∧PA P' A' (cs++s.Cells)) (by
  rintro i st hi ⟨P',A',rfl,G,H,q⟩
  obtain⟨c,hc⟩:=z1j hi
  obtain⟨c1,c2⟩:=hs c (List.mem_of_getElem? hc)
  have:=X i (by omega)
  obtain⟨P2,A2,e1,e2,e3,e4⟩:=zkD (L:=⟨A',P',C,V,E,Q⟩) (t:=1) (m:=m) (i:=i) hf c1 c2 (by dsimp only;omega) (by dsimp only;omega) q
  dsimp only at e1 e2 e3
  refine .inl ⟨(w64 (i+1),zdT P.length s.Cells (i+1),C,V,E,Q,P2,A2),?_,P2,A2,by rw[zb (by omega) (by omega)];rfl,by rw[e2,G,zem hc,List.length_append];omega,by omega,by rw[List.take_add_one,hc,← List.append_assoc];exact e4⟩
  unfold z3L
  dsimp only
  rw[za hm,bsm,if_pos (by simpa using hi),bsm,za hc,bsm,e1,bsm]
  dsimp only
  rw[if_pos (by unfold zdT;simp;omega),zoz,G,zfX (t:=1) (m:=m) (t':=1) (m':=0) i (by omega)]) (by
  rintro st ⟨P',A',rfl,G,H,q⟩
  rw[List.take_length] at G q
  refine .inr ⟨_,?_,P',A',rfl,G,H,q⟩
  unfold z3L
  dsimp only
  rw[za hm,bsm,if_neg (by simp)]) (fu:=fu) (i:=0) (s:=(0,[],C,V,E,Q,P,A)) (Nat.zero_le _) (by omega) ⟨P,A,rfl,by simp[zbp],by omega,by rw[List.take_zero,List.append_nil];exact O⟩
 exact⟨P',A',h1,h2,h3,h4⟩

theorem zvP {fu:Nat}{more:LB}{C V E Q:LO}{P:LF}{A:LA}
  (hf:Big fu)(hz:more.length≤20000)(hs:∀ c,c∈more→c.sz≤1048576∧c.QM.length≤3)(hP:P.length≤100000)(hA:A.length≤100000){cs:LB}(O:PA P A cs):
  ∃ P' A',iter (z3O fu more) fu (0,[],C,V,E,Q,P,A)=some (.inl (zdT P.length more more.length,C,V,E,Q,P',A'))∧P'.length=P.length+(zbp 3 0 more).length∧A'.length≤A.length+more.length∧PA P' A' (cs++more):=by
 have X:=fun i hi=>zen (t:=3) (m:=0) (cs:=more) (fun c hc=>(hs c hc).2) i hi
 obtain⟨o,h1,P',A',rfl,h2,h3,h4⟩:=zf (body:=z3O fu more) (fun i st=>∃ P' A',st=((i:Int),zdT P.length more i,C,V,E,Q,P',A')∧P'.length=P.length+(zbp 3 0 (more.take i)).length∧A'.length≤A.length+i∧PA P' A' (cs++more.take i)) more.length
  (fun o=>∃ P' A',o=.inl (zdT P.length more more.length,C,V,E,Q,P',A')∧P'.length=P.length+(zbp 3 0 more).length∧A'.length≤A.length+more.length∧PA P' A' (cs++more)) (by
  rintro i st hi ⟨P',A',rfl,G,H,q⟩
  obtain⟨c,hc⟩:=z1j hi
  obtain⟨c1,c2⟩:=hs c (List.mem_of_getElem? hc)
  have:=X i (by omega)
  obtain⟨P2,A2,e1,e2,e3,e4⟩:=zkD (L:=⟨A',P',C,V,E,Q⟩) (t:=3) (m:=0) (i:=i) hf c1 c2 (by dsimp only;omega) (by dsimp only;omega) q
  dsimp only at e1 e2 e3
  refine .inl ⟨(w64 (i+1),zdT P.length more (i+1),C,V,E,Q,P2,A2),?_,P2,A2,by rw[zb (by omega) (by omega)];rfl,by rw[e2,G,zem hc,List.length_append];omega,by omega,by rw[List.take_add_one,hc,← List.append_assoc];exact e4⟩
  unfold z3O
  dsimp only
  rw[if_pos (by simpa using hi),za hc,bsm,e1,bsm]
  dsimp only
  rw[if_pos (by unfold zdT;simp;omega),zoz,G,zfX (t:=3) (m:=0) (t':=1) (m':=0) i (by omega)]) (by
  rintro st ⟨P',A',rfl,G,H,q⟩
  rw[List.take_length] at G q
  refine .inr ⟨_,?_,P',A',rfl,G,H,q⟩
  unfold z3O
  rw[if_neg (by simp)]) (fu:=fu) (i:=0) (s:=(0,[],C,V,E,Q,P,A)) (Nat.zero_le _) (by omega) ⟨P,A,rfl,by simp[zbp],by omega,by rw[List.take_zero,List.append_nil];exact O⟩
 exact⟨P',A',h1,h2,h3,h4⟩

theorem zv8 {fu:Nat}{g:D.Qk}{m n:Nat}{s:Qp}{z1:Int}{z2:LO}(hf:Big fu)(hm:g.Qf[m]? = some s)(hz:s.QJ.length≤400)(hn:n≤1000000):
  iter (z3M fu g (z1,(m:Int),z2)) fu ((n:Int),0,[])=some (.inl (((n+s.QJ.length:Nat):Int),(List.range s.QJ.length).map fun i=>((n+i:Nat):Int))):=by
 obtain⟨o,h1,h2⟩:=zf (body:=z3M fu g (z1,(m:Int),z2)) (fun i st=>st=(((n+i:Nat):Int),(i:Int),(List.range i).map fun j=>((n+j:Nat):Int))) s.QJ.length (fun o=>o=.inl (((n+s.QJ.length:Nat):Int),(List.range s.QJ.length).map fun i=>((n+i:Nat):Int))) (by
  rintro i st hi rfl
  refine .inl ⟨(w64 (((n+i:Nat):Int)+1),w64 (i+1),((List.range i).map fun j=>((n+j:Nat):Int))++[((n+i:Nat):Int)]),?_,?_⟩
  ·unfold z3M
   dsimp only
   rw[za hm,bsm,if_pos (by simpa using hi),if_pos (by simp;omega)]
  ·rw[zb (by omega) (by omega),zb (by omega) (by omega),List.range_succ,List.map_append]
   rfl) (by
  rintro st rfl
  refine .inr ⟨_,?_,rfl⟩
  unfold z3M
  dsimp only
  rw[za hm,bsm,if_neg (by simp)]) (fu:=fu) (i:=0) (s:=((n:Int),0,[])) (Nat.zero_le _) (by omega) rfl
 rw[h1,h2]
end Go.E



namespace Go.E
open Go.RowKit Go.Proofs


structure Small (g:D.Qk):Prop where
 n:g.Qf.length≤4
 s:∀ s,s∈g.Qf→s.Cells.length≤400∧s.QJ.length≤400∧s.Qs.length≤400∧(∀ c,c∈s.Cells→c.sz≤1048576∧c.QM.length≤3∧z40 c=true)∧∀ v,v∈s.QJ→zff v=true
theorem zkZ {g:D.Qk}(hs:g.sz≤1048576)(hp:z9U g=true):Small g:=by
 unfold z9U at hp
 rw[Bool.and_eq_true,decide_eq_true_eq] at hp
 refine⟨hp.1.2,fun s hm=>?_⟩
 have h1:=List.all_eq_true.1 hp.2 s hm
 unfold zhb at h1
 rw[Bool.and_eq_true,Bool.and_eq_true,decide_eq_true_eq] at h1
 obtain⟨⟨a1,a2,a3⟩,a4,a5⟩:=h1
 have z:=(zeS ((zgW hs).2 s hm)).2.2.2
 exact⟨a1,a2,a3,fun c hc=>⟨z c hc,zpG (List.all_eq_true.1 a4 c hc),List.all_eq_true.1 a4 c hc⟩,fun v hv=>List.all_eq_true.1 a5 v hv⟩
def zsD (more:LB):Prop:=more.length≤20000∧∀ c,c∈more→c.sz≤1048576∧c.QM.length≤3

def zgg (g:D.Qk):LB:=g.Qf.flatMap fun s=>s.Cells
structure Items (g:D.Qk) (more:LB) (L:Qg) (at_:L9):Prop where
 Qu:L.Qu.length=(z7g g.Qf++zbp 3 0 more).length
 cell:∀ (m i:Nat) s c,g.Qf[m]? = some s→s.Cells[i]? = some c→∃ row,L.cells[m]? = some row∧row[i]? = some (((z7g (g.Qf.take m)).length+(zbp 1 m (s.Cells.take i)).length:Nat):Int)
 var:∀ (m i:Nat) s,g.Qf[m]? = some s→i<s.QJ.length→∃ row,L.QK[m]? = some row∧row[i]? = some (((z7g g.Qf).length+(zbp 3 0 more).length+(zhp (g.Qf.take m)).length+i:Nat):Int)
 ends:L.ends=List.replicate (zfF g more).length []
 Qt:L.Qt=[]
 pa:PA L.Qu L.Qq (zgg g++more)
 more:∀ (i:Nat) c,more[i]? = some c→at_[i]? = some (((z7g g.Qf).length+(zbp 3 0 (more.take i)).length:Nat):Int)
theorem zeT {g:D.Qk}(hS:Small g):∀ m,m≤g.Qf.length→(z7g (g.Qf.take m)).length≤1+1600*m
 | 0,_=>by simp[z7g]
 | m+1,hm=>by
  obtain⟨s,hs⟩:=z1j (xs:=g.Qf) (i:=m) (by omega)
  obtain⟨a1,a2,a3,a4,a5⟩:=hS.s s (List.mem_of_getElem? hs)
  rw[zkx hs,List.length_append]
  have:=zeT hS m (by omega)
  have h2:=zen (t:=1) (m:=m) (cs:=s.Cells) (fun c hc=>(a4 c hc).2.1) s.Cells.length (Nat.le_refl _)
  rw[List.take_length] at h2
  omega
theorem zoK {g:D.Qk}(hS:Small g):∀ m,m≤g.Qf.length→(zhp (g.Qf.take m)).length≤400*m
 | 0,_=>by simp[zhp]
 | m+1,hm=>by
  obtain⟨s,hs⟩:=z1j (xs:=g.Qf) (i:=m) (by omega)
  obtain⟨a1,a2,a3,a4,a5⟩:=hS.s s (List.mem_of_getElem? hs)
  rw[zmR hs,List.length_append]
  have:=zoK hS m (by omega)
  unfold zrO
  simp only[List.length_map,List.length_range]
  omega
theorem zpw {fu:Nat}{g:D.Qk}(hf:Big fu)(hS:Small g):∃ (C:LO) (P:LF) (A:LA),iter (z3P fu g) fu (0,[],[],[],[],[⟨0,0⟩],[⟨1,0,0,[],List.replicate (1:Int).toNat ⟨0,0⟩⟩])=some (.inl (C,[],[],[],P,A))∧C.length=g.Qf.length∧(∀ (j:Nat) s,g.Qf[j]? = some s→C[j]? = some (zdT (z7g (g.Qf.take j)).length s.Cells s.Cells.length))∧P.length=(z7g g.Qf).length∧A.length≤2000∧PA P A (zgg g):=by
 have hn:=hS.n
 obtain⟨o,h1,C,P,A,rfl,h2,h3,h4,h5,h6⟩:=zf (body:=z3P fu g) (fun m st=>∃ (C:LO) (P:LF) (A:LA),st=((m:Int),C,[],[],[],P,A)∧C.length=m∧(∀ (j:Nat) s,j<m→g.Qf[j]? = some s→C[j]? = some (zdT (z7g (g.Qf.take j)).length s.Cells s.Cells.length))∧P.length=(z7g (g.Qf.take m)).length∧A.length≤1+400*m∧PA P A ((g.Qf.take m).flatMap fun s=>s.Cells)) g.Qf.length
  (fun o=>∃ (C:LO) (P:LF) (A:LA),o=.inl (C,[],[],[],P,A)∧C.length=g.Qf.length∧(∀ (j:Nat) s,g.Qf[j]? = some s→C[j]? = some (zdT (z7g (g.Qf.take j)).length s.Cells s.Cells.length))∧P.length=(z7g g.Qf).length∧A.length≤2000∧PA P A (zgg g)) (by
  rintro m st hm ⟨C,P,A,rfl,hC,hr,hP,hA,q⟩
  obtain⟨s,hs⟩:=z1j hm
  obtain⟨a1,a2,a3,a4,a5⟩:=hS.s s (List.mem_of_getElem? hs)
  have H:=zeT hS m (by omega)
  obtain⟨P',A',e1,e2,e3,e4⟩:=zxa (z:=(C,[],[],[],P,A)) (C:=C) (V:=[]) (E:=[]) (Q:=[]) (P:=P) (A:=A) hf hs a1 (fun c hc=>⟨(a4 c hc).1,(a4 c hc).2.1⟩) (by omega) (by omega) q
  refine .inl ⟨(w64 (m+1),C++[zdT P.length s.Cells s.Cells.length],[],[],[],P',A'),?_,_,P',A',by rw[zb (by omega) (by omega)];rfl,by simp[hC],?_,?_,by omega,by rw[List.take_add_one,hs,List.flatMap_append];simpa using e4⟩
  ·unfold z3P
   dsimp only
   rw[if_pos (by simpa using hm),e1,bsm]
   rw[z8]
   unfold za2
   dsimp only
   rw[if_pos (by simp;omega)]
  ·intro j s' hj G
   by_cases hjm:j<m
   ·rw[List.getElem?_append_left (by omega)]
    exact hr j s' hjm G
   ·obtain rfl:j=m:=by omega
    rw[hs] at G
    cases G
    rw[List.getElem?_append_right (by omega),hC,Nat.sub_self,hP]
    rfl
  ·rw[e2,hP,zkx hs,List.length_append]) (by
  rintro st ⟨C,P,A,rfl,hC,hr,hP,hA,q⟩
  rw[List.take_length] at hP q
  refine .inr ⟨_,?_,C,P,A,rfl,hC,fun j s hs=>hr j s (List.getElem?_eq_some_iff.1 hs).1 hs,hP,by omega,q⟩
  unfold z3P
  rw[if_neg (by simp)]) (fu:=fu) (i:=0) (s:=(0,[],[],[],[],[⟨0,0⟩],[⟨1,0,0,[],List.replicate (1:Int).toNat ⟨0,0⟩⟩])) (Nat.zero_le _) (by omega) ⟨_,_,_,rfl,rfl,fun j s hj _=>absurd hj (Nat.not_lt_zero _),by simp[z7g],by simp,⟨rfl,rfl⟩⟩
 exact⟨C,P,A,h1,h2,h3,h4,h5,h6⟩
theorem zrC {fu N:Nat}{g:D.Qk}(hf:Big fu)(hS:Small g)(hN:N≤500000):∃ V:LO,iter (z3N fu g) fu ((N:Int),0,[])=some (.inl (((N+(zhp g.Qf).length:Nat):Int),V))∧V.length=g.Qf.length∧∀ (j:Nat) s,g.Qf[j]? = some s→V[j]? = some ((List.range s.QJ.length).map fun i=>((N+(zhp (g.Qf.take j)).length+i:Nat):Int)):=by
 have hn:=hS.n
 obtain⟨o,f1,V,rfl,f2,f3⟩:=zf (body:=z3N fu g) (fun m st=>∃ V:LO,st=(((N+(zhp (g.Qf.take m)).length:Nat):Int),(m:Int),V)∧V.length=m∧∀ (j:Nat) s,j<m→g.Qf[j]? = some s→V[j]? = some ((List.range s.QJ.length).map fun i=>((N+(zhp (g.Qf.take j)).length+i:Nat):Int))) g.Qf.length
  (fun o=>∃ V:LO,o=.inl (((N+(zhp g.Qf).length:Nat):Int),V)∧V.length=g.Qf.length∧∀ (j:Nat) s,g.Qf[j]? = some s→V[j]? = some ((List.range s.QJ.length).map fun i=>((N+(zhp (g.Qf.take j)).length+i:Nat):Int))) (by
  rintro m st hm ⟨V,rfl,hV,hr⟩
  obtain⟨s,hs⟩:=z1j hm
  obtain⟨a1,a2,a3,a4,a5⟩:=hS.s s (List.mem_of_getElem? hs)
  have G:=zoK hS m (by omega)
  have e1:=zv8 (z1:=((N+(zhp (g.Qf.take m)).length:Nat):Int)) (z2:=V) (n:=N+(zhp (g.Qf.take m)).length) hf hs a2 (by omega)
  refine .inl ⟨(((N+(zhp (g.Qf.take m)).length+s.QJ.length:Nat):Int),w64 (m+1),V++[(List.range s.QJ.length).map fun i=>((N+(zhp (g.Qf.take m)).length+i:Nat):Int)]),?_,V++[(List.range s.QJ.length).map fun i=>((N+(zhp (g.Qf.take m)).length+i:Nat):Int)],?_,by simp[hV],?_⟩
  ·unfold z3N
   dsimp only
   rw[if_pos (by simpa using hm),e1,bsm]
   rw[z8]
   unfold za3
   dsimp only
   rw[if_pos (by simp;omega)]
  ·rw[zb (by omega) (by omega),zmR hs,List.length_append]
   unfold zrO
   simp only[List.length_map,List.length_range,Nat.add_assoc]
   rfl
  ·intro j s' hj q
   by_cases hjm:j<m
   ·rw[List.getElem?_append_left (by omega)]
    exact hr j s' hjm q
   ·obtain rfl:j=m:=by omega
    rw[hs] at q
    cases q
    rw[List.getElem?_append_right (by omega),hV,Nat.sub_self]
    rfl) (by
  rintro st ⟨V,rfl,hV,hr⟩
  rw[List.take_length]
  refine .inr ⟨_,?_,V,rfl,hV,fun j s hs=>hr j s (List.getElem?_eq_some_iff.1 hs).1 hs⟩
  unfold z3N
  rw[if_neg (by simp)]) (fu:=fu) (i:=0) (s:=((N:Int),0,[])) (Nat.zero_le _) (by omega) ⟨[],by simp[zhp],rfl,fun j s hj _=>absurd hj (Nat.not_lt_zero _)⟩
 exact⟨V,f1,f2,f3⟩
theorem zuS {fu:Nat}{g:D.Qk}{more:LB}(hf:Big fu)(hS:Small g)(hM:zsD more):∃ L at_,z8v fu g more=some (L,at_)∧Items g more L at_:=by
 have hn:=hS.n
 unfold z8v
 rw[if_pos (by simp)]
 obtain⟨C,P,A,h1,h2,h3,h4,h5,h6⟩:=zpw hf hS
 rw[h1,bsm]
 rw[z8]
 unfold za6
 dsimp only
 have G:=zeT hS g.Qf.length (Nat.le_refl _)
 rw[List.take_length] at G
 obtain⟨P',A',e1,e2,e3,e4⟩:=zvP (more:=more) (C:=C) (V:=[]) (E:=[]) (Q:=[]) (P:=P) (A:=A) hf hM.1 hM.2 (by omega) (by omega) h6
 rw[e1,bsm]
 rw[z8]
 unfold za5
 dsimp only
 have o:=zen (t:=3) (m:=0) (cs:=more) (fun c hc=>(hM.2 c hc).2) more.length (Nat.le_refl _)
 rw[List.take_length] at o
 have O:=hM.1
 have q:P'.length=(z7g g.Qf).length+(zbp 3 0 more).length:=by rw[e2,h4]
 obtain⟨V,f1,f2,f3⟩:=zrC (N:=P'.length) hf hS (by omega)
 rw[f1,bsm]
 rw[z8]
 unfold za4
 dsimp only
 have H:=zoK hS g.Qf.length (Nat.le_refl _)
 rw[List.take_length] at H
 rw[if_pos (by simp;omega)]
 refine⟨_,_,rfl,?_,?_,?_,?_,rfl,e4,?_⟩
 ·dsimp only;rw[q,List.length_append]
 ·intro m i s c hs hc
  have hi:=(List.getElem?_eq_some_iff.1 hc).1
  refine⟨_,h3 m s hs,?_⟩
  rw[zuT hi,zfX (t:=1) (m:=0) (t':=1) (m':=m) i (by omega)]
 ·intro m i s hs hi
  refine⟨_,f3 m s hs,?_⟩
  rw[List.getElem?_map,List.getElem?_range hi,q]
  rfl
 ·dsimp only
  congr 1
  unfold zfF
  rw[List.length_append,List.length_append,← q]
  omega
 ·intro i c hc
  have hi:=(List.getElem?_eq_some_iff.1 hc).1
  rw[zuT hi,h4,zfX (t:=1) (m:=0) (t':=3) (m':=0) i (by omega)]
end Go.E



namespace Go.E
open Go.RowKit Go.Proofs

variable {fu:Nat}
def zH (g:D.Qk)(a:Qb):Bool:=decide (0≤a.Qj∧0≤a.Qo) && (g.Qf[a.Qj.toNat]?).any fun s=>if a.Qi=1 then(s.Cells[a.Qo.toNat]?).any fun c=>decide (c.Qi≠0) else if a.Qi=2 then(s.QJ[a.Qo.toNat]?).any fun v=>v.QZ else false
def z9S (a:Qb):Key:=if a.Qi=1 then(1,a.Qj.toNat,a.Qo.toNat,0) else(2,a.Qj.toNat,a.Qo.toNat,0)

theorem zeV {α:Type}{xs:List α}{i:Int}(h:(xs.length:Int)≤i):xs[i.toNat]? = none:=List.getElem?_eq_none (by omega)
theorem zkF {α:Type}{xs:List α}{i:Int}(h0:0≤i)(h:i<xs.length):∃ x,xs[i.toNat]? = some x∧idx xs i=some x:=by
 obtain⟨x,hx⟩:=z1j (xs:=xs) (i:=i.toNat) (by omega)
 exact⟨x,hx,by unfold idx;rw[if_pos h0,hx]⟩
theorem zdx {g:D.Qk}{a:Qb}(hs:g.sz≤1048576):z2E fu g a=some (zH g a):=by
 have hm:maxLen=9223372036854775807:=rfl
 obtain⟨z1,z2⟩:=zgW hs
 unfold z2E zH
 rw[zeX (by omega),z9B,bsm]
 by_cases hM:0≤a.Qj∧a.Qj≤(g.Qf.length:Int) - 1
 ·obtain⟨s,s1,s2⟩:=zkF (xs:=g.Qf) hM.1 (by omega)
  obtain⟨y1,y2,y3,y4⟩:=zeS (z2 s (List.mem_of_getElem? s1))
  rw[dct hM,if_neg (by simp),s2,bsm,s1,Option.any_some]
  by_cases k1:a.Qi=1
  ·rw[if_pos (by simp[k1]),if_pos k1,zeX (by omega),z9B,bsm]
   by_cases hi:0≤a.Qo∧a.Qo≤(s.Cells.length:Int) - 1
   ·obtain⟨c,c1,c2⟩:=zkF (xs:=s.Cells) hi.1 (by omega)
    rw[if_pos (dct hi),c2,bsm,c1,Option.any_some,dct ⟨hM.1,hi.1⟩]
    by_cases h:c.Qi=0<;>simp[h]
   ·rw[if_neg (by simpa using hi)]
    by_cases h0:0≤a.Qo
    ·rw[zeV (by omega)];simp
    ·rw[decide_eq_false (fun h=>h0 h.2)];rfl
  ·rw[if_neg (by simpa using k1),if_neg k1]
   by_cases k2:a.Qi=2
   ·rw[if_pos (by simp[k2]),if_pos k2,zeX (by omega),z9B,bsm]
    by_cases hi:0≤a.Qo∧a.Qo≤(s.QJ.length:Int) - 1
    ·obtain⟨c,c1,c2⟩:=zkF (xs:=s.QJ) hi.1 (by omega)
     rw[if_pos (dct hi),c2,bsm,c1,Option.any_some,dct ⟨hM.1,hi.1⟩]
     rfl
    ·rw[if_neg (by simpa using hi)]
     by_cases h0:0≤a.Qo
     ·rw[zeV (by omega)];simp
     ·rw[decide_eq_false (fun h=>h0 h.2)];rfl
   ·rw[if_neg (by simpa using k2),if_neg k2];simp
 ·rw[decide_eq_false hM,if_pos (by simp)]
  by_cases h0:0≤a.Qj
  ·rw[zeV (by omega)];simp
  ·rw[decide_eq_false (fun h=>h0 h.1)];rfl
theorem zre {g:D.Qk}{a:Qb}:z3j fu g a=some (zH g a):=by
 unfold z3j z2R zH
 by_cases h1:a.Qj<0
 ·rw[if_pos (dct h1),if_pos rfl,decide_eq_false (fun h=>by omega)];rfl
 ·rw[if_neg (by simpa using h1)]
  by_cases h2:a.Qj≥(g.Qf.length:Int)
  ·rw[if_pos (dct h2),if_pos rfl,zeV h2];simp
  ·rw[if_neg (by simpa using h2)]
   obtain⟨s,s1,s2⟩:=zkF (xs:=g.Qf) (i:=a.Qj) (by omega) (by omega)
   rw[s1,Option.any_some]
   by_cases h3:a.Qo<0
   ·rw[if_pos (dct h3),decide_eq_false (fun h=>by omega)];rfl
   ·rw[if_neg (by simpa using h3),s2,bsm,dct (p:=0≤a.Qj∧0≤a.Qo) ⟨by omega,by omega⟩,Bool.true_and]
    by_cases k1:a.Qi=1
    ·rw[if_pos (by simp[k1]),if_pos k1]
     by_cases hi:a.Qo<(s.Cells.length:Int)
     ·obtain⟨c,c1,c2⟩:=zkF (xs:=s.Cells) (i:=a.Qo) (by omega) hi
      rw[if_pos (dct hi),c2,bsm,c1,Option.any_some]
      by_cases h:c.Qi=0<;>simp[h]
     ·rw[if_neg (by simpa using hi),zeV (by omega)];rfl
    ·rw[if_neg (by simpa using k1),if_neg k1]
     by_cases k2:a.Qi=2
     ·rw[if_pos (by simp[k2]),if_pos k2]
      by_cases hi:a.Qo<(s.QJ.length:Int)
      ·obtain⟨c,c1,c2⟩:=zkF (xs:=s.QJ) (i:=a.Qo) (by omega) hi
       rw[if_pos (dct hi),c2,bsm,c1,Option.any_some]
      ·rw[if_neg (by simpa using hi),zeV (by omega)];rfl
     ·rw[if_neg (by simpa using k2),if_neg k2]

theorem zdW {g:D.Qk}{a:Qb}(h:zH g a=true):0≤a.Qj∧0≤a.Qo∧∃ s,g.Qf[a.Qj.toNat]? = some s∧
  ((a.Qi=1∧∃ c,s.Cells[a.Qo.toNat]? = some c∧c.Qi≠0)∨(a.Qi=2∧∃ v,s.QJ[a.Qo.toNat]? = some v∧v.QZ=true)):=by
 unfold zH at h
 rw[Bool.and_eq_true,decide_eq_true_eq] at h
 obtain⟨⟨h1,h2⟩,h3⟩:=h
 refine⟨h1,h2,?_⟩
 cases hs:g.Qf[a.Qj.toNat]? with
 | none=>rw[hs] at h3;cases h3
 | some s=>
  rw[hs,Option.any_some] at h3
  refine⟨s,rfl,?_⟩
  by_cases k1:a.Qi=1
  ·rw[if_pos k1] at h3
   cases hc:s.Cells[a.Qo.toNat]? with
   | none=>rw[hc] at h3;cases h3
   | some c=>rw[hc,Option.any_some,decide_eq_true_eq] at h3;exact .inl ⟨k1,c,rfl,h3⟩
  ·rw[if_neg k1] at h3
   by_cases k2:a.Qi=2
   ·rw[if_pos k2] at h3
    cases hc:s.QJ[a.Qo.toNat]? with
    | none=>rw[hc] at h3;cases h3
    | some c=>rw[hc,Option.any_some] at h3;exact .inr ⟨k2,c,rfl,h3⟩
   ·rw[if_neg k2] at h3;cases h3
theorem zgb {g:D.Qk}{more:LB}{L L':Qg}{at_:L9}{a:Qb}(hI:Items g more L at_)(hc:L'.cells=L.cells)(hv:L'.QK=L.QK)(h:zH g a=true):
  ∃ x:Nat,zT fu L' a=some (x:Int)∧(zfF g more)[x]? = some (z9S a):=by
 obtain⟨h1,h2,s,hs,h3⟩:=zdW h
 have em:a.Qj=((a.Qj.toNat:Nat):Int):=by omega
 have ei:a.Qo=((a.Qo.toNat:Nat):Int):=by omega
 unfold zT z9S
 rcases h3 with⟨k1,c,c1,c2⟩ | ⟨k2,v,v1,v2⟩
 ·rw[if_pos (by simp[k1]),if_pos k1,hc]
  obtain⟨o,r1,r2⟩:=hI.cell _ _ s c hs c1
  refine⟨_,?_,zqu (k:=0) hs c1 c2 (Nat.zero_le _)⟩
  rw[em,za r1,bsm,ei,za r2]
  rfl
 ·have hi:=(List.getElem?_eq_some_iff.1 v1).1
  rw[if_neg (by simp[k2]),if_neg (by omega),hv]
  obtain⟨o,r1,r2⟩:=hI.var _ _ s hs hi
  refine⟨_,?_,zuY hs hi⟩
  rw[em,za r1,bsm,ei,za r2]
  rfl


def zv4 (ks0:List Key)(E:LO)(ks:List Key):Prop:=E.length=ks0.length∧∀ (x:Nat) key,ks0[x]? = some key→∃ e,E[x]? = some e∧e.length=ks.count key
theorem zg7 {α:Type}{xs:List α}(h:xs.Nodup){i j:Nat}{a:α}(hi:xs[i]? = some a)(hj:xs[j]? = some a):i=j:=by
 obtain⟨h1,h2⟩:=List.getElem?_eq_some_iff.1 hi
 obtain⟨h3,h4⟩:=List.getElem?_eq_some_iff.1 hj
 have hp:=List.pairwise_iff_getElem.1 h
 rcases Nat.lt_trichotomy i j with hl | hl | hl
 ·exact absurd (h2.trans h4.symm) (hp i j h1 h3 hl)
 ·exact hl
 ·exact absurd (h4.trans h2.symm) (hp j i h3 h1 hl)
theorem zoi {ks0:List Key}(hn:ks0.Nodup){E:LO}{ks:List Key}(h:zv4 ks0 E ks){x:Nat}{k:Key}(hx:ks0[x]? = some k)(n:Int):
  ∃ e,E[x]? = some e∧e.length≤ks.length∧zv4 ks0 (E.set x (e++[n])) (ks++[k]):=by
 obtain⟨hl,he⟩:=h
 obtain⟨e,e1,e2⟩:=he x k hx
 refine⟨e,e1,by rw[e2];exact List.count_le_length,by simp[hl],fun y key hy=>?_⟩
 obtain⟨f,f1,f2⟩:=he y key hy
 by_cases hxy:x=y
 ·subst hxy
  rw[hx] at hy
  cases hy
  have o:=(List.getElem?_eq_some_iff.1 e1).1
  exact⟨_,List.getElem?_set_self o,by simp[e2]⟩
 ·refine⟨f,by rw[List.getElem?_set_ne hxy];exact f1,?_⟩
  have hk:k≠key:=fun e=>hxy (zg7 hn hx (by rw[e];exact hy))
  rw[f2,List.count_append,List.count_singleton]
  simp[hk]

def occ {α:Type}[DecidableEq α](ks:List α)(k:α):List Nat:=(List.range ks.length).filter fun h=>decide (ks[h]? = some k)
theorem zm9 {α:Type}[DecidableEq α]{ks:List α}{a k:α}:occ (ks++[a]) k=if a=k then occ ks k++[ks.length] else occ ks k:=by
 unfold occ
 rw[List.length_append,List.length_singleton,List.range_succ,List.filter_append]
 have e1:(List.range ks.length).filter (fun h=>decide ((ks++[a])[h]? = some k))=(List.range ks.length).filter (fun h=>decide (ks[h]? = some k)):=by
  apply List.filter_congr
  intro h hh
  rw[List.getElem?_append_left (List.mem_range.1 hh)]
 have e2:(ks++[a])[ks.length]? = some a:=by rw[List.getElem?_append_right (Nat.le_refl _),Nat.sub_self];rfl
 rw[e1,List.filter_cons,e2,List.filter_nil]
 by_cases h:a=k
 ·subst h;simp
 ·simp[h]
def halfs {α:Type}[DecidableEq α](ks:List α)(k:α):L9:=(occ ks k).map fun h=>((h / 2:Nat):Int)
def zv3 (o:List Key)(E:LO)(ks:List Key):Prop:=∀ (x:Nat) key,o[x]? = some key→E[x]? = some (halfs ks key)
theorem zkL {ks0:List Key}(hn:ks0.Nodup){E:LO}{ks:List Key}(h:zv3 ks0 E ks){x:Nat}{k:Key}(hx:ks0[x]? = some k){e:L9}(he:E[x]? = some e){n:Int}(q:n=((ks.length / 2:Nat):Int)):
  zv3 ks0 (E.set x (e++[n])) (ks++[k]):=by
 intro y key hy
 unfold halfs
 rw[zm9]
 by_cases hxy:x=y
 ·subst hxy
  rw[hx] at hy
  cases hy
  have h2:=h x k hx
  rw[he] at h2
  cases h2
  have o:=(List.getElem?_eq_some_iff.1 he).1
  rw[List.getElem?_set_self o,if_pos rfl,List.map_append,q]
  rfl
 ·have hk:k≠key:=fun e=>hxy (zg7 hn hx (by rw[e];exact hy))
  rw[List.getElem?_set_ne hxy,if_neg hk]
  exact h y key hy

def zjK (o:List Key)(Q:LO)(ks:List Key):Prop:=ks.length=2*Q.length∧∀ i:Nat,i<Q.length→∃ (x y:Nat) (a b:Key),Q[i]? = some [(x:Int),(y:Int)]∧o[x]? = some a∧o[y]? = some b∧ks[2*i]? = some a∧ks[2*i+1]? = some b
theorem zpf {o:List Key}{Q:LO}{ks:List Key}(h:zjK o Q ks){x y:Nat}{a b:Key}(hx:o[x]? = some a)(hy:o[y]? = some b):zjK o (Q++[[(x:Int),(y:Int)]]) (ks++[a,b]):=by
 obtain⟨h1,h2⟩:=h
 refine⟨by simp only[List.length_append,List.length_cons,List.length_nil];omega,fun i hi=>?_⟩
 rw[List.length_append,List.length_singleton] at hi
 by_cases hiQ:i<Q.length
 ·obtain⟨x',y',a',b',e1,e2,e3,e4,e5⟩:=h2 i hiQ
  refine⟨x',y',a',b',by rw[List.getElem?_append_left hiQ];exact e1,e2,e3,?_,?_⟩
  ·rw[List.getElem?_append_left (by omega)];exact e4
  ·rw[List.getElem?_append_left (by omega)];exact e5
 ·obtain rfl:i=Q.length:=by omega
  refine⟨x,y,a,b,by rw[List.getElem?_append_right (Nat.le_refl _),Nat.sub_self];rfl,hx,hy,?_,?_⟩
  ·rw[List.getElem?_append_right (by omega),h1,Nat.sub_self];rfl
  ·rw[List.getElem?_append_right (by omega),h1,show 2*Q.length+1 - 2*Q.length=1 by omega];rfl

structure Run (g:D.Qk) (more:LB) (L L':Qg) (ks:List Key):Prop where
 Qu:L'.Qu=L.Qu
 cells:L'.cells=L.cells
 QK:L'.QK=L.QK
 ends:zv4 (zfF g more) L'.ends ks
 Qt:L'.Qt.length≤ks.length
 Qq:L'.Qq=L.Qq
 endsX:zv3 (zfF g more) L'.ends ks
 pairsX:zjK (zfF g more) L'.Qt ks
theorem zfP {g:D.Qk}{more:LB}{L L':Qg}{ks:List Key}{x y:Nat}{k1 k2:Key}(hR:Run g more L L' ks)(hx:(zfF g more)[x]? = some k1)(hy:(zfF g more)[y]? = some k2)(hb:ks.length≤1000000):
  ∃ o,zN fu L' (x:Int) (y:Int)=some o∧Run g more L o (ks++[k1,k2]):=by
 obtain⟨e,e1,e2,e3⟩:=zoi zbU hR.ends hx (L'.Qt.length:Int)
 obtain⟨f,f1,f2,f3⟩:=zoi zbU e3 hy (L'.Qt.length:Int)
 have hp:=hR.Qt
 rw[List.length_append,List.length_singleton] at f2
 unfold zN
 rw[if_pos (by simp only[List.length_singleton,decide_eq_true_eq];omega),za e1,bsm,if_pos (by simp only[List.length_singleton,decide_eq_true_eq];omega)]
 unfold z3K
 rw[Int.toNat_natCast,za f1,bsm,if_pos (by simp only[List.length_singleton,decide_eq_true_eq];omega),Int.toNat_natCast]
 have q:=hR.pairsX.1
 have x1:=zkL zbU hR.endsX hx e1 (n:=(L'.Qt.length:Int)) (by omega)
 have x2:=zkL zbU x1 hy f1 (n:=(L'.Qt.length:Int)) (by rw[List.length_append,List.length_singleton];omega)
 rw[List.append_assoc] at x2
 refine⟨_,rfl,hR.Qu,hR.cells,hR.QK,?_,?_,hR.Qq,x2,zpf hR.pairsX hx hy⟩
 ·rw[List.append_assoc] at f3
  exact f3
 ·simp only[List.length_append,List.length_cons,List.length_nil]
  omega


theorem zfn {α S τ ρ:Type}{xs:List α}{body:S→Option (Rd S τ ρ)}(J:Nat→S→Prop)(p:Nat→α→Bool)(QT:τ→Prop)(QR:ρ→Prop){s0:S}{fu:Nat}(hl:xs.length≤1048576)(hf:Big fu)
  (step:∀ (i:Nat) x s,xs[i]? = some x→J i s→(p i x=true→∃ s',body s=some (.next s')∧J (i+1) s')∧(p i x=false→∃ r,body s=some (.ret r)∧QR r))
  (q:∀ s,J xs.length s→∃ t,body s=some (.brk t)∧QT t)(h0:J 0 s0):
  ((xs.zipIdx.all fun y=>p y.2 y.1)=true∧∃ t,iter body fu s0=some (.inl t)∧QT t)∨((xs.zipIdx.all fun y=>p y.2 y.1)=false∧∃ r,iter body fu s0=some (.inr r)∧QR r):=by
 obtain⟨o,h1,h2⟩:=zf (body:=body) (fun i s=>J i s∧∀ (j:Nat) x,j<i→xs[j]? = some x→p j x=true) xs.length (fun o=>((xs.zipIdx.all fun y=>p y.2 y.1)=true∧∃ t,o=.inl t∧QT t)∨((xs.zipIdx.all fun y=>p y.2 y.1)=false∧∃ r,o=.inr r∧QR r)) (by
  rintro i s hi ⟨hJ,hp⟩
  obtain⟨x,hx⟩:=z1j hi
  obtain⟨g1,g2⟩:=step i x s hx hJ
  cases hpx:p i x with
  | true=>
   obtain⟨s',e1,e2⟩:=g1 hpx
   refine .inl ⟨s',e1,e2,fun j y hj hy=>?_⟩
   by_cases hji:j<i
   ·exact hp j y hji hy
   ·obtain rfl:j=i:=by omega
    rw[hx] at hy;cases hy;exact hpx
  | false=>
   obtain⟨r,e1,e2⟩:=g2 hpx
   refine .inr (.inl ⟨r,e1,.inr ⟨?_,r,rfl,e2⟩⟩)
   cases hz:(xs.zipIdx.all fun y=>p y.2 y.1) with
   | false=>rfl
   | true=>
    have:=z69.1 hz i x hx
    rw[Nat.zero_add,hpx] at this
    cases this) (by
  rintro s ⟨hJ,hp⟩
  obtain⟨t,e1,e2⟩:=q s hJ
  refine .inr ⟨t,e1,.inl ⟨?_,t,rfl,e2⟩⟩
  refine z69.2 fun i x hx=>?_
  rw[Nat.zero_add]
  exact hp i x (List.getElem?_eq_some_iff.1 hx).1 hx) (fu:=fu) (i:=0) (s:=s0) (Nat.zero_le _) (by omega) ⟨h0,fun j x hj _=>absurd hj (Nat.not_lt_zero _)⟩
 rw[h1]
 rcases h2 with⟨a,t,rfl,b⟩ | ⟨a,r,rfl,b⟩
 ·exact .inl ⟨a,t,rfl,b⟩
 ·exact .inr ⟨a,r,rfl,b⟩

def fl {α β:Type}(f:Nat→α→List β)(xs:List α)(i:Nat):List β:=(xs.take i).zipIdx.flatMap fun x=>f x.2 x.1
theorem z8V {α β:Type}{f:Nat→α→List β}{xs:List α}:fl f xs 0=[]:=by simp[fl]
theorem z89 {α β:Type}{f:Nat→α→List β}{xs:List α}{i:Nat}{x:α}(h:xs[i]? = some x):fl f xs (i+1)=fl f xs i++f i x:=by
 unfold fl
 rw[zfH h,List.flatMap_append]
 simp
theorem z8p {α β:Type}{f:Nat→α→List β}{xs:List α}{b:Nat}(h:∀ i x,xs[i]? = some x→(f i x).length≤b):∀ i,i≤xs.length→(fl f xs i).length≤b*i
 | 0,_=>by simp[z8V]
 | i+1,hi=>by
  obtain⟨x,hx⟩:=z1j (xs:=xs) (i:=i) (by omega)
  rw[z89 hx,List.length_append,Nat.mul_succ]
  have:=z8p h i (by omega)
  have:=h i x hx
  omega
def zpx (t m i k:Nat)(a:Qb):List Key:=[(t,m,i,k+1),z9S a]
def zr2 (_:Nat)(r:Qm):List Key:=[z9S r.A,z9S r.B]
def zeF (m i:Nat)(v:Qn):List Key:=if v.Qa0=true then [(2,m,i,0),z9S v.QU] else []
def zbo (t m i:Nat)(c:Qa):List Key:=fl (zpx t m i) c.QM c.QM.length
def zbz (m:Nat)(s:Qp):List Key:=fl (zbo 1 m) s.Cells s.Cells.length++(fl zr2 s.Qs s.Qs.length++fl (zeF m) s.QJ s.QJ.length)
def zhz (g:D.Qk):List Key:=[(0,0,0,0),z9S g.QO]
def z7x (g:D.Qk):List Key:=zhz g++fl zbz g.Qf g.Qf.length
def zk3 (g:D.Qk)(m i:Nat)(v:Qn):Bool:=!v.Qa0 || (zH g ⟨m,2,i⟩ && zH g v.QU)
def ziC (g:D.Qk)(m:Nat)(s:Qp):Bool:=(s.Cells.all fun c=>c.QM.all (zH g)) && ((s.Qs.all fun r=>zH g r.A && zH g r.B) && s.QJ.zipIdx.all fun x=>zk3 g m x.2 x.1)
def zfy (g:D.Qk):Bool:=zH g g.QO && g.Qf.zipIdx.all fun x=>ziC g x.2 x.1
theorem zmF {t m i:Nat}{c:Qa}(h:c.QM.length≤3):(zbo t m i c).length≤6:=by
 have:=z8p (f:=zpx t m i) (xs:=c.QM) (b:=2) (fun _ _ _=>by simp[zpx]) c.QM.length (Nat.le_refl _)
 unfold zbo
 omega
theorem zuU {g:D.Qk}{more:LB}{L L':Qg}{at_:L9}{ks:List Key}{c:Qa}{b t m i:Nat}(hf:Big fu)(hs:g.sz≤1048576)(hI:Items g more L at_)(hR:Run g more L L' ks)(hc:c.QM.length≤3)(Y:ks.length≤900000)
  (hb:b≤1000000)(hk:∀ k,k<c.QM.length→(zfF g more)[b+k+1]? = some (t,m,i,k+1)):
  ∃ q,z2m fu L' g c (b:Int)=some (c.QM.all (zH g),q)∧(c.QM.all (zH g)=true→Run g more L q (ks++zbo t m i c)):=by
 unfold z2m
 have h:=zfn (xs:=c.QM) (body:=z2X fu g c (b:Int)) (fu:=fu)
  (fun k st=>∃ M:Qg,st=((k:Int),M.Qq,M.Qu,M.cells,M.QK,M.ends,M.Qt)∧Run g more L M (ks++fl (zpx t m i) c.QM k))
  (fun _ a=>zH g a)
  (fun tt=>∃ M:Qg,tt=(M.Qq,M.Qu,M.cells,M.QK,M.ends,M.Qt)∧Run g more L M (ks++zbo t m i c))
  (fun r=>∃ M:Qg,r=(false,M)) (s0:=(0,L'.Qq,L'.Qu,L'.cells,L'.QK,L'.ends,L'.Qt)) (by omega) hf (by
  rintro k a _ ha ⟨M,rfl,hM⟩
  have G:=(List.getElem?_eq_some_iff.1 ha).1
  have X:=z8p (f:=zpx t m i) (xs:=c.QM) (b:=2) (fun _ _ _=>by simp[zpx]) k (by omega)
  unfold z2X
  dsimp only
  rw[if_pos (by simpa using G),za ha,bsm,zdx hs,bsm]
  constructor
  ·intro o
   rw[o]
   obtain⟨y,y1,y2⟩:=zgb (fu:=fu) (L':=M) hI hM.cells hM.QK o
   obtain⟨M',e1,e2⟩:=zfP (fu:=fu) hM (hk k G) y2 (by rw[List.length_append];omega)
   refine⟨(w64 (k+1),M'.Qq,M'.Qu,M'.cells,M'.QK,M'.ends,M'.Qt),?_,M',?_,?_⟩
   ·rw[if_neg (by simp),bsm]
    have O:zT fu ⟨M.Qq,M.Qu,M.cells,M.QK,M.ends,M.Qt⟩ a=some (y:Int):=y1
    have H:zN fu ⟨M.Qq,M.Qu,M.cells,M.QK,M.ends,M.Qt⟩ ((b+k+1:Nat):Int) (y:Int)=some M':=e1
    rw[O,bsm,zb (n:=(b:Int)+k) (by omega) (by omega),zb (by omega) (by omega),show(b:Int)+(k:Int)+1=((b+k+1:Nat):Int) by omega,H,bsm]
   ·rw[zb (by omega) (by omega)];rfl
   ·rw[z89 ha,← List.append_assoc];exact e2
  ·intro o
   rw[o]
   exact⟨_,rfl,M,rfl⟩) (by
  rintro _ ⟨M,rfl,hM⟩
  refine⟨_,?_,M,rfl,hM⟩
  unfold z2X
  rw[if_neg (by simp)]) ⟨L',rfl,by rw[z8V,List.append_nil];exact hR⟩
 rw[z8Y (p:=zH g)] at h
 rcases h with⟨h1,tt,h2,M,rfl,h3⟩ | ⟨h1,r,h2,M,rfl⟩
 ·rw[h2,bsm,z8,h1]
  exact⟨M,rfl,fun _=>h3⟩
 ·rw[h2,bsm,h1]
  exact⟨M,rfl,fun h=>by cases h⟩
theorem zm7 {g:D.Qk}{more:LB}{L L':Qg}{at_:L9}{ks:List Key}{a b:Qb}(hs:g.sz≤1048576)(hI:Items g more L at_)(hR:Run g more L L' ks)(q:ks.length≤900000):
  ∃ o,z1e fu L' g a b=some (zH g a && zH g b,o)∧((zH g a && zH g b)=true→Run g more L o (ks++[z9S a,z9S b])):=by
 unfold z1e
 rw[zdx hs,zdx hs,bsm,bsm]
 unfold z2C
 cases ha:zH g a with
 | false=>exact⟨_,rfl,fun h=>by cases h⟩
 | true=>
  cases hb:zH g b with
  | false=>exact⟨_,rfl,fun h=>by cases h⟩
  | true=>
   obtain⟨x,x1,x2⟩:=zgb (fu:=fu) (L':=L') hI hR.cells hR.QK ha
   obtain⟨y,y1,y2⟩:=zgb (fu:=fu) (L':=L') hI hR.cells hR.QK hb
   obtain⟨M,e1,e2⟩:=zfP (fu:=fu) hR x2 y2 (by omega)
   rw[if_neg (by simp),if_neg (by simp),x1,bsm,y1,bsm,e1,bsm]
   exact⟨M,rfl,fun _=>e2⟩
end Go.E




namespace Go.E
open Go.RowKit Go.Proofs

theorem zp6 {s:Qp}(h:s.Qs.length≤400)(i:Nat)(hi:i≤s.Qs.length):(fl zr2 s.Qs i).length≤2*i:=z8p (b:=2) (fun _ _ _=>by simp[zr2]) i hi
theorem zq5 {s:Qp}{m:Nat}(i:Nat)(hi:i≤s.QJ.length):(fl (zeF m) s.QJ i).length≤2*i:=z8p (b:=2) (fun _ _ _=>by unfold zeF;split<;>simp) i hi
theorem zjy {s:Qp}{m:Nat}(h:∀ c,c∈s.Cells→c.QM.length≤3)(i:Nat)(hi:i≤s.Cells.length):(fl (zbo 1 m) s.Cells i).length≤6*i:=z8p (b:=6) (fun j c hc=>zmF (h c (List.mem_of_getElem? hc))) i hi

abbrev Tup (M:Qg):LA×LF×LO×LO×LO×LO:=(M.Qq,M.Qu,M.cells,M.QK,M.ends,M.Qt)
section
variable {fu:Nat}{g:D.Qk}{more:LB}{L:Qg}{at_:L9}
theorem zuO {M0:Qg}{ks:List Key}{m:Nat}{s:Qp}{z:LA×LF×LO×LO×LO×LO}(hf:Big fu)(hs:g.sz≤1048576)(hS:Small g)(hI:Items g more L at_)(hR:Run g more L M0 ks)(hm:g.Qf[m]? = some s)(O:ks.length≤500000):
  ((s.Cells.all fun c=>c.QM.all (zH g))=true∧∃ t,iter (z2h fu g ((m:Int),z) s) fu (0,Tup M0)=some (.inl t)∧∃ M,t=Tup M∧Run g more L M (ks++fl (zbo 1 m) s.Cells s.Cells.length))∨
  ((s.Cells.all fun c=>c.QM.all (zH g))=false∧∃ r,iter (z2h fu g ((m:Int),z) s) fu (0,Tup M0)=some (.inr r)∧∃ M,r=.ret (false,M)):=by
 obtain⟨a1,a2,a3,a4,a5⟩:=hS.s s (List.mem_of_getElem? hm)
 have X:=(List.getElem?_eq_some_iff.1 hm).1
 have hn:=hS.n
 have h:=zfn (xs:=s.Cells) (body:=z2h fu g ((m:Int),z) s) (fu:=fu)
  (fun i st=>∃ M:Qg,st=((i:Int),Tup M)∧Run g more L M (ks++fl (zbo 1 m) s.Cells i))
  (fun _ c=>c.QM.all (zH g))
  (fun t=>∃ M,t=Tup M∧Run g more L M (ks++fl (zbo 1 m) s.Cells s.Cells.length))
  (fun r=>∃ M,r=.ret (false,M)) (s0:=(0,Tup M0)) (by omega) hf (by
  rintro i c _ hc ⟨M,rfl,hM⟩
  have G:=(List.getElem?_eq_some_iff.1 hc).1
  obtain⟨c1,c2,c3⟩:=a4 c (List.mem_of_getElem? hc)
  have H:=zjy (m:=m) (fun c hc=>(a4 c hc).2.1) i (by omega)
  obtain⟨Y,r1,r2⟩:=hI.cell m i s c hm hc
  have hp:=zeT hS m (by omega)
  have hr:=zen (t:=1) (m:=m) (fun c hc=>(a4 c hc).2.1) i (by omega)
  obtain⟨M',e1,e2⟩:=zuU (fu:=fu) (t:=1) (m:=m) (i:=i) (b:=(z7g (g.Qf.take m)).length+(zbp 1 m (s.Cells.take i)).length) hf hs hI hM c2 (by rw[List.length_append];omega) (by omega) (fun k hk=>by
   have k0:c.Qi≠0:=fun h0=>by
    unfold z40 at c3
    rw[if_pos h0,decide_eq_true_eq] at c3
    rw[c3.2.2.2] at hk
    exact absurd hk (Nat.not_lt_zero _)
   exact zqu hm hc k0 hk)
  have q:z2m fu ⟨M.Qq,M.Qu,M.cells,M.QK,M.ends,M.Qt⟩ g c (((z7g (g.Qf.take m)).length+(zbp 1 m (s.Cells.take i)).length:Nat):Int)=some (c.QM.all (zH g),M'):=e1
  unfold z2h
  dsimp only
  rw[if_pos (by simpa using G),za hc,bsm,hM.cells,za r1,bsm,za r2,bsm,← hM.cells,q,bsm]
  constructor
  ·intro o
   rw[o,if_neg (by simp)]
   exact⟨(w64 (i+1),Tup M'),rfl,M',by rw[zb (by omega) (by omega)];rfl,by rw[z89 hc,← List.append_assoc];exact e2 o⟩
  ·intro o
   rw[o,if_pos (by simp)]
   exact⟨_,rfl,_,rfl⟩) (by
  rintro _ ⟨M,rfl,hM⟩
  refine⟨_,?_,M,rfl,hM⟩
  unfold z2h
  rw[if_neg (by simp)]) ⟨M0,rfl,by rw[z8V,List.append_nil];exact hR⟩
 rw[z8Y (p:=fun c:Qa=>c.QM.all (zH g))] at h
 exact h
theorem zvq {M0:Qg}{ks:List Key}{s:Qp}(hf:Big fu)(hs:g.sz≤1048576)(hI:Items g more L at_)(hR:Run g more L M0 ks)(hz:s.Qs.length≤400)(O:ks.length≤500000):
  ((s.Qs.all fun r=>zH g r.A && zH g r.B)=true∧∃ t,iter (z2g fu g s) fu (0,Tup M0)=some (.inl t)∧∃ M,t=Tup M∧Run g more L M (ks++fl zr2 s.Qs s.Qs.length))∨
  ((s.Qs.all fun r=>zH g r.A && zH g r.B)=false∧∃ r,iter (z2g fu g s) fu (0,Tup M0)=some (.inr r)∧∃ M,r=.ret (false,M)):=by
 have h:=zfn (xs:=s.Qs) (body:=z2g fu g s) (fu:=fu)
  (fun i st=>∃ M:Qg,st=((i:Int),Tup M)∧Run g more L M (ks++fl zr2 s.Qs i))
  (fun _ r=>zH g r.A && zH g r.B)
  (fun t=>∃ M,t=Tup M∧Run g more L M (ks++fl zr2 s.Qs s.Qs.length))
  (fun r=>∃ M,r=.ret (false,M)) (s0:=(0,Tup M0)) (by omega) hf (by
  rintro i c _ hc ⟨M,rfl,hM⟩
  have G:=(List.getElem?_eq_some_iff.1 hc).1
  have H:=zp6 hz i (by omega)
  obtain⟨M',e1,e2⟩:=zm7 (fu:=fu) (a:=c.A) (b:=c.B) hs hI hM (by rw[List.length_append];omega)
  have q:z1e fu ⟨M.Qq,M.Qu,M.cells,M.QK,M.ends,M.Qt⟩ g c.A c.B=some (zH g c.A && zH g c.B,M'):=e1
  unfold z2g
  dsimp only
  rw[if_pos (by simpa using G),za hc,bsm,bsm,q,bsm]
  constructor
  ·intro o
   rw[o,if_neg (by simp)]
   exact⟨(w64 (i+1),Tup M'),rfl,M',by rw[zb (by omega) (by omega)];rfl,by rw[z89 hc,← List.append_assoc];exact e2 o⟩
  ·intro o
   rw[o,if_pos (by simp)]
   exact⟨_,rfl,_,rfl⟩) (by
  rintro _ ⟨M,rfl,hM⟩
  refine⟨_,?_,M,rfl,hM⟩
  unfold z2g
  rw[if_neg (by simp)]) ⟨M0,rfl,by rw[z8V,List.append_nil];exact hR⟩
 rw[z8Y (p:=fun r:Qm=>zH g r.A && zH g r.B)] at h
 exact h
theorem zv9 {M0:Qg}{ks:List Key}{m:Nat}{s:Qp}{z:LA×LF×LO×LO×LO×LO}(hf:Big fu)(hs:g.sz≤1048576)(hI:Items g more L at_)(hR:Run g more L M0 ks)(hz:s.QJ.length≤400)(O:ks.length≤500000):
  ((s.QJ.zipIdx.all fun x=>zk3 g m x.2 x.1)=true∧∃ t,iter (z2f fu g ((m:Int),z) s) fu (0,Tup M0)=some (.inl t)∧∃ M,t=Tup M∧Run g more L M (ks++fl (zeF m) s.QJ s.QJ.length))∨
  ((s.QJ.zipIdx.all fun x=>zk3 g m x.2 x.1)=false∧∃ r,iter (z2f fu g ((m:Int),z) s) fu (0,Tup M0)=some (.inr r)∧∃ M,r=.ret (false,M)):=by
 exact zfn (xs:=s.QJ) (body:=z2f fu g ((m:Int),z) s) (fu:=fu)
  (fun i st=>∃ M:Qg,st=((i:Int),Tup M)∧Run g more L M (ks++fl (zeF m) s.QJ i))
  (fun i v=>zk3 g m i v)
  (fun t=>∃ M,t=Tup M∧Run g more L M (ks++fl (zeF m) s.QJ s.QJ.length))
  (fun r=>∃ M,r=.ret (false,M)) (s0:=(0,Tup M0)) (by omega) hf (by
  rintro i c _ hc ⟨M,rfl,hM⟩
  have G:=(List.getElem?_eq_some_iff.1 hc).1
  have H:=zq5 (m:=m) i (by omega:i≤s.QJ.length)
  obtain⟨M',e1,e2⟩:=zm7 (fu:=fu) (a:=⟨(m:Int),2,(i:Int)⟩) (b:=c.QU) hs hI hM (by rw[List.length_append];omega)
  have q:z1e fu ⟨M.Qq,M.Qu,M.cells,M.QK,M.ends,M.Qt⟩ g ⟨(m:Int),2,(i:Int)⟩ c.QU=some (zH g ⟨(m:Int),2,(i:Int)⟩ && zH g c.QU,M'):=e1
  unfold z2f
  dsimp only
  rw[if_pos (by simpa using G),za hc,bsm]
  unfold zk3
  cases hF:c.Qa0 with
  | false=>
   rw[if_neg (by simp)]
   refine⟨fun _=>⟨(w64 (i+1),Tup M),?_,M,by rw[zb (by omega) (by omega)];rfl,?_⟩,fun h=>by cases h⟩
   ·unfold z5s;rfl
   ·rw[z89 hc];unfold zeF;rw[hF,if_neg (by simp),List.append_nil];exact hM
  | true=>
   rw[if_pos rfl,bsm,q,bsm]
   unfold z5s
   rw[Bool.not_true,Bool.false_or]
   constructor
   ·intro o
    rw[o]
    refine⟨(w64 (i+1),Tup M'),rfl,M',by rw[zb (by omega) (by omega)];rfl,?_⟩
    rw[z89 hc,← List.append_assoc]
    have h9:=e2 o
    unfold zeF
    rw[hF,if_pos rfl]
    have:z9S ⟨(m:Int),2,(i:Int)⟩=(2,m,i,0):=by unfold z9S;simp
    rw[this] at h9
    exact h9
   ·intro o
    rw[o]
    exact⟨_,rfl,_,rfl⟩) (by
  rintro _ ⟨M,rfl,hM⟩
  refine⟨_,?_,M,rfl,hM⟩
  unfold z2f
  rw[if_neg (by simp)]) ⟨M0,rfl,by rw[z8V,List.append_nil];exact hR⟩
theorem zna {m:Nat}{s:Qp}(hS:Small g)(hm:g.Qf[m]? = some s):(zbz m s).length≤4000:=by
 obtain⟨a1,a2,a3,a4,a5⟩:=hS.s s (List.mem_of_getElem? hm)
 unfold zbz
 rw[List.length_append,List.length_append]
 have:=zjy (m:=m) (fun c hc=>(a4 c hc).2.1) s.Cells.length (Nat.le_refl _)
 have:=zp6 a3 s.Qs.length (Nat.le_refl _)
 have:=zq5 (m:=m) s.QJ.length (Nat.le_refl _)
 omega
theorem zrD (hI:Items g more L at_):Run g more L L [] where
 Qu:=rfl
 cells:=rfl
 QK:=rfl
 ends:=by
  rw[hI.ends]
  refine⟨by simp,fun x key hx=>⟨[],?_,rfl⟩⟩
  have:=(List.getElem?_eq_some_iff.1 hx).1
  rw[List.getElem?_replicate,if_pos this]
 Qt:=by rw[hI.Qt];exact Nat.le_refl _
 Qq:=rfl
 endsX:=by
  rw[hI.ends]
  intro x key hx
  have:=(List.getElem?_eq_some_iff.1 hx).1
  rw[List.getElem?_replicate,if_pos this]
  rfl
 pairsX:=by
  rw[hI.Qt]
  exact⟨rfl,fun i hi=>absurd hi (Nat.not_lt_zero _)⟩
theorem zxw (hf:Big fu)(hs:g.sz≤1048576)(hS:Small g)(hI:Items g more L at_):
  ∃ L',za7 fu g L=some (zfy g,L')∧(zfy g=true→Run g more L L' (z7x g)):=by
 have hn:=hS.n
 unfold za7 zfy
 rw[zdx hs,bsm]
 cases hr:zH g g.QO with
 | false=>exact⟨L,rfl,fun h=>by cases h⟩
 | true=>
  obtain⟨x,x1,x2⟩:=zgb (fu:=fu) (L':=L) hI rfl rfl hr
  obtain⟨M0,e1,e2⟩:=zfP (fu:=fu) (x:=0) (k1:=(0,0,0,0)) (zrD hI) (by unfold zfF z7g;rfl) x2 (Nat.zero_le _)
  rw[if_neg (by simp),x1,bsm]
  have X:zN fu L 0 (x:Int)=some M0:=e1
  rw[X,bsm,Bool.true_and]
  have h:=zfn (xs:=g.Qf) (body:=z42 fu g) (fu:=fu)
   (fun m st=>∃ M:Qg,st=((m:Int),Tup M)∧Run g more L M (zhz g++fl zbz g.Qf m))
   (fun m s=>ziC g m s)
   (fun t=>∃ M,t=Tup M∧Run g more L M (z7x g))
   (fun r=>∃ M,r=(false,M)) (s0:=(0,Tup M0)) (by omega) hf (by
   rintro m s _ hm ⟨M,rfl,hM⟩
   have Y:=(List.getElem?_eq_some_iff.1 hm).1
   obtain⟨a1,a2,a3,a4,a5⟩:=hS.s s (List.mem_of_getElem? hm)
   have a0:=z8p (f:=zbz) (xs:=g.Qf) (b:=4000) (fun j c hc=>zna hS hc) m (by omega)
   have o:(zhz g++fl zbz g.Qf m).length≤100000:=by rw[List.length_append];unfold zhz;simp only[List.length_cons,List.length_nil];omega
   have Z:=zjy (m:=m) (fun c hc=>(a4 c hc).2.1) s.Cells.length (Nat.le_refl _)
   have b0:=zp6 a3 s.Qs.length (Nat.le_refl _)
   unfold z42
   dsimp only
   rw[if_pos (by simpa using Y),za hm,bsm]
   unfold ziC
   rcases zuO (z:=Tup M) hf hs hS hI hM hm (by omega) with⟨c1,t,c2,M1,rfl,c3⟩ | ⟨c1,r,c2,M1,rfl⟩
   ·have q:iter (z2h fu g ((m:Int),M.Qq,M.Qu,M.cells,M.QK,M.ends,M.Qt) s) fu (0,M.Qq,M.Qu,M.cells,M.QK,M.ends,M.Qt)=_:=c2
    rw[c1,Bool.true_and,q,bsm,z8]
    unfold zbt
    dsimp only
    rcases zvq (s:=s) hf hs hI c3 a3 (by rw[List.length_append];omega) with⟨d1,t,d2,M2,rfl,d3⟩ | ⟨d1,r,d2,M2,rfl⟩
    ·have G:iter (z2g fu g s) fu (0,M1.Qq,M1.Qu,M1.cells,M1.QK,M1.ends,M1.Qt)=_:=d2
     rw[d1,Bool.true_and,G,bsm,z8]
     unfold zbs
     dsimp only
     rcases zv9 (m:=m) (s:=s) (z:=Tup M) hf hs hI d3 a2 (by rw[List.length_append,List.length_append];omega) with⟨f1,t,f2,M3,rfl,f3⟩ | ⟨f1,r,f2,M3,rfl⟩
     ·have H:iter (z2f fu g ((m:Int),M.Qq,M.Qu,M.cells,M.QK,M.ends,M.Qt) s) fu (0,M2.Qq,M2.Qu,M2.cells,M2.QK,M2.ends,M2.Qt)=_:=f2
      rw[f1,H,bsm,z8]
      refine⟨fun _=>⟨(w64 (m+1),Tup M3),rfl,M3,by rw[zb (by omega) (by omega)];rfl,?_⟩,fun h=>by cases h⟩
      rw[z89 hm]
      unfold zbz
      simp only[List.append_assoc] at f3 ⊢
      exact f3
     ·have H:iter (z2f fu g ((m:Int),M.Qq,M.Qu,M.cells,M.QK,M.ends,M.Qt) s) fu (0,M2.Qq,M2.Qu,M2.cells,M2.QK,M2.ends,M2.Qt)=_:=f2
      rw[f1,H,bsm]
      exact⟨fun h=>(by cases h),fun _=>⟨_,rfl,_,rfl⟩⟩
    ·have G:iter (z2g fu g s) fu (0,M1.Qq,M1.Qu,M1.cells,M1.QK,M1.ends,M1.Qt)=_:=d2
     rw[d1,G,bsm]
     exact⟨fun h=>(by cases h),fun _=>⟨_,rfl,_,rfl⟩⟩
   ·have q:iter (z2h fu g ((m:Int),M.Qq,M.Qu,M.cells,M.QK,M.ends,M.Qt) s) fu (0,M.Qq,M.Qu,M.cells,M.QK,M.ends,M.Qt)=_:=c2
    rw[c1,q,bsm]
    exact⟨fun h=>(by cases h),fun _=>⟨_,rfl,_,rfl⟩⟩) (by
   rintro _ ⟨M,rfl,hM⟩
   refine⟨_,?_,M,rfl,hM⟩
   unfold z42
   rw[if_neg (by simp)]) ⟨M0,rfl,by rw[z8V,List.append_nil];exact e2⟩
  rcases h with⟨h1,t,h2,M,rfl,h3⟩ | ⟨h1,r,h2,M,rfl⟩
  ·have O:iter (z42 fu g) fu (0,M0.Qq,M0.Qu,M0.cells,M0.QK,M0.ends,M0.Qt)=_:=h2
   rw[O,bsm,z8,h1]
   exact⟨M,rfl,fun _=>h3⟩
  ·have O:iter (z42 fu g) fu (0,M0.Qq,M0.Qu,M0.cells,M0.QK,M0.ends,M0.Qt)=_:=h2
   rw[O,bsm,h1]
   exact⟨M,rfl,fun h=>by cases h⟩
def zwZ (S:List Key)(m:Nat)(s:Qp):Bool:=s.QJ.zipIdx.all fun y=>!y.1.QZ || decide (S.count (2,m,y.2,0)=2)
def zfC (g:D.Qk)(more:LB)(S:List Key):Bool:=((z7g g.Qf++zbp 3 0 more).all fun k=>decide (S.count k=1)) && g.Qf.zipIdx.all fun x=>zwZ S x.2 x.1
theorem zry {M:Qg}{S:List Key}(hf:Big fu)(hs:g.sz≤1048576)(hI:Items g more L at_)(hR:Run g more L M S)(hp:L.Qu.length≤1048576):z5q fu g M=some (zfC g more S):=by
 have hm:maxLen=9223372036854775807:=rfl
 obtain⟨z1,z2⟩:=zgW hs
 have o:M.Qu.length=(z7g g.Qf++zbp 3 0 more).length:=by rw[hR.Qu];exact hI.Qu
 unfold z5q
 have hP:=z9F (xs:=z7g g.Qf++zbp 3 0 more) (body:=z4U fu M) (p:=fun _ k=>decide (S.count k=1)) (t:=()) (v:=false) (fu:=fu) (by rw[← o,hR.Qu];omega) hf (fun i k hi hx=>by
  obtain⟨e,e1,e2⟩:=hR.ends.2 i k (by unfold zfF;rw[List.getElem?_append_left hi];exact hx)
  unfold z4U
  rw[if_pos (by simp only[decide_eq_true_eq];omega),za e1,bsm,e2]
  by_cases h:S.count k=1
  ·rw[if_neg (by simp[h]),if_pos (dct h)]
  ·rw[if_pos (by simp only[bne_iff_ne,ne_eq];omega),if_neg (by simpa using h)]) (by unfold z4U;rw[← o,if_neg (by simp)])
 rw[z8Y (p:=fun k=>decide (S.count k=1))] at hP
 rw[hP,bsm]
 unfold zfC
 cases ((z7g g.Qf++zbp 3 0 more).all fun k=>decide (S.count k=1)) with
 | false=>rfl
 | true=>
  rw[if_pos rfl,z8,Bool.true_and]
  unfold z9z
  have hG:=z9F (xs:=g.Qf) (body:=z4T fu g M) (p:=fun m s=>zwZ S m s) (t:=()) (v:=false) (fu:=fu) (by omega) hf (fun m s hi hx=>by
   obtain⟨y1,y2,y3,y4⟩:=zeS (z2 s (List.mem_of_getElem? hx))
   unfold z4T
   rw[if_pos (by simpa using hi)]
   have hV:=z9F (xs:=s.QJ) (body:=z4S fu g M (m:Int)) (p:=fun i v=>!v.QZ || decide (S.count (2,m,i,0)=2)) (t:=()) (v:=Rd.ret false) (fu:=fu) (by omega) hf (fun i v hj hv=>by
    obtain⟨q,r1,r2⟩:=hI.var m i s hx hj
    obtain⟨e,e1,e2⟩:=hR.ends.2 _ _ (zuY hx hj)
    unfold z4S
    rw[za hx,bsm,if_pos (by simpa using hj),bsm,za hv,bsm]
    unfold z4R
    cases v.QZ with
    | false=>rfl
    | true=>
     rw[if_pos rfl,hR.QK,za r1,bsm,za r2,bsm,za e1,bsm,e2]
     by_cases h:S.count (2,m,i,0)=2
     ·rw[if_neg (by simp[h]),if_pos (by simp[h])]
     ·rw[if_pos (by simp only[bne_iff_ne,ne_eq];omega),if_neg (by simpa using h)]) (by unfold z4S;rw[za hx,bsm,if_neg (by simp)])
   rw[hV,bsm]
   unfold zwZ
   cases (s.QJ.zipIdx.all fun y=>!y.1.QZ || decide (S.count (2,m,y.2,0)=2))<;>rfl) (by unfold z4T;rw[if_neg (by simp)])
  rw[hG,bsm]
  cases (g.Qf.zipIdx.all fun x=>zwZ S x.2 x.1)<;>rfl
end
end Go.E



namespace Go.E
open Go.RowKit Go.Proofs

variable {fu:Nat}
def thA (a:Qb):QH:=⟨a,0,false⟩
def zrM (m i k:Nat)(a:Qb):LC:=[⟨⟨⟨(m:Int),1,(i:Int)⟩,(k:Int)+1,true⟩,thA a⟩]
def zoB (_:Nat)(r:Qm):LC:=[⟨thA r.A,thA r.B⟩]
def zfc (m i:Nat)(v:Qn):LC:=if v.Qa0=true then [⟨thA ⟨(m:Int),2,(i:Int)⟩,thA v.QU⟩] else []
def zdw (m i:Nat)(c:Qa):LC:=fl (zrM m i) c.QM c.QM.length
def zb6 (m:Nat)(s:Qp):LC:=fl (zdw m) s.Cells s.Cells.length++(fl zoB s.Qs s.Qs.length++fl (zfc m) s.QJ s.QJ.length)
def zjY (g:D.Qk):LC:=[⟨⟨noneN,0,true⟩,thA g.QO⟩]
def zcm (g:D.Qk):LC:=zjY g++fl zb6 g.Qf g.Qf.length

theorem zbw {α S τ ρ β:Type}{xs:List α}{body:S→Option (Rd S τ ρ)}{mk:Int→List β→S}{out:List β→τ}(f:Nat→α→List β){s0:List β}{fu:Nat}(hl:xs.length≤1048576)(hf:Big fu)
  (step:∀ (i:Nat) x,xs[i]? = some x→body (mk i (s0++fl f xs i))=some (.next (mk (w64 (i+1)) (s0++fl f xs i++f i x))))
  (q:body (mk xs.length (s0++fl f xs xs.length))=some (.brk (out (s0++fl f xs xs.length)))):
  iter body fu (mk 0 s0)=some (.inl (out (s0++fl f xs xs.length))):=by
 obtain⟨o,h1,h2⟩:=zf (body:=body) (fun k s=>s=mk k (s0++fl f xs k)) xs.length (fun o=>o=.inl (out (s0++fl f xs xs.length))) (by
  rintro k s hk rfl
  obtain⟨x,hx⟩:=z1j hk
  refine .inl ⟨_,step k x hx,?_⟩
  rw[zb (by omega) (by omega),z89 hx,List.append_assoc]
  rfl) (by
  rintro s rfl
  exact .inr ⟨_,q,rfl⟩) (fu:=fu) (i:=0) (s:=mk 0 s0) (Nat.zero_le _) (by omega) (by rw[z8V,List.append_nil];rfl)
 rw[h1,h2]
theorem zwW {m i:Nat}{aux:LD}(hf:Big fu)(hl:aux.length≤3):z1z fu ⟨(m:Int),1,(i:Int)⟩ aux=some (fl (zrM m i) aux aux.length):=by
 unfold z1z
 have h:=zbw (xs:=aux) (body:=z12 fu ⟨(m:Int),1,(i:Int)⟩ aux) (mk:=fun k s=>(s,k)) (out:=fun s=>s) (zrM m i) (s0:=[]) (by omega) hf (fun k a ha=>by
  have q:=(List.getElem?_eq_some_iff.1 ha).1
  have o:=z8p (f:=zrM m i) (xs:=aux) (b:=1) (fun _ _ _=>by simp[zrM]) k (by omega)
  rw[List.nil_append]
  generalize fl (zrM m i) aux k=s at o ⊢
  unfold z12 z47
  dsimp only
  have hw:w64 ((k:Int)+1)=(k:Int)+1:=zb (by omega) (by omega)
  rw[if_pos (by simpa using q),za ha,bsm,hw,if_pos (dct (by omega)),bsm,if_pos (by simp;omega)]
  rfl) (by
  unfold z12
  rw[if_neg (by simp)])
 rw[h,bsm,z8]
 rfl
theorem zmH {m i:Nat}{c:Qa}(h:c.QM.length≤3):(zdw m i c).length≤3:=by
 have:=z8p (f:=zrM m i) (xs:=c.QM) (b:=1) (fun _ _ _=>by simp[zrM]) c.QM.length (Nat.le_refl _)
 unfold zdw
 omega
theorem ziA {g:D.Qk}{m:Nat}{s:Qp}(hS:Small g)(hm:g.Qf[m]? = some s):(zb6 m s).length≤2000:=by
 obtain⟨a1,a2,a3,a4,a5⟩:=hS.s s (List.mem_of_getElem? hm)
 unfold zb6
 rw[List.length_append,List.length_append]
 have:=z8p (f:=zdw m) (xs:=s.Cells) (b:=3) (fun j c hc=>zmH (a4 c (List.mem_of_getElem? hc)).2.1) s.Cells.length (Nat.le_refl _)
 have:=z8p (f:=zoB) (xs:=s.Qs) (b:=1) (fun j c hc=>by simp[zoB]) s.Qs.length (Nat.le_refl _)
 have:=z8p (f:=zfc m) (xs:=s.QJ) (b:=1) (fun j c hc=>by unfold zfc;split<;>simp) s.QJ.length (Nat.le_refl _)
 omega
theorem zfd {g:D.Qk}(hf:Big fu)(hS:Small g):z1X fu g=some (zcm g):=by
 have hn:=hS.n
 unfold z1X z47
 rw[if_neg (by simp),bsm]
 have h:=zbw (xs:=g.Qf) (body:=z15 fu g) (mk:=fun k s=>(k,s)) (out:=fun s=>s) zb6 (s0:=zjY g) (fu:=fu) (by omega) hf (fun m s hm=>by
  obtain⟨a1,a2,a3,a4,a5⟩:=hS.s s (List.mem_of_getElem? hm)
  have c0:=(List.getElem?_eq_some_iff.1 hm).1
  have Z:=z8p (f:=zb6) (xs:=g.Qf) (b:=2000) (fun j c hc=>ziA hS hc) m (by omega)
  have G:(zjY g++fl zb6 g.Qf m).length≤100000:=by rw[List.length_append];unfold zjY;simp only[List.length_cons,List.length_nil];omega
  generalize zjY g++fl zb6 g.Qf m=s0 at G ⊢
  unfold z15
  dsimp only
  rw[if_pos (by simpa using c0),za hm,bsm]
  have h1:=zbw (xs:=s.Cells) (body:=z28 fu ((m:Int),s0) s) (mk:=fun k s=>(k,s)) (out:=fun s=>s) (zdw m) (s0:=s0) (fu:=fu) (by omega) hf (fun i c hc=>by
   have Y:=(List.getElem?_eq_some_iff.1 hc).1
   have c2:=(a4 c (List.mem_of_getElem? hc)).2.1
   have Z:=z8p (f:=zdw m) (xs:=s.Cells) (b:=3) (fun j c hc=>zmH (a4 c (List.mem_of_getElem? hc)).2.1) i (by omega)
   have b0:=zmH (m:=m) (i:=i) c2
   have o:(s0++fl (zdw m) s.Cells i).length≤200000:=by rw[List.length_append];omega
   generalize s0++fl (zdw m) s.Cells i=s1 at o ⊢
   unfold z28 z1W
   dsimp only
   rw[if_pos (by simpa using Y),za hc,bsm,bsm,zwW hf c2,bsm,if_pos (by unfold zdw at b0;simp only[decide_eq_true_eq];omega)]
   rfl) (by
   unfold z28
   rw[if_neg (by simp)])
  try dsimp only at h1
  rw[h1,bsm,z8]
  have O:=z8p (f:=zdw m) (xs:=s.Cells) (b:=3) (fun j c hc=>zmH (a4 c (List.mem_of_getElem? hc)).2.1) s.Cells.length (Nat.le_refl _)
  have o:(s0++fl (zdw m) s.Cells s.Cells.length).length≤200000:=by rw[List.length_append];omega
  unfold zb6
  rw[← List.append_assoc,← List.append_assoc]
  generalize s0++fl (zdw m) s.Cells s.Cells.length=s1 at o ⊢
  unfold z6f
  try dsimp only
  have h2:=zbw (xs:=s.Qs) (body:=z27 fu s) (mk:=fun k s=>(k,s)) (out:=fun s=>s) zoB (s0:=s1) (fu:=fu) (by omega) hf (fun i c hc=>by
   have Y:=(List.getElem?_eq_some_iff.1 hc).1
   have Z:=z8p (f:=zoB) (xs:=s.Qs) (b:=1) (fun j c hc=>by simp[zoB]) i (by omega)
   have q:(s1++fl zoB s.Qs i).length≤300000:=by rw[List.length_append];omega
   generalize s1++fl zoB s.Qs i=s2 at q ⊢
   unfold z27
   dsimp only
   rw[if_pos (by simpa using Y),za hc,bsm,if_pos (by simp;omega)]
   rfl) (by
   unfold z27
   rw[if_neg (by simp)])
  try dsimp only at h2
  rw[h2,bsm,z8]
  have X:=z8p (f:=zoB) (xs:=s.Qs) (b:=1) (fun j c hc=>by simp[zoB]) s.Qs.length (Nat.le_refl _)
  have q:(s1++fl zoB s.Qs s.Qs.length).length≤300000:=by rw[List.length_append];omega
  generalize s1++fl zoB s.Qs s.Qs.length=s2 at q ⊢
  unfold z6e
  have h3:=zbw (xs:=s.QJ) (body:=z26 fu ((m:Int),s0) s) (mk:=fun k s=>(k,s)) (out:=fun s=>s) (zfc m) (s0:=s2) (fu:=fu) (by omega) hf (fun i c hc=>by
   have Y:=(List.getElem?_eq_some_iff.1 hc).1
   have Z:=z8p (f:=zfc m) (xs:=s.QJ) (b:=1) (fun j c hc=>by unfold zfc;split<;>simp) i (by omega)
   have H:(s2++fl (zfc m) s.QJ i).length≤400000:=by rw[List.length_append];omega
   generalize s2++fl (zfc m) s.QJ i=s3 at H ⊢
   unfold z26 z4z zfc z24
   dsimp only
   rw[if_pos (by simpa using Y),za hc,bsm]
   cases c.Qa0 with
   | false=>rw[if_neg (by simp),if_neg (by simp),List.append_nil]
   | true=>
    rw[if_pos rfl,if_pos rfl,bsm,if_pos (by simp;omega)]
    rfl) (by
   unfold z26
   rw[if_neg (by simp)])
  try dsimp only at h3
  rw[h3,bsm,z8]
  rfl) (by
  unfold z15
  rw[if_neg (by simp)])
 have h':iter (z15 fu g) fu (0,[⟨⟨⟨0,0,0⟩,0,true⟩,⟨⟨g.QO.Qj,g.QO.Qi,g.QO.Qo⟩,0,false⟩⟩])=some (.inl (zcm g)):=h
 have a0:iter (z15 fu g) fu (0,[⟨⟨⟨0,0,0⟩,0,(0:Int) != 1⟩,⟨⟨g.QO.Qj,g.QO.Qi,g.QO.Qo⟩,0,false⟩⟩])=some (.inl (zcm g)):=h'
 rw[a0,bsm,z8]
 rfl


def zk0 (t:QH):LD:=if t.own=true then [] else [t.at_]
def zfh (st:D.Qc):LD:=zk0 st.a++zk0 st.b
def zb9 (T:LC):LD:=fl (fun _ st=>zfh st) T T.length
def Cnt (M:List (Qb×Int))(N:LD):Prop:=∀ a,(mget M a).getD 0=(N.count a:Nat)
theorem zxt {M:List (Qb×Int)}{N:LD}{a:Qb}(h:Cnt M N)(hN:N.length≤1000000):Cnt (mput M a (w64 ((mget M a).getD 0+1))) (N++[a]):=by
 intro b
 have hl:=List.count_le_length (a:=a) (l:=N)
 rw[h a,zb (by omega) (by omega),zdh,List.count_append,List.count_singleton]
 by_cases hab:a=b
 ·subst hab;simp
 ·rw[if_neg hab,h b]
  simp[hab]
theorem zsB {st:D.Qc}{M:List (Qb×Int)}{N:LD}(hf:Big fu)(h:Cnt M N)(hN:N.length≤900000):
  ∃ M',iter (z1Z fu st) fu (0,M)=some (.inl M')∧Cnt M' (N++zfh st):=by
 have G:∃ n,fu=n+3:=⟨fu - 3,by omega⟩
 have key:∀ (i:Nat) (x:QH) (M:List (Qb×Int)) (N:LD),i<2→[st.a,st.b][i]? = some x→Cnt M N→N.length≤1000000→∃ M',z1Z fu st ((i:Int),M)=some (.next (w64 (i+1),M'))∧Cnt M' (N++zk0 x):=by
  intro i x M N hi hx hC hN
  unfold z1Z
  dsimp only
  rw[if_pos (by simp;omega),za hx,bsm]
  unfold zk0 zao z8N
  cases x.own with
  | true=>exact⟨M,by rw[if_neg (by simp)],by rw[if_pos rfl,List.append_nil];exact hC⟩
  | false=>exact⟨_,by rw[if_pos (by simp)],by rw[if_neg (by simp)];exact zxt hC hN⟩
 obtain⟨M1,e1,c1⟩:=key 0 st.a M N (by omega) rfl h (by omega)
 have H:(zk0 st.a).length≤1:=by unfold zk0;split<;>simp
 obtain⟨M2,e2,c2⟩:=key 1 st.b M1 (N++zk0 st.a) (by omega) rfl c1 (by rw[List.length_append];omega)
 have e3:z1Z fu st (2,M2)=some (.brk M2):=by unfold z1Z;rw[if_neg (by simp)]
 have w1:w64 (((0:Nat):Int)+1)=1:=by rw[zb (by omega) (by omega)];rfl
 have w2:w64 (((1:Nat):Int)+1)=2:=by rw[zb (by omega) (by omega)];rfl
 rw[w1] at e1
 rw[w2] at e2
 refine⟨M2,?_,by unfold zfh;rw[← List.append_assoc];exact c2⟩
 have o:z1Z fu st (0,M)=some (.next (1,M1)):=e1
 have q:z1Z fu st (1,M1)=some (.next (2,M2)):=e2
 generalize hb:z1Z fu st=B at *
 obtain⟨n,rfl⟩:=G
 simp only[iter,o,q,e3]
theorem zsz {st:D.Qc}:(zfh st).length≤2:=by
 unfold zfh zk0
 rw[List.length_append]
 split<;>split<;>simp
theorem zsA {T:LC}(hf:Big fu)(hT:T.length≤400000):∃ M,zbh fu T=some M∧Cnt M (zb9 T):=by
 unfold zbh
 obtain⟨o,h1,M,rfl,h2⟩:=zf (body:=z8O fu T) (fun i s=>∃ M,s=((i:Int),M)∧Cnt M (fl (fun _ st=>zfh st) T i)) T.length (fun o=>∃ M,o=.inl M∧Cnt M (zb9 T)) (by
  rintro i _ hi ⟨M,rfl,hM⟩
  obtain⟨st,q⟩:=z1j hi
  have G:=z8p (f:=fun _ st=>zfh st) (xs:=T) (b:=2) (fun _ _ _=>zsz) i (by omega)
  obtain⟨M',e1,e2⟩:=zsB (fu:=fu) (st:=st) hf hM (by omega)
  refine .inl ⟨(w64 (i+1),M'),?_,M',by rw[zb (by omega) (by omega)];rfl,by rw[z89 q];exact e2⟩
  unfold z8O
  dsimp only
  rw[if_pos (by simpa using hi),za q,bsm,e1,bsm,z8]
  rfl) (by
  rintro _ ⟨M,rfl,hM⟩
  refine .inr ⟨M,?_,M,rfl,hM⟩
  unfold z8O
  rw[if_neg (by simp)]) (fu:=fu) (i:=0) (s:=(0,[])) (Nat.zero_le _) (by omega) ⟨[],rfl,fun a=>by rw[z8V];rfl⟩
 rw[h1,bsm,z8]
 exact⟨M,rfl,h2⟩
def zrK (g:D.Qk)(t:QH):Bool:=t.own || zH g t.at_
def okT (g:D.Qk)(st:D.Qc):Bool:=zrK g st.a && zrK g st.b
def ziB (N:LD)(m:Nat)(s:Qp):Bool:=(s.Cells.zipIdx.all fun y=>decide (y.1.Qi=0) || decide (N.count ⟨(m:Int),1,(y.2:Int)⟩=1)) && s.QJ.zipIdx.all fun y=>!y.1.QZ || decide (N.count ⟨(m:Int),2,(y.2:Int)⟩=2)
def zsR (g:D.Qk)(T:LC):Bool:=T.all (okT g) && g.Qf.zipIdx.all fun x=>ziB (zb9 T) x.2 x.1
theorem zsc {g:D.Qk}{T:LC}(hf:Big fu)(hs:g.sz≤1048576)(hT:T.length≤400000):z3b fu g T=some (zsR g T):=by
 have hm:maxLen=9223372036854775807:=rfl
 obtain⟨z1,z2⟩:=zgW hs
 unfold z3b zsR
 have h1:=z9F (xs:=T) (body:=z2e fu g T) (p:=fun _ st=>okT g st) (t:=()) (v:=false) (fu:=fu) (by omega) hf (fun i st hi hx=>by
  unfold z2e
  rw[if_pos (by simpa using hi),za hx,bsm]
  have j7:∀ b,zw fu (i:Int) b=if b=true then some (.ret false) else some (.next (w64 (i+1))):=fun b=>by unfold zw;rfl
  simp only[zre,bsm,j7]
  unfold okT zrK
  cases st.a.own<;>cases st.b.own<;>cases zH g st.a.at_<;>cases zH g st.b.at_<;>rfl) (by unfold z2e;rw[if_neg (by simp)])
 rw[z8Y (p:=okT g)] at h1
 rw[h1,bsm]
 cases T.all (okT g) with
 | false=>rfl
 | true=>
  rw[if_pos rfl,z8,Bool.true_and]
  unfold z6h
  obtain⟨M,e1,hC⟩:=zsA (T:=T) hf hT
  rw[e1,bsm]
  have h2:=z9F (xs:=g.Qf) (body:=z2d fu g M) (p:=fun m s=>ziB (zb9 T) m s) (t:=()) (v:=false) (fu:=fu) (by omega) hf (fun m s hi hx=>by
   obtain⟨y1,y2,y3,y4⟩:=zeS (z2 s (List.mem_of_getElem? hx))
   unfold z2d
   rw[if_pos (by simpa using hi),za hx,bsm]
   have o:=z9F (xs:=s.Cells) (body:=z2c fu M (m:Int) s) (p:=fun i c=>decide (c.Qi=0) || decide ((zb9 T).count ⟨(m:Int),1,(i:Int)⟩=1)) (t:=()) (v:=Rd.ret false) (fu:=fu) (by omega) hf (fun i c hj hc=>by
    unfold z2c z1W z29
    rw[if_pos (by simpa using hj),za hc,bsm,bsm,hC]
    by_cases k0:c.Qi=0
    ·simp[k0]
    ·by_cases h:(zb9 T).count ⟨(m:Int),1,(i:Int)⟩=1
     ·simp[k0,h]
     ·have h9:¬ (((zb9 T).count ⟨(m:Int),1,(i:Int)⟩:Nat):Int)=1:=by omega
      simp[k0,h,h9]) (by unfold z2c;rw[if_neg (by simp)])
   have q:=z9F (xs:=s.QJ) (body:=z2b fu M (m:Int) s) (p:=fun i v=>!v.QZ || decide ((zb9 T).count ⟨(m:Int),2,(i:Int)⟩=2)) (t:=()) (v:=Rd.ret false) (fu:=fu) (by omega) hf (fun i c hj hc=>by
    unfold z2b z4z z2a
    rw[if_pos (by simpa using hj),za hc,bsm,bsm,hC]
    cases c.QZ with
    | false=>rfl
    | true=>
     by_cases h:(zb9 T).count ⟨(m:Int),2,(i:Int)⟩=2
     ·simp[h]
     ·have h9:¬ (((zb9 T).count ⟨(m:Int),2,(i:Int)⟩:Nat):Int)=2:=by omega
      simp[h,h9]) (by unfold z2b;rw[if_neg (by simp)])
   rw[o,bsm]
   unfold ziB
   cases (s.Cells.zipIdx.all fun y=>decide (y.1.Qi=0) || decide ((zb9 T).count ⟨(m:Int),1,(y.2:Int)⟩=1)) with
   | false=>rfl
   | true=>
    rw[if_pos rfl,z8,Bool.true_and]
    unfold z6g
    rw[q,bsm]
    cases (s.QJ.zipIdx.all fun y=>!y.1.QZ || decide ((zb9 T).count ⟨(m:Int),2,(y.2:Int)⟩=2))<;>rfl) (by unfold z2d;rw[if_neg (by simp)])
  rw[h2,bsm]
  cases (g.Qf.zipIdx.all fun x=>ziB (zb9 T) x.2 x.1)<;>rfl
end Go.E




