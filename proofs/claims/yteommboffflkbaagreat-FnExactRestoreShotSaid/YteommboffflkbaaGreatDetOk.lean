/- Grids: both sides' tests are the same. Conditions: none. -/
import Derived.Test.YteommboffflkbaaGreatGridImpl
import Derived.Test.YteommboffflkbaaGreatRounds
import Derived.Test.YteommboffflkbaaGreatMixedS
import Derived.Test.YteommboffflkbaaGreatSizesW
namespace Go.E
open Go.RowKit Go.Proofs
set_option linter.unusedSimpArgs false
set_option linter.unusedVariables false

theorem zaW {α β:Type}{f:Nat→α→List β}{xs:List α}{p:β→Bool}:(fl f xs xs.length).all p=xs.zipIdx.all fun x=>(f x.2 x.1).all p:=by
 unfold fl
 rw [List.take_length,List.all_flatMap]
theorem zcW {α β γ:Type}{f:Nat→α→List β}{xs:List α}{h:β→List γ}{n:Nat}:(fl f xs n).flatMap h=fl (fun i x=>(f i x).flatMap h) xs n:=by
 unfold fl
 rw [List.flatMap_assoc]
theorem zjT {α γ:Type}{h:α→List γ}:∀ {xs:List α}{k:Nat},((xs.zipIdx k).flatMap fun x=>h x.1)=xs.flatMap h
 | [],_=>rfl
 | x::xs,k=>by rw [List.zipIdx_cons,List.flatMap_cons,List.flatMap_cons,zjT]
theorem zh7 {T:List D.Qd}:namesK T=T.flatMap namesT:=by
 unfold namesK fl
 rw [List.take_length]
 exact zjT
theorem zfh {α β:Type}{f f':Nat→α→List β}{xs:List α}{n:Nat}(h:∀ i x,f i x=f' i x):fl f xs n=fl f' xs n:=by
 have:f=f':=funext fun i=>funext fun x=>h i x
 rw [this]


theorem zqe {g:D.Qi}{m i:Nat}{c:D.Qb}:(cellT m i c).all (okT g)=c.QX.all (aliveN g):=by
 unfold cellT
 rw [zaW,← z7d (p:=aliveN g)]
 congr 1
 funext x
 simp [auxT,okT,okTh,thA]
theorem zqc {g:D.Qi}{m i:Nat}{v:D.Qn}:(fullT m i v).all (okT g)=fullA g m i v:=by
 unfold fullT fullA
 cases v.Qa1<;>simp [okT,okTh,thA]
theorem zpp {g:D.Qi}{m:Nat}{s:D.Qp}:(shardT m s).all (okT g)=shardA g m s:=by
 unfold shardT shardA
 rw [List.all_append,List.all_append,zaW,zaW,zaW]
 simp only [zqe,zqc]
 rw [z7d (p:=fun c:D.Qb=>c.QX.all (aliveN g))]
 congr 2
 rw [← z7d (p:=fun r:D.Qk=>aliveN g r.A && aliveN g r.B)]
 congr 1
 funext x
 simp [redT,okT,okTh,thA]
theorem zmD {g:D.Qi}:(gridT g).all (okT g)=gridA g:=by
 unfold gridT gridA rootT
 rw [List.all_append,zaW]
 simp only [zpp]
 simp [okT,okTh,thA]


def kT (t:D.QO):Key:=if t.own=true then(if t.at_.Qj=1 then(1,t.at_.Qg.toNat,t.at_.Qs.toNat,t.slot.toNat) else(0,0,0,0)) else keyA t.at_
def keysT (st:D.Qd):List Key:=[kT st.a,kT st.b]
def formH (t:D.QO):Bool:=!t.own || (decide (t.at_.Qj≠1) || decide (0<t.slot))
def formT (st:D.Qd):Bool:=formH st.a && formH st.b
theorem zmR {m i:Nat}{c:D.Qb}:(cellT m i c).flatMap keysT=cellS 1 m i c:=by
 unfold cellT cellS
 rw [zcW]
 refine zfh fun k a=>?_
 unfold auxT auxK keysT kT thA
 simp
theorem zmQ {m i:Nat}{v:D.Qn}:(fullT m i v).flatMap keysT=fullK m i v:=by
 unfold fullT fullK
 cases v.Qa1 with
 | false=>rfl
 | true=>simp [keysT,kT,thA,keyA]
theorem zkX {m:Nat}{s:D.Qp}:(shardT m s).flatMap keysT=shardS m s:=by
 unfold shardT shardS
 rw [List.flatMap_append,List.flatMap_append,zcW,zcW,zcW,zfh (fun i c=>zmR (m:=m) (i:=i) (c:=c)),zfh (fun i c=>zmQ (m:=m) (i:=i) (v:=c))]
 congr 2
theorem zmP {g:D.Qi}:(gridT g).flatMap keysT=gridS g:=by
 unfold gridT gridS
 rw [List.flatMap_append,zcW,zfh (fun i c=>zkX (m:=i) (s:=c))]
 rfl
theorem zmU {g:D.Qi}:(gridT g).all formT=true:=by
 unfold gridT rootT
 rw [List.all_append,zaW]
 have hc:∀ m i c,(cellT m i c).all formT=true:=fun m i c=>by
  unfold cellT
  rw [zaW,List.all_eq_true]
  intro x _
  simp [auxT,formT,formH,thA]
 have hs:∀ m s,(shardT m s).all formT=true:=fun m s=>by
  unfold shardT
  rw [List.all_append,List.all_append,zaW,zaW,zaW]
  rw [Bool.and_eq_true,Bool.and_eq_true,List.all_eq_true,List.all_eq_true,List.all_eq_true]
  refine⟨fun x _=>hc _ _ _,fun x _=>by simp [redT,formT,formH,thA],fun x _=>?_⟩
  unfold fullT
  split<;>simp [formT,formH,thA]
 rw [Bool.and_eq_true]
 exact⟨by simp [formT,formH,thA,noneN],List.all_eq_true.2 fun x _=>hs _ _⟩
theorem zq1 {g:D.Qi}{t:D.QO}{K:Nat}(hK:K=1∨K=2) (h:okTh g t=true) (hf:formH t=true) (m i:Nat):[kT t].count (K,m,i,0)=(nameT t).count ⟨(m:Int),(K:Int),(i:Int)⟩:=by
 unfold okTh at h
 unfold formH at hf
 unfold nameT kT
 cases ho:t.own with
 | true=>
  rw [ho] at hf
  rw [if_pos rfl,if_pos rfl,List.count_singleton]
  by_cases k1:t.at_.Qj=1
  ·rw [if_pos k1]
   have h2:0<t.slot:=by simpa [k1] using hf
   rw [if_neg]
   ·rfl
   ·intro he
    simp only [beq_iff_eq,Prod.mk.injEq] at he
    omega
  ·rw [if_neg k1,if_neg]
   ·rfl
   ·intro he
    simp only [beq_iff_eq,Prod.mk.injEq] at he
    omega
 | false=>
  rw [ho,Bool.false_or] at h
  obtain⟨h1,h2,s,_,h3⟩:=zgr h
  have hk:t.at_.Qj=1∨t.at_.Qj=2:=by
   rcases h3 with⟨h3,_⟩ | ⟨h3,_⟩
   ·exact .inl h3
   ·exact .inr h3
  rw [if_neg (by simp),if_neg (by simp),List.count_singleton,List.count_singleton]
  generalize t.at_=a at *
  obtain⟨a1,a2,a3⟩:=a
  dsimp only at *
  unfold keyA
  dsimp only
  have e:(((if a2=1 then(1,a1.toNat,a3.toNat,0) else(2,a1.toNat,a3.toNat,0)):Key) == (K,m,i,0))=((⟨a1,a2,a3⟩:D.Qf) == ⟨(m:Int),(K:Int),(i:Int)⟩):=by
   rw [Bool.eq_iff_iff,beq_iff_eq,beq_iff_eq,D.Qf.mk.injEq]
   constructor
   ·intro he
    split at he
    ·simp only [Prod.mk.injEq] at he
     omega
    ·simp only [Prod.mk.injEq] at he
     omega
   ·rintro⟨e1,e2,e3⟩
    split
    ·obtain rfl:K=1:=by omega
     simp [e1,e3]
    ·obtain rfl:K=2:=by omega
     simp [e1,e3]
  rw [e]
theorem zgh {g:D.Qi}{K:Nat}(hK:K=1∨K=2) (m i:Nat):∀ {T:List D.Qd},T.all (okT g)=true→T.all formT=true→(T.flatMap keysT).count (K,m,i,0)=(T.flatMap namesT).count ⟨(m:Int),(K:Int),(i:Int)⟩
 | [],_,_=>rfl
 | st::T,h1,h2=>by
  rw [List.all_cons,Bool.and_eq_true] at h1 h2
  unfold okT at h1
  unfold formT at h2
  rw [Bool.and_eq_true] at h1 h2
  have a:=zq1 hK h1.1.1 h2.1.1 m i
  have b:=zq1 hK h1.1.2 h2.1.2 m i
  rw [List.flatMap_cons,List.flatMap_cons,List.count_append,List.count_append,zgh hK m i h1.2 h2.2]
  congr 1
  unfold keysT namesT
  rw [show [kT st.a,kT st.b]=[kT st.a]++[kT st.b] from rfl,List.count_append,List.count_append,a,b]


theorem z7c {α β:Type}[BEq β] [LawfulBEq β] {f:Nat→α→List β}{xs:List α}{y:β}(h:∀ (i:Nat) x,xs[i]? = some x→(f i x).count y=0):∀ n,n≤xs.length→(fl f xs n).count y=0
 | 0,_=>by rw [zaE];rfl
 | n+1,hn=>by
  obtain⟨x,hx⟩:=z5i (xs:=xs) (i:=n) (by omega)
  rw [zad hx,List.count_append,z7c h n (by omega),h n x hx]
theorem ziv {α β:Type}[BEq β] [LawfulBEq β] {f:Nat→α→List β}{xs:List α}{y:β}{j:Nat}{a:α}(ha:xs[j]? = some a) (h:∀ (i:Nat) x,i≠j→xs[i]? = some x→(f i x).count y=0):∀ n,n≤xs.length→(fl f xs n).count y=if j<n then(f j a).count y else 0
 | 0,_=>by rw [zaE];rfl
 | n+1,hn=>by
  obtain⟨x,hx⟩:=z5i (xs:=xs) (i:=n) (by omega)
  rw [zad hx,List.count_append,ziv ha h n (by omega)]
  by_cases hj:n=j
  ·subst hj
   rw [ha] at hx
   cases hx
   rw [if_neg (Nat.lt_irrefl _),if_pos (Nat.lt_succ_self _),Nat.zero_add]
  ·rw [h n x hj hx,Nat.add_zero]
   by_cases hl:j<n
   ·rw [if_pos hl,if_pos (by omega)]
   ·rw [if_neg hl,if_neg (by omega)]
theorem zgq {m i k:Nat}{a:D.Qf}{X:Key}(hX:∀ a,keyA a≠X):(auxK 1 m i k a).count X=if(1,m,i,k+1)=X then 1 else 0:=by
 unfold auxK
 rw [show [((1,m,i,k+1):Key),keyA a]=[(1,m,i,k+1)]++[keyA a] from rfl,List.count_append,List.count_singleton,List.count_singleton,if_neg (c:=(keyA a == X)=true) (by simpa using hX a)]
 simp
theorem zhw {i:Nat}{r:D.Qk}{X:Key}(hX:∀ a,keyA a≠X):(redK i r).count X=0:=by
 unfold redK
 rw [List.count_eq_zero]
 simp only [List.mem_cons,List.not_mem_nil,or_false]
 rintro(h | h)<;>exact hX _ h.symm
theorem zff {m i:Nat}{v:D.Qn}{X:Key}(hX:∀ a,keyA a≠X) (h2:(2,m,i,0)≠X):(fullK m i v).count X=0:=by
 unfold fullK
 split
 ·rw [List.count_eq_zero]
  simp only [List.mem_cons,List.not_mem_nil,or_false]
  rintro(h | h)
  ·exact h2 h.symm
  ·exact hX _ h.symm
 ·rfl
theorem zmS {a:D.Qf}:(keyA a).1≠0:=by unfold keyA;split<;>simp
theorem zk1 {a:D.Qf}:(keyA a).2.2.2=0:=by unfold keyA;split<;>rfl
theorem zp7 {g:D.Qi}:(gridS g).count (0,0,0,0)=1:=by
 have hX:∀ a,keyA a≠(0,0,0,0):=fun a h=>zmS (a:=a) (by rw [h])
 unfold gridS rootS
 rw [List.count_append,z7c (fun m s _=>?_) _ (Nat.le_refl _)]
 ·rw [show [((0,0,0,0):Key),keyA g.Qy]=[(0,0,0,0)]++[keyA g.Qy] from rfl,List.count_append,List.count_singleton,List.count_singleton,if_neg (c:=(keyA g.Qy == (0,0,0,0))=true) (by simpa using hX g.Qy)]
  rfl
 ·unfold shardS
  rw [List.count_append,List.count_append,z7c (fun i c _=>?_) _ (Nat.le_refl _),z7c (fun i c _=>zhw hX) _ (Nat.le_refl _),z7c (fun i c _=>zff hX (by simp)) _ (Nat.le_refl _)]
  unfold cellS
  exact z7c (fun k a _=>by rw [zgq hX,if_neg (by simp)]) _ (Nat.le_refl _)
theorem zpa {g:D.Qi}{m i k:Nat}{s:D.Qp}{c:D.Qb}(hm:g.Qc[m]? = some s) (hc:s.Cells[i]? = some c) (hk:k<c.QX.length):(gridS g).count (1,m,i,k+1)=1:=by
 have hX:∀ a,keyA a≠(1,m,i,k+1):=fun a h=>by
  have:=zk1 (a:=a)
  rw [h] at this
  exact absurd this (Nat.succ_ne_zero k)
 have hml:=(List.getElem?_eq_some_iff.1 hm).1
 have hil:=(List.getElem?_eq_some_iff.1 hc).1
 obtain⟨a,ha⟩:=z5i hk
 have h0:(rootS g).count (1,m,i,k+1)=0:=by
  unfold rootS
  rw [List.count_eq_zero]
  simp only [List.mem_cons,List.not_mem_nil,or_false]
  rintro(h | h)
  ·simp at h
  ·exact hX _ h.symm
 unfold gridS
 rw [List.count_append,h0,Nat.zero_add,ziv hm (fun m' s' hne _=>?_) _ (Nat.le_refl _),if_pos hml]
 ·unfold shardS
  rw [List.count_append,List.count_append,z7c (f:=redK) (fun i c _=>zhw hX) _ (Nat.le_refl _),z7c (f:=fullK m) (fun i c _=>zff hX (by simp)) _ (Nat.le_refl _),ziv hc (fun i' c' hne _=>?_) _ (Nat.le_refl _),if_pos hil]
  ·unfold cellS
   rw [ziv ha (fun k' a' hne _=>?_) _ (Nat.le_refl _),if_pos hk,zgq hX,if_pos rfl]
   rw [zgq hX,if_neg (by simp only [Prod.mk.injEq];omega)]
  ·unfold cellS
   exact z7c (fun k' a' _=>by rw [zgq hX,if_neg (by simp only [Prod.mk.injEq];omega)]) _ (Nat.le_refl _)
 ·unfold shardS
  rw [List.count_append,List.count_append,z7c (f:=redK) (fun i c _=>zhw hX) _ (Nat.le_refl _),z7c (f:=fullK m') (fun i c _=>zff hX (by simp)) _ (Nat.le_refl _),z7c (fun i' c' _=>?_) _ (Nat.le_refl _)]
  unfold cellS
  exact z7c (fun k' a' _=>by rw [zgq hX,if_neg (by simp only [Prod.mk.injEq];omega)]) _ (Nat.le_refl _)
theorem zij {ss:List D.Qp}{k:Key}:k∈portK ss↔k=(0,0,0,0)∨∃ (m:Nat) (s:D.Qp) (i:Nat) (c:D.Qb) (j:Nat),ss[m]? = some s∧s.Cells[i]? = some c∧c.Qj≠0∧j≤c.QX.length∧k=(1,m,i,j):=by
 unfold portK
 rw [List.mem_cons,List.mem_flatMap]
 constructor
 ·rintro(h | ⟨⟨s,m⟩,h1,h2⟩)
  ·exact .inl h
  ·rw [List.mem_zipIdx_iff_getElem?] at h1
   unfold rowK at h2
   obtain⟨⟨c,i⟩,h3,h4⟩:=List.mem_flatMap.1 h2
   rw [List.mem_zipIdx_iff_getElem?] at h3
   dsimp only at h1 h3 h4
   unfold cellK at h4
   split at h4
   ·cases h4
   ·rename_i k0
    obtain⟨j,h5,rfl⟩:=List.mem_map.1 h4
    have:=List.mem_range.1 h5
    exact .inr ⟨m,s,i,c,j,h1,h3,k0,by omega,rfl⟩
 ·rintro(h | ⟨m,s,i,c,j,h1,h2,h3,h4,rfl⟩)
  ·exact .inl h
  ·refine .inr ⟨(s,m),by rw [List.mem_zipIdx_iff_getElem?];exact h1,List.mem_flatMap.2 ⟨(c,i),by rw [List.mem_zipIdx_iff_getElem?];exact h2,?_⟩⟩
   dsimp only
   unfold cellK
   rw [if_neg h3]
   exact List.mem_map.2 ⟨j,List.mem_range.2 (by omega),rfl⟩
theorem zpw {g:D.Qi}{N:List D.Qf}:(g.Qc.zipIdx.all fun x=>shardC N x.2 x.1)=true↔∀ (m:Nat) s,g.Qc[m]? = some s→(∀ (i:Nat) c,s.Cells[i]? = some c→c.Qj=0∨N.count ⟨(m:Int),1,(i:Int)⟩=1)∧∀ (i:Nat) v,s.QG[i]? = some v→v.Qa0=false∨N.count ⟨(m:Int),2,(i:Int)⟩=2:=by
 rw [z87 (p:=fun m s=>shardC N m s)]
 refine forall_congr' fun m=>forall_congr' fun s=>?_
 rw [Nat.zero_add]
 refine imp_congr_right fun hm=>?_
 unfold shardC
 rw [Bool.and_eq_true,z87 (p:=fun i (c:D.Qb)=>decide (c.Qj=0) || decide (N.count ⟨(m:Int),1,(i:Int)⟩=1)),z87 (p:=fun i (v:D.Qn)=>!v.Qa0 || decide (N.count ⟨(m:Int),2,(i:Int)⟩=2))]
 simp only [Nat.zero_add,Bool.or_eq_true,decide_eq_true_eq,Bool.not_eq_true']
end Go.E


namespace Go.E
open Go.RowKit Go.Proofs
set_option linter.unusedSimpArgs false
set_option linter.unusedVariables false

def cellsOf:List D.Qe→List D.Qb
 | []=>[]
 | p::ps=>if p.Qj=3 then p.Qz::cellsOf ps else cellsOf ps
def stepC (p:D.Qe):Nat:=if p.Qj=3 then 1 else 0

def parK (j:Nat) (p:D.Qe):List Key:=if p.Qj=1∨p.Qj=2 then [keyA p.A,keyA p.B] else if p.Qj=3 then cellS 3 0 j p.Qz++[(3,0,j,0),keyA p.B] else []
def parS:Nat→List D.Qe→List Key
 | _,[]=>[]
 | j,p::ps=>parK j p++parS (j+stepC p) ps
def parA (g:D.Qi) (p:D.Qe):Bool:=if p.Qj=1∨p.Qj=2 then aliveN g p.A && aliveN g p.B else if p.Qj=3 then p.Qz.QX.all (aliveN g) && aliveN g p.B else true
def auxTA (at_:D.Qf) (k:Nat) (a:D.Qf):List D.Qd:=[⟨⟨at_,(k:Int)+1,true⟩,thA a⟩]
def parT (ch i:Nat) (p:D.Qe):List D.Qd:=if p.Qj=1∨p.Qj=2 then [⟨thA p.A,thA p.B⟩] else if p.Qj=3 then fl (auxTA ⟨(ch:Int),3,(i:Int)⟩) p.Qz.QX p.Qz.QX.length++[⟨⟨⟨(ch:Int),3,(i:Int)⟩,0,true⟩,thA p.B⟩] else []
def chanT (ch:Nat) (ps:List D.Qe):List D.Qd:=fl (parT ch) ps ps.length
def chansT (cs:List (List D.Qe)):List D.Qd:=fl chanT cs cs.length

theorem z7T {p:D.Qe}{ps:List D.Qe}:cellsOf (p::ps)=if p.Qj=3 then p.Qz::cellsOf ps else cellsOf ps:=rfl
theorem zbZ {p:D.Qe}{ps:List D.Qe}{j:Nat}:parS j (p::ps)=parK j p++parS (j+stepC p) ps:=rfl
theorem z9q:∀ {ps qs:List D.Qe},cellsOf (ps++qs)=cellsOf ps++cellsOf qs
 | [],_=>rfl
 | p::ps,qs=>by
  rw [List.cons_append,z7T,z7T,z9q]
  split<;>rfl
theorem zdw:∀ {ps qs:List D.Qe}{j:Nat},parS j (ps++qs)=parS j ps++parS (j+(cellsOf ps).length) qs
 | [],_,_=>rfl
 | p::ps,qs,j=>by
  rw [List.cons_append,zbZ,zbZ,zdw,List.append_assoc,z7T]
  congr 3
  unfold stepC
  split
  ·rw [List.length_cons];omega
  ·omega
theorem zpc {p:D.Qe}{j:Nat}:parS j [p]=parK j p:=by simp [parS]
theorem zfZ {a:D.Qf}:(keyA a).1≠3:=by unfold keyA;split<;>simp
theorem zq6 {p:D.Qe}{j:Nat}(h:p.Qj=3→p.Qz.QX.length≤3):(parK j p).length≤8:=by
 unfold parK
 split
 ·simp
 ·split
  ·rename_i h3
   have:=zhP (t:=3) (m:=0) (i:=j) (h h3)
   rw [List.length_append]
   simp only [List.length_cons,List.length_nil]
   omega
  ·simp
theorem zms:∀ {ps:List D.Qe}{j:Nat},(∀ p,p∈ps→p.Qj=3→p.Qz.QX.length≤3)→(parS j ps).length≤8*ps.length
 | [],_,_=>by simp [parS]
 | p::ps,j,h=>by
  have h1:=zq6 (j:=j) (h p (by simp))
  have h2:=zms (ps:=ps) (j:=j+stepC p) fun q hq=>h q (by simp [hq])
  rw [zbZ,List.length_append,List.length_cons]
  omega


theorem zqt {g:D.Qi}{ch i:Nat}{p:D.Qe}:(parT ch i p).all (okT g)=parA g p:=by
 unfold parT parA
 split
 ·simp [okT,okTh,thA]
 ·split
  ·rw [List.all_append,zaW,← z7d (p:=aliveN g)]
   congr 1
   ·congr 1
    funext x
    simp [auxTA,okT,okTh,thA]
   ·simp [okT,okTh,thA]
  ·rfl
theorem zqd {g:D.Qi}{ch:Nat}{ps:List D.Qe}:(chanT ch ps).all (okT g)=ps.all (parA g):=by
 unfold chanT
 rw [zaW,← z7d (p:=parA g)]
 congr 1
 funext x
 exact zqt
theorem zjZ {g:D.Qi}{cs:List (List D.Qe)}:(chansT cs).all (okT g)=cs.flatten.all (parA g):=by
 unfold chansT
 rw [zaW,List.all_flatten,← z7d (p:=fun ps:List D.Qe=>ps.all (parA g))]
 congr 1
 funext x
 exact zqd
theorem zpy {ch i:Nat}{p:D.Qe}:(parT ch i p).all formT=true:=by
 unfold parT
 split
 ·simp [formT,formH,thA]
 ·split
  ·rw [List.all_append,zaW,Bool.and_eq_true,List.all_eq_true]
   exact⟨fun x _=>by simp [auxTA,formT,formH,thA],by simp [formT,formH,thA]⟩
  ·rfl
theorem zkZ {cs:List (List D.Qe)}:(chansT cs).all formT=true:=by
 unfold chansT
 rw [zaW,List.all_eq_true]
 intro x _
 unfold chanT
 rw [zaW,List.all_eq_true]
 intro y _
 exact zpy


theorem zk3 {α β γ:Type}[BEq β] [BEq γ] {f:Nat→α→List β}{h:Nat→α→List γ}{xs:List α}{y:β}{z:γ}(e:∀ i x,(f i x).count y=(h i x).count z):∀ n,n≤xs.length→(fl f xs n).count y=(fl h xs n).count z
 | 0,_=>by rw [zaE,zaE];rfl
 | n+1,hn=>by
  obtain⟨x,hx⟩:=z5i (xs:=xs) (i:=n) (by omega)
  rw [zad hx,zad hx,List.count_append,List.count_append,zk3 e n (by omega),e n x]
theorem zfe {x:Key}{K m n:Nat}(h:x.1≠K):([x]:List Key).count (K,m,n,0)=0:=by
 rw [List.count_eq_zero,List.mem_singleton]
 intro e
 rw [← e] at h
 exact h rfl
theorem zpb {ch i j K m n:Nat}{p:D.Qe}(hK:K=1∨K=2):((parT ch i p).flatMap keysT).count (K,m,n,0)=(parK j p).count (K,m,n,0):=by
 unfold parT parK
 split
 ·rfl
 ·split
  ·rw [List.flatMap_append,zcW,List.count_append,List.count_append]
   congr 1
   ·unfold cellS
    refine zk3 (fun k a=>?_) _ (Nat.le_refl _)
    have h1:((auxTA ⟨(ch:Int),3,(i:Int)⟩ k a).flatMap keysT)=[(0,0,0,0)]++[keyA a]:=by simp [auxTA,keysT,kT,thA]
    have h2:auxK 3 0 j k a=[(3,0,j,k+1)]++[keyA a]:=rfl
    rw [h1,h2,List.count_append,List.count_append,zfe (x:=(0,0,0,0)) (by dsimp only;omega),zfe (x:=(3,0,j,k+1)) (by dsimp only;omega)]
   ·have h1:([⟨⟨⟨(ch:Int),3,(i:Int)⟩,0,true⟩,thA p.B⟩]:List D.Qd).flatMap keysT=[(0,0,0,0)]++[keyA p.B]:=by simp [keysT,kT,thA]
    have h2:([(3,0,j,0),keyA p.B]:List Key)=[(3,0,j,0)]++[keyA p.B]:=rfl
    rw [h1,h2,List.count_append,List.count_append,zfe (x:=(0,0,0,0)) (by dsimp only;omega),zfe (x:=(3,0,j,0)) (by dsimp only;omega)]
  ·rfl
theorem zjf {ch K m n:Nat}(hK:K=1∨K=2):∀ {ps:List D.Qe}{j i:Nat},((ps.zipIdx i).flatMap fun x=>(parT ch x.2 x.1).flatMap keysT).count (K,m,n,0)=(parS j ps).count (K,m,n,0)
 | [],_,_=>rfl
 | p::ps,j,i=>by
  rw [List.zipIdx_cons,List.flatMap_cons,List.count_append,zjf (ps:=ps) (j:=j+stepC p) hK,zpb (j:=j) hK]
  rw [zbZ,List.count_append]
theorem zhh {K m n:Nat}(hK:K=1∨K=2):∀ {cs:List (List D.Qe)}{j i:Nat},((cs.zipIdx i).flatMap fun x=>(chanT x.2 x.1).flatMap keysT).count (K,m,n,0)=(parS j cs.flatten).count (K,m,n,0)
 | [],_,_=>rfl
 | ps::cs,j,i=>by
  rw [List.zipIdx_cons,List.flatMap_cons,List.count_append,zhh (cs:=cs) (j:=j+(cellsOf ps).length) hK,List.flatten_cons,zdw,List.count_append]
  congr 1
  unfold chanT
  rw [zcW]
  unfold fl
  rw [List.take_length]
  exact zjf hK
theorem zku {K m n:Nat}{cs:List (List D.Qe)}(hK:K=1∨K=2):((chansT cs).flatMap keysT).count (K,m,n,0)=(parS 0 cs.flatten).count (K,m,n,0):=by
 unfold chansT
 rw [zcW]
 unfold fl
 rw [List.take_length]
 exact zhh hK


theorem zeo {t m i k:Nat}{a:D.Qf}{X:Key}(hX:∀ a,keyA a≠X):(auxK t m i k a).count X=if(t,m,i,k+1)=X then 1 else 0:=by
 unfold auxK
 rw [show [((t,m,i,k+1):Key),keyA a]=[(t,m,i,k+1)]++[keyA a] from rfl,List.count_append,List.count_singleton,List.count_singleton,if_neg (c:=(keyA a == X)=true) (by simpa using hX a)]
 simp
theorem zkY {g:D.Qi}{X:Key}(h3:X.1=3):(gridS g).count X=0:=by
 have hX:∀ a,keyA a≠X:=fun a h=>zfZ (a:=a) (by rw [h];exact h3)
 have hr:(rootS g).count X=0:=by
  unfold rootS
  rw [List.count_eq_zero]
  simp only [List.mem_cons,List.not_mem_nil,or_false]
  rintro(h | h)
  ·rw [h] at h3;simp at h3
  ·exact hX _ h.symm
 unfold gridS
 rw [List.count_append,hr,z7c (fun m s _=>?_) _ (Nat.le_refl _)]
 unfold shardS
 rw [List.count_append,List.count_append,z7c (fun i c _=>?_) _ (Nat.le_refl _),z7c (fun i c _=>zhw hX) _ (Nat.le_refl _),z7c (fun i c _=>zff hX (fun h=>by rw [← h] at h3;simp at h3)) _ (Nat.le_refl _)]
 unfold cellS
 exact z7c (fun k a _=>by rw [zeo hX,if_neg (fun h=>by rw [← h] at h3;simp at h3)]) _ (Nat.le_refl _)
theorem zim {p:D.Qe}{j:Nat}{X:Key}(hX:∀ a,keyA a≠X) (h:X.1=3→X.2.2.1≠j):(parK j p).count X=0:=by
 have pair:∀ k:Key,k≠X→∀ a,([k,keyA a]:List Key).count X=0:=fun k hk a=>by
  rw [List.count_eq_zero]
  simp only [List.mem_cons,List.not_mem_nil,or_false]
  rintro(h | h)
  ·exact hk h.symm
  ·exact hX _ h.symm
 unfold parK
 split
 ·exact pair _ (hX _) _
 ·split
  ·rw [List.count_append,pair _ (fun e=>by rw [← e] at h;exact h rfl rfl)]
   unfold cellS
   rw [z7c (fun k a _=>?_) _ (Nat.le_refl _)]
   rw [zeo hX,if_neg (fun e=>by rw [← e] at h;exact h rfl rfl)]
  ·rfl
theorem ze5 {X:Key}(hX:∀ a,keyA a≠X):∀ {ps:List D.Qe}{j:Nat},(X.1=3→X.2.2.1<j)→(parS j ps).count X=0
 | [],_,_=>rfl
 | p::ps,j,h=>by
  rw [zbZ,List.count_append,zim hX (fun h3=>Nat.ne_of_lt (h h3)),ze5 hX fun h3=>Nat.lt_of_lt_of_le (h h3) (Nat.le_add_right _ _)]
theorem zpd {p:D.Qe}{j s:Nat}(h3:p.Qj=3) (hs:s≤p.Qz.QX.length):(parK j p).count (3,0,j,s)=1:=by
 have hX:∀ a,keyA a≠(3,0,j,s):=fun a h=>zfZ (a:=a) (by rw [h])
 unfold parK
 rw [if_neg (by omega),if_pos h3,List.count_append,show([(3,0,j,0),keyA p.B]:List Key)=[(3,0,j,0)]++[keyA p.B] from rfl,List.count_append,List.count_singleton,List.count_singleton,if_neg (c:=(keyA p.B == (3,0,j,s))=true) (by simpa using hX p.B)]
 unfold cellS
 cases s with
 | zero=>
  rw [z7c (fun k a _=>by rw [zeo hX,if_neg (by simp)]) _ (Nat.le_refl _),if_pos (by simp)]
 | succ s=>
  obtain⟨a,ha⟩:=z5i (xs:=p.Qz.QX) (i:=s) (by omega)
  rw [ziv ha (fun k' a' hne _=>?_) _ (Nat.le_refl _),if_pos (by omega),zeo hX,if_pos rfl,if_neg (by simp)]
  rw [zeo hX,if_neg (by simp only [Prod.mk.injEq];omega)]
theorem zhy:∀ {ps:List D.Qe}{j t s:Nat}{c:D.Qb},(cellsOf ps)[t]? = some c→s≤c.QX.length→(parS j ps).count (3,0,j+t,s)=1
 | [],_,_,_,_,h,_=>by simp [cellsOf] at h
 | p::ps,j,t,s,c,h,hs=>by
  have hX:∀ a,keyA a≠(3,0,j+t,s):=fun a h=>zfZ (a:=a) (by rw [h])
  rw [zbZ,List.count_append]
  rw [z7T] at h
  by_cases h3:p.Qj=3
  ·rw [if_pos h3] at h
   have hst:stepC p=1:=by unfold stepC;rw [if_pos h3]
   rw [hst]
   cases t with
   | zero=>
    rw [List.getElem?_cons_zero,Option.some.injEq] at h
    subst h
    rw [Nat.add_zero] at hX ⊢
    rw [zpd h3 hs,ze5 hX (fun _=>Nat.lt_succ_self j)]
   | succ t=>
    rw [List.getElem?_cons_succ] at h
    rw [zim hX (fun _=>by simp),show j+(t+1)=(j+1)+t by omega,zhy h hs]
  ·rw [if_neg h3] at h
   have hst:stepC p=0:=by unfold stepC;rw [if_neg h3]
   have hk:(parK j p).count (3,0,j+t,s)=0:=by
    unfold parK
    split
    ·rw [List.count_eq_zero]
     simp only [List.mem_cons,List.not_mem_nil,or_false]
     rintro(h | h)<;>exact hX _ h.symm
    ·rfl
   rw [hst,hk,Nat.add_zero,Nat.zero_add,zhy h hs]
theorem zp6 {cs:List D.Qb}{k:Key}:k∈rowK 3 0 cs↔∃ (i:Nat) (c:D.Qb) (j:Nat),cs[i]? = some c∧c.Qj≠0∧j≤c.QX.length∧k=(3,0,i,j):=by
 unfold rowK
 rw [List.mem_flatMap]
 constructor
 ·rintro⟨⟨c,i⟩,h3,h4⟩
  rw [List.mem_zipIdx_iff_getElem?] at h3
  dsimp only at h3 h4
  unfold cellK at h4
  split at h4
  ·cases h4
  ·rename_i k0
   obtain⟨j,h5,rfl⟩:=List.mem_map.1 h4
   have:=List.mem_range.1 h5
   exact⟨i,c,j,h3,k0,by omega,rfl⟩
 ·rintro⟨i,c,j,h2,h3,h4,rfl⟩
  refine⟨(c,i),by rw [List.mem_zipIdx_iff_getElem?];exact h2,?_⟩
  dsimp only
  unfold cellK
  rw [if_neg h3]
  exact List.mem_map.2 ⟨j,List.mem_range.2 (by omega),rfl⟩
theorem zjH {g:D.Qi}{P:List D.Qe}:countsN g (cellsOf P) (gridS g++parS 0 P)=true↔∀ (m:Nat) s,g.Qc[m]? = some s→(∀ (i:Nat) c,s.Cells[i]? = some c→c.Qj=0∨(gridS g++parS 0 P).count (1,m,i,0)=1)∧∀ (i:Nat) v,s.QG[i]? = some v→v.Qa0=false∨(gridS g++parS 0 P).count (2,m,i,0)=2:=by
 unfold countsN
 rw [Bool.and_eq_true,List.all_eq_true,z87 (p:=fun m s=>varC (gridS g++parS 0 P) m s)]
 constructor
 ·rintro⟨h1,h2⟩ m s hm
  refine⟨fun i c hc=>?_,fun i v hv=>?_⟩
  ·by_cases k0:c.Qj=0
   ·exact .inl k0
   ·have:=h1 (1,m,i,0) (List.mem_append.2 (.inl (zij.2 (.inr ⟨m,s,i,c,0,hm,hc,k0,Nat.zero_le _,rfl⟩))))
    exact .inr (by simpa only [decide_eq_true_eq] using this)
  ·have h3:=h2 m s hm
   unfold varC at h3
   rw [Nat.zero_add] at h3
   have h4:=(z87 (p:=fun i (v:D.Qn)=>!v.Qa0 || decide ((gridS g++parS 0 P).count (2,m,i,0)=2))).1 h3 i v hv
   rw [Nat.zero_add] at h4
   cases hu:v.Qa0 with
   | false=>exact .inl rfl
   | true=>rw [hu,Bool.not_true,Bool.false_or,decide_eq_true_eq] at h4;exact .inr h4
 ·intro h
  refine⟨fun k hk=>?_,fun m s hm=>?_⟩
  ·rcases List.mem_append.1 hk with hk | hk
   ·rcases zij.1 hk with rfl | ⟨m,s,i,c,j,h1,h2,h3,h4,rfl⟩
    ·refine dct ?_
     rw [List.count_append,zp7,ze5 (fun a h=>zmS (a:=a) (by rw [h])) (fun h=>by simp at h)]
    ·cases j with
     | zero=>exact dct (((h m s h1).1 i c h2).resolve_left h3)
     | succ j=>
      refine dct ?_
      rw [List.count_append,zpa h1 h2 (by omega),ze5 (fun a h=>by have:=zk1 (a:=a);rw [h] at this;exact absurd this (Nat.succ_ne_zero j)) (fun h=>by simp at h)]
   ·obtain⟨i,c,j,h2,h3,h4,rfl⟩:=zp6.1 hk
    refine dct ?_
    have:=zhy (j:=0) h2 h4
    rw [Nat.zero_add] at this
    rw [List.count_append,zkY rfl,this]
  ·unfold varC
   refine(z87 (p:=fun i (v:D.Qn)=>!v.Qa0 || decide ((gridS g++parS 0 P).count (2,0+m,i,0)=2))).2 fun i v hv=>?_
   rw [Nat.zero_add,Nat.zero_add]
   rcases (h m s hm).2 i v hv with h1 | h1
   ·rw [h1];rfl
   ·rw [dct h1,Bool.or_true]
theorem zoH {g:D.Qi}{cs:List (List D.Qe)}:(gridA g && (cs.flatten.all (parA g) && countsN g (cellsOf cs.flatten) (gridS g++parS 0 cs.flatten)))=implN g (gridT g++chansT cs):=by
 unfold implN
 rw [List.all_append,zmD,zjZ]
 cases hA:gridA g with
 | false=>rfl
 | true=>
  cases hB:cs.flatten.all (parA g) with
  | false=>rfl
  | true=>
   simp only [Bool.true_and]
   rw [Bool.eq_iff_iff,zjH,zpw]
   have hk:(gridT g++chansT cs).all (okT g)=true:=by rw [List.all_append,zmD,zjZ,hA,hB];rfl
   have hfo:(gridT g++chansT cs).all formT=true:=by rw [List.all_append,zmU,zkZ];rfl
   have hc:=fun m i=>zgh (g:=g) (K:=1) (.inl rfl) m i hk hfo
   have hv:=fun m i=>zgh (g:=g) (K:=2) (.inr rfl) m i hk hfo
   simp only [List.flatMap_append,List.count_append,zmP] at hc hv
   have ec:∀ m i,(gridS g++parS 0 cs.flatten).count (1,m,i,0)=(namesK (gridT g++chansT cs)).count ⟨(m:Int),1,(i:Int)⟩:=fun m i=>by
    rw [zh7,List.flatMap_append,List.count_append,List.count_append,← zku (.inl rfl)]
    exact hc m i
   have ev:∀ m i,(gridS g++parS 0 cs.flatten).count (2,m,i,0)=(namesK (gridT g++chansT cs)).count ⟨(m:Int),2,(i:Int)⟩:=fun m i=>by
    rw [zh7,List.flatMap_append,List.count_append,List.count_append,← zku (.inr rfl)]
    exact hv m i
   refine forall_congr' fun m=>forall_congr' fun s=>?_
   refine imp_congr_right fun hm=>and_congr (forall_congr' fun i=>forall_congr' fun c=>?_) (forall_congr' fun i=>forall_congr' fun c=>?_)
   ·rw [ec m i]
   ·rw [ev m i]
end Go.E


namespace Go.E
open Go.RowKit Go.Proofs
set_option linter.unusedSimpArgs false
set_option linter.unusedVariables false


def numN (xs:List Int) (k:Nat):Bool:=decide (xs.length=k) && xs.all fun x=>decide (0≤x∧x≤1000000000)
def emptyN (c:D.Qb):Bool:=decide (c.Qj=0∧c.QL=0∧c.Value=0∧c.Data=[]∧c.QX=[])
def parcelN (to:Int) (p:D.Qe):Bool:=
 if p.Qj=1 then emptyN p.Qz && decide (p.A.Qg=to) else
 if p.Qj=2 then emptyN p.Qz && decide (p.A.Qg=to∧p.A.Qj=2) else
 if p.Qj=3 then(decide (p.Qz.Qj≠0) && shCellN p.Qz) && (decide (p.A=noneN) && decide (p.B.Qg=to)) else
 if p.Qj=4 then emptyN p.Qz && (decide (p.A=noneN) && decide (p.B=noneN)) else false
def listN (k i:Nat) (ch:List D.Qe):Bool:=decide (ch.length≤200) && ch.all (parcelN ((i % k:Nat):Int))
def diagN (k i:Nat) (ch:List D.Qe):Bool:=decide (i / k≠i % k) || decide (ch=[])
def chansN (k:Nat) (cs:List (List D.Qe)):Bool:=(cs.zipIdx.all fun x=>diagN k x.2 x.1) && cs.zipIdx.all fun x=>listN k x.2 x.1
def clusPN (c:D.Qa):Bool:=piecesN c.Qi && (decide (c.Qh.length=c.Qi.Qc.length*c.Qi.Qc.length∧c.Qo.length=c.Qi.Qc.length) && (numN c.QU c.Qi.Qc.length && (numN c.QZ c.Qi.Qc.length && ((c.Qo.all fun x=>numN x 7) && chansN c.Qi.Qc.length c.Qh))))

theorem zdH {c:D.Qa}(h:c.sz≤1048576):c.Qi.sz≤1048576∧c.Qh.length≤1048576∧(∀ ch,ch∈c.Qh→ch.length≤1048576∧∀ p,p∈ch→p.Qz.sz≤1048576)∧c.Qo.length≤1048576∧(∀ x,x∈c.Qo→x.length≤1048576)∧c.QU.length≤1048576∧c.QZ.length≤1048576:=by
 unfold D.Qa.sz at h
 have h1:szL (fun x=>szL D.Qe.sz x) c.Qh≤1048576:=by first | omega | (simp only [] at h;omega)
 have h2:szL (fun x:List Int=>x.length) c.Qo≤1048576:=by first | omega | (simp only [] at h;omega)
 refine⟨by omega,z2C h1,fun ch hc=>?_,z2C h2,fun x hx=>z2G h2 hx,by omega,by omega⟩
 have h3:=z2G h1 hc
 refine⟨z2C h3,fun p hp=>?_⟩
 have h4:=z2G h3 hp
 unfold D.Qe.sz at h4
 omega
theorem zbA {fu k:Nat}{xs:List Int}(hf:Big fu) (hl:xs.length≤1048576):z1T fu xs (k:Int)=some (numN xs k):=by
 have hm:maxLen=9223372036854775807:=rfl
 unfold z1T numN
 by_cases h:xs.length=k
 ·subst h
  rw [if_neg (by simp)]
  have h1:=allLoop (xs:=xs) (body:=z4j fu xs (xs.length:Int)) (p:=fun _ x=>decide (0≤x∧x≤1000000000)) (t:=()) (v:=false) (fu:=fu) (by omega) hf (fun i x hi hx=>by
   unfold z4j
   rw [if_pos (by simpa using hi),zd hx,bsm,z9e,bsm]
   cases decide (0≤x∧x≤1000000000)<;>rfl) (by unfold z4j;rw [if_neg (by simp)])
  rw [z7d (p:=fun x:Int=>decide (0≤x∧x≤1000000000))] at h1
  rw [h1,bsm]
  cases xs.all fun x=>decide (0≤x∧x≤1000000000)<;>simp [aft,z8G]
 ·rw [if_pos (by simp;omega),decide_eq_false h];rfl
theorem zmj {fu:Nat}{xs ys:List Int}(hf:Big fu) (hl:xs.length≤maxLen):z8R fu xs ys=some (decide (xs=ys)):=by
 unfold z8R
 exact eqWhole hl hf rfl (fun i a b hi ha hb=>by
  unfold z8A
  rw [if_pos (by simpa using hi),zd ha,bsm,zd hb,bsm]
  by_cases h:a=b<;>simp [h]) (by unfold z8A;rw [if_neg (by simp)])
theorem zkP {fu:Nat}{xs ys:List D.Qf}(hf:Big fu) (hl:xs.length≤maxLen):z2K fu xs ys=some (decide (xs=ys)):=by
 unfold z2K
 exact eqWhole hl hf rfl (fun i a b hi ha hb=>by
  unfold z37
  rw [if_pos (by simpa using hi),zd ha,bsm,zd hb,bsm,zgs]
  by_cases h:a=b<;>simp [h]) (by unfold z37;rw [if_neg (by simp)])
theorem zm0 {fu:Nat}{c:D.Qb}(hf:Big fu) (hs:c.sz≤1048576):z3T fu c ⟨0,0,0,[],[]⟩=some (emptyN c):=by
 have hm:maxLen=9223372036854775807:=rfl
 unfold D.Qb.sz at hs
 unfold z3T emptyN
 dsimp only
 rw [zmj hf (by omega),zkP hf (by omega)]
 by_cases h1:c.Qj=0<;>by_cases h2:c.QL=0<;>by_cases h3:c.Value=0<;>by_cases h4:c.Data=[]<;>by_cases h5:c.QX=[]<;>simp [h1,h2,h3,h4,h5]
theorem zm1 {fu:Nat}{c:D.Qb}(hf:Big fu) (hs:c.sz≤1048576):z1L fu c ⟨0,0,0,[],[]⟩=some (emptyN c):=by
 have hm:maxLen=9223372036854775807:=rfl
 unfold D.Qb.sz at hs
 unfold z1L emptyN
 dsimp only
 rw [zhd hf (by omega),zg3 hf (by omega)]
 by_cases h1:c.Qj=0<;>by_cases h2:c.QL=0<;>by_cases h3:c.Value=0<;>by_cases h4:c.Data=[]<;>by_cases h5:c.QX=[]<;>simp [h1,h2,h3,h4,h5]
theorem zhB {a:D.Qf}:(((a.Qg:Int) == 0) && (((a.Qj:Int) == 0) && (((a.Qs:Int) == 0) && true)))=decide (a=noneN):=zgs (a:=a) (b:=noneN)
theorem beqD {a b:Int}:(a == b)=decide (a=b):=by by_cases h:a=b<;>simp [h]
theorem zfU {fu:Nat}{p:D.Qe}{to:Int}(hf:Big fu) (hs:p.Qz.sz≤1048576):z5z fu p to=some (parcelN to p):=by
 unfold z5z
 rw [show p.Qz=p.Qz from rfl,zm0 hf hs,zjg hf hs,zhB,zhB]
 simp only [bsm,beqD]
 unfold parcelN
 by_cases k1:p.Qj=1
 ·cases emptyN p.Qz<;>simp [k1]
 ·by_cases k2:p.Qj=2
  ·cases emptyN p.Qz<;>by_cases h:p.A.Qg=to<;>by_cases h':p.A.Qj=2<;>simp [k2,h,h']
  ·by_cases k3:p.Qj=3
   ·by_cases h0:p.Qz.Qj=0<;>cases shCellN p.Qz<;>by_cases h:p.A=noneN<;>by_cases h':p.B.Qg=to<;>simp [k3,h0,h,h']
   ·by_cases k4:p.Qj=4
    ·cases emptyN p.Qz<;>by_cases h:p.A=noneN<;>by_cases h':p.B=noneN<;>simp [k4,h,h']
    ·simp [k1,k2,k3,k4]
theorem zjL {fu:Nat}{p:D.Qe}{to:Int}(hf:Big fu) (hs:p.Qz.sz≤1048576):z6b fu p to=some (parcelN to p):=by
 have key:∀ b,z2y fu p to b=if b=true then some false else if p.Qj=1 then some (decide (p.A.Qg=to)) else if p.Qj=2 then some (decide (p.A.Qg=to∧p.A.Qj=2)) else if p.Qj=3 then some ((decide (p.Qz.Qj≠0) && shCellN p.Qz) && (decide (p.A=noneN) && decide (p.B.Qg=to))) else if p.Qj=4 then some (decide (p.A=noneN) && decide (p.B=noneN)) else some false:=fun b=>by
  unfold z2y
  rw [zjh hf hs,zhB,zhB]
  simp only [bsm,beqD]
  cases b with
  | true=>rfl
  | false=>
   rw [if_neg Bool.false_ne_true,if_neg Bool.false_ne_true]
   by_cases k1:p.Qj=1
   ·simp [k1]
   ·by_cases k2:p.Qj=2
    ·by_cases h:p.A.Qg=to<;>by_cases h':p.A.Qj=2<;>simp [k2,h,h']
    ·by_cases k3:p.Qj=3
     ·by_cases h0:p.Qz.Qj=0<;>cases shCellN p.Qz<;>by_cases h:p.A=noneN<;>by_cases h':p.B.Qg=to<;>simp [k3,h0,h,h']
     ·by_cases k4:p.Qj=4
      ·by_cases h:p.A=noneN<;>by_cases h':p.B=noneN<;>simp [k4,h,h']
      ·simp [k1,k2,k3,k4]
 unfold z6b
 rw [zm1 hf hs,key,bsm,key]
 unfold parcelN
 by_cases k3:p.Qj=3
 ·simp [k3]
 ·by_cases k1:p.Qj=1
  ·cases emptyN p.Qz<;>simp [k1]
  ·by_cases k2:p.Qj=2
   ·cases emptyN p.Qz<;>simp [k2]
   ·by_cases k4:p.Qj=4
    ·cases emptyN p.Qz<;>simp [k4]
    ·cases emptyN p.Qz<;>simp [k1,k2,k3,k4]
theorem tmodN {i k:Nat}(hk:k≠0):((i:Int).tmod (k:Int))=((i % k:Nat):Int):=by rw [Int.tmod_eq_emod_of_nonneg (by omega)];exact(Int.natCast_emod i k).symm
theorem zpU {k:Nat}{cs:List (List D.Qe)}(hk:0<k) (hl:cs.length=k*k):(cs.zipIdx.all fun x=>diagN k x.2 x.1)=true↔∀ m,m<k→cs[m*k+m]? = some []:=by
 rw [z87 (p:=fun i ch=>diagN k i ch)]
 constructor
 ·intro h m hm
  have hlt:m*k+m<cs.length:=by
   have:m*k+k≤k*k:=by rw [← Nat.succ_mul];exact Nat.mul_le_mul_right _ hm
   omega
  obtain⟨ch,hc⟩:=z5i hlt
  have h1:=h _ _ hc
  rw [Nat.zero_add] at h1
  unfold diagN at h1
  have e1:(m*k+m) / k=m:=by rw [Nat.mul_comm,Nat.mul_add_div hk,Nat.div_eq_of_lt hm,Nat.add_zero]
  have e2:(m*k+m) % k=m:=by rw [Nat.mul_comm,Nat.mul_add_mod,Nat.mod_eq_of_lt hm]
  rw [e1,e2] at h1
  simp only [ne_eq,not_true_eq_false,decide_false,Bool.false_or,decide_eq_true_eq] at h1
  rw [hc,h1]
 ·intro h i ch hc
  rw [Nat.zero_add]
  unfold diagN
  have hil:=(List.getElem?_eq_some_iff.1 hc).1
  by_cases e:i / k=i % k
  ·have h1:=h (i % k) (Nat.mod_lt _ hk)
   have e2:i % k*k+i % k=i:=by
    have:=Nat.div_add_mod i k
    rw [e,Nat.mul_comm] at this
    exact this
   rw [e2,hc] at h1
   simp only [Option.some.injEq] at h1
   rw [h1];simp
  ·simp [e]
theorem zhx {fu:Nat}{c:D.Qa}(hf:Big fu) (hs:c.sz≤1048576):z7y fu c=some (clusPN c):=by
 have hm:maxLen=9223372036854775807:=rfl
 obtain⟨z1,z2,z3,z4,z5,z6,z7⟩:=zdH hs
 have no:z1k fu c true=some false:=by unfold z1k;rfl
 unfold z7y clusPN
 rw [show c.Qi=c.Qi from rfl,zfS hf z1,bsm,zbA hf z6,zbA hf z7]
 cases hp:piecesN c.Qi with
 | false=>rw [Bool.not_false,if_pos rfl,no];rfl
 | true=>
  have hk:1≤c.Qi.Qc.length∧c.Qi.Qc.length≤4:=by
   unfold piecesN at hp
   rw [Bool.and_eq_true,decide_eq_true_eq] at hp
   exact hp.1
  have hkk:c.Qi.Qc.length*c.Qi.Qc.length≤16:=Nat.mul_le_mul hk.2 hk.2
  rw [Bool.not_true,if_neg (by simp),zf (by omega) (by omega),Bool.true_and]
  generalize hkd:c.Qi.Qc.length=k at *
  by_cases h1:c.Qh.length=k*k
  ·rw [if_neg (by simp [h1])]
   by_cases h2:c.Qo.length=k
   ·rw [if_neg (by simp [h2]),bsm,bsm]
    cases h3:numN c.QU k with
    | false=>rw [Bool.not_false,if_pos rfl,no];simp
    | true=>
     rw [Bool.not_true,if_neg (by simp)]
     cases h4:numN c.QZ k with
     | false=>rw [Bool.not_false,no];simp
     | true=>
      rw [Bool.not_true,dct ⟨h1,h2⟩,Bool.true_and,Bool.true_and,Bool.true_and]
      unfold z1k
      rw [if_neg (by simp)]
      have hD:=allLoop (xs:=c.Qo) (body:=z50 fu c) (p:=fun m x=>numN x 7 && decide (c.Qh[m*k+m]? = some [])) (t:=()) (v:=false) (fu:=fu) (by omega) hf (fun m x hi hx=>by
       have hmk:m*k+m<c.Qh.length:=by
        have:m*k+k≤k*k:=by rw [← Nat.succ_mul];exact Nat.mul_le_mul_right _ (by omega)
        omega
       obtain⟨ch,hc⟩:=z5i hmk
       have hmk2:(m:Int)*(k:Int)=((m*k:Nat):Int):=by simp
       have hb:m*k≤16:=by omega
       unfold z50 z4X
       rw [hkd,if_pos (by simp;omega),zd hx,bsm]
       have h7:=zbA (k:=7) hf (z5 x (List.mem_of_getElem? hx))
       rw [show((7:Nat):Int)=7 from rfl] at h7
       rw [h7,bsm,hmk2,zf (n:=((m*k:Nat):Int)) (by omega) (by omega),zf (n:=((m*k:Nat):Int)+(m:Int)) (by omega) (by omega),show((m*k:Nat):Int)+(m:Int)=((m*k+m:Nat):Int) by omega,zd hc,hc]
       cases numN x 7 with
       | false=>rfl
       | true=>
        cases ch with
        | nil=>simp
        | cons y ys=>simp) (by unfold z50;rw [hkd,h2,if_neg (by simp)])
      rw [hD,bsm]
      have hdiag:=zpU (cs:=c.Qh) (by omega:0<k) h1
      have hcond:((c.Qo.zipIdx.all fun y=>numN y.1 7 && decide (c.Qh[y.2*k+y.2]? = some []))=true)↔((c.Qo.all fun x=>numN x 7)=true∧(c.Qh.zipIdx.all fun x=>diagN k x.2 x.1)=true):=by
       rw [hdiag,z87 (p:=fun m x=>numN x 7 && decide (c.Qh[m*k+m]? = some [])),List.all_eq_true]
       constructor
       ·intro h
        refine⟨fun x hx=>?_,fun m hm'=>?_⟩
        ·obtain⟨m,hm'⟩:=List.getElem?_of_mem hx
         have:=h m x hm'
         rw [Bool.and_eq_true] at this
         exact this.1
        ·obtain⟨x,hx⟩:=z5i (xs:=c.Qo) (i:=m) (by omega)
         have:=h m x hx
         rw [Nat.zero_add,Bool.and_eq_true,decide_eq_true_eq] at this
         exact this.2
       ·rintro⟨ha,hb⟩ m x hx
        have hml:=(List.getElem?_eq_some_iff.1 hx).1
        rw [Nat.zero_add,ha x (List.mem_of_getElem? hx),hb m (by omega)]
        simp
      unfold chansN
      by_cases hC:(c.Qo.zipIdx.all fun y=>numN y.1 7 && decide (c.Qh[y.2*k+y.2]? = some []))=true
      ·obtain⟨e1,e2⟩:=hcond.1 hC
       rw [if_pos hC,z8,e1,e2,Bool.true_and,Bool.true_and]
       unfold z95
       have hL:=allLoop (xs:=c.Qh) (body:=z4Z fu c) (p:=fun i ch=>listN k i ch) (t:=()) (v:=false) (fu:=fu) (by omega) hf (fun i ch hi hc=>by
        obtain⟨y1,y2⟩:=z3 ch (List.mem_of_getElem? hc)
        unfold z4Z listN
        rw [if_pos (by simpa using hi),zd hc,bsm]
        by_cases hl:ch.length≤200
        ·rw [if_neg (by simp;omega),dct hl,Bool.true_and]
         have hP:=allLoop (xs:=ch) (body:=z4Y fu c (i:Int)) (p:=fun _ p=>parcelN ((i % k:Nat):Int) p) (t:=()) (v:=Rd.ret false) (fu:=fu) (by omega) hf (fun j p hj hp'=>by
          unfold z4Y
          rw [zd hc,bsm,if_pos (by simpa using hj),bsm,zd hp',bsm,hkd,if_pos (by simp;omega),tmodN (by omega),zfU hf (y2 p (List.mem_of_getElem? hp')),bsm]
          cases parcelN ((i % k:Nat):Int) p<;>rfl) (by unfold z4Y;rw [zd hc,bsm,if_neg (by simp)])
         rw [z7d (p:=parcelN ((i % k:Nat):Int))] at hP
         rw [hP,bsm]
         cases ch.all (parcelN ((i % k:Nat):Int))<;>rfl
        ·rw [if_pos (by simp;omega),decide_eq_false hl];rfl) (by unfold z4Z;rw [if_neg (by simp)])
       rw [hL,bsm]
       cases (c.Qh.zipIdx.all fun x=>listN k x.2 x.1)<;>rfl
      ·rw [if_neg hC]
       have:((c.Qo.all fun x=>numN x 7) && ((c.Qh.zipIdx.all fun x=>diagN k x.2 x.1) && (c.Qh.zipIdx.all fun x=>listN k x.2 x.1)))=false:=by
        cases ha:(c.Qo.all fun x=>numN x 7) with
        | false=>rfl
        | true=>
         cases hb:(c.Qh.zipIdx.all fun x=>diagN k x.2 x.1) with
         | false=>rfl
         | true=>exact absurd (hcond.2 ⟨ha,hb⟩) hC
       rw [this];rfl
   ·rw [if_pos (by simp;omega),no,decide_eq_false (fun h=>h2 h.2)];rfl
  ·rw [if_pos (by simp;omega),no,decide_eq_false (fun h=>h1 h.1)];rfl
end Go.E


namespace Go.E
open Go.RowKit Go.Proofs
set_option linter.unusedSimpArgs false
set_option linter.unusedVariables false

theorem zd9 {α:Type}{xs:List (List α)}{i:Nat}{x:List α}(h:xs[i]? = some x):(xs.take (i+1)).flatten=(xs.take i).flatten++x:=by
 rw [List.take_add_one,h]
 simp
theorem zdO {α:Type}{xs:List α}{i:Nat}{x:α}(h:xs[i]? = some x):xs.take (i+1)=xs.take i++[x]:=by
 rw [List.take_add_one,h]
 rfl
theorem z9g {α:Type}{b:Nat}:∀ {xs:List (List α)},(∀ x,x∈xs→x.length≤b)→xs.flatten.length≤b*xs.length
 | [],_=>by simp
 | x::xs,h=>by
  rw [List.flatten_cons,List.length_append,List.length_cons,Nat.mul_succ]
  have:=h x (by simp)
  have:=z9g (xs:=xs) fun y hy=>h y (by simp [hy])
  omega
theorem zcb:∀ {ps:List D.Qe},(cellsOf ps).length≤ps.length
 | []=>Nat.le_refl _
 | p::ps=>by
  rw [z7T]
  have:=zcb (ps:=ps)
  split
  ·simp only [List.length_cons];omega
  ·simp only [List.length_cons];omega
theorem zd2:∀ {ps:List D.Qe}{c:D.Qb},c∈cellsOf ps→∃ p,p∈ps∧p.Qj=3∧p.Qz=c
 | [],_,h=>by simp [cellsOf] at h
 | p::ps,c,h=>by
  rw [z7T] at h
  split at h
  ·rename_i h3
   rcases List.mem_cons.1 h with rfl | h
   ·exact⟨p,by simp,h3,rfl⟩
   ·obtain⟨q,h1,h2⟩:=zd2 h
    exact⟨q,by simp [h1],h2⟩
  ·obtain⟨q,h1,h2⟩:=zd2 h
   exact⟨q,by simp [h1],h2⟩
theorem zpX {X Y:List D.Qe}{p:D.Qe}(h3:p.Qj=3):(cellsOf (X++p::Y))[(cellsOf X).length]? = some p.Qz:=by
 rw [z9q,List.getElem?_append_right (Nat.le_refl _),Nat.sub_self,z7T,if_pos h3]
 rfl

structure Chans (c:D.Qa):Prop where
 n:c.Qh.length≤16
 l:∀ ch,ch∈c.Qh→ch.length≤200
 p:∀ q,q∈c.Qh.flatten→q.Qz.sz≤1048576∧(q.Qj=3→q.Qz.Qj≠0∧q.Qz.QX.length≤3)
theorem zkq {c:D.Qa}(hs:c.sz≤1048576) (h:clusPN c=true):piecesN c.Qi=true∧Chans c:=by
 unfold clusPN at h
 simp only [Bool.and_eq_true,decide_eq_true_eq] at h
 obtain⟨h1,⟨h2,h3⟩,h4,h5,h6,h7⟩:=h
 obtain⟨z1,z2,z3,z4,z5,z6,z7⟩:=zdH hs
 have hk:1≤c.Qi.Qc.length∧c.Qi.Qc.length≤4:=by
  unfold piecesN at h1
  rw [Bool.and_eq_true,decide_eq_true_eq] at h1
  exact h1.1
 unfold chansN at h7
 rw [Bool.and_eq_true] at h7
 have h8:=(z87 (p:=fun i ch=>listN c.Qi.Qc.length i ch)).1 h7.2
 have h9:∀ ch,ch∈c.Qh→ch.length≤200∧∀ q,q∈ch→q.Qj=3→q.Qz.Qj≠0∧q.Qz.QX.length≤3:=fun ch hc=>by
  obtain⟨i,hi⟩:=List.getElem?_of_mem hc
  have o:=h8 i ch hi
  unfold listN at o
  rw [Bool.and_eq_true,decide_eq_true_eq,List.all_eq_true] at o
  refine⟨o.1,fun q hq h3'=>?_⟩
  have d:=o.2 q hq
  unfold parcelN at d
  rw [if_neg (by omega),if_neg (by omega),if_pos h3'] at d
  simp only [Bool.and_eq_true,decide_eq_true_eq] at d
  exact⟨d.1.1,zjU d.1.2⟩
 refine⟨h1,⟨?_,fun ch hc=>(h9 ch hc).1,fun q hq=>?_⟩⟩
 ·rw [h2];exact Nat.mul_le_mul hk.2 hk.2
 ·obtain⟨ch,hc,hq2⟩:=List.mem_flatten.1 hq
  exact⟨(z3 ch hc).2 q hq2,(h9 ch hc).2 q hq2⟩

section
variable {fu:Nat}{c:D.Qa}
theorem zm5 (hf:Big fu) (hC:Chans c):iter (z3S fu c) fu (0,[])=some (.inl (cellsOf c.Qh.flatten)):=by
 have hn:=hC.n
 have hfl:=z9g hC.l
 have hcl:=zcb (ps:=c.Qh.flatten)
 obtain⟨o,h,rfl⟩:=z1A (body:=z3S fu c) (fun i s=>s=((i:Int),cellsOf (c.Qh.take i).flatten)) c.Qh.length (fun o=>o=.inl (cellsOf c.Qh.flatten)) (by
  rintro i s hi rfl
  obtain⟨ch,hc⟩:=z5i hi
  have hch:=hC.l ch (List.mem_of_getElem? hc)
  refine .inl ⟨_,?_,rfl⟩
  have hin:=z1A (body:=z5N fu c ((i:Int),cellsOf (c.Qh.take i).flatten)) (fun n s=>s=((n:Int),cellsOf ((c.Qh.take i).flatten++ch.take n))) ch.length (fun o=>o=.inl (cellsOf ((c.Qh.take i).flatten++ch))) (by
   rintro n s hn' rfl
   obtain⟨p,hp⟩:=z5i hn'
   refine .inl ⟨_,?_,rfl⟩
   have hb:(cellsOf ((c.Qh.take i).flatten++ch.take n)).length≤100000:=by
    have h1:=zcb (ps:=(c.Qh.take i).flatten++ch.take n)
    have h2:=z9g (xs:=c.Qh.take i) fun y hy=>hC.l y (List.mem_of_mem_take hy)
    rw [List.length_append,List.length_take] at h1
    rw [List.length_take] at h2
    omega
   have e:cellsOf ((c.Qh.take i).flatten++ch.take (n+1))=cellsOf ((c.Qh.take i).flatten++ch.take n)++(if p.Qj=3 then [p.Qz] else []):=by
    rw [zdO hp,← List.append_assoc,z9q]
    congr 1
   rw [e]
   generalize cellsOf ((c.Qh.take i).flatten++ch.take n)=s at hb ⊢
   unfold z5N z51
   dsimp only
   rw [zd hc,bsm,if_pos (by simpa using hn'),bsm,zd hp,bsm]
   by_cases h3:p.Qj=3
   ·rw [if_pos (by simp [h3]),bsm,zd hp,bsm,if_pos (by simp only [List.length_cons,List.length_nil,decide_eq_true_eq];omega),if_pos h3,zf (by omega) (by omega)]
    rfl
   ·rw [if_neg (by simpa using h3),if_neg h3,List.append_nil,zf (by omega) (by omega)]
    rfl) (by
   rintro s rfl
   refine .inr ⟨_,?_,rfl⟩
   unfold z5N
   dsimp only
   rw [zd hc,bsm,if_neg (by simp),List.take_length]) (fu:=fu) (i:=0) (s:=(0,cellsOf (c.Qh.take i).flatten)) (Nat.zero_le _) (by omega) (by simp)
  obtain⟨o,e1,rfl⟩:=hin
  unfold z3S
  dsimp only
  rw [if_pos (by simpa using hi),e1,bsm,z8,zd9 hc]
  unfold z9s
  dsimp only
  rw [zf (by omega) (by omega)]
  rfl) (by
  rintro s rfl
  refine .inr ⟨_,?_,rfl⟩
  unfold z3S
  rw [if_neg (by simp),List.take_length]) (fu:=fu) (i:=0) (s:=(0,[])) (Nat.zero_le _) (by omega) rfl
 exact h
theorem zpx {g:D.Qi}(hS:Small g):(gridS g).length≤20000:=by
 have hn:=hS.n
 have hfl:=zae (f:=shardS) (xs:=g.Qc) (b:=4000) (fun j s hc=>zic hS hc) g.Qc.length (Nat.le_refl _)
 unfold gridS rootS
 rw [List.length_append]
 simp only [List.length_cons,List.length_nil]
 omega

theorem zjK {L:D.Qm}{at_:List Int}{X Y:List D.Qe}{p:D.Qe}{M:D.Qm}{ch:List D.Qe}{i n:Nat}{z:Int × Int × D.Qm}(hf:Big fu) (hs:c.Qi.sz≤1048576) (hS:Small c.Qi) (hI:Items c.Qi (cellsOf c.Qh.flatten) L at_) (hC:Chans c)
  (hX:c.Qh.flatten=X++p::Y) (hc:c.Qh[i]? = some ch) (hp:ch[n]? = some p) (hM:Run c.Qi (cellsOf c.Qh.flatten) L M (gridS c.Qi++parS 0 X)) (hz:z.2.1=(i:Int)):
  (parA c.Qi p=true→∃ M',z1x fu c (L,at_) z (((cellsOf X).length:Int),(n:Int),M)=some (.next (((cellsOf (X++[p])).length:Int),w64 ((n:Int)+1),M'))∧Run c.Qi (cellsOf c.Qh.flatten) L M' (gridS c.Qi++parS 0 (X++[p])))∧
  (parA c.Qi p=false→∃ r,z1x fu c (L,at_) z (((cellsOf X).length:Int),(n:Int),M)=some (.ret r)∧∃ M',r=.ret (M',false)):=by
 have hnl:=(List.getElem?_eq_some_iff.1 hp).1
 have hfl:=z9g hC.l
 have hn16:=hC.n
 have hXl:X.length+1≤3200:=by
  have:c.Qh.flatten.length=X.length+(Y.length+1):=by rw [hX,List.length_append,List.length_cons]
  omega
 have hcX:=zcb (ps:=X)
 have hpm:p∈c.Qh.flatten:=by rw [hX];simp
 obtain⟨q1,q2⟩:=hC.p p hpm
 have hgl:=zpx hS
 have hpl:=zms (ps:=X) (j:=0) (fun q hq h3=>((hC.p q (by rw [hX];simp [hq])).2 h3).2)
 have hks:(gridS c.Qi++parS 0 X).length≤100000:=by rw [List.length_append];omega
 have hpar:parS 0 (X++[p])=parS 0 X++parK (cellsOf X).length p:=by rw [zdw,Nat.zero_add,zpc]
 have ge:c.Qi=c.Qi:=rfl
 have he:z1x fu c (L,at_) z (((cellsOf X).length:Int),(n:Int),M)=z3R fu c (L,at_) (((cellsOf X).length:Int),(n:Int),M) p (decide (p.Qj=1∨p.Qj=2)):=by
  unfold z1x
  dsimp only
  rw [hz,zd hc,bsm,if_pos (by simpa using hnl),bsm,zd hp,bsm]
  simp only [beqD]
  by_cases k1:p.Qj=1
  ·simp [k1]
  ·by_cases k2:p.Qj=2<;>simp [k1,k2]
 rw [he]
 unfold z3R
 dsimp only
 rw [ge]
 by_cases d:p.Qj=1∨p.Qj=2
 ·have k3:p.Qj≠3:=by omega
  have hcx:cellsOf (X++[p])=cellsOf X:=by rw [z9q,z7T,if_neg k3];simp [cellsOf]
  have hpk:parK (cellsOf X).length p=[keyA p.A,keyA p.B]:=by unfold parK;rw [if_pos d]
  have hpa:parA c.Qi p=(aliveN c.Qi p.A && aliveN c.Qi p.B):=by unfold parA;rw [if_pos d]
  obtain⟨M',e1,e2⟩:=zhz (fu:=fu) (a:=p.A) (b:=p.B) hs hI hM (by omega)
  rw [if_pos (dct d),e1,bsm,hpa,hcx,hpar,hpk]
  constructor
  ·intro h
   dsimp only
   rw [h,Bool.not_true,if_neg (by simp)]
   exact⟨M',rfl,by rw [← List.append_assoc];exact e2 h⟩
  ·intro h
   dsimp only
   rw [h,Bool.not_false,if_pos rfl]
   exact⟨_,rfl,_,rfl⟩
 ·rw [if_neg (by simpa using d)]
  by_cases k3:p.Qj=3
  ·obtain⟨c0,c3⟩:=q2 k3
   rw [if_pos (by simp [k3])]
   have hcx:(cellsOf (X++[p])).length=(cellsOf X).length+1:=by rw [z9q,z7T,if_pos k3];simp [cellsOf]
   have hat:(cellsOf c.Qh.flatten)[(cellsOf X).length]? = some p.Qz:=by rw [hX];exact zpX k3
   have hpk:parK (cellsOf X).length p=cellS 3 0 (cellsOf X).length p.Qz++[(3,0,(cellsOf X).length,0),keyA p.B]:=by unfold parK;rw [if_neg d,if_pos k3]
   have hpa:parA c.Qi p=(p.Qz.QX.all (aliveN c.Qi) && aliveN c.Qi p.B):=by unfold parA;rw [if_neg d,if_pos k3]
   have hidx:=zd (hI.more _ _ hat)
   have hpk1:=zdb hS c.Qi.Qc.length (Nat.le_refl _)
   rw [List.take_length] at hpk1
   have hgn:=hS.n
   have hrk:=zcH (t:=3) (m:=0) (cs:=cellsOf c.Qh.flatten) (fun y hy=>by
    obtain⟨q,g1,g2,g3⟩:=zd2 hy
    rw [← g3]
    exact((hC.p q g1).2 g2).2) (cellsOf X).length (by have:=(List.getElem?_eq_some_iff.1 hat).1;omega)
   obtain⟨M1,e1,e2⟩:=zoQ (fu:=fu) (t:=3) (m:=0) (i:=(cellsOf X).length) (b:=(portK c.Qi.Qc).length+(rowK 3 0 ((cellsOf c.Qh.flatten).take (cellsOf X).length)).length) hf hs hI hM c3 (by omega) (by omega) (fun k hk=>by
    have:=zkt (g:=c.Qi) (k:=k+1) hat c0 (by omega)
    rw [← Nat.add_assoc] at this
    exact this)
   rw [hidx,bsm,show p.Qz=p.Qz from rfl,e1,bsm,hpa,hcx,hpar,hpk]
   dsimp only
   cases ha:p.Qz.QX.all (aliveN c.Qi) with
   | false=>
    rw [Bool.not_false,if_pos rfl,Bool.false_and]
    unfold z3Q
    rw [if_pos rfl]
    exact⟨fun h=>(by cases h),fun _=>⟨_,rfl,_,rfl⟩⟩
   | true=>
    rw [Bool.not_true,if_neg (by simp),zcc hs,bsm,Bool.true_and]
    unfold z3Q
    dsimp only
    cases hb:aliveN c.Qi p.B with
    | false=>
     rw [Bool.not_false,if_pos rfl]
     exact⟨fun h=>(by cases h),fun _=>⟨_,rfl,_,rfl⟩⟩
    | true=>
     rw [Bool.not_true,if_neg (by simp),hidx,bsm]
     have o:=e2 ha
     obtain⟨y,y1,y2⟩:=ze8 (fu:=fu) (L':=M1) hI o.cells o.QM hb
     have hx:=zkt (g:=c.Qi) (k:=0) hat c0 (Nat.zero_le _)
     rw [Nat.add_zero] at hx
     have hcs:=zhP (t:=3) (m:=0) (i:=(cellsOf X).length) c3
     obtain⟨M2,f1,f2⟩:=zdS (fu:=fu) o hx y2 (by rw [List.length_append];omega)
     rw [y1,bsm,f1,bsm]
     unfold z80 z5L z5M
     dsimp only
     refine⟨fun _=>⟨M2,?_,?_⟩,fun h=>by cases h⟩
     ·rw [zf (n:=((cellsOf X).length:Int)+1) (by omega) (by omega)]
      rfl
     ·rw [← List.append_assoc,← List.append_assoc]
      exact f2
  ·have hcx:cellsOf (X++[p])=cellsOf X:=by rw [z9q,z7T,if_neg k3];simp [cellsOf]
   have hpk:parK (cellsOf X).length p=[]:=by unfold parK;rw [if_neg d,if_neg k3]
   have hpa:parA c.Qi p=true:=by unfold parA;rw [if_neg d,if_neg k3]
   rw [if_neg (by simpa using k3),hcx,hpar,hpk,hpa,List.append_nil]
   exact⟨fun _=>⟨M,rfl,hM⟩,fun h=>by cases h⟩
end
end Go.E


namespace Go.E
open Go.RowKit Go.Proofs
set_option linter.unusedSimpArgs false
set_option linter.unusedVariables false

section
variable {fu:Nat}{c:D.Qa}
theorem zpW {L:D.Qm}{at_:List Int}{i:Nat}{ch:List D.Qe}{M0:D.Qm}{z:Int × Int × D.Qm}(hf:Big fu) (hs:c.Qi.sz≤1048576) (hS:Small c.Qi) (hI:Items c.Qi (cellsOf c.Qh.flatten) L at_) (hC:Chans c)
  (hc:c.Qh[i]? = some ch) (hM:Run c.Qi (cellsOf c.Qh.flatten) L M0 (gridS c.Qi++parS 0 (c.Qh.take i).flatten)) (hz:z.2.1=(i:Int)):
  (ch.all (parA c.Qi)=true∧∃ t,iter (z1x fu c (L,at_) z) fu (((cellsOf (c.Qh.take i).flatten).length:Int),0,M0)=some (.inl t)∧∃ M,t=(((cellsOf (c.Qh.take (i+1)).flatten).length:Int),M)∧Run c.Qi (cellsOf c.Qh.flatten) L M (gridS c.Qi++parS 0 (c.Qh.take (i+1)).flatten))∨
  (ch.all (parA c.Qi)=false∧∃ r,iter (z1x fu c (L,at_) z) fu (((cellsOf (c.Qh.take i).flatten).length:Int),0,M0)=some (.inr r)∧∃ M,r=.ret (M,false)):=by
 have hch:=hC.l ch (List.mem_of_getElem? hc)
 have hfl:c.Qh.flatten=(c.Qh.take i).flatten++(ch++(c.Qh.drop (i+1)).flatten):=by
  have h1:=zd9 hc
  have h2:c.Qh.flatten=(c.Qh.take (i+1)).flatten++(c.Qh.drop (i+1)).flatten:=by rw [← List.flatten_append,List.take_append_drop]
  rw [h2,h1,List.append_assoc]
 have h:=tryLoop (xs:=ch) (body:=z1x fu c (L,at_) z) (fu:=fu)
  (fun n st=>∃ M:D.Qm,st=(((cellsOf ((c.Qh.take i).flatten++ch.take n)).length:Int),(n:Int),M)∧Run c.Qi (cellsOf c.Qh.flatten) L M (gridS c.Qi++parS 0 ((c.Qh.take i).flatten++ch.take n)))
  (fun _ p=>parA c.Qi p)
  (fun t=>∃ M,t=(((cellsOf (c.Qh.take (i+1)).flatten).length:Int),M)∧Run c.Qi (cellsOf c.Qh.flatten) L M (gridS c.Qi++parS 0 (c.Qh.take (i+1)).flatten))
  (fun r=>∃ M,r=.ret (M,false)) (s0:=(((cellsOf (c.Qh.take i).flatten).length:Int),0,M0)) (by omega) hf (by
  rintro n p _ hp ⟨M,rfl,hM'⟩
  have hnl:=(List.getElem?_eq_some_iff.1 hp).1
  have hX:c.Qh.flatten=((c.Qh.take i).flatten++ch.take n)++p::(ch.drop (n+1)++(c.Qh.drop (i+1)).flatten):=by
   rw [hfl,List.append_assoc]
   congr 1
   have:ch=ch.take n++p::ch.drop (n+1):=by
    have h3:=List.take_append_drop (n+1) ch
    rw [zdO hp,List.append_assoc] at h3
    exact h3.symm
   rw [← List.cons_append,← List.append_assoc,← this]
  obtain⟨g1,g2⟩:=zjK (z:=z) hf hs hS hI hC hX hc hp hM' hz
  refine⟨fun hp1=>?_,fun hp1=>?_⟩
  ·obtain⟨M',e1,e2⟩:=g1 hp1
   have ht:(c.Qh.take i).flatten++ch.take (n+1)=((c.Qh.take i).flatten++ch.take n)++[p]:=by rw [zdO hp,List.append_assoc]
   refine⟨_,e1,M',?_,?_⟩
   ·rw [ht,zf (by omega) (by omega)];rfl
   ·rw [ht];exact e2
  ·exact g2 hp1) (by
  rintro _ ⟨M,rfl,hM'⟩
  rw [List.take_length] at hM'
  refine⟨_,?_,M,rfl,by rw [zd9 hc];exact hM'⟩
  unfold z1x
  dsimp only
  rw [hz,zd hc,bsm,if_neg (by simp),List.take_length,zd9 hc]) ⟨M0,by simp,by simpa using hM⟩
 rw [z7d (p:=parA c.Qi)] at h
 exact h
theorem zoJ {L:D.Qm}{at_:List Int}{M0:D.Qm}(hf:Big fu) (hs:c.Qi.sz≤1048576) (hS:Small c.Qi) (hI:Items c.Qi (cellsOf c.Qh.flatten) L at_) (hC:Chans c)
  (hM:Run c.Qi (cellsOf c.Qh.flatten) L M0 (gridS c.Qi)):
  (c.Qh.flatten.all (parA c.Qi)=true∧∃ t,iter (z2J fu c (L,at_)) fu (0,0,M0)=some (.inl t)∧Run c.Qi (cellsOf c.Qh.flatten) L t (gridS c.Qi++parS 0 c.Qh.flatten))∨
  (c.Qh.flatten.all (parA c.Qi)=false∧∃ r,iter (z2J fu c (L,at_)) fu (0,0,M0)=some (.inr r)∧∃ M,r=(M,false)):=by
 have hn:=hC.n
 have hfl:=z9g hC.l
 have h:=tryLoop (xs:=c.Qh) (body:=z2J fu c (L,at_)) (fu:=fu)
  (fun i st=>∃ M:D.Qm,st=(((cellsOf (c.Qh.take i).flatten).length:Int),(i:Int),M)∧Run c.Qi (cellsOf c.Qh.flatten) L M (gridS c.Qi++parS 0 (c.Qh.take i).flatten))
  (fun _ ch=>ch.all (parA c.Qi))
  (fun t=>Run c.Qi (cellsOf c.Qh.flatten) L t (gridS c.Qi++parS 0 c.Qh.flatten))
  (fun r=>∃ M,r=(M,false)) (s0:=(0,0,M0)) (by omega) hf (by
  rintro i ch _ hc ⟨M,rfl,hM'⟩
  have hil:=(List.getElem?_eq_some_iff.1 hc).1
  unfold z2J
  dsimp only
  rw [if_pos (by simpa using hil)]
  rcases zpW (z:=(((cellsOf (c.Qh.take i).flatten).length:Int),(i:Int),M)) hf hs hS hI hC hc hM' rfl with⟨c1,t,c2,M1,rfl,c3⟩ | ⟨c1,r,c2,M1,rfl⟩
  ·rw [c1,c2,bsm,z8]
   unfold z9t
   dsimp only
   exact⟨fun _=>⟨_,rfl,M1,by rw [zf (by omega) (by omega)];rfl,c3⟩,fun h=>by cases h⟩
  ·rw [c1,c2,bsm]
   exact⟨fun h=>(by cases h),fun _=>⟨_,rfl,_,rfl⟩⟩) (by
  rintro _ ⟨M,rfl,hM'⟩
  rw [List.take_length] at hM'
  refine⟨_,?_,hM'⟩
  unfold z2J
  rw [if_neg (by simp)]) ⟨M0,by simp [cellsOf],by simpa [parS] using hM⟩
 rw [z7d (p:=fun ch:List D.Qe=>ch.all (parA c.Qi)),← List.all_flatten] at h
 exact h
theorem zqi (hf:Big fu) (hs:c.Qi.sz≤1048576) (hS:Small c.Qi) (hC:Chans c):
  ∃ L at_ L',Items c.Qi (cellsOf c.Qh.flatten) L at_∧z8c fu c=some (L',gridA c.Qi && c.Qh.flatten.all (parA c.Qi))∧((gridA c.Qi && c.Qh.flatten.all (parA c.Qi))=true→Run c.Qi (cellsOf c.Qh.flatten) L L' (gridS c.Qi++parS 0 c.Qh.flatten)):=by
 have hn:=hC.n
 have hfl:=z9g hC.l
 have hcl:=zcb (ps:=c.Qh.flatten)
 have ge:c.Qi=c.Qi:=rfl
 obtain⟨L,at_,b1,hI⟩:=zoO (fu:=fu) (g:=c.Qi) (more:=cellsOf c.Qh.flatten) hf hS ⟨by omega,fun y hy=>by
  obtain⟨q,g1,g2,g3⟩:=zd2 hy
  rw [← g3]
  exact⟨(hC.p q g1).1,((hC.p q g1).2 g2).2⟩⟩
 obtain⟨M0,a1,a2⟩:=zqo (fu:=fu) hf hs hS hI
 refine⟨L,at_,?_⟩
 unfold z8c
 rw [zm5 hf hC,bsm,z8]
 unfold z9u
 rw [ge,b1,bsm]
 dsimp only
 rw [a1,bsm]
 dsimp only
 cases hA:gridA c.Qi with
 | false=>exact⟨M0,hI,rfl,fun h=>by cases h⟩
 | true=>
  rw [Bool.not_true,if_neg (by simp),Bool.true_and]
  rcases zoJ hf hs hS hI hC (a2 hA) with⟨c1,t,c2,c3⟩ | ⟨c1,r,c2,M1,rfl⟩
  ·rw [c1,c2,bsm,z8]
   exact⟨t,hI,rfl,fun _=>c3⟩
  ·rw [c1,c2,bsm]
   exact⟨M1,hI,rfl,fun h=>by cases h⟩

def clusN (c:D.Qa):Bool:=clusPN c && implN c.Qi (gridT c.Qi++chansT c.Qh)
theorem zjd (hf:Big fu) (hs:c.sz≤1048576):z9k fu c=some (clusN c):=by
 obtain⟨z1,_⟩:=zdH hs
 unfold z9k clusN
 rw [zhx hf hs,bsm]
 cases hp:clusPN c with
 | false=>rfl
 | true=>
  obtain⟨hpn,hC⟩:=zkq hs hp
  have hS:=zhr z1 hpn
  obtain⟨L,at_,L',hI,e1,e2⟩:=zqi (fu:=fu) hf z1 hS hC
  have hn:=hC.n
  have hgn:=hS.n
  have hfl:=z9g hC.l
  have hcl:=zcb (ps:=c.Qh.flatten)
  rw [Bool.not_true,if_neg (by simp),e1,bsm,Bool.true_and,← zoH]
  dsimp only
  cases hA:gridA c.Qi with
  | false=>rfl
  | true=>
   cases hB:c.Qh.flatten.all (parA c.Qi) with
   | false=>rfl
   | true=>
    have hpl:L.QH.length≤1048576:=by
     rw [hI.QH]
     have h:=zdb hS c.Qi.Qc.length (Nat.le_refl _)
     rw [List.take_length] at h
     have h2:=zcH (t:=3) (m:=0) (cs:=cellsOf c.Qh.flatten) (fun y hy=>by
      obtain⟨q,g1,g2,g3⟩:=zd2 hy
      rw [← g3]
      exact((hC.p q g1).2 g2).2) (cellsOf c.Qh.flatten).length (Nat.le_refl _)
     rw [List.take_length] at h2
     rw [List.length_append]
     omega
    rw [Bool.true_and,if_pos rfl]
    have h9:=zm3 hf z1 hI (e2 (by rw [hA,hB];rfl)) hpl
    have d:z5A fu c.Qi L'=_:=h9
    rw [d]
    rfl


theorem zdJ {k:Int}{xs:List Int}(hf:Big fu) (hl:xs.length≤1048576):z7v fu k xs=some (xs.all fun x=>decide (0≤x∧x≤k)):=by
 have hm:maxLen=9223372036854775807:=rfl
 unfold z7v
 rw [zeS (p:=fun x=>!decide (0≤x∧x≤k)) hf (by omega) (fun x=>by
  unfold z93
  by_cases h:x<0
  ·rw [if_pos (dct h),decide_eq_false (by omega)];rfl
  ·rw [if_neg (by simpa using h)]
   by_cases h2:x>k
   ·rw [dct h2,decide_eq_false (by omega)];rfl
   ·rw [decide_eq_false h2,dct (by omega)];rfl),bsm,zbS,Bool.not_not]
theorem zhM {p:List Int→Bool}{f:List Int→Option Bool}{xs:List (List Int)}(hf:Big fu) (hl:xs.length≤maxLen) (h:∀ n,n∈xs→f n=some (p n)):
  zY fu xs f=some (xs.any p):=by
 unfold zY z1D
 obtain⟨r,h1,h2⟩:=askIndex (xs:=xs) (p:=p) (body:=zT fu xs f) (j:=z1U fu) (t:=()) hl hf rfl (fun i x hi hx=>by
  simp only [zT,zd hx,h x (List.mem_of_getElem? hx),lt_t (show(i:Int)<xs.length by omega),if_true,bsm]) (by simp [zT])
 rw [h1,bsm,h2]
theorem zgj {p:D.Qe→Bool}{f:D.Qe→Option Bool}{xs:List D.Qe}(hf:Big fu) (hl:xs.length≤maxLen) (h:∀ n,n∈xs→f n=some (p n)):
  zj fu xs f=some (xs.any p):=by
 unfold zj z14
 obtain⟨r,h1,h2⟩:=askIndex (xs:=xs) (p:=p) (body:=zu fu xs f) (j:=z1v fu) (t:=()) hl hf rfl (fun i x hi hx=>by
  simp only [zu,zd hx,h x (List.mem_of_getElem? hx),lt_t (show(i:Int)<xs.length by omega),if_true,bsm]) (by simp [zu])
 rw [h1,bsm,h2]
theorem zgg {xs:List Int}(hf:Big fu) (hl:xs.length≤1048576):z26 fu xs=some (numN xs 7):=by
 unfold z26 numN
 rw [zdJ hf hl,bsm]
 by_cases h:xs.length=7
 ·rw [if_pos (by simp [h]),dct h,Bool.true_and]
 ·rw [if_neg (by simp;omega),decide_eq_false h,Bool.false_and]
theorem zkn {i k:Nat}:((i:Int).tdiv (k:Int))=((i / k:Nat):Int):=by rw [Int.tdiv_eq_ediv_of_nonneg (by omega)];exact(Int.natCast_ediv i k).symm
theorem zfr {k:Nat}{cs:List (List D.Qe)}(hf:Big fu) (hk:1≤k∧k≤4) (hl:cs.length≤1048576) (hc:∀ ch,ch∈cs→ch.length≤1048576∧∀ p,p∈ch→p.Qz.sz≤1048576):z33 fu cs (k:Int)=some (decide (cs.length=k*k) && chansN k cs):=by
 have hm:maxLen=9223372036854775807:=rfl
 have hkk:k*k≤16:=Nat.mul_le_mul hk.2 hk.2
 have hke:(k:Int)*(k:Int)=((k*k:Nat):Int):=by simp
 unfold z33
 rw [hke,zf (by omega) (by omega)]
 by_cases h1:cs.length=k*k
 ·rw [if_neg (by simp [h1]),dct h1,Bool.true_and]
  have hL:=allLoop (xs:=cs) (body:=z2T fu cs (k:Int)) (p:=fun i ch=>diagN k i ch && listN k i ch) (t:=()) (v:=false) (fu:=fu) (by omega) hf (fun i ch hi hx=>by
   obtain⟨y1,y2⟩:=hc ch (List.mem_of_getElem? hx)
   have hP:=zgj (fu:=fu) (p:=fun p=>!parcelN ((i % k:Nat):Int) p) (f:=fun y0=>z1X fu y0 ((i % k:Nat):Int)) (xs:=ch) hf (by omega) (fun p hp=>by
    unfold z1X
    rw [zjL hf (y2 p hp)]
    rfl)
   rw [zbS] at hP
   have j2:∀ b,z11 fu (i:Int) b=if b=true then some (.ret false) else some (.next (w64 ((i:Int)+1))):=fun b=>by unfold z11;rfl
   have hdk:((i / k:Nat):Int)≤(i:Int):=Int.ofNat_le.2 (Nat.div_le_self i k)
   have hd0:(0:Int)≤((i / k:Nat):Int):=Int.natCast_nonneg _
   unfold z2T
   rw [if_pos (by simpa using hi),zd hx,bsm,if_pos (by simp;omega),if_pos (by simp;omega),zkn,tmodN (by omega),zf (n:=((i / k:Nat):Int)) (by omega) (by omega),hP]
   simp only [bsm,j2]
   unfold diagN listN
   by_cases e:i / k=i % k
   ·rw [if_pos (by simp [e])]
    cases ch with
    | nil=>simp [e]
    | cons y ys=>simp [e]
   ·rw [if_neg (by simp;omega)]
    by_cases h2:ch.length≤200
    ·rw [if_neg (by simp;omega)]
     cases hq:ch.all (parcelN ((i % k:Nat):Int))<;>simp [e,h2,hq]
    ·rw [if_pos (by simp;omega)]
     simp [e,h2]) (by unfold z2T;rw [if_neg (by simp)])
  rw [hL,bsm]
  have hand:(cs.zipIdx.all fun y=>diagN k y.2 y.1 && listN k y.2 y.1)=chansN k cs:=by
   unfold chansN
   induction cs.zipIdx with
   | nil=>rfl
   | cons y ys ih=>
    simp only [List.all_cons,ih]
    cases diagN k y.2 y.1<;>cases listN k y.2 y.1<;>cases (ys.all fun x=>diagN k x.2 x.1)<;>rfl
  rw [hand]
  cases chansN k cs<;>simp [aft,z7r]
 ·rw [if_pos (by simp;omega),decide_eq_false h1];rfl
theorem zoR {at_:D.Qf}{aux:List D.Qf}(hf:Big fu) (hl:aux.length≤3):z1M fu at_ aux=some (fl (auxTA at_) aux aux.length):=by
 unfold z1M
 have h:=addLoop (xs:=aux) (body:=z1h fu at_ aux) (mk:=fun k s=>(s,k)) (out:=fun s=>s) (auxTA at_) (s0:=[]) (by omega) hf (fun k a ha=>by
  have hkl:=(List.getElem?_eq_some_iff.1 ha).1
  have hfl:=zae (f:=auxTA at_) (xs:=aux) (b:=1) (fun _ _ _=>by simp [auxTA]) k (by omega)
  rw [List.nil_append]
  generalize fl (auxTA at_) aux k=s at hfl ⊢
  unfold z1h z7s
  dsimp only
  have hw:w64 ((k:Int)+1)=(k:Int)+1:=zf (by omega) (by omega)
  rw [if_pos (by simpa using hkl),zd ha,bsm,hw,if_pos (dct (by omega)),bsm,if_pos (by simp;omega)]
  unfold z2U
  dsimp only
  rw [hw]
  rfl) (by
  unfold z1h
  rw [if_neg (by simp)])
 rw [h,bsm,z8]
 rfl
theorem zmr {ch i:Nat}{p:D.Qe}(h:p.Qj=3→p.Qz.QX.length≤3):(parT ch i p).length≤4:=by
 unfold parT
 split
 ·simp
 ·split
  ·rename_i h3
   have:=zae (f:=auxTA ⟨(ch:Int),3,(i:Int)⟩) (xs:=p.Qz.QX) (b:=1) (fun _ _ _=>by simp [auxTA]) p.Qz.QX.length (Nat.le_refl _)
   have:=h h3
   rw [List.length_append]
   simp only [List.length_cons,List.length_nil]
   omega
  ·simp
theorem zjJ (hf:Big fu) (hC:Chans c):z13 fu c=some (chansT c.Qh)∧(chansT c.Qh).length≤20000:=by
 have hn:=hC.n
 have hp3:∀ ch,ch∈c.Qh→∀ p,p∈ch→p.Qj=3→p.Qz.QX.length≤3:=fun ch h1 p h2 h3=>((hC.p p (List.mem_flatten.2 ⟨ch,h1,h2⟩)).2 h3).2
 have hcl:∀ (i:Nat) ch,c.Qh[i]? = some ch→(chanT i ch).length≤800:=fun i ch hc=>by
  have hch:=hC.l ch (List.mem_of_getElem? hc)
  have:=zae (f:=parT i) (xs:=ch) (b:=4) (fun j p hp=>zmr (hp3 ch (List.mem_of_getElem? hc) p (List.mem_of_getElem? hp))) ch.length (Nat.le_refl _)
  unfold chanT
  omega
 have hall:∀ i,i≤c.Qh.length→(fl chanT c.Qh i).length≤800*i:=fun i hi=>zae (f:=chanT) (xs:=c.Qh) (b:=800) hcl i hi
 refine⟨?_,by have:=hall c.Qh.length (Nat.le_refl _);unfold chansT;omega⟩
 unfold z13
 have h:=addLoop (xs:=c.Qh) (body:=z1c fu c) (mk:=fun k s=>(s,k)) (out:=fun s=>s) chanT (s0:=[]) (fu:=fu) (by omega) hf (fun i ch hc=>by
  have hil:=(List.getElem?_eq_some_iff.1 hc).1
  have hch:=hC.l ch (List.mem_of_getElem? hc)
  have h0:=hall i (by omega)
  rw [List.nil_append]
  generalize fl chanT c.Qh i=s0 at h0 ⊢
  unfold z1c
  dsimp only
  rw [if_pos (by simpa using hil),zd hc,bsm]
  have h1:=addLoop (xs:=ch) (body:=zN fu (s0,(i:Int)) ch) (mk:=fun k s=>(k,s)) (out:=fun s=>s) (parT i) (s0:=s0) (fu:=fu) (by omega) hf (fun n p hp=>by
   have hnl:=(List.getElem?_eq_some_iff.1 hp).1
   have h3':=hp3 ch (List.mem_of_getElem? hc) p (List.mem_of_getElem? hp)
   have hfl:=zae (f:=parT i) (xs:=ch) (b:=4) (fun j p hp=>zmr (hp3 ch (List.mem_of_getElem? hc) p (List.mem_of_getElem? hp))) n (by omega)
   have hb:(s0++fl (parT i) ch n).length≤100000:=by rw [List.length_append];omega
   generalize s0++fl (parT i) ch n=s at hb ⊢
   have he:zN fu (s0,(i:Int)) ch ((n:Int),s)=zM fu (s0,(i:Int)) ((n:Int),s) p (decide (p.Qj=1∨p.Qj=2)):=by
    unfold zN
    dsimp only
    rw [if_pos (by simpa using hnl),zd hp,bsm]
    simp only [beqD]
    by_cases k1:p.Qj=1
    ·simp [k1]
    ·by_cases k2:p.Qj=2<;>simp [k1,k2]
   rw [he]
   unfold zM parT
   dsimp only
   by_cases d:p.Qj=1∨p.Qj=2
   ·rw [if_pos (dct d),if_pos (by simp;omega),if_pos d]
    rfl
   ·rw [if_neg (by simpa using d),if_neg d]
    by_cases k3:p.Qj=3
    ·have haux:=zoR (fu:=fu) (at_:=⟨(i:Int),3,(n:Int)⟩) hf (h3' k3)
     have hal:=zae (f:=auxTA ⟨(i:Int),3,(n:Int)⟩) (xs:=p.Qz.QX) (b:=1) (fun _ _ _=>by simp [auxTA]) p.Qz.QX.length (Nat.le_refl _)
     have o:=h3' k3
     rw [if_pos (by simp [k3]),if_pos k3]
     unfold z6G
     rw [bsm,haux,bsm,if_pos (by simp only [decide_eq_true_eq];omega)]
     unfold z7s
     rw [if_neg (by simp),bsm,if_pos (by simp only [List.length_append,List.length_cons,List.length_nil,decide_eq_true_eq];omega),← List.append_assoc]
     rfl
    ·rw [if_neg (by simpa using k3),if_neg k3,List.append_nil]
     rfl) (by
   unfold zN
   rw [if_neg (by simp)])
  try dsimp only at h1
  rw [h1,bsm,z8]
  rfl) (by
  unfold z1c
  rw [if_neg (by simp)])
 rw [h,bsm,z8]
 rfl
theorem zje (hf:Big fu) (hs:c.sz≤1048576):z3o fu c=some (clusN c):=by
 have hm:maxLen=9223372036854775807:=rfl
 obtain⟨z1,z2,z3,z4,z5,z6,z7⟩:=zdH hs
 have ge:c.Qi=c.Qi:=rfl
 have no1:∀ r,z1s fu c r true=some false:=fun r=>by unfold z1s;rfl
 have no2:zv fu c true=some false:=by unfold zv;rfl
 have j2:zv fu c false=if(c.Qo.all fun x=>numN x 7)=true then((z13 fu c).bind fun G=>(z2A fu c.Qi G).bind fun H=>some H) else some false:=by
  unfold zv
  rw [if_neg (by simp),zhM (p:=fun x=>!numN x 7) hf (by omega) (fun x hx=>by unfold z5s;rw [zgg hf (z5 x hx)];rfl),zbS,bsm]
  cases (c.Qo.all fun x=>numN x 7)<;>rfl
 unfold z3o z1i
 rw [bsm]
 by_cases hk:1≤c.Qi.Qc.length∧c.Qi.Qc.length≤4
 ·rw [if_neg (by simp;omega),if_neg (by simp;omega),zfr hf hk z2 z3,bsm]
  by_cases h1:c.Qh.length=c.Qi.Qc.length*c.Qi.Qc.length
  ·rw [dct h1,Bool.true_and]
   cases h2:chansN c.Qi.Qc.length c.Qh with
   | false=>
    rw [Bool.not_false,no1]
    have:clusPN c=false:=by unfold clusPN;rw [h2];simp
    unfold clusN
    rw [this];rfl
   | true=>
    rw [Bool.not_true]
    unfold z1s
    rw [if_neg (by simp)]
    have key:∀ b,(b=false→clusPN c=false)→b=false→zv fu c true=some (clusN c):=fun b h hb=>by
     rw [no2]
     unfold clusN
     rw [h hb];rfl
    by_cases h3:c.Qo.length=c.Qi.Qc.length
    ·rw [if_neg (by simp [h3])]
     by_cases h4:c.QU.length=c.Qi.Qc.length
     ·rw [if_neg (by simp [h4])]
      by_cases h5:c.QZ.length=c.Qi.Qc.length
      ·rw [if_neg (by simp [h5]),zdJ hf z6,zdJ hf z7,bsm,bsm]
       have e4:numN c.QU c.Qi.Qc.length=(c.QU.all fun x=>decide (0≤x∧x≤1000000000)):=by unfold numN;rw [dct h4,Bool.true_and]
       have e5:numN c.QZ c.Qi.Qc.length=(c.QZ.all fun x=>decide (0≤x∧x≤1000000000)):=by unfold numN;rw [dct h5,Bool.true_and]
       rw [← e4,← e5]
       cases h6:numN c.QU c.Qi.Qc.length with
       | false=>
        rw [Bool.not_false,if_pos rfl]
        exact key false (fun _=>by unfold clusPN;rw [h6];simp) rfl
       | true=>
        rw [Bool.not_true,if_neg (by simp)]
        cases h7:numN c.QZ c.Qi.Qc.length with
        | false=>
         rw [Bool.not_false]
         exact key false (fun _=>by unfold clusPN;rw [h7];simp) rfl
        | true=>
         rw [Bool.not_true,j2]
         cases h8:(c.Qo.all fun x=>numN x 7) with
         | false=>
          have:clusPN c=false:=by unfold clusPN;rw [h8];simp
          unfold clusN
          rw [if_neg (by simp),this];rfl
         | true=>
          have hcp:clusPN c=piecesN c.Qi:=by
           unfold clusPN
           rw [h2,h6,h7,h8,dct ⟨h1,h3⟩]
           simp
          rw [if_pos rfl]

          have hC:Chans c:=by
           refine⟨by rw [h1];exact Nat.mul_le_mul hk.2 hk.2,fun ch hc=>?_,fun q hq=>?_⟩
           ·unfold chansN at h2
            rw [Bool.and_eq_true] at h2
            obtain⟨i,hi⟩:=List.getElem?_of_mem hc
            have d:=(z87 (p:=fun i ch=>listN c.Qi.Qc.length i ch)).1 h2.2 i ch hi
            unfold listN at d
            rw [Bool.and_eq_true,decide_eq_true_eq] at d
            exact d.1
           ·obtain⟨ch,hc,hq2⟩:=List.mem_flatten.1 hq
            refine⟨(z3 ch hc).2 q hq2,fun h3'=>?_⟩
            unfold chansN at h2
            rw [Bool.and_eq_true] at h2
            obtain⟨i,hi⟩:=List.getElem?_of_mem hc
            have d:=(z87 (p:=fun i ch=>listN c.Qi.Qc.length i ch)).1 h2.2 i ch hi
            unfold listN at d
            rw [Bool.and_eq_true,decide_eq_true_eq,List.all_eq_true] at d
            have o:=d.2 q hq2
            unfold parcelN at o
            rw [if_neg (by omega),if_neg (by omega),if_pos h3'] at o
            simp only [Bool.and_eq_true,decide_eq_true_eq] at o
            exact⟨o.1.1,zjU o.1.2⟩
          obtain⟨e9,M⟩:=zjJ (fu:=fu) hf hC
          rw [e9,bsm,zjG hf z1]
          unfold z1w clusN
          rw [hcp]
          cases hp:piecesN c.Qi with
          | false=>rfl
          | true=>
           have hS:=zhr z1 hp
           have hgn:=hS.n
           have hfl:=zae (f:=shardT) (xs:=c.Qi.Qc) (b:=2000) (fun j s hc=>zib hS hc) c.Qi.Qc.length (Nat.le_refl _)
           have hl:(gridT c.Qi).length≤100000:=by unfold gridT rootT;rw [List.length_append];simp only [List.length_cons,List.length_nil];omega
           rw [Bool.not_true,if_neg (by simp),zgB hf hS,bsm,if_pos (by simp only [decide_eq_true_eq];omega),zmq hf z1 (by rw [List.length_append];omega),bsm,bsm,Bool.true_and]
      ·rw [if_pos (by simp;omega)]
       exact key false (fun _=>by unfold clusPN numN;rw [decide_eq_false h5];simp) rfl
     ·rw [if_pos (by simp;omega)]
      exact key false (fun _=>by unfold clusPN numN;rw [decide_eq_false h4];simp) rfl
    ·rw [if_pos (by simp;omega)]
     exact key false (fun _=>by unfold clusPN;rw [decide_eq_false (fun h=>h3 h.2)];simp) rfl
  ·rw [decide_eq_false h1,Bool.false_and,Bool.not_false,no1]
   have:clusPN c=false:=by unfold clusPN;rw [decide_eq_false (fun h=>h1 h.1)];simp
   unfold clusN
   rw [this];rfl
 ·have:clusPN c=false:=by unfold clusPN piecesN;rw [decide_eq_false hk];rfl
  unfold clusN
  rw [this]
  by_cases h:c.Qi.Qc.length<1
  ·rw [if_pos (by simp;omega),no1];rfl
  ·rw [if_neg (by simp;omega),if_pos (by simp;omega),no1];rfl
end
end Go.E


namespace Go.E
open Go.RowKit Go.Proofs
set_option linter.unusedSimpArgs false
set_option linter.unusedVariables false

section
variable {fu:Nat}{c:D.Qa}
end

theorem zen {c:D.Qa}(hs:c.sz≤1048576) (h:clusN c=true):Small c.Qi∧Chans c∧c.Qi.Qc.length≠0∧c.Qh.length=c.Qi.Qc.length*c.Qi.Qc.length:=by
 unfold clusN at h
 rw [Bool.and_eq_true] at h
 obtain⟨z1,_⟩:=zdH hs
 obtain⟨hp,hC⟩:=zkq hs h.1
 have h1:=h.1
 unfold clusPN at h1
 simp only [Bool.and_eq_true,decide_eq_true_eq] at h1
 have h2:=hp
 unfold piecesN at h2
 rw [Bool.and_eq_true,decide_eq_true_eq] at h2
 exact⟨zhr z1 hp,hC,by omega,h1.2.1.1⟩
end Go.E


namespace Go.E
open Go.RowKit Go.Proofs
set_option linter.unusedSimpArgs false
set_option linter.unusedVariables false

def oneN (b:Bool):Nat:=if b=true then 1 else 0
def markN (ch:List D.Qe):Nat:=sumL (fun p:D.Qe=>oneN (p.Qj == 4)) ch
section
variable {fu:Nat}{c:D.Qa}
theorem zmC {b:Bool}:oneN b≤1:=by unfold oneN;split<;>omega
theorem zq3 {α:Type}{f:α→Nat}{b:Nat}:∀ {xs:List α},(∀ x,x∈xs→f x≤b)→sumL f xs≤b*xs.length
 | [],_=>by simp [sumL]
 | x::xs,h=>by
  have h1:=h x (by simp)
  have h2:=zq3 (b:=b) (xs:=xs) fun y hy=>h y (by simp [hy])
  simp only [sumL,List.length_cons,Nat.mul_add]
  omega
theorem zmL {ch:List D.Qe}:markN ch≤ch.length:=by
 have:=zq3 (f:=fun p:D.Qe=>oneN (p.Qj == 4)) (b:=1) (xs:=ch) fun _ _=>zmC
 unfold markN
 omega
theorem zji {b:Bool}:z4G fu b=some ((oneN b:Nat):Int):=by unfold z4G;cases b<;>rfl
theorem zgY {b:Bool}:z7f fu b=some ((oneN b:Nat):Int):=by unfold z7f;cases b<;>rfl
theorem zh8 {ch:List D.Qe}(hf:Big fu) (hl:ch.length≤1048576):z4K fu ch=some ((markN ch:Nat):Int):=by
 unfold z4K
 have h:=sumLoop (xs:=ch) (body:=z4f fu ch) (mk:=fun i s=>(s,i)) (out:=fun s=>s) (f:=fun p:D.Qe=>oneN (p.Qj == 4)) (c0:=0) (fu:=fu) (by omega) hf (fun i p hp=>by
  have hil:=(List.getElem?_eq_some_iff.1 hp).1
  have hb:=zmL (ch:=ch.take i)
  have d:=zmC (b:=p.Qj == 4)
  unfold markN at hb
  rw [List.length_take] at hb
  unfold z4f
  dsimp only
  rw [if_pos (by simpa using hil),zd hp,bsm,zji,bsm,zf (n:=_+((oneN _:Nat):Int)) (by omega) (by omega)]) (fun s=>by
  unfold z4f
  rw [if_neg (by simp)])
 try dsimp only at h
 rw [h,bsm,z8,Int.zero_add]
 rfl
theorem zh9 {ch:List D.Qe}(hf:Big fu) (hl:ch.length≤1048576):z7Q fu ch=some ((markN ch:Nat):Int):=by
 unfold z7Q
 have h:=sumLoop (xs:=ch) (body:=z7b fu ch) (mk:=fun i s=>(s,i)) (out:=fun s=>s) (f:=fun p:D.Qe=>oneN (p.Qj == 4)) (c0:=0) (fu:=fu) (by omega) hf (fun i p hp=>by
  have hil:=(List.getElem?_eq_some_iff.1 hp).1
  have hb:=zmL (ch:=ch.take i)
  have d:=zmC (b:=p.Qj == 4)
  unfold markN at hb
  rw [List.length_take] at hb
  unfold z7b
  dsimp only
  rw [if_pos (by simpa using hil),zd hp,bsm,zgY,bsm,zf (n:=_+((oneN _:Nat):Int)) (by omega) (by omega)]) (fun s=>by
  unfold z7b
  rw [if_neg (by simp)])
 try dsimp only at h
 rw [h,bsm,z8,Int.zero_add]
 rfl
end
end Go.E


namespace Go.E
open Go.RowKit Go.Proofs
set_option linter.unusedSimpArgs false
set_option linter.unusedVariables false

section
variable {fu:Nat}{c:D.Qa}
structure Nums (c:D.Qa):Prop where
 sl:c.QU.length=c.Qi.Qc.length
 gl:c.QZ.length=c.Qi.Qc.length
 n:c.Qi.Qc.length≤4
 s:∀ x,x∈c.QU→0≤x∧x≤1000000000
 g:∀ x,x∈c.QZ→0≤x∧x≤1000000000
theorem zqf (hs:c.sz≤1048576) (h:clusN c=true):Nums c:=by
 obtain⟨hS,_⟩:=zen hs h
 unfold clusN clusPN at h
 simp only [Bool.and_eq_true,decide_eq_true_eq] at h
 have h1:=h.1.2.2.1
 have h2:=h.1.2.2.2.1
 unfold numN at h1 h2
 simp only [Bool.and_eq_true,decide_eq_true_eq,List.all_eq_true] at h1 h2
 exact⟨h1.1,h2.1,hS.n,h1.2,h2.2⟩
end
end Go.E


