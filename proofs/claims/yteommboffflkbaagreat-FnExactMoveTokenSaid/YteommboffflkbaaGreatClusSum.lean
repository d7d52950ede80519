/- Grids: both sides' tests are the same. Conditions: none. -/
import Derived.Test.YteommboffflkbaaGreatGridImpl
import Derived.Test.YteommboffflkbaaGreatRounds
import Derived.Test.YteommboffflkbaaGreatSizesD
namespace Go.E
open Go.RowKit Go.Proofs
set_option linter.unusedSimpArgs false
set_option linter.unusedVariables false

theorem zac {α β:Type}{f:Nat→α→List β}{xs:List α}{p:β→Bool}:(fl f xs xs.length).all p=xs.zipIdx.all fun x=>(f x.2 x.1).all p:=by
 unfold fl
 rw [List.take_length,List.all_flatMap]
theorem zc9 {α β γ:Type}{f:Nat→α→List β}{xs:List α}{h:β→List γ}{n:Nat}:(fl f xs n).flatMap h=fl (fun i x=>(f i x).flatMap h) xs n:=by
 unfold fl
 rw [List.flatMap_assoc]
theorem ziF {α γ:Type}{h:α→List γ}:∀ {xs:List α}{k:Nat},((xs.zipIdx k).flatMap fun x=>h x.1)=xs.flatMap h
 | [],_=>rfl
 | x::xs,k=>by rw [List.zipIdx_cons,List.flatMap_cons,List.flatMap_cons,ziF]
theorem zg5 {T:List D.Qh}:namesK T=T.flatMap namesT:=by
 unfold namesK fl
 rw [List.take_length]
 exact ziF
theorem ze9 {α β:Type}{f f':Nat→α→List β}{xs:List α}{n:Nat}(h:∀ i x,f i x=f' i x):fl f xs n=fl f' xs n:=by
 have:f=f':=funext fun i=>funext fun x=>h i x
 rw [this]


theorem zpi {g:D.Qe}{m i:Nat}{c:D.Qd}:(cellT m i c).all (okT g)=c.QY.all (aliveN g):=by
 unfold cellT
 rw [zac,← z7i (p:=aliveN g)]
 congr 1
 funext x
 simp [auxT,okT,okTh,thA]
theorem zpg {g:D.Qe}{m i:Nat}{v:D.Qp}:(fullT m i v).all (okT g)=fullA g m i v:=by
 unfold fullT fullA
 cases v.Qa3<;>simp [okT,okTh,thA]
theorem zo5 {g:D.Qe}{m:Nat}{s:D.Qv}:(shardT m s).all (okT g)=shardA g m s:=by
 unfold shardT shardA
 rw [List.all_append,List.all_append,zac,zac,zac]
 simp only [zpi,zpg]
 rw [z7i (p:=fun c:D.Qd=>c.QY.all (aliveN g))]
 congr 2
 rw [← z7i (p:=fun r:D.Qn=>aliveN g r.A && aliveN g r.B)]
 congr 1
 funext x
 simp [redT,okT,okTh,thA]
theorem zkc {g:D.Qe}:(gridT g).all (okT g)=gridA g:=by
 unfold gridT gridA rootT
 rw [List.all_append,zac]
 simp only [zo5]
 simp [okT,okTh,thA]


def kT (t:D.QS):Key:=if t.own=true then(if t.at_.Qj=1 then(1,t.at_.Qb.toNat,t.at_.Qk.toNat,t.slot.toNat) else(0,0,0,0)) else keyA t.at_
def keysT (st:D.Qh):List Key:=[kT st.a,kT st.b]
def formH (t:D.QS):Bool:=!t.own || (decide (t.at_.Qj≠1) || decide (0<t.slot))
def formT (st:D.Qh):Bool:=formH st.a && formH st.b
theorem zkk {m i:Nat}{c:D.Qd}:(cellT m i c).flatMap keysT=cellS 1 m i c:=by
 unfold cellT cellS
 rw [zc9]
 refine ze9 fun k a=>?_
 unfold auxT auxK keysT kT thA
 simp
theorem zkj {m i:Nat}{v:D.Qp}:(fullT m i v).flatMap keysT=fullK m i v:=by
 unfold fullT fullK
 cases v.Qa3 with
 | false=>rfl
 | true=>simp [keysT,kT,thA,keyA]
theorem zjx {m:Nat}{s:D.Qv}:(shardT m s).flatMap keysT=shardS m s:=by
 unfold shardT shardS
 rw [List.flatMap_append,List.flatMap_append,zc9,zc9,zc9,ze9 (fun i c=>zkk (m:=m) (i:=i) (c:=c)),ze9 (fun i c=>zkj (m:=m) (i:=i) (v:=c))]
 congr 2
theorem zki {g:D.Qe}:(gridT g).flatMap keysT=gridS g:=by
 unfold gridT gridS
 rw [List.flatMap_append,zc9,ze9 (fun i c=>zjx (m:=i) (s:=c))]
 rfl
theorem zko {g:D.Qe}:(gridT g).all formT=true:=by
 unfold gridT rootT
 rw [List.all_append,zac]
 have hc:∀ m i c,(cellT m i c).all formT=true:=fun m i c=>by
  unfold cellT
  rw [zac,List.all_eq_true]
  intro x _
  simp [auxT,formT,formH,thA]
 have hs:∀ m s,(shardT m s).all formT=true:=fun m s=>by
  unfold shardT
  rw [List.all_append,List.all_append,zac,zac,zac]
  rw [Bool.and_eq_true,Bool.and_eq_true,List.all_eq_true,List.all_eq_true,List.all_eq_true]
  refine⟨fun x _=>hc _ _ _,fun x _=>by simp [redT,formT,formH,thA],fun x _=>?_⟩
  unfold fullT
  split<;>simp [formT,formH,thA]
 rw [Bool.and_eq_true]
 exact⟨by simp [formT,formH,thA,noneN],List.all_eq_true.2 fun x _=>hs _ _⟩
theorem zp3 {g:D.Qe}{t:D.QS}{K:Nat}(hK:K=1∨K=2) (h:okTh g t=true) (hf:formH t=true) (m i:Nat):[kT t].count (K,m,i,0)=(nameT t).count ⟨(m:Int),(K:Int),(i:Int)⟩:=by
 unfold okTh at h
 unfold formH at hf
 unfold nameT kT
 cases ho:t.own with
 | true=>
  rw [ho] at hf
  rw [if_pos rfl,if_pos rfl,List.count_singleton]
  by_cases k1:t.at_.Qj=1
  ·rw [if_pos k1]
   have h2:0<t.slot:=by simpa [k1] using hf
   rw [if_neg]
   ·rfl
   ·intro he
    simp only [beq_iff_eq,Prod.mk.injEq] at he
    omega
  ·rw [if_neg k1,if_neg]
   ·rfl
   ·intro he
    simp only [beq_iff_eq,Prod.mk.injEq] at he
    omega
 | false=>
  rw [ho,Bool.false_or] at h
  obtain⟨h1,h2,s,_,h3⟩:=zfk h
  have hk:t.at_.Qj=1∨t.at_.Qj=2:=by
   rcases h3 with⟨h3,_⟩ | ⟨h3,_⟩
   ·exact .inl h3
   ·exact .inr h3
  rw [if_neg (by simp),if_neg (by simp),List.count_singleton,List.count_singleton]
  generalize t.at_=a at *
  obtain⟨a1,a2,a3⟩:=a
  dsimp only at *
  unfold keyA
  dsimp only
  have e:(((if a2=1 then(1,a1.toNat,a3.toNat,0) else(2,a1.toNat,a3.toNat,0)):Key) == (K,m,i,0))=((⟨a1,a2,a3⟩:D.Qc) == ⟨(m:Int),(K:Int),(i:Int)⟩):=by
   rw [Bool.eq_iff_iff,beq_iff_eq,beq_iff_eq,D.Qc.mk.injEq]
   constructor
   ·intro he
    split at he
    ·simp only [Prod.mk.injEq] at he
     omega
    ·simp only [Prod.mk.injEq] at he
     omega
   ·rintro⟨e1,e2,e3⟩
    split
    ·obtain rfl:K=1:=by omega
     simp [e1,e3]
    ·obtain rfl:K=2:=by omega
     simp [e1,e3]
  rw [e]
theorem zfc {g:D.Qe}{K:Nat}(hK:K=1∨K=2) (m i:Nat):∀ {T:List D.Qh},T.all (okT g)=true→T.all formT=true→(T.flatMap keysT).count (K,m,i,0)=(T.flatMap namesT).count ⟨(m:Int),(K:Int),(i:Int)⟩
 | [],_,_=>rfl
 | st::T,h1,h2=>by
  rw [List.all_cons,Bool.and_eq_true] at h1 h2
  unfold okT at h1
  unfold formT at h2
  rw [Bool.and_eq_true] at h1 h2
  have a:=zp3 hK h1.1.1 h2.1.1 m i
  have b:=zp3 hK h1.1.2 h2.1.2 m i
  rw [List.flatMap_cons,List.flatMap_cons,List.count_append,List.count_append,zfc hK m i h1.2 h2.2]
  congr 1
  unfold keysT namesT
  rw [show [kT st.a,kT st.b]=[kT st.a]++[kT st.b] from rfl,List.count_append,List.count_append,a,b]


theorem z6w {α β:Type}[BEq β] [LawfulBEq β] {f:Nat→α→List β}{xs:List α}{y:β}(h:∀ (i:Nat) x,xs[i]? = some x→(f i x).count y=0):∀ n,n≤xs.length→(fl f xs n).count y=0
 | 0,_=>by rw [z9W];rfl
 | n+1,hn=>by
  obtain⟨x,hx⟩:=z42 (xs:=xs) (i:=n) (by omega)
  rw [z9t hx,List.count_append,z6w h n (by omega),h n x hx]
theorem zhr {α β:Type}[BEq β] [LawfulBEq β] {f:Nat→α→List β}{xs:List α}{y:β}{j:Nat}{a:α}(ha:xs[j]? = some a) (h:∀ (i:Nat) x,i≠j→xs[i]? = some x→(f i x).count y=0):∀ n,n≤xs.length→(fl f xs n).count y=if j<n then(f j a).count y else 0
 | 0,_=>by rw [z9W];rfl
 | n+1,hn=>by
  obtain⟨x,hx⟩:=z42 (xs:=xs) (i:=n) (by omega)
  rw [z9t hx,List.count_append,zhr ha h n (by omega)]
  by_cases hj:n=j
  ·subst hj
   rw [ha] at hx
   cases hx
   rw [if_neg (Nat.lt_irrefl _),if_pos (Nat.lt_succ_self _),Nat.zero_add]
  ·rw [h n x hj hx,Nat.add_zero]
   by_cases hl:j<n
   ·rw [if_pos hl,if_pos (by omega)]
   ·rw [if_neg hl,if_neg (by omega)]
theorem zfj {m i k:Nat}{a:D.Qc}{X:Key}(hX:∀ a,keyA a≠X):(auxK 1 m i k a).count X=if(1,m,i,k+1)=X then 1 else 0:=by
 unfold auxK
 rw [show [((1,m,i,k+1):Key),keyA a]=[(1,m,i,k+1)]++[keyA a] from rfl,List.count_append,List.count_singleton,List.count_singleton,if_neg (c:=(keyA a == X)=true) (by simpa using hX a)]
 simp
theorem zgr {i:Nat}{r:D.Qn}{X:Key}(hX:∀ a,keyA a≠X):(redK i r).count X=0:=by
 unfold redK
 rw [List.count_eq_zero]
 simp only [List.mem_cons,List.not_mem_nil,or_false]
 rintro(h | h)<;>exact hX _ h.symm
theorem ze7 {m i:Nat}{v:D.Qp}{X:Key}(hX:∀ a,keyA a≠X) (h2:(2,m,i,0)≠X):(fullK m i v).count X=0:=by
 unfold fullK
 split
 ·rw [List.count_eq_zero]
  simp only [List.mem_cons,List.not_mem_nil,or_false]
  rintro(h | h)
  ·exact h2 h.symm
  ·exact hX _ h.symm
 ·rfl
theorem zkm {a:D.Qc}:(keyA a).1≠0:=by unfold keyA;split<;>simp
theorem ziQ {a:D.Qc}:(keyA a).2.2.2=0:=by unfold keyA;split<;>rfl
theorem znN {g:D.Qe}:(gridS g).count (0,0,0,0)=1:=by
 have hX:∀ a,keyA a≠(0,0,0,0):=fun a h=>zkm (a:=a) (by rw [h])
 unfold gridS rootS
 rw [List.count_append,z6w (fun m s _=>?_) _ (Nat.le_refl _)]
 ·rw [show [((0,0,0,0):Key),keyA g.Qo]=[(0,0,0,0)]++[keyA g.Qo] from rfl,List.count_append,List.count_singleton,List.count_singleton,if_neg (c:=(keyA g.Qo == (0,0,0,0))=true) (by simpa using hX g.Qo)]
  rfl
 ·unfold shardS
  rw [List.count_append,List.count_append,z6w (fun i c _=>?_) _ (Nat.le_refl _),z6w (fun i c _=>zgr hX) _ (Nat.le_refl _),z6w (fun i c _=>ze7 hX (by simp)) _ (Nat.le_refl _)]
  unfold cellS
  exact z6w (fun k a _=>by rw [zfj hX,if_neg (by simp)]) _ (Nat.le_refl _)
theorem znQ {g:D.Qe}{m i k:Nat}{s:D.Qv}{c:D.Qd}(hm:g.Qg[m]? = some s) (hc:s.Cells[i]? = some c) (hk:k<c.QY.length):(gridS g).count (1,m,i,k+1)=1:=by
 have hX:∀ a,keyA a≠(1,m,i,k+1):=fun a h=>by
  have:=ziQ (a:=a)
  rw [h] at this
  exact absurd this (Nat.succ_ne_zero k)
 have hml:=(List.getElem?_eq_some_iff.1 hm).1
 have hil:=(List.getElem?_eq_some_iff.1 hc).1
 obtain⟨a,ha⟩:=z42 hk
 have h0:(rootS g).count (1,m,i,k+1)=0:=by
  unfold rootS
  rw [List.count_eq_zero]
  simp only [List.mem_cons,List.not_mem_nil,or_false]
  rintro(h | h)
  ·simp at h
  ·exact hX _ h.symm
 unfold gridS
 rw [List.count_append,h0,Nat.zero_add,zhr hm (fun m' s' hne _=>?_) _ (Nat.le_refl _),if_pos hml]
 ·unfold shardS
  rw [List.count_append,List.count_append,z6w (f:=redK) (fun i c _=>zgr hX) _ (Nat.le_refl _),z6w (f:=fullK m) (fun i c _=>ze7 hX (by simp)) _ (Nat.le_refl _),zhr hc (fun i' c' hne _=>?_) _ (Nat.le_refl _),if_pos hil]
  ·unfold cellS
   rw [zhr ha (fun k' a' hne _=>?_) _ (Nat.le_refl _),if_pos hk,zfj hX,if_pos rfl]
   rw [zfj hX,if_neg (by simp only [Prod.mk.injEq];omega)]
  ·unfold cellS
   exact z6w (fun k' a' _=>by rw [zfj hX,if_neg (by simp only [Prod.mk.injEq];omega)]) _ (Nat.le_refl _)
 ·unfold shardS
  rw [List.count_append,List.count_append,z6w (f:=redK) (fun i c _=>zgr hX) _ (Nat.le_refl _),z6w (f:=fullK m') (fun i c _=>ze7 hX (by simp)) _ (Nat.le_refl _),z6w (fun i' c' _=>?_) _ (Nat.le_refl _)]
  unfold cellS
  exact z6w (fun k' a' _=>by rw [zfj hX,if_neg (by simp only [Prod.mk.injEq];omega)]) _ (Nat.le_refl _)
theorem zhe {ss:List D.Qv}{k:Key}:k∈portK ss↔k=(0,0,0,0)∨∃ (m:Nat) (s:D.Qv) (i:Nat) (c:D.Qd) (j:Nat),ss[m]? = some s∧s.Cells[i]? = some c∧c.Qj≠0∧j≤c.QY.length∧k=(1,m,i,j):=by
 unfold portK
 rw [List.mem_cons,List.mem_flatMap]
 constructor
 ·rintro(h | ⟨⟨s,m⟩,h1,h2⟩)
  ·exact .inl h
  ·rw [List.mem_zipIdx_iff_getElem?] at h1
   unfold rowK at h2
   obtain⟨⟨c,i⟩,h3,h4⟩:=List.mem_flatMap.1 h2
   rw [List.mem_zipIdx_iff_getElem?] at h3
   dsimp only at h1 h3 h4
   unfold cellK at h4
   split at h4
   ·cases h4
   ·rename_i k0
    obtain⟨j,h5,rfl⟩:=List.mem_map.1 h4
    have:=List.mem_range.1 h5
    exact .inr ⟨m,s,i,c,j,h1,h3,k0,by omega,rfl⟩
 ·rintro(h | ⟨m,s,i,c,j,h1,h2,h3,h4,rfl⟩)
  ·exact .inl h
  ·refine .inr ⟨(s,m),by rw [List.mem_zipIdx_iff_getElem?];exact h1,List.mem_flatMap.2 ⟨(c,i),by rw [List.mem_zipIdx_iff_getElem?];exact h2,?_⟩⟩
   dsimp only
   unfold cellK
   rw [if_neg h3]
   exact List.mem_map.2 ⟨j,List.mem_range.2 (by omega),rfl⟩
theorem zoa {g:D.Qe}{N:List D.Qc}:(g.Qg.zipIdx.all fun x=>shardC N x.2 x.1)=true↔∀ (m:Nat) s,g.Qg[m]? = some s→(∀ (i:Nat) c,s.Cells[i]? = some c→c.Qj=0∨N.count ⟨(m:Int),1,(i:Int)⟩=1)∧∀ (i:Nat) v,s.QM[i]? = some v→v.Qa2=false∨N.count ⟨(m:Int),2,(i:Int)⟩=2:=by
 rw [z8K (p:=fun m s=>shardC N m s)]
 refine forall_congr' fun m=>forall_congr' fun s=>?_
 rw [Nat.zero_add]
 refine imp_congr_right fun hm=>?_
 unfold shardC
 rw [Bool.and_eq_true,z8K (p:=fun i (c:D.Qd)=>decide (c.Qj=0) || decide (N.count ⟨(m:Int),1,(i:Int)⟩=1)),z8K (p:=fun i (v:D.Qp)=>!v.Qa2 || decide (N.count ⟨(m:Int),2,(i:Int)⟩=2))]
 simp only [Nat.zero_add,Bool.or_eq_true,decide_eq_true_eq,Bool.not_eq_true']
end Go.E


namespace Go.E
open Go.RowKit Go.Proofs
set_option linter.unusedSimpArgs false
set_option linter.unusedVariables false

def cellsOf:List D.Qi→List D.Qd
 | []=>[]
 | p::ps=>if p.Qj=3 then p.Qz::cellsOf ps else cellsOf ps
def stepC (p:D.Qi):Nat:=if p.Qj=3 then 1 else 0

def parK (j:Nat) (p:D.Qi):List Key:=if p.Qj=1∨p.Qj=2 then [keyA p.A,keyA p.B] else if p.Qj=3 then cellS 3 0 j p.Qz++[(3,0,j,0),keyA p.B] else []
def parS:Nat→List D.Qi→List Key
 | _,[]=>[]
 | j,p::ps=>parK j p++parS (j+stepC p) ps
def parA (g:D.Qe) (p:D.Qi):Bool:=if p.Qj=1∨p.Qj=2 then aliveN g p.A && aliveN g p.B else if p.Qj=3 then p.Qz.QY.all (aliveN g) && aliveN g p.B else true
def auxTA (at_:D.Qc) (k:Nat) (a:D.Qc):List D.Qh:=[⟨⟨at_,(k:Int)+1,true⟩,thA a⟩]
def parT (ch i:Nat) (p:D.Qi):List D.Qh:=if p.Qj=1∨p.Qj=2 then [⟨thA p.A,thA p.B⟩] else if p.Qj=3 then fl (auxTA ⟨(ch:Int),3,(i:Int)⟩) p.Qz.QY p.Qz.QY.length++[⟨⟨⟨(ch:Int),3,(i:Int)⟩,0,true⟩,thA p.B⟩] else []
def chanT (ch:Nat) (ps:List D.Qi):List D.Qh:=fl (parT ch) ps ps.length
def chansT (cs:List (List D.Qi)):List D.Qh:=fl chanT cs cs.length

theorem z7f {p:D.Qi}{ps:List D.Qi}:cellsOf (p::ps)=if p.Qj=3 then p.Qz::cellsOf ps else cellsOf ps:=rfl
theorem zb9 {p:D.Qi}{ps:List D.Qi}{j:Nat}:parS j (p::ps)=parK j p++parS (j+stepC p) ps:=rfl
theorem z8J:∀ {ps qs:List D.Qi},cellsOf (ps++qs)=cellsOf ps++cellsOf qs
 | [],_=>rfl
 | p::ps,qs=>by
  rw [List.cons_append,z7f,z7f,z8J]
  split<;>rfl
theorem zcD:∀ {ps qs:List D.Qi}{j:Nat},parS j (ps++qs)=parS j ps++parS (j+(cellsOf ps).length) qs
 | [],_,_=>rfl
 | p::ps,qs,j=>by
  rw [List.cons_append,zb9,zb9,zcD,List.append_assoc,z7f]
  congr 3
  unfold stepC
  split
  ·rw [List.length_cons];omega
  ·omega
theorem znS {p:D.Qi}{j:Nat}:parS j [p]=parK j p:=by simp [parS]
theorem zeT {a:D.Qc}:(keyA a).1≠3:=by unfold keyA;split<;>simp
theorem zp6 {p:D.Qi}{j:Nat}(h:p.Qj=3→p.Qz.QY.length≤3):(parK j p).length≤8:=by
 unfold parK
 split
 ·simp
 ·split
  ·rename_i h3
   have:=zgO (t:=3) (m:=0) (i:=j) (h h3)
   rw [List.length_append]
   simp only [List.length_cons,List.length_nil]
   omega
  ·simp
theorem zk6:∀ {ps:List D.Qi}{j:Nat},(∀ p,p∈ps→p.Qj=3→p.Qz.QY.length≤3)→(parS j ps).length≤8*ps.length
 | [],_,_=>by simp [parS]
 | p::ps,j,h=>by
  have h1:=zp6 (j:=j) (h p (by simp))
  have h2:=zk6 (ps:=ps) (j:=j+stepC p) fun q hq=>h q (by simp [hq])
  rw [zb9,List.length_append,List.length_cons]
  omega


theorem zpx {g:D.Qe}{ch i:Nat}{p:D.Qi}:(parT ch i p).all (okT g)=parA g p:=by
 unfold parT parA
 split
 ·simp [okT,okTh,thA]
 ·split
  ·rw [List.all_append,zac,← z7i (p:=aliveN g)]
   congr 1
   ·congr 1
    funext x
    simp [auxTA,okT,okTh,thA]
   ·simp [okT,okTh,thA]
  ·rfl
theorem zph {g:D.Qe}{ch:Nat}{ps:List D.Qi}:(chanT ch ps).all (okT g)=ps.all (parA g):=by
 unfold chanT
 rw [zac,← z7i (p:=parA g)]
 congr 1
 funext x
 exact zpx
theorem ziO {g:D.Qe}{cs:List (List D.Qi)}:(chansT cs).all (okT g)=cs.flatten.all (parA g):=by
 unfold chansT
 rw [zac,List.all_flatten,← z7i (p:=fun ps:List D.Qi=>ps.all (parA g))]
 congr 1
 funext x
 exact zph
theorem zoe {ch i:Nat}{p:D.Qi}:(parT ch i p).all formT=true:=by
 unfold parT
 split
 ·simp [formT,formH,thA]
 ·split
  ·rw [List.all_append,zac,Bool.and_eq_true,List.all_eq_true]
   exact⟨fun x _=>by simp [auxTA,formT,formH,thA],by simp [formT,formH,thA]⟩
  ·rfl
theorem zjz {cs:List (List D.Qi)}:(chansT cs).all formT=true:=by
 unfold chansT
 rw [zac,List.all_eq_true]
 intro x _
 unfold chanT
 rw [zac,List.all_eq_true]
 intro y _
 exact zoe


theorem ziS {α β γ:Type}[BEq β] [BEq γ] {f:Nat→α→List β}{h:Nat→α→List γ}{xs:List α}{y:β}{z:γ}(e:∀ i x,(f i x).count y=(h i x).count z):∀ n,n≤xs.length→(fl f xs n).count y=(fl h xs n).count z
 | 0,_=>by rw [z9W,z9W];rfl
 | n+1,hn=>by
  obtain⟨x,hx⟩:=z42 (xs:=xs) (i:=n) (by omega)
  rw [z9t hx,z9t hx,List.count_append,List.count_append,ziS e n (by omega),e n x]
theorem ze6 {x:Key}{K m n:Nat}(h:x.1≠K):([x]:List Key).count (K,m,n,0)=0:=by
 rw [List.count_eq_zero,List.mem_singleton]
 intro e
 rw [← e] at h
 exact h rfl
theorem znR {ch i j K m n:Nat}{p:D.Qi}(hK:K=1∨K=2):((parT ch i p).flatMap keysT).count (K,m,n,0)=(parK j p).count (K,m,n,0):=by
 unfold parT parK
 split
 ·rfl
 ·split
  ·rw [List.flatMap_append,zc9,List.count_append,List.count_append]
   congr 1
   ·unfold cellS
    refine ziS (fun k a=>?_) _ (Nat.le_refl _)
    have h1:((auxTA ⟨(ch:Int),3,(i:Int)⟩ k a).flatMap keysT)=[(0,0,0,0)]++[keyA a]:=by simp [auxTA,keysT,kT,thA]
    have h2:auxK 3 0 j k a=[(3,0,j,k+1)]++[keyA a]:=rfl
    rw [h1,h2,List.count_append,List.count_append,ze6 (x:=(0,0,0,0)) (by dsimp only;omega),ze6 (x:=(3,0,j,k+1)) (by dsimp only;omega)]
   ·have h1:([⟨⟨⟨(ch:Int),3,(i:Int)⟩,0,true⟩,thA p.B⟩]:List D.Qh).flatMap keysT=[(0,0,0,0)]++[keyA p.B]:=by simp [keysT,kT,thA]
    have h2:([(3,0,j,0),keyA p.B]:List Key)=[(3,0,j,0)]++[keyA p.B]:=rfl
    rw [h1,h2,List.count_append,List.count_append,ze6 (x:=(0,0,0,0)) (by dsimp only;omega),ze6 (x:=(3,0,j,0)) (by dsimp only;omega)]
  ·rfl
theorem zhZ {ch K m n:Nat}(hK:K=1∨K=2):∀ {ps:List D.Qi}{j i:Nat},((ps.zipIdx i).flatMap fun x=>(parT ch x.2 x.1).flatMap keysT).count (K,m,n,0)=(parS j ps).count (K,m,n,0)
 | [],_,_=>rfl
 | p::ps,j,i=>by
  rw [List.zipIdx_cons,List.flatMap_cons,List.count_append,zhZ (ps:=ps) (j:=j+stepC p) hK,znR (j:=j) hK]
  rw [zb9,List.count_append]
theorem zgc {K m n:Nat}(hK:K=1∨K=2):∀ {cs:List (List D.Qi)}{j i:Nat},((cs.zipIdx i).flatMap fun x=>(chanT x.2 x.1).flatMap keysT).count (K,m,n,0)=(parS j cs.flatten).count (K,m,n,0)
 | [],_,_=>rfl
 | ps::cs,j,i=>by
  rw [List.zipIdx_cons,List.flatMap_cons,List.count_append,zgc (cs:=cs) (j:=j+(cellsOf ps).length) hK,List.flatten_cons,zcD,List.count_append]
  congr 1
  unfold chanT
  rw [zc9]
  unfold fl
  rw [List.take_length]
  exact zhZ hK
theorem zj2 {K m n:Nat}{cs:List (List D.Qi)}(hK:K=1∨K=2):((chansT cs).flatMap keysT).count (K,m,n,0)=(parS 0 cs.flatten).count (K,m,n,0):=by
 unfold chansT
 rw [zc9]
 unfold fl
 rw [List.take_length]
 exact zgc hK


theorem zdh {t m i k:Nat}{a:D.Qc}{X:Key}(hX:∀ a,keyA a≠X):(auxK t m i k a).count X=if(t,m,i,k+1)=X then 1 else 0:=by
 unfold auxK
 rw [show [((t,m,i,k+1):Key),keyA a]=[(t,m,i,k+1)]++[keyA a] from rfl,List.count_append,List.count_singleton,List.count_singleton,if_neg (c:=(keyA a == X)=true) (by simpa using hX a)]
 simp
theorem zjy {g:D.Qe}{X:Key}(h3:X.1=3):(gridS g).count X=0:=by
 have hX:∀ a,keyA a≠X:=fun a h=>zeT (a:=a) (by rw [h];exact h3)
 have hr:(rootS g).count X=0:=by
  unfold rootS
  rw [List.count_eq_zero]
  simp only [List.mem_cons,List.not_mem_nil,or_false]
  rintro(h | h)
  ·rw [h] at h3;simp at h3
  ·exact hX _ h.symm
 unfold gridS
 rw [List.count_append,hr,z6w (fun m s _=>?_) _ (Nat.le_refl _)]
 unfold shardS
 rw [List.count_append,List.count_append,z6w (fun i c _=>?_) _ (Nat.le_refl _),z6w (fun i c _=>zgr hX) _ (Nat.le_refl _),z6w (fun i c _=>ze7 hX (fun h=>by rw [← h] at h3;simp at h3)) _ (Nat.le_refl _)]
 unfold cellS
 exact z6w (fun k a _=>by rw [zdh hX,if_neg (fun h=>by rw [← h] at h3;simp at h3)]) _ (Nat.le_refl _)
theorem zhg {p:D.Qi}{j:Nat}{X:Key}(hX:∀ a,keyA a≠X) (h:X.1=3→X.2.2.1≠j):(parK j p).count X=0:=by
 have pair:∀ k:Key,k≠X→∀ a,([k,keyA a]:List Key).count X=0:=fun k hk a=>by
  rw [List.count_eq_zero]
  simp only [List.mem_cons,List.not_mem_nil,or_false]
  rintro(h | h)
  ·exact hk h.symm
  ·exact hX _ h.symm
 unfold parK
 split
 ·exact pair _ (hX _) _
 ·split
  ·rw [List.count_append,pair _ (fun e=>by rw [← e] at h;exact h rfl rfl)]
   unfold cellS
   rw [z6w (fun k a _=>?_) _ (Nat.le_refl _)]
   rw [zdh hX,if_neg (fun e=>by rw [← e] at h;exact h rfl rfl)]
  ·rfl
theorem zcZ {X:Key}(hX:∀ a,keyA a≠X):∀ {ps:List D.Qi}{j:Nat},(X.1=3→X.2.2.1<j)→(parS j ps).count X=0
 | [],_,_=>rfl
 | p::ps,j,h=>by
  rw [zb9,List.count_append,zhg hX (fun h3=>Nat.ne_of_lt (h h3)),zcZ hX fun h3=>Nat.lt_of_lt_of_le (h h3) (Nat.le_add_right _ _)]
theorem znT {p:D.Qi}{j s:Nat}(h3:p.Qj=3) (hs:s≤p.Qz.QY.length):(parK j p).count (3,0,j,s)=1:=by
 have hX:∀ a,keyA a≠(3,0,j,s):=fun a h=>zeT (a:=a) (by rw [h])
 unfold parK
 rw [if_neg (by omega),if_pos h3,List.count_append,show([(3,0,j,0),keyA p.B]:List Key)=[(3,0,j,0)]++[keyA p.B] from rfl,List.count_append,List.count_singleton,List.count_singleton,if_neg (c:=(keyA p.B == (3,0,j,s))=true) (by simpa using hX p.B)]
 unfold cellS
 cases s with
 | zero=>
  rw [z6w (fun k a _=>by rw [zdh hX,if_neg (by simp)]) _ (Nat.le_refl _),if_pos (by simp)]
 | succ s=>
  obtain⟨a,ha⟩:=z42 (xs:=p.Qz.QY) (i:=s) (by omega)
  rw [zhr ha (fun k' a' hne _=>?_) _ (Nat.le_refl _),if_pos (by omega),zdh hX,if_pos rfl,if_neg (by simp)]
  rw [zdh hX,if_neg (by simp only [Prod.mk.injEq];omega)]
theorem zgt:∀ {ps:List D.Qi}{j t s:Nat}{c:D.Qd},(cellsOf ps)[t]? = some c→s≤c.QY.length→(parS j ps).count (3,0,j+t,s)=1
 | [],_,_,_,_,h,_=>by simp [cellsOf] at h
 | p::ps,j,t,s,c,h,hs=>by
  have hX:∀ a,keyA a≠(3,0,j+t,s):=fun a h=>zeT (a:=a) (by rw [h])
  rw [zb9,List.count_append]
  rw [z7f] at h
  by_cases h3:p.Qj=3
  ·rw [if_pos h3] at h
   have hst:stepC p=1:=by unfold stepC;rw [if_pos h3]
   rw [hst]
   cases t with
   | zero=>
    rw [List.getElem?_cons_zero,Option.some.injEq] at h
    subst h
    rw [Nat.add_zero] at hX ⊢
    rw [znT h3 hs,zcZ hX (fun _=>Nat.lt_succ_self j)]
   | succ t=>
    rw [List.getElem?_cons_succ] at h
    rw [zhg hX (fun _=>by simp),show j+(t+1)=(j+1)+t by omega,zgt h hs]
  ·rw [if_neg h3] at h
   have hst:stepC p=0:=by unfold stepC;rw [if_neg h3]
   have hk:(parK j p).count (3,0,j+t,s)=0:=by
    unfold parK
    split
    ·rw [List.count_eq_zero]
     simp only [List.mem_cons,List.not_mem_nil,or_false]
     rintro(h | h)<;>exact hX _ h.symm
    ·rfl
   rw [hst,hk,Nat.add_zero,Nat.zero_add,zgt h hs]
theorem znM {cs:List D.Qd}{k:Key}:k∈rowK 3 0 cs↔∃ (i:Nat) (c:D.Qd) (j:Nat),cs[i]? = some c∧c.Qj≠0∧j≤c.QY.length∧k=(3,0,i,j):=by
 unfold rowK
 rw [List.mem_flatMap]
 constructor
 ·rintro⟨⟨c,i⟩,h3,h4⟩
  rw [List.mem_zipIdx_iff_getElem?] at h3
  dsimp only at h3 h4
  unfold cellK at h4
  split at h4
  ·cases h4
  ·rename_i k0
   obtain⟨j,h5,rfl⟩:=List.mem_map.1 h4
   have:=List.mem_range.1 h5
   exact⟨i,c,j,h3,k0,by omega,rfl⟩
 ·rintro⟨i,c,j,h2,h3,h4,rfl⟩
  refine⟨(c,i),by rw [List.mem_zipIdx_iff_getElem?];exact h2,?_⟩
  dsimp only
  unfold cellK
  rw [if_neg h3]
  exact List.mem_map.2 ⟨j,List.mem_range.2 (by omega),rfl⟩
theorem zir {g:D.Qe}{P:List D.Qi}:countsN g (cellsOf P) (gridS g++parS 0 P)=true↔∀ (m:Nat) s,g.Qg[m]? = some s→(∀ (i:Nat) c,s.Cells[i]? = some c→c.Qj=0∨(gridS g++parS 0 P).count (1,m,i,0)=1)∧∀ (i:Nat) v,s.QM[i]? = some v→v.Qa2=false∨(gridS g++parS 0 P).count (2,m,i,0)=2:=by
 unfold countsN
 rw [Bool.and_eq_true,List.all_eq_true,z8K (p:=fun m s=>varC (gridS g++parS 0 P) m s)]
 constructor
 ·rintro⟨h1,h2⟩ m s hm
  refine⟨fun i c hc=>?_,fun i v hv=>?_⟩
  ·by_cases k0:c.Qj=0
   ·exact .inl k0
   ·have:=h1 (1,m,i,0) (List.mem_append.2 (.inl (zhe.2 (.inr ⟨m,s,i,c,0,hm,hc,k0,Nat.zero_le _,rfl⟩))))
    exact .inr (by simpa only [decide_eq_true_eq] using this)
  ·have h3:=h2 m s hm
   unfold varC at h3
   rw [Nat.zero_add] at h3
   have h4:=(z8K (p:=fun i (v:D.Qp)=>!v.Qa2 || decide ((gridS g++parS 0 P).count (2,m,i,0)=2))).1 h3 i v hv
   rw [Nat.zero_add] at h4
   cases hu:v.Qa2 with
   | false=>exact .inl rfl
   | true=>rw [hu,Bool.not_true,Bool.false_or,decide_eq_true_eq] at h4;exact .inr h4
 ·intro h
  refine⟨fun k hk=>?_,fun m s hm=>?_⟩
  ·rcases List.mem_append.1 hk with hk | hk
   ·rcases zhe.1 hk with rfl | ⟨m,s,i,c,j,h1,h2,h3,h4,rfl⟩
    ·refine decide_eq_true ?_
     rw [List.count_append,znN,zcZ (fun a h=>zkm (a:=a) (by rw [h])) (fun h=>by simp at h)]
    ·cases j with
     | zero=>exact decide_eq_true (((h m s h1).1 i c h2).resolve_left h3)
     | succ j=>
      refine decide_eq_true ?_
      rw [List.count_append,znQ h1 h2 (by omega),zcZ (fun a h=>by have:=ziQ (a:=a);rw [h] at this;exact absurd this (Nat.succ_ne_zero j)) (fun h=>by simp at h)]
   ·obtain⟨i,c,j,h2,h3,h4,rfl⟩:=znM.1 hk
    refine decide_eq_true ?_
    have:=zgt (j:=0) h2 h4
    rw [Nat.zero_add] at this
    rw [List.count_append,zjy rfl,this]
  ·unfold varC
   refine(z8K (p:=fun i (v:D.Qp)=>!v.Qa2 || decide ((gridS g++parS 0 P).count (2,0+m,i,0)=2))).2 fun i v hv=>?_
   rw [Nat.zero_add,Nat.zero_add]
   rcases (h m s hm).2 i v hv with h1 | h1
   ·rw [h1];rfl
   ·rw [decide_eq_true h1,Bool.or_true]
theorem znq {g:D.Qe}{cs:List (List D.Qi)}:(gridA g && (cs.flatten.all (parA g) && countsN g (cellsOf cs.flatten) (gridS g++parS 0 cs.flatten)))=implN g (gridT g++chansT cs):=by
 unfold implN
 rw [List.all_append,zkc,ziO]
 cases hA:gridA g with
 | false=>rfl
 | true=>
  cases hB:cs.flatten.all (parA g) with
  | false=>rfl
  | true=>
   simp only [Bool.true_and]
   rw [Bool.eq_iff_iff,zir,zoa]
   have hk:(gridT g++chansT cs).all (okT g)=true:=by rw [List.all_append,zkc,ziO,hA,hB];rfl
   have hfo:(gridT g++chansT cs).all formT=true:=by rw [List.all_append,zko,zjz];rfl
   have hc:=fun m i=>zfc (g:=g) (K:=1) (.inl rfl) m i hk hfo
   have hv:=fun m i=>zfc (g:=g) (K:=2) (.inr rfl) m i hk hfo
   simp only [List.flatMap_append,List.count_append,zki] at hc hv
   have ec:∀ m i,(gridS g++parS 0 cs.flatten).count (1,m,i,0)=(namesK (gridT g++chansT cs)).count ⟨(m:Int),1,(i:Int)⟩:=fun m i=>by
    rw [zg5,List.flatMap_append,List.count_append,List.count_append,← zj2 (.inl rfl)]
    exact hc m i
   have ev:∀ m i,(gridS g++parS 0 cs.flatten).count (2,m,i,0)=(namesK (gridT g++chansT cs)).count ⟨(m:Int),2,(i:Int)⟩:=fun m i=>by
    rw [zg5,List.flatMap_append,List.count_append,List.count_append,← zj2 (.inr rfl)]
    exact hv m i
   refine forall_congr' fun m=>forall_congr' fun s=>?_
   refine imp_congr_right fun hm=>and_congr (forall_congr' fun i=>forall_congr' fun c=>?_) (forall_congr' fun i=>forall_congr' fun c=>?_)
   ·rw [ec m i]
   ·rw [ev m i]
end Go.E


namespace Go.E
open Go.RowKit Go.Proofs
set_option linter.unusedSimpArgs false
set_option linter.unusedVariables false


def numN (xs:List Int) (k:Nat):Bool:=decide (xs.length=k) && xs.all fun x=>decide (0≤x∧x≤1000000000)
def emptyN (c:D.Qd):Bool:=decide (c.Qj=0∧c.QO=0∧c.Value=0∧c.Data=[]∧c.QY=[])
def parcelN (to:Int) (p:D.Qi):Bool:=
 if p.Qj=1 then emptyN p.Qz && decide (p.A.Qb=to) else
 if p.Qj=2 then emptyN p.Qz && decide (p.A.Qb=to∧p.A.Qj=2) else
 if p.Qj=3 then(decide (p.Qz.Qj≠0) && shCellN p.Qz) && (decide (p.A=noneN) && decide (p.B.Qb=to)) else
 if p.Qj=4 then emptyN p.Qz && (decide (p.A=noneN) && decide (p.B=noneN)) else false
def listN (k i:Nat) (ch:List D.Qi):Bool:=decide (ch.length≤200) && ch.all (parcelN ((i % k:Nat):Int))
def diagN (k i:Nat) (ch:List D.Qi):Bool:=decide (i / k≠i % k) || decide (ch=[])
def chansN (k:Nat) (cs:List (List D.Qi)):Bool:=(cs.zipIdx.all fun x=>diagN k x.2 x.1) && cs.zipIdx.all fun x=>listN k x.2 x.1
def clusPN (c:D.Qa):Bool:=piecesN c.Qe && (decide (c.Qf.length=c.Qe.Qg.length*c.Qe.Qg.length∧c.Qt.length=c.Qe.Qg.length) && (numN c.QK c.Qe.Qg.length && (numN c.QZ c.Qe.Qg.length && ((c.Qt.all fun x=>numN x 7) && chansN c.Qe.Qg.length c.Qf))))

theorem zcM {c:D.Qa}(h:c.sz≤1048576):c.Qe.sz≤1048576∧c.Qf.length≤1048576∧(∀ ch,ch∈c.Qf→ch.length≤1048576∧∀ p,p∈ch→p.Qz.sz≤1048576)∧c.Qt.length≤1048576∧(∀ x,x∈c.Qt→x.length≤1048576)∧c.QK.length≤1048576∧c.QZ.length≤1048576:=by
 unfold D.Qa.sz at h
 have h1:szL (fun x=>szL D.Qi.sz x) c.Qf≤1048576:=by first | omega | (simp only [] at h;omega)
 have h2:szL (fun x:List Int=>x.length) c.Qt≤1048576:=by first | omega | (simp only [] at h;omega)
 refine⟨by omega,z3B h1,fun ch hc=>?_,z3B h2,fun x hx=>z3A h2 hx,by omega,by omega⟩
 have h3:=z3A h1 hc
 refine⟨z3B h3,fun p hp=>?_⟩
 have h4:=z3A h3 hp
 unfold D.Qi.sz at h4
 omega
theorem zbV {fuel k:Nat}{xs:List Int}(hf:18446744073709551616≤fuel) (hl:xs.length≤1048576):z2Q fuel xs (k:Int)=some (numN xs k):=by
 have hm:maxLen=9223372036854775807:=rfl
 unfold z2Q numN
 by_cases h:xs.length=k
 ·subst h
  rw [if_neg (by simp)]
  have h1:=allLoop (xs:=xs) (body:=z3G fuel xs (xs.length:Int)) (p:=fun _ x=>decide (0≤x∧x≤1000000000)) (t:=()) (v:=false) (fuel:=fuel) (by omega) hf (fun i x hi hx=>by
   unfold z3G
   rw [if_pos (by simpa using hi),z9 hx,Option.bind_some,z6M,Option.bind_some]
   cases decide (0≤x∧x≤1000000000)<;>rfl) (by unfold z3G;rw [if_neg (by simp)])
  rw [z7i (p:=fun x:Int=>decide (0≤x∧x≤1000000000))] at h1
  rw [h1,Option.bind_some]
  cases xs.all fun x=>decide (0≤x∧x≤1000000000)<;>simp [aft,z82]
 ·rw [if_pos (by simp;omega),decide_eq_false h];rfl
theorem zjY {fuel:Nat}{xs ys:List Int}(hf:18446744073709551616≤fuel) (hl:xs.length≤maxLen):z8a fuel xs ys=some (decide (xs=ys)):=by
 unfold z8a
 exact eqWhole hl hf rfl (fun i a b hi ha hb=>by
  unfold z7W
  rw [if_pos (by simpa using hi),z9 ha,Option.bind_some,z9 hb,Option.bind_some]
  by_cases h:a=b<;>simp [h]) (by unfold z7W;rw [if_neg (by simp)])
theorem zjp {fuel:Nat}{xs ys:List D.Qc}(hf:18446744073709551616≤fuel) (hl:xs.length≤maxLen):z2m fuel xs ys=some (decide (xs=ys)):=by
 unfold z2m
 exact eqWhole hl hf rfl (fun i a b hi ha hb=>by
  unfold z2D
  rw [if_pos (by simpa using hi),z9 ha,Option.bind_some,z9 hb,Option.bind_some,zfm]
  by_cases h:a=b<;>simp [h]) (by unfold z2D;rw [if_neg (by simp)])
theorem zjA {fuel:Nat}{c:D.Qd}(hf:18446744073709551616≤fuel) (hs:c.sz≤1048576):z5a fuel c ⟨0,0,0,[],[]⟩=some (emptyN c):=by
 have hm:maxLen=9223372036854775807:=rfl
 unfold D.Qd.sz at hs
 unfold z5a emptyN
 dsimp only
 rw [zjY hf (by omega),zjp hf (by omega)]
 by_cases h1:c.Qj=0<;>by_cases h2:c.QO=0<;>by_cases h3:c.Value=0<;>by_cases h4:c.Data=[]<;>by_cases h5:c.QY=[]<;>simp [h1,h2,h3,h4,h5]
theorem zjB {fuel:Nat}{c:D.Qd}(hf:18446744073709551616≤fuel) (hs:c.sz≤1048576):z1K fuel c ⟨0,0,0,[],[]⟩=some (emptyN c):=by
 have hm:maxLen=9223372036854775807:=rfl
 unfold D.Qd.sz at hs
 unfold z1K emptyN
 dsimp only
 rw [zgb hf (by omega),zeY hf (by omega)]
 by_cases h1:c.Qj=0<;>by_cases h2:c.QO=0<;>by_cases h3:c.Value=0<;>by_cases h4:c.Data=[]<;>by_cases h5:c.QY=[]<;>simp [h1,h2,h3,h4,h5]
theorem zgw {a:D.Qc}:(((a.Qb:Int) == 0) && (((a.Qj:Int) == 0) && (((a.Qk:Int) == 0) && true)))=decide (a=noneN):=zfm (a:=a) (b:=noneN)
theorem beqD {a b:Int}:(a == b)=decide (a=b):=by by_cases h:a=b<;>simp [h]
theorem ziu {fuel:Nat}{p:D.Qi}{to:Int}(hf:18446744073709551616≤fuel) (hs:p.Qz.sz≤1048576):z6R fuel p to=some (parcelN to p):=by
 unfold z6R
 rw [show(⟨p.Qz.Qj,p.Qz.QO,p.Qz.Value,p.Qz.Data,p.Qz.QY⟩:D.Qd)=p.Qz from rfl,zjA hf hs,zi0 hf hs,zgw,zgw]
 simp only [Option.bind_some,beqD]
 unfold parcelN
 by_cases k1:p.Qj=1
 ·cases emptyN p.Qz<;>simp [k1]
 ·by_cases k2:p.Qj=2
  ·cases emptyN p.Qz<;>by_cases h:p.A.Qb=to<;>by_cases h':p.A.Qj=2<;>simp [k2,h,h']
  ·by_cases k3:p.Qj=3
   ·by_cases h0:p.Qz.Qj=0<;>cases shCellN p.Qz<;>by_cases h:p.A=noneN<;>by_cases h':p.B.Qb=to<;>simp [k3,h0,h,h']
   ·by_cases k4:p.Qj=4
    ·cases emptyN p.Qz<;>by_cases h:p.A=noneN<;>by_cases h':p.B=noneN<;>simp [k4,h,h']
    ·simp [k1,k2,k3,k4]
theorem ziv {fuel:Nat}{p:D.Qi}{to:Int}(hf:18446744073709551616≤fuel) (hs:p.Qz.sz≤1048576):z5x fuel p to=some (parcelN to p):=by
 have key:∀ b,z2b fuel p to b=if b=true then some false else if p.Qj=1 then some (decide (p.A.Qb=to)) else if p.Qj=2 then some (decide (p.A.Qb=to∧p.A.Qj=2)) else if p.Qj=3 then some ((decide (p.Qz.Qj≠0) && shCellN p.Qz) && (decide (p.A=noneN) && decide (p.B.Qb=to))) else if p.Qj=4 then some (decide (p.A=noneN) && decide (p.B=noneN)) else some false:=fun b=>by
  unfold z2b
  rw [zi1 hf hs,zgw,zgw]
  simp only [Option.bind_some,beqD]
  cases b with
  | true=>rfl
  | false=>
   rw [if_neg Bool.false_ne_true,if_neg Bool.false_ne_true]
   by_cases k1:p.Qj=1
   ·simp [k1]
   ·by_cases k2:p.Qj=2
    ·by_cases h:p.A.Qb=to<;>by_cases h':p.A.Qj=2<;>simp [k2,h,h']
    ·by_cases k3:p.Qj=3
     ·by_cases h0:p.Qz.Qj=0<;>cases shCellN p.Qz<;>by_cases h:p.A=noneN<;>by_cases h':p.B.Qb=to<;>simp [k3,h0,h,h']
     ·by_cases k4:p.Qj=4
      ·by_cases h:p.A=noneN<;>by_cases h':p.B=noneN<;>simp [k4,h,h']
      ·simp [k1,k2,k3,k4]
 unfold z5x
 rw [zjB hf hs,key,Option.bind_some,key]
 unfold parcelN
 by_cases k3:p.Qj=3
 ·simp [k3]
 ·by_cases k1:p.Qj=1
  ·cases emptyN p.Qz<;>simp [k1]
  ·by_cases k2:p.Qj=2
   ·cases emptyN p.Qz<;>simp [k2]
   ·by_cases k4:p.Qj=4
    ·cases emptyN p.Qz<;>simp [k4]
    ·cases emptyN p.Qz<;>simp [k1,k2,k3,k4]
theorem tmodN {i k:Nat}(hk:k≠0):((i:Int).tmod (k:Int))=((i % k:Nat):Int):=by rw [Int.tmod_eq_emod_of_nonneg (by omega)];exact(Int.natCast_emod i k).symm
theorem zoU {k:Nat}{cs:List (List D.Qi)}(hk:0<k) (hl:cs.length=k*k):(cs.zipIdx.all fun x=>diagN k x.2 x.1)=true↔∀ m,m<k→cs[m*k+m]? = some []:=by
 rw [z8K (p:=fun i ch=>diagN k i ch)]
 constructor
 ·intro h m hm
  have hlt:m*k+m<cs.length:=by
   have:m*k+k≤k*k:=by rw [← Nat.succ_mul];exact Nat.mul_le_mul_right _ hm
   omega
  obtain⟨ch,hc⟩:=z42 hlt
  have h1:=h _ _ hc
  rw [Nat.zero_add] at h1
  unfold diagN at h1
  have e1:(m*k+m) / k=m:=by rw [Nat.mul_comm,Nat.mul_add_div hk,Nat.div_eq_of_lt hm,Nat.add_zero]
  have e2:(m*k+m) % k=m:=by rw [Nat.mul_comm,Nat.mul_add_mod,Nat.mod_eq_of_lt hm]
  rw [e1,e2] at h1
  simp only [ne_eq,not_true_eq_false,decide_false,Bool.false_or,decide_eq_true_eq] at h1
  rw [hc,h1]
 ·intro h i ch hc
  rw [Nat.zero_add]
  unfold diagN
  have hil:=(List.getElem?_eq_some_iff.1 hc).1
  by_cases e:i / k=i % k
  ·have h1:=h (i % k) (Nat.mod_lt _ hk)
   have e2:i % k*k+i % k=i:=by
    have:=Nat.div_add_mod i k
    rw [e,Nat.mul_comm] at this
    exact this
   rw [e2,hc] at h1
   simp only [Option.some.injEq] at h1
   rw [h1];simp
  ·simp [e]
theorem zgs {fuel:Nat}{c:D.Qa}(hf:18446744073709551616≤fuel) (hs:c.sz≤1048576):z6Q fuel c=some (clusPN c):=by
 have hm:maxLen=9223372036854775807:=rfl
 obtain⟨z1,z2,z3,z4,z5,z6,z7⟩:=zcM hs
 have no:z18 fuel c true=some false:=by unfold z18;rfl
 unfold z6Q clusPN
 rw [show(⟨c.Qe.Qg,(⟨c.Qe.Qo.Qb,c.Qe.Qo.Qj,c.Qe.Qo.Qk⟩:D.Qc)⟩:D.Qe)=c.Qe from rfl,zio hf z1,Option.bind_some,zbV hf z6,zbV hf z7]
 cases hp:piecesN c.Qe with
 | false=>rw [Bool.not_false,if_pos rfl,no];rfl
 | true=>
  have hk:1≤c.Qe.Qg.length∧c.Qe.Qg.length≤4:=by
   unfold piecesN at hp
   rw [Bool.and_eq_true,decide_eq_true_eq] at hp
   exact hp.1
  have hkk:c.Qe.Qg.length*c.Qe.Qg.length≤16:=Nat.mul_le_mul hk.2 hk.2
  rw [Bool.not_true,if_neg (by simp),za (by omega) (by omega),Bool.true_and]
  generalize hkd:c.Qe.Qg.length=k at *
  by_cases h1:c.Qf.length=k*k
  ·rw [if_neg (by simp [h1])]
   by_cases h2:c.Qt.length=k
   ·rw [if_neg (by simp [h2]),Option.bind_some,Option.bind_some]
    cases h3:numN c.QK k with
    | false=>rw [Bool.not_false,if_pos rfl,no];simp
    | true=>
     rw [Bool.not_true,if_neg (by simp)]
     cases h4:numN c.QZ k with
     | false=>rw [Bool.not_false,no];simp
     | true=>
      rw [Bool.not_true,decide_eq_true ⟨h1,h2⟩,Bool.true_and,Bool.true_and,Bool.true_and]
      unfold z18
      rw [if_neg (by simp)]
      have hD:=allLoop (xs:=c.Qt) (body:=z4o fuel c) (p:=fun m x=>numN x 7 && decide (c.Qf[m*k+m]? = some [])) (t:=()) (v:=false) (fuel:=fuel) (by omega) hf (fun m x hi hx=>by
       have hmk:m*k+m<c.Qf.length:=by
        have:m*k+k≤k*k:=by rw [← Nat.succ_mul];exact Nat.mul_le_mul_right _ (by omega)
        omega
       obtain⟨ch,hc⟩:=z42 hmk
       have hmk2:(m:Int)*(k:Int)=((m*k:Nat):Int):=by simp
       have hb:m*k≤16:=by omega
       unfold z4o z4k
       rw [hkd,if_pos (by simp;omega),z9 hx,Option.bind_some]
       have h7:=zbV (k:=7) hf (z5 x (List.mem_of_getElem? hx))
       rw [show((7:Nat):Int)=7 from rfl] at h7
       rw [h7,Option.bind_some,hmk2,za (n:=((m*k:Nat):Int)) (by omega) (by omega),za (n:=((m*k:Nat):Int)+(m:Int)) (by omega) (by omega),show((m*k:Nat):Int)+(m:Int)=((m*k+m:Nat):Int) by omega,z9 hc,hc]
       cases numN x 7 with
       | false=>rfl
       | true=>
        cases ch with
        | nil=>simp
        | cons y ys=>simp) (by unfold z4o;rw [hkd,h2,if_neg (by simp)])
      rw [hD,Option.bind_some]
      have hdiag:=zoU (cs:=c.Qf) (by omega:0<k) h1
      have hcond:((c.Qt.zipIdx.all fun y=>numN y.1 7 && decide (c.Qf[y.2*k+y.2]? = some []))=true)↔((c.Qt.all fun x=>numN x 7)=true∧(c.Qf.zipIdx.all fun x=>diagN k x.2 x.1)=true):=by
       rw [hdiag,z8K (p:=fun m x=>numN x 7 && decide (c.Qf[m*k+m]? = some [])),List.all_eq_true]
       constructor
       ·intro h
        refine⟨fun x hx=>?_,fun m hm'=>?_⟩
        ·obtain⟨m,hm'⟩:=List.getElem?_of_mem hx
         have:=h m x hm'
         rw [Bool.and_eq_true] at this
         exact this.1
        ·obtain⟨x,hx⟩:=z42 (xs:=c.Qt) (i:=m) (by omega)
         have:=h m x hx
         rw [Nat.zero_add,Bool.and_eq_true,decide_eq_true_eq] at this
         exact this.2
       ·rintro⟨ha,hb⟩ m x hx
        have hml:=(List.getElem?_eq_some_iff.1 hx).1
        rw [Nat.zero_add,ha x (List.mem_of_getElem? hx),hb m (by omega)]
        simp
      unfold chansN
      by_cases hC:(c.Qt.zipIdx.all fun y=>numN y.1 7 && decide (c.Qf[y.2*k+y.2]? = some []))=true
      ·obtain⟨e1,e2⟩:=hcond.1 hC
       rw [if_pos hC,z8,e1,e2,Bool.true_and,Bool.true_and]
       unfold z8x
       have hL:=allLoop (xs:=c.Qf) (body:=z4n fuel c) (p:=fun i ch=>listN k i ch) (t:=()) (v:=false) (fuel:=fuel) (by omega) hf (fun i ch hi hc=>by
        obtain⟨y1,y2⟩:=z3 ch (List.mem_of_getElem? hc)
        unfold z4n listN
        rw [if_pos (by simpa using hi),z9 hc,Option.bind_some]
        by_cases hl:ch.length≤200
        ·rw [if_neg (by simp;omega),decide_eq_true hl,Bool.true_and]
         have hP:=allLoop (xs:=ch) (body:=z4m fuel c (i:Int)) (p:=fun _ p=>parcelN ((i % k:Nat):Int) p) (t:=()) (v:=Rd.ret false) (fuel:=fuel) (by omega) hf (fun j p hj hp'=>by
          unfold z4m
          rw [z9 hc,Option.bind_some,if_pos (by simpa using hj),Option.bind_some,z9 hp',Option.bind_some,hkd,if_pos (by simp;omega),tmodN (by omega),ziu hf (y2 p (List.mem_of_getElem? hp')),Option.bind_some]
          cases parcelN ((i % k:Nat):Int) p<;>rfl) (by unfold z4m;rw [z9 hc,Option.bind_some,if_neg (by simp)])
         rw [z7i (p:=parcelN ((i % k:Nat):Int))] at hP
         rw [hP,Option.bind_some]
         cases ch.all (parcelN ((i % k:Nat):Int))<;>rfl
        ·rw [if_pos (by simp;omega),decide_eq_false hl];rfl) (by unfold z4n;rw [if_neg (by simp)])
       rw [hL,Option.bind_some]
       cases (c.Qf.zipIdx.all fun x=>listN k x.2 x.1)<;>rfl
      ·rw [if_neg hC]
       have:((c.Qt.all fun x=>numN x 7) && ((c.Qf.zipIdx.all fun x=>diagN k x.2 x.1) && (c.Qf.zipIdx.all fun x=>listN k x.2 x.1)))=false:=by
        cases ha:(c.Qt.all fun x=>numN x 7) with
        | false=>rfl
        | true=>
         cases hb:(c.Qf.zipIdx.all fun x=>diagN k x.2 x.1) with
         | false=>rfl
         | true=>exact absurd (hcond.2 ⟨ha,hb⟩) hC
       rw [this];rfl
   ·rw [if_pos (by simp;omega),no,decide_eq_false (fun h=>h2 h.2)];rfl
  ·rw [if_pos (by simp;omega),no,decide_eq_false (fun h=>h1 h.1)];rfl
end Go.E


namespace Go.E
open Go.RowKit Go.Proofs
set_option linter.unusedSimpArgs false
set_option linter.unusedVariables false

theorem zci {α:Type}{xs:List (List α)}{i:Nat}{x:List α}(h:xs[i]? = some x):(xs.take (i+1)).flatten=(xs.take i).flatten++x:=by
 rw [List.take_add_one,h]
 simp
theorem zev {α:Type}{xs:List α}{i:Nat}{x:α}(h:xs[i]? = some x):xs.take (i+1)=xs.take i++[x]:=by
 rw [List.take_add_one,h]
 rfl
theorem z8B {α:Type}{b:Nat}:∀ {xs:List (List α)},(∀ x,x∈xs→x.length≤b)→xs.flatten.length≤b*xs.length
 | [],_=>by simp
 | x::xs,h=>by
  rw [List.flatten_cons,List.length_append,List.length_cons,Nat.mul_succ]
  have:=h x (by simp)
  have:=z8B (xs:=xs) fun y hy=>h y (by simp [hy])
  omega
theorem zbo:∀ {ps:List D.Qi},(cellsOf ps).length≤ps.length
 | []=>Nat.le_refl _
 | p::ps=>by
  rw [z7f]
  have:=zbo (ps:=ps)
  split
  ·simp only [List.length_cons];omega
  ·simp only [List.length_cons];omega
theorem zcc:∀ {ps:List D.Qi}{c:D.Qd},c∈cellsOf ps→∃ p,p∈ps∧p.Qj=3∧p.Qz=c
 | [],_,h=>by simp [cellsOf] at h
 | p::ps,c,h=>by
  rw [z7f] at h
  split at h
  ·rename_i h3
   rcases List.mem_cons.1 h with rfl | h
   ·exact⟨p,by simp,h3,rfl⟩
   ·obtain⟨q,h1,h2⟩:=zcc h
    exact⟨q,by simp [h1],h2⟩
  ·obtain⟨q,h1,h2⟩:=zcc h
   exact⟨q,by simp [h1],h2⟩
theorem zoZ {X Y:List D.Qi}{p:D.Qi}(h3:p.Qj=3):(cellsOf (X++p::Y))[(cellsOf X).length]? = some p.Qz:=by
 rw [z8J,List.getElem?_append_right (Nat.le_refl _),Nat.sub_self,z7f,if_pos h3]
 rfl

structure Chans (c:D.Qa):Prop where
 n:c.Qf.length≤16
 l:∀ ch,ch∈c.Qf→ch.length≤200
 p:∀ q,q∈c.Qf.flatten→q.Qz.sz≤1048576∧(q.Qj=3→q.Qz.Qj≠0∧q.Qz.QY.length≤3)
theorem ziZ {c:D.Qa}(hs:c.sz≤1048576) (h:clusPN c=true):piecesN c.Qe=true∧Chans c:=by
 unfold clusPN at h
 simp only [Bool.and_eq_true,decide_eq_true_eq] at h
 obtain⟨h1,⟨h2,h3⟩,h4,h5,h6,h7⟩:=h
 obtain⟨z1,z2,z3,z4,z5,z6,z7⟩:=zcM hs
 have hk:1≤c.Qe.Qg.length∧c.Qe.Qg.length≤4:=by
  unfold piecesN at h1
  rw [Bool.and_eq_true,decide_eq_true_eq] at h1
  exact h1.1
 unfold chansN at h7
 rw [Bool.and_eq_true] at h7
 have h8:=(z8K (p:=fun i ch=>listN c.Qe.Qg.length i ch)).1 h7.2
 have h9:∀ ch,ch∈c.Qf→ch.length≤200∧∀ q,q∈ch→q.Qj=3→q.Qz.Qj≠0∧q.Qz.QY.length≤3:=fun ch hc=>by
  obtain⟨i,hi⟩:=List.getElem?_of_mem hc
  have o:=h8 i ch hi
  unfold listN at o
  rw [Bool.and_eq_true,decide_eq_true_eq,List.all_eq_true] at o
  refine⟨o.1,fun q hq h3'=>?_⟩
  have d:=o.2 q hq
  unfold parcelN at d
  rw [if_neg (by omega),if_neg (by omega),if_pos h3'] at d
  simp only [Bool.and_eq_true,decide_eq_true_eq] at d
  exact⟨d.1.1,ziK d.1.2⟩
 refine⟨h1,⟨?_,fun ch hc=>(h9 ch hc).1,fun q hq=>?_⟩⟩
 ·rw [h2];exact Nat.mul_le_mul hk.2 hk.2
 ·obtain⟨ch,hc,hq2⟩:=List.mem_flatten.1 hq
  exact⟨(z3 ch hc).2 q hq2,(h9 ch hc).2 q hq2⟩

section
variable {fuel:Nat}{c:D.Qa}
theorem zjJ (hf:18446744073709551616≤fuel) (hC:Chans c):iter (z3m fuel c) fuel (0,[])=some (.inl (cellsOf c.Qf.flatten)):=by
 have hn:=hC.n
 have hfl:=z8B hC.l
 have hcl:=zbo (ps:=c.Qf.flatten)
 obtain⟨o,h,rfl⟩:=z1g (body:=z3m fuel c) (fun i s=>s=((i:Int),cellsOf (c.Qf.take i).flatten)) c.Qf.length (fun o=>o=.inl (cellsOf c.Qf.flatten)) (by
  rintro i s hi rfl
  obtain⟨ch,hc⟩:=z42 hi
  have hch:=hC.l ch (List.mem_of_getElem? hc)
  refine .inl ⟨_,?_,rfl⟩
  have hin:=z1g (body:=z59 fuel c ((i:Int),cellsOf (c.Qf.take i).flatten)) (fun n s=>s=((n:Int),cellsOf ((c.Qf.take i).flatten++ch.take n))) ch.length (fun o=>o=.inl (cellsOf ((c.Qf.take i).flatten++ch))) (by
   rintro n s hn' rfl
   obtain⟨p,hp⟩:=z42 hn'
   refine .inl ⟨_,?_,rfl⟩
   have hb:(cellsOf ((c.Qf.take i).flatten++ch.take n)).length≤100000:=by
    have h1:=zbo (ps:=(c.Qf.take i).flatten++ch.take n)
    have h2:=z8B (xs:=c.Qf.take i) fun y hy=>hC.l y (List.mem_of_mem_take hy)
    rw [List.length_append,List.length_take] at h1
    rw [List.length_take] at h2
    omega
   have e:cellsOf ((c.Qf.take i).flatten++ch.take (n+1))=cellsOf ((c.Qf.take i).flatten++ch.take n)++(if p.Qj=3 then [p.Qz] else []):=by
    rw [zev hp,← List.append_assoc,z8J]
    congr 1
   rw [e]
   generalize cellsOf ((c.Qf.take i).flatten++ch.take n)=s at hb ⊢
   unfold z59 z4p
   dsimp only
   rw [z9 hc,Option.bind_some,if_pos (by simpa using hn'),Option.bind_some,z9 hp,Option.bind_some]
   by_cases h3:p.Qj=3
   ·rw [if_pos (by simp [h3]),Option.bind_some,z9 hp,Option.bind_some,if_pos (by simp only [List.length_cons,List.length_nil,decide_eq_true_eq];omega),if_pos h3,za (by omega) (by omega)]
    rfl
   ·rw [if_neg (by simpa using h3),if_neg h3,List.append_nil,za (by omega) (by omega)]
    rfl) (by
   rintro s rfl
   refine .inr ⟨_,?_,rfl⟩
   unfold z59
   dsimp only
   rw [z9 hc,Option.bind_some,if_neg (by simp),List.take_length]) (fuel:=fuel) (i:=0) (s:=(0,cellsOf (c.Qf.take i).flatten)) (Nat.zero_le _) (by omega) (by simp)
  obtain⟨o,e1,rfl⟩:=hin
  unfold z3m
  dsimp only
  rw [if_pos (by simpa using hi),e1,Option.bind_some,z8,zci hc]
  unfold z8P
  dsimp only
  rw [za (by omega) (by omega)]
  rfl) (by
  rintro s rfl
  refine .inr ⟨_,?_,rfl⟩
  unfold z3m
  rw [if_neg (by simp),List.take_length]) (fuel:=fuel) (i:=0) (s:=(0,[])) (Nat.zero_le _) (by omega) rfl
 exact h
theorem zod {g:D.Qe}(hS:Small g):(gridS g).length≤20000:=by
 have hn:=hS.n
 have hfl:=z9u (f:=shardS) (xs:=g.Qg) (b:=4000) (fun j s hc=>zh7 hS hc) g.Qg.length (Nat.le_refl _)
 unfold gridS rootS
 rw [List.length_append]
 simp only [List.length_cons,List.length_nil]
 omega

theorem zit {L:D.Qm}{at_:List Int}{X Y:List D.Qi}{p:D.Qi}{M:D.Qm}{ch:List D.Qi}{i n:Nat}{z:Int × Int × D.Qm}(hf:18446744073709551616≤fuel) (hs:c.Qe.sz≤1048576) (hS:Small c.Qe) (hI:Items c.Qe (cellsOf c.Qf.flatten) L at_) (hC:Chans c)
  (hX:c.Qf.flatten=X++p::Y) (hc:c.Qf[i]? = some ch) (hp:ch[n]? = some p) (hM:Run c.Qe (cellsOf c.Qf.flatten) L M (gridS c.Qe++parS 0 X)) (hz:z.2.1=(i:Int)):
  (parA c.Qe p=true→∃ M',z1h fuel c (L,at_) z (((cellsOf X).length:Int),(n:Int),M)=some (.next (((cellsOf (X++[p])).length:Int),w64 ((n:Int)+1),M'))∧Run c.Qe (cellsOf c.Qf.flatten) L M' (gridS c.Qe++parS 0 (X++[p])))∧
  (parA c.Qe p=false→∃ r,z1h fuel c (L,at_) z (((cellsOf X).length:Int),(n:Int),M)=some (.ret r)∧∃ M',r=.ret (M',false)):=by
 have hnl:=(List.getElem?_eq_some_iff.1 hp).1
 have hfl:=z8B hC.l
 have hn16:=hC.n
 have hXl:X.length+1≤3200:=by
  have:c.Qf.flatten.length=X.length+(Y.length+1):=by rw [hX,List.length_append,List.length_cons]
  omega
 have hcX:=zbo (ps:=X)
 have hpm:p∈c.Qf.flatten:=by rw [hX];simp
 obtain⟨q1,q2⟩:=hC.p p hpm
 have hgl:=zod hS
 have hpl:=zk6 (ps:=X) (j:=0) (fun q hq h3=>((hC.p q (by rw [hX];simp [hq])).2 h3).2)
 have hks:(gridS c.Qe++parS 0 X).length≤100000:=by rw [List.length_append];omega
 have hpar:parS 0 (X++[p])=parS 0 X++parK (cellsOf X).length p:=by rw [zcD,Nat.zero_add,znS]
 have ge:(⟨c.Qe.Qg,(⟨c.Qe.Qo.Qb,c.Qe.Qo.Qj,c.Qe.Qo.Qk⟩:D.Qc)⟩:D.Qe)=c.Qe:=rfl
 have he:z1h fuel c (L,at_) z (((cellsOf X).length:Int),(n:Int),M)=z3k fuel c (L,at_) (((cellsOf X).length:Int),(n:Int),M) p (decide (p.Qj=1∨p.Qj=2)):=by
  unfold z1h
  dsimp only
  rw [hz,z9 hc,Option.bind_some,if_pos (by simpa using hnl),Option.bind_some,z9 hp,Option.bind_some]
  simp only [beqD]
  by_cases k1:p.Qj=1
  ·simp [k1]
  ·by_cases k2:p.Qj=2<;>simp [k1,k2]
 rw [he]
 unfold z3k
 dsimp only
 rw [ge]
 by_cases d:p.Qj=1∨p.Qj=2
 ·have k3:p.Qj≠3:=by omega
  have hcx:cellsOf (X++[p])=cellsOf X:=by rw [z8J,z7f,if_neg k3];simp [cellsOf]
  have hpk:parK (cellsOf X).length p=[keyA p.A,keyA p.B]:=by unfold parK;rw [if_pos d]
  have hpa:parA c.Qe p=(aliveN c.Qe p.A && aliveN c.Qe p.B):=by unfold parA;rw [if_pos d]
  obtain⟨M',e1,e2⟩:=zgu (fuel:=fuel) (a:=p.A) (b:=p.B) hs hI hM (by omega)
  rw [if_pos (decide_eq_true d),e1,Option.bind_some,hpa,hcx,hpar,hpk]
  constructor
  ·intro h
   dsimp only
   rw [h,Bool.not_true,if_neg (by simp)]
   exact⟨M',rfl,by rw [← List.append_assoc];exact e2 h⟩
  ·intro h
   dsimp only
   rw [h,Bool.not_false,if_pos rfl]
   exact⟨_,rfl,_,rfl⟩
 ·rw [if_neg (by simpa using d)]
  by_cases k3:p.Qj=3
  ·obtain⟨c0,c3⟩:=q2 k3
   rw [if_pos (by simp [k3])]
   have hcx:(cellsOf (X++[p])).length=(cellsOf X).length+1:=by rw [z8J,z7f,if_pos k3];simp [cellsOf]
   have hat:(cellsOf c.Qf.flatten)[(cellsOf X).length]? = some p.Qz:=by rw [hX];exact zoZ k3
   have hpk:parK (cellsOf X).length p=cellS 3 0 (cellsOf X).length p.Qz++[(3,0,(cellsOf X).length,0),keyA p.B]:=by unfold parK;rw [if_neg d,if_pos k3]
   have hpa:parA c.Qe p=(p.Qz.QY.all (aliveN c.Qe) && aliveN c.Qe p.B):=by unfold parA;rw [if_neg d,if_pos k3]
   have hidx:=z9 (hI.more _ _ hat)
   have hpk1:=zck hS c.Qe.Qg.length (Nat.le_refl _)
   rw [List.take_length] at hpk1
   have hgn:=hS.n
   have hrk:=zbR (t:=3) (m:=0) (cs:=cellsOf c.Qf.flatten) (fun y hy=>by
    obtain⟨q,g1,g2,g3⟩:=zcc hy
    rw [← g3]
    exact((hC.p q g1).2 g2).2) (cellsOf X).length (by have:=(List.getElem?_eq_some_iff.1 hat).1;omega)
   obtain⟨M1,e1,e2⟩:=zny (fuel:=fuel) (t:=3) (m:=0) (i:=(cellsOf X).length) (b:=(portK c.Qe.Qg).length+(rowK 3 0 ((cellsOf c.Qf.flatten).take (cellsOf X).length)).length) hf hs hI hM c3 (by omega) (by omega) (fun k hk=>by
    have:=zj1 (g:=c.Qe) (k:=k+1) hat c0 (by omega)
    rw [← Nat.add_assoc] at this
    exact this)
   rw [hidx,Option.bind_some,show(⟨p.Qz.Qj,p.Qz.QO,p.Qz.Value,p.Qz.Data,p.Qz.QY⟩:D.Qd)=p.Qz from rfl,e1,Option.bind_some,hpa,hcx,hpar,hpk]
   dsimp only
   cases ha:p.Qz.QY.all (aliveN c.Qe) with
   | false=>
    rw [Bool.not_false,if_pos rfl,Bool.false_and]
    unfold z3j
    rw [if_pos rfl]
    exact⟨fun h=>(by cases h),fun _=>⟨_,rfl,_,rfl⟩⟩
   | true=>
    rw [Bool.not_true,if_neg (by simp),zbp hs,Option.bind_some,Bool.true_and]
    unfold z3j
    dsimp only
    cases hb:aliveN c.Qe p.B with
    | false=>
     rw [Bool.not_false,if_pos rfl]
     exact⟨fun h=>(by cases h),fun _=>⟨_,rfl,_,rfl⟩⟩
    | true=>
     rw [Bool.not_true,if_neg (by simp),hidx,Option.bind_some]
     have o:=e2 ha
     obtain⟨y,y1,y2⟩:=zd3 (fuel:=fuel) (L':=M1) hI o.cells o.QU hb
     have hx:=zj1 (g:=c.Qe) (k:=0) hat c0 (Nat.zero_le _)
     rw [Nat.add_zero] at hx
     have hcs:=zgO (t:=3) (m:=0) (i:=(cellsOf X).length) c3
     obtain⟨M2,f1,f2⟩:=zcQ (fuel:=fuel) o hx y2 (by rw [List.length_append];omega)
     rw [y1,Option.bind_some,f1,Option.bind_some]
     unfold z7j z57 z58
     dsimp only
     refine⟨fun _=>⟨M2,?_,?_⟩,fun h=>by cases h⟩
     ·rw [za (n:=((cellsOf X).length:Int)+1) (by omega) (by omega)]
      rfl
     ·rw [← List.append_assoc,← List.append_assoc]
      exact f2
  ·have hcx:cellsOf (X++[p])=cellsOf X:=by rw [z8J,z7f,if_neg k3];simp [cellsOf]
   have hpk:parK (cellsOf X).length p=[]:=by unfold parK;rw [if_neg d,if_neg k3]
   have hpa:parA c.Qe p=true:=by unfold parA;rw [if_neg d,if_neg k3]
   rw [if_neg (by simpa using k3),hcx,hpar,hpk,hpa,List.append_nil]
   exact⟨fun _=>⟨M,rfl,hM⟩,fun h=>by cases h⟩
end
end Go.E


namespace Go.E
open Go.RowKit Go.Proofs
set_option linter.unusedSimpArgs false
set_option linter.unusedVariables false

section
variable {fuel:Nat}{c:D.Qa}
theorem zoY {L:D.Qm}{at_:List Int}{i:Nat}{ch:List D.Qi}{M0:D.Qm}{z:Int × Int × D.Qm}(hf:18446744073709551616≤fuel) (hs:c.Qe.sz≤1048576) (hS:Small c.Qe) (hI:Items c.Qe (cellsOf c.Qf.flatten) L at_) (hC:Chans c)
  (hc:c.Qf[i]? = some ch) (hM:Run c.Qe (cellsOf c.Qf.flatten) L M0 (gridS c.Qe++parS 0 (c.Qf.take i).flatten)) (hz:z.2.1=(i:Int)):
  (ch.all (parA c.Qe)=true∧∃ t,iter (z1h fuel c (L,at_) z) fuel (((cellsOf (c.Qf.take i).flatten).length:Int),0,M0)=some (.inl t)∧∃ M,t=(((cellsOf (c.Qf.take (i+1)).flatten).length:Int),M)∧Run c.Qe (cellsOf c.Qf.flatten) L M (gridS c.Qe++parS 0 (c.Qf.take (i+1)).flatten))∨
  (ch.all (parA c.Qe)=false∧∃ r,iter (z1h fuel c (L,at_) z) fuel (((cellsOf (c.Qf.take i).flatten).length:Int),0,M0)=some (.inr r)∧∃ M,r=.ret (M,false)):=by
 have hch:=hC.l ch (List.mem_of_getElem? hc)
 have hfl:c.Qf.flatten=(c.Qf.take i).flatten++(ch++(c.Qf.drop (i+1)).flatten):=by
  have h1:=zci hc
  have h2:c.Qf.flatten=(c.Qf.take (i+1)).flatten++(c.Qf.drop (i+1)).flatten:=by rw [← List.flatten_append,List.take_append_drop]
  rw [h2,h1,List.append_assoc]
 have h:=tryLoop (xs:=ch) (body:=z1h fuel c (L,at_) z) (fuel:=fuel)
  (fun n st=>∃ M:D.Qm,st=(((cellsOf ((c.Qf.take i).flatten++ch.take n)).length:Int),(n:Int),M)∧Run c.Qe (cellsOf c.Qf.flatten) L M (gridS c.Qe++parS 0 ((c.Qf.take i).flatten++ch.take n)))
  (fun _ p=>parA c.Qe p)
  (fun t=>∃ M,t=(((cellsOf (c.Qf.take (i+1)).flatten).length:Int),M)∧Run c.Qe (cellsOf c.Qf.flatten) L M (gridS c.Qe++parS 0 (c.Qf.take (i+1)).flatten))
  (fun r=>∃ M,r=.ret (M,false)) (s0:=(((cellsOf (c.Qf.take i).flatten).length:Int),0,M0)) (by omega) hf (by
  rintro n p _ hp ⟨M,rfl,hM'⟩
  have hnl:=(List.getElem?_eq_some_iff.1 hp).1
  have hX:c.Qf.flatten=((c.Qf.take i).flatten++ch.take n)++p::(ch.drop (n+1)++(c.Qf.drop (i+1)).flatten):=by
   rw [hfl,List.append_assoc]
   congr 1
   have:ch=ch.take n++p::ch.drop (n+1):=by
    have h3:=List.take_append_drop (n+1) ch
    rw [zev hp,List.append_assoc] at h3
    exact h3.symm
   rw [← List.cons_append,← List.append_assoc,← this]
  obtain⟨g1,g2⟩:=zit (z:=z) hf hs hS hI hC hX hc hp hM' hz
  refine⟨fun hp1=>?_,fun hp1=>?_⟩
  ·obtain⟨M',e1,e2⟩:=g1 hp1
   have ht:(c.Qf.take i).flatten++ch.take (n+1)=((c.Qf.take i).flatten++ch.take n)++[p]:=by rw [zev hp,List.append_assoc]
   refine⟨_,e1,M',?_,?_⟩
   ·rw [ht,za (by omega) (by omega)];rfl
   ·rw [ht];exact e2
  ·exact g2 hp1) (by
  rintro _ ⟨M,rfl,hM'⟩
  rw [List.take_length] at hM'
  refine⟨_,?_,M,rfl,by rw [zci hc];exact hM'⟩
  unfold z1h
  dsimp only
  rw [hz,z9 hc,Option.bind_some,if_neg (by simp),List.take_length,zci hc]) ⟨M0,by simp,by simpa using hM⟩
 rw [z7i (p:=parA c.Qe)] at h
 exact h
theorem zns {L:D.Qm}{at_:List Int}{M0:D.Qm}(hf:18446744073709551616≤fuel) (hs:c.Qe.sz≤1048576) (hS:Small c.Qe) (hI:Items c.Qe (cellsOf c.Qf.flatten) L at_) (hC:Chans c)
  (hM:Run c.Qe (cellsOf c.Qf.flatten) L M0 (gridS c.Qe)):
  (c.Qf.flatten.all (parA c.Qe)=true∧∃ t,iter (z2k fuel c (L,at_)) fuel (0,0,M0)=some (.inl t)∧Run c.Qe (cellsOf c.Qf.flatten) L t (gridS c.Qe++parS 0 c.Qf.flatten))∨
  (c.Qf.flatten.all (parA c.Qe)=false∧∃ r,iter (z2k fuel c (L,at_)) fuel (0,0,M0)=some (.inr r)∧∃ M,r=(M,false)):=by
 have hn:=hC.n
 have hfl:=z8B hC.l
 have h:=tryLoop (xs:=c.Qf) (body:=z2k fuel c (L,at_)) (fuel:=fuel)
  (fun i st=>∃ M:D.Qm,st=(((cellsOf (c.Qf.take i).flatten).length:Int),(i:Int),M)∧Run c.Qe (cellsOf c.Qf.flatten) L M (gridS c.Qe++parS 0 (c.Qf.take i).flatten))
  (fun _ ch=>ch.all (parA c.Qe))
  (fun t=>Run c.Qe (cellsOf c.Qf.flatten) L t (gridS c.Qe++parS 0 c.Qf.flatten))
  (fun r=>∃ M,r=(M,false)) (s0:=(0,0,M0)) (by omega) hf (by
  rintro i ch _ hc ⟨M,rfl,hM'⟩
  have hil:=(List.getElem?_eq_some_iff.1 hc).1
  unfold z2k
  dsimp only
  rw [if_pos (by simpa using hil)]
  rcases zoY (z:=(((cellsOf (c.Qf.take i).flatten).length:Int),(i:Int),M)) hf hs hS hI hC hc hM' rfl with⟨c1,t,c2,M1,rfl,c3⟩ | ⟨c1,r,c2,M1,rfl⟩
  ·rw [c1,c2,Option.bind_some,z8]
   unfold z8Q
   dsimp only
   exact⟨fun _=>⟨_,rfl,M1,by rw [za (by omega) (by omega)];rfl,c3⟩,fun h=>by cases h⟩
  ·rw [c1,c2,Option.bind_some]
   exact⟨fun h=>(by cases h),fun _=>⟨_,rfl,_,rfl⟩⟩) (by
  rintro _ ⟨M,rfl,hM'⟩
  rw [List.take_length] at hM'
  refine⟨_,?_,hM'⟩
  unfold z2k
  rw [if_neg (by simp)]) ⟨M0,by simp [cellsOf],by simpa [parS] using hM⟩
 rw [z7i (p:=fun ch:List D.Qi=>ch.all (parA c.Qe)),← List.all_flatten] at h
 exact h
theorem zpm (hf:18446744073709551616≤fuel) (hs:c.Qe.sz≤1048576) (hS:Small c.Qe) (hC:Chans c):
  ∃ L at_ L',Items c.Qe (cellsOf c.Qf.flatten) L at_∧z7w fuel c=some (L',gridA c.Qe && c.Qf.flatten.all (parA c.Qe))∧((gridA c.Qe && c.Qf.flatten.all (parA c.Qe))=true→Run c.Qe (cellsOf c.Qf.flatten) L L' (gridS c.Qe++parS 0 c.Qf.flatten)):=by
 have hn:=hC.n
 have hfl:=z8B hC.l
 have hcl:=zbo (ps:=c.Qf.flatten)
 have ge:(⟨c.Qe.Qg,(⟨c.Qe.Qo.Qb,c.Qe.Qo.Qj,c.Qe.Qo.Qk⟩:D.Qc)⟩:D.Qe)=c.Qe:=rfl
 obtain⟨L,at_,b1,hI⟩:=znw (fuel:=fuel) (g:=c.Qe) (more:=cellsOf c.Qf.flatten) hf hS ⟨by omega,fun y hy=>by
  obtain⟨q,g1,g2,g3⟩:=zcc hy
  rw [← g3]
  exact⟨(hC.p q g1).1,((hC.p q g1).2 g2).2⟩⟩
 obtain⟨M0,a1,a2⟩:=zpr (fuel:=fuel) hf hs hS hI
 refine⟨L,at_,?_⟩
 unfold z7w
 rw [zjJ hf hC,Option.bind_some,z8]
 unfold z8R
 rw [ge,b1,Option.bind_some]
 dsimp only
 rw [a1,Option.bind_some]
 dsimp only
 cases hA:gridA c.Qe with
 | false=>exact⟨M0,hI,rfl,fun h=>by cases h⟩
 | true=>
  rw [Bool.not_true,if_neg (by simp),Bool.true_and]
  rcases zns hf hs hS hI hC (a2 hA) with⟨c1,t,c2,c3⟩ | ⟨c1,r,c2,M1,rfl⟩
  ·rw [c1,c2,Option.bind_some,z8]
   exact⟨t,hI,rfl,fun _=>c3⟩
  ·rw [c1,c2,Option.bind_some]
   exact⟨M1,hI,rfl,fun h=>by cases h⟩

def clusN (c:D.Qa):Bool:=clusPN c && implN c.Qe (gridT c.Qe++chansT c.Qf)
theorem znp (hf:18446744073709551616≤fuel) (hs:c.sz≤1048576):z9E fuel c=some (clusN c):=by
 obtain⟨z1,_⟩:=zcM hs
 unfold z9E clusN
 rw [zgs hf hs,Option.bind_some]
 cases hp:clusPN c with
 | false=>rfl
 | true=>
  obtain⟨hpn,hC⟩:=ziZ hs hp
  have hS:=zgn z1 hpn
  obtain⟨L,at_,L',hI,e1,e2⟩:=zpm (fuel:=fuel) hf z1 hS hC
  have hn:=hC.n
  have hgn:=hS.n
  have hfl:=z8B hC.l
  have hcl:=zbo (ps:=c.Qf.flatten)
  rw [Bool.not_true,if_neg (by simp),e1,Option.bind_some,Bool.true_and,← znq]
  dsimp only
  cases hA:gridA c.Qe with
  | false=>rfl
  | true=>
   cases hB:c.Qf.flatten.all (parA c.Qe) with
   | false=>rfl
   | true=>
    have hpl:L.QH.length≤1048576:=by
     rw [hI.QH]
     have h:=zck hS c.Qe.Qg.length (Nat.le_refl _)
     rw [List.take_length] at h
     have h2:=zbR (t:=3) (m:=0) (cs:=cellsOf c.Qf.flatten) (fun y hy=>by
      obtain⟨q,g1,g2,g3⟩:=zcc hy
      rw [← g3]
      exact((hC.p q g1).2 g2).2) (cellsOf c.Qf.flatten).length (Nat.le_refl _)
     rw [List.take_length] at h2
     rw [List.length_append]
     omega
    rw [Bool.true_and,if_pos rfl]
    have h9:=zjE hf z1 hI (e2 (by rw [hA,hB];rfl)) hpl
    have d:z4Z fuel (⟨c.Qe.Qg,(⟨c.Qe.Qo.Qb,c.Qe.Qo.Qj,c.Qe.Qo.Qk⟩:D.Qc)⟩:D.Qe) L'=_:=h9
    rw [d]
    rfl


theorem zaH {k:Int}{xs:List Int}(hf:18446744073709551616≤fuel) (hl:xs.length≤1048576):z48 fuel k xs=some (xs.all fun x=>decide (0≤x∧x≤k)):=by
 have hm:maxLen=9223372036854775807:=rfl
 unfold z48
 rw [zdL (p:=fun x=>!decide (0≤x∧x≤k)) hf (by omega) (fun x=>by
  unfold z8t
  by_cases h:x<0
  ·rw [if_pos (decide_eq_true h),decide_eq_false (by omega)];rfl
  ·rw [if_neg (by simpa using h)]
   by_cases h2:x>k
   ·rw [decide_eq_true h2,decide_eq_false (by omega)];rfl
   ·rw [decide_eq_false h2,decide_eq_true (by omega)];rfl),Option.bind_some,zb2,Bool.not_not]
theorem zgK {p:List Int→Bool}{f:List Int→Option Bool}{xs:List (List Int)}(hf:18446744073709551616≤fuel) (hl:xs.length≤maxLen) (h:∀ n,n∈xs→f n=some (p n)):
  zN fuel xs f=some (xs.any p):=by
 unfold zN z1n
 obtain⟨r,h1,h2⟩:=askIndex (xs:=xs) (p:=p) (body:=zK fuel xs f) (j:=z1z fuel) (t:=()) hl hf rfl (fun i x hi hx=>by
  simp only [zK,z9 hx,h x (List.mem_of_getElem? hx),lt_t (show(i:Int)<xs.length by omega),if_true,Option.bind_some]) (by simp [zK])
 rw [h1,Option.bind_some,h2]
theorem zfd {p:D.Qi→Bool}{f:D.Qi→Option Bool}{xs:List D.Qi}(hf:18446744073709551616≤fuel) (hl:xs.length≤maxLen) (h:∀ n,n∈xs→f n=some (p n)):
  zc fuel xs f=some (xs.any p):=by
 unfold zc zT
 obtain⟨r,h1,h2⟩:=askIndex (xs:=xs) (p:=p) (body:=zn fuel xs f) (j:=z1e fuel) (t:=()) hl hf rfl (fun i x hi hx=>by
  simp only [zn,z9 hx,h x (List.mem_of_getElem? hx),lt_t (show(i:Int)<xs.length by omega),if_true,Option.bind_some]) (by simp [zn])
 rw [h1,Option.bind_some,h2]
theorem ziz {xs:List Int}(hf:18446744073709551616≤fuel) (hl:xs.length≤1048576):z2L fuel xs=some (numN xs 7):=by
 unfold z2L numN
 rw [zaH hf hl,Option.bind_some]
 by_cases h:xs.length=7
 ·rw [if_pos (by simp [h]),decide_eq_true h,Bool.true_and]
 ·rw [if_neg (by simp;omega),decide_eq_false h,Bool.false_and]
theorem zoT {i k:Nat}:((i:Int).tdiv (k:Int))=((i / k:Nat):Int):=by rw [Int.tdiv_eq_ediv_of_nonneg (by omega)];exact(Int.natCast_ediv i k).symm
theorem zi7 {k:Nat}{cs:List (List D.Qi)}(hf:18446744073709551616≤fuel) (hk:1≤k∧k≤4) (hl:cs.length≤1048576) (hc:∀ ch,ch∈cs→ch.length≤1048576∧∀ p,p∈ch→p.Qz.sz≤1048576):z3Z fuel cs (k:Int)=some (decide (cs.length=k*k) && chansN k cs):=by
 have hm:maxLen=9223372036854775807:=rfl
 have hkk:k*k≤16:=Nat.mul_le_mul hk.2 hk.2
 have hke:(k:Int)*(k:Int)=((k*k:Nat):Int):=by simp
 unfold z3Z
 rw [hke,za (by omega) (by omega)]
 by_cases h1:cs.length=k*k
 ·rw [if_neg (by simp [h1]),decide_eq_true h1,Bool.true_and]
  have hL:=allLoop (xs:=cs) (body:=z2t fuel cs (k:Int)) (p:=fun i ch=>diagN k i ch && listN k i ch) (t:=()) (v:=false) (fuel:=fuel) (by omega) hf (fun i ch hi hx=>by
   obtain⟨y1,y2⟩:=hc ch (List.mem_of_getElem? hx)
   have hP:=zfd (fuel:=fuel) (p:=fun p=>!parcelN ((i % k:Nat):Int) p) (f:=fun y0=>z1C fuel y0 ((i % k:Nat):Int)) (xs:=ch) hf (by omega) (fun p hp=>by
    unfold z1C
    rw [ziv hf (y2 p hp)]
    rfl)
   rw [zb2] at hP
   have j2:∀ b,zP fuel (i:Int) b=if b=true then some (.ret false) else some (.next (w64 ((i:Int)+1))):=fun b=>by unfold zP;rfl
   have hdk:((i / k:Nat):Int)≤(i:Int):=Int.ofNat_le.2 (Nat.div_le_self i k)
   have hd0:(0:Int)≤((i / k:Nat):Int):=Int.natCast_nonneg _
   unfold z2t
   rw [if_pos (by simpa using hi),z9 hx,Option.bind_some,if_pos (by simp;omega),if_pos (by simp;omega),zoT,tmodN (by omega),za (n:=((i / k:Nat):Int)) (by omega) (by omega),hP]
   simp only [Option.bind_some,j2]
   unfold diagN listN
   by_cases e:i / k=i % k
   ·rw [if_pos (by simp [e])]
    cases ch with
    | nil=>simp [e]
    | cons y ys=>simp [e]
   ·rw [if_neg (by simp;omega)]
    by_cases h2:ch.length≤200
    ·rw [if_neg (by simp;omega)]
     cases hq:ch.all (parcelN ((i % k:Nat):Int))<;>simp [e,h2,hq]
    ·rw [if_pos (by simp;omega)]
     simp [e,h2]) (by unfold z2t;rw [if_neg (by simp)])
  rw [hL,Option.bind_some]
  have hand:(cs.zipIdx.all fun y=>diagN k y.2 y.1 && listN k y.2 y.1)=chansN k cs:=by
   unfold chansN
   induction cs.zipIdx with
   | nil=>rfl
   | cons y ys ih=>
    simp only [List.all_cons,ih]
    cases diagN k y.2 y.1<;>cases listN k y.2 y.1<;>cases (ys.all fun x=>diagN k x.2 x.1)<;>rfl
  rw [hand]
  cases chansN k cs<;>simp [aft,z6H]
 ·rw [if_pos (by simp;omega),decide_eq_false h1];rfl
theorem znz {at_:D.Qc}{aux:List D.Qc}(hf:18446744073709551616≤fuel) (hl:aux.length≤3):z1u fuel at_ aux=some (fl (auxTA at_) aux aux.length):=by
 unfold z1u
 have h:=addLoop (xs:=aux) (body:=z15 fuel at_ aux) (mk:=fun k s=>(s,k)) (out:=fun s=>s) (auxTA at_) (s0:=[]) (by omega) hf (fun k a ha=>by
  have hkl:=(List.getElem?_eq_some_iff.1 ha).1
  have hfl:=z9u (f:=auxTA at_) (xs:=aux) (b:=1) (fun _ _ _=>by simp [auxTA]) k (by omega)
  rw [List.nil_append]
  generalize fl (auxTA at_) aux k=s at hfl ⊢
  unfold z15 z6J
  dsimp only
  have hw:w64 ((k:Int)+1)=(k:Int)+1:=za (by omega) (by omega)
  rw [if_pos (by simpa using hkl),z9 ha,Option.bind_some,hw,if_pos (decide_eq_true (by omega)),Option.bind_some,if_pos (by simp;omega)]
  unfold z2u
  dsimp only
  rw [hw]
  rfl) (by
  unfold z15
  rw [if_neg (by simp)])
 rw [h,Option.bind_some,z8]
 rfl
theorem zk5 {ch i:Nat}{p:D.Qi}(h:p.Qj=3→p.Qz.QY.length≤3):(parT ch i p).length≤4:=by
 unfold parT
 split
 ·simp
 ·split
  ·rename_i h3
   have:=z9u (f:=auxTA ⟨(ch:Int),3,(i:Int)⟩) (xs:=p.Qz.QY) (b:=1) (fun _ _ _=>by simp [auxTA]) p.Qz.QY.length (Nat.le_refl _)
   have:=h h3
   rw [List.length_append]
   simp only [List.length_cons,List.length_nil]
   omega
  ·simp
theorem zis (hf:18446744073709551616≤fuel) (hC:Chans c):zS fuel c=some (chansT c.Qf)∧(chansT c.Qf).length≤20000:=by
 have hn:=hC.n
 have hp3:∀ ch,ch∈c.Qf→∀ p,p∈ch→p.Qj=3→p.Qz.QY.length≤3:=fun ch h1 p h2 h3=>((hC.p p (List.mem_flatten.2 ⟨ch,h1,h2⟩)).2 h3).2
 have hcl:∀ (i:Nat) ch,c.Qf[i]? = some ch→(chanT i ch).length≤800:=fun i ch hc=>by
  have hch:=hC.l ch (List.mem_of_getElem? hc)
  have:=z9u (f:=parT i) (xs:=ch) (b:=4) (fun j p hp=>zk5 (hp3 ch (List.mem_of_getElem? hc) p (List.mem_of_getElem? hp))) ch.length (Nat.le_refl _)
  unfold chanT
  omega
 have hall:∀ i,i≤c.Qf.length→(fl chanT c.Qf i).length≤800*i:=fun i hi=>z9u (f:=chanT) (xs:=c.Qf) (b:=800) hcl i hi
 refine⟨?_,by have:=hall c.Qf.length (Nat.le_refl _);unfold chansT;omega⟩
 unfold zS
 have h:=addLoop (xs:=c.Qf) (body:=zZ fuel c) (mk:=fun k s=>(s,k)) (out:=fun s=>s) chanT (s0:=[]) (fuel:=fuel) (by omega) hf (fun i ch hc=>by
  have hil:=(List.getElem?_eq_some_iff.1 hc).1
  have hch:=hC.l ch (List.mem_of_getElem? hc)
  have h0:=hall i (by omega)
  rw [List.nil_append]
  generalize fl chanT c.Qf i=s0 at h0 ⊢
  unfold zZ
  dsimp only
  rw [if_pos (by simpa using hil),z9 hc,Option.bind_some]
  have h1:=addLoop (xs:=ch) (body:=zE fuel (s0,(i:Int)) ch) (mk:=fun k s=>(k,s)) (out:=fun s=>s) (parT i) (s0:=s0) (fuel:=fuel) (by omega) hf (fun n p hp=>by
   have hnl:=(List.getElem?_eq_some_iff.1 hp).1
   have h3':=hp3 ch (List.mem_of_getElem? hc) p (List.mem_of_getElem? hp)
   have hfl:=z9u (f:=parT i) (xs:=ch) (b:=4) (fun j p hp=>zk5 (hp3 ch (List.mem_of_getElem? hc) p (List.mem_of_getElem? hp))) n (by omega)
   have hb:(s0++fl (parT i) ch n).length≤100000:=by rw [List.length_append];omega
   generalize s0++fl (parT i) ch n=s at hb ⊢
   have he:zE fuel (s0,(i:Int)) ch ((n:Int),s)=zD fuel (s0,(i:Int)) ((n:Int),s) p (decide (p.Qj=1∨p.Qj=2)):=by
    unfold zE
    dsimp only
    rw [if_pos (by simpa using hnl),z9 hp,Option.bind_some]
    simp only [beqD]
    by_cases k1:p.Qj=1
    ·simp [k1]
    ·by_cases k2:p.Qj=2<;>simp [k1,k2]
   rw [he]
   unfold zD parT
   dsimp only
   by_cases d:p.Qj=1∨p.Qj=2
   ·rw [if_pos (decide_eq_true d),if_pos (by simp;omega),if_pos d]
    rfl
   ·rw [if_neg (by simpa using d),if_neg d]
    by_cases k3:p.Qj=3
    ·have haux:=znz (fuel:=fuel) (at_:=⟨(i:Int),3,(n:Int)⟩) hf (h3' k3)
     have hal:=z9u (f:=auxTA ⟨(i:Int),3,(n:Int)⟩) (xs:=p.Qz.QY) (b:=1) (fun _ _ _=>by simp [auxTA]) p.Qz.QY.length (Nat.le_refl _)
     have o:=h3' k3
     rw [if_pos (by simp [k3]),if_pos k3]
     unfold z5X
     rw [Option.bind_some,haux,Option.bind_some,if_pos (by simp only [decide_eq_true_eq];omega)]
     unfold z6J
     rw [if_neg (by simp),Option.bind_some,if_pos (by simp only [List.length_append,List.length_cons,List.length_nil,decide_eq_true_eq];omega),← List.append_assoc]
     rfl
    ·rw [if_neg (by simpa using k3),if_neg k3,List.append_nil]
     rfl) (by
   unfold zE
   rw [if_neg (by simp)])
  try dsimp only at h1
  rw [h1,Option.bind_some,z8]
  rfl) (by
  unfold zZ
  rw [if_neg (by simp)])
 rw [h,Option.bind_some,z8]
 rfl
theorem znr (hf:18446744073709551616≤fuel) (hs:c.sz≤1048576):z4K fuel c=some (clusN c):=by
 have hm:maxLen=9223372036854775807:=rfl
 obtain⟨z1,z2,z3,z4,z5,z6,z7⟩:=zcM hs
 have ge:(⟨c.Qe.Qg,(⟨c.Qe.Qo.Qb,c.Qe.Qo.Qj,c.Qe.Qo.Qk⟩:D.Qc)⟩:D.Qe)=c.Qe:=rfl
 have no1:∀ r,z1c fuel c r true=some false:=fun r=>by unfold z1c;rfl
 have no2:zo fuel c true=some false:=by unfold zo;rfl
 have j2:zo fuel c false=if(c.Qt.all fun x=>numN x 7)=true then((zS fuel c).bind fun y=>(z2c fuel c.Qe y).bind fun G=>some G) else some false:=by
  unfold zo
  rw [if_neg (by simp),zgK (p:=fun x=>!numN x 7) hf (by omega) (fun x hx=>by unfold z4R;rw [ziz hf (z5 x hx)];rfl),zb2,Option.bind_some]
  cases (c.Qt.all fun x=>numN x 7)<;>rfl
 unfold z4K z16
 rw [Option.bind_some]
 by_cases hk:1≤c.Qe.Qg.length∧c.Qe.Qg.length≤4
 ·rw [if_neg (by simp;omega),if_neg (by simp;omega),zi7 hf hk z2 z3,Option.bind_some]
  by_cases h1:c.Qf.length=c.Qe.Qg.length*c.Qe.Qg.length
  ·rw [decide_eq_true h1,Bool.true_and]
   cases h2:chansN c.Qe.Qg.length c.Qf with
   | false=>
    rw [Bool.not_false,no1]
    have:clusPN c=false:=by unfold clusPN;rw [h2];simp
    unfold clusN
    rw [this];rfl
   | true=>
    rw [Bool.not_true]
    unfold z1c
    rw [if_neg (by simp)]
    have key:∀ b,(b=false→clusPN c=false)→b=false→zo fuel c true=some (clusN c):=fun b h hb=>by
     rw [no2]
     unfold clusN
     rw [h hb];rfl
    by_cases h3:c.Qt.length=c.Qe.Qg.length
    ·rw [if_neg (by simp [h3])]
     by_cases h4:c.QK.length=c.Qe.Qg.length
     ·rw [if_neg (by simp [h4])]
      by_cases h5:c.QZ.length=c.Qe.Qg.length
      ·rw [if_neg (by simp [h5]),zaH hf z6,zaH hf z7,Option.bind_some,Option.bind_some]
       have e4:numN c.QK c.Qe.Qg.length=(c.QK.all fun x=>decide (0≤x∧x≤1000000000)):=by unfold numN;rw [decide_eq_true h4,Bool.true_and]
       have e5:numN c.QZ c.Qe.Qg.length=(c.QZ.all fun x=>decide (0≤x∧x≤1000000000)):=by unfold numN;rw [decide_eq_true h5,Bool.true_and]
       rw [← e4,← e5]
       cases h6:numN c.QK c.Qe.Qg.length with
       | false=>
        rw [Bool.not_false,if_pos rfl]
        exact key false (fun _=>by unfold clusPN;rw [h6];simp) rfl
       | true=>
        rw [Bool.not_true,if_neg (by simp)]
        cases h7:numN c.QZ c.Qe.Qg.length with
        | false=>
         rw [Bool.not_false]
         exact key false (fun _=>by unfold clusPN;rw [h7];simp) rfl
        | true=>
         rw [Bool.not_true,j2]
         cases h8:(c.Qt.all fun x=>numN x 7) with
         | false=>
          have:clusPN c=false:=by unfold clusPN;rw [h8];simp
          unfold clusN
          rw [if_neg (by simp),this];rfl
         | true=>
          have hcp:clusPN c=piecesN c.Qe:=by
           unfold clusPN
           rw [h2,h6,h7,h8,decide_eq_true ⟨h1,h3⟩]
           simp
          rw [if_pos rfl]

          have hC:Chans c:=by
           refine⟨by rw [h1];exact Nat.mul_le_mul hk.2 hk.2,fun ch hc=>?_,fun q hq=>?_⟩
           ·unfold chansN at h2
            rw [Bool.and_eq_true] at h2
            obtain⟨i,hi⟩:=List.getElem?_of_mem hc
            have d:=(z8K (p:=fun i ch=>listN c.Qe.Qg.length i ch)).1 h2.2 i ch hi
            unfold listN at d
            rw [Bool.and_eq_true,decide_eq_true_eq] at d
            exact d.1
           ·obtain⟨ch,hc,hq2⟩:=List.mem_flatten.1 hq
            refine⟨(z3 ch hc).2 q hq2,fun h3'=>?_⟩
            unfold chansN at h2
            rw [Bool.and_eq_true] at h2
            obtain⟨i,hi⟩:=List.getElem?_of_mem hc
            have d:=(z8K (p:=fun i ch=>listN c.Qe.Qg.length i ch)).1 h2.2 i ch hi
            unfold listN at d
            rw [Bool.and_eq_true,decide_eq_true_eq,List.all_eq_true] at d
            have o:=d.2 q hq2
            unfold parcelN at o
            rw [if_neg (by omega),if_neg (by omega),if_pos h3'] at o
            simp only [Bool.and_eq_true,decide_eq_true_eq] at o
            exact⟨o.1.1,ziK o.1.2⟩
          obtain⟨e9,H⟩:=zis (fuel:=fuel) hf hC
          rw [e9,Option.bind_some,ziq hf z1]
          unfold z1f clusN
          rw [hcp]
          cases hp:piecesN c.Qe with
          | false=>rfl
          | true=>
           have hS:=zgn z1 hp
           have hgn:=hS.n
           have hfl:=z9u (f:=shardT) (xs:=c.Qe.Qg) (b:=2000) (fun j s hc=>zh6 hS hc) c.Qe.Qg.length (Nat.le_refl _)
           have hl:(gridT c.Qe).length≤100000:=by unfold gridT rootT;rw [List.length_append];simp only [List.length_cons,List.length_nil];omega
           rw [Bool.not_true,if_neg (by simp),zfv hf hS,Option.bind_some,if_pos (by simp only [decide_eq_true_eq];omega),zk4 hf z1 (by rw [List.length_append];omega),Option.bind_some,Option.bind_some,Bool.true_and]
      ·rw [if_pos (by simp;omega)]
       exact key false (fun _=>by unfold clusPN numN;rw [decide_eq_false h5];simp) rfl
     ·rw [if_pos (by simp;omega)]
      exact key false (fun _=>by unfold clusPN numN;rw [decide_eq_false h4];simp) rfl
    ·rw [if_pos (by simp;omega)]
     exact key false (fun _=>by unfold clusPN;rw [decide_eq_false (fun h=>h3 h.2)];simp) rfl
  ·rw [decide_eq_false h1,Bool.false_and,Bool.not_false,no1]
   have:clusPN c=false:=by unfold clusPN;rw [decide_eq_false (fun h=>h1 h.1)];simp
   unfold clusN
   rw [this];rfl
 ·have:clusPN c=false:=by unfold clusPN piecesN;rw [decide_eq_false hk];rfl
  unfold clusN
  rw [this]
  by_cases h:c.Qe.Qg.length<1
  ·rw [if_pos (by simp;omega),no1];rfl
  ·rw [if_neg (by simp;omega),if_pos (by simp;omega),no1];rfl
end
end Go.E


namespace Go.E
open Go.RowKit Go.Proofs
set_option linter.unusedSimpArgs false
set_option linter.unusedVariables false

section
variable {fuel:Nat}{c:D.Qa}
end

theorem zfe {c:D.Qa}(hs:c.sz≤1048576) (h:clusN c=true):Small c.Qe∧Chans c∧c.Qe.Qg.length≠0∧c.Qf.length=c.Qe.Qg.length*c.Qe.Qg.length:=by
 unfold clusN at h
 rw [Bool.and_eq_true] at h
 obtain⟨z1,_⟩:=zcM hs
 obtain⟨hp,hC⟩:=ziZ hs h.1
 have h1:=h.1
 unfold clusPN at h1
 simp only [Bool.and_eq_true,decide_eq_true_eq] at h1
 have h2:=hp
 unfold piecesN at h2
 rw [Bool.and_eq_true,decide_eq_true_eq] at h2
 exact⟨zgn z1 hp,hC,by omega,h1.2.1.1⟩
end Go.E


namespace Go.E
open Go.RowKit Go.Proofs
set_option linter.unusedSimpArgs false
set_option linter.unusedVariables false

def oneN (b:Bool):Nat:=if b=true then 1 else 0
def markN (ch:List D.Qi):Nat:=sumL (fun p:D.Qi=>oneN (p.Qj == 4)) ch
def goN (c:D.Qa):Nat:=sumL (fun ch:List D.Qi=>ch.length - markN ch) c.Qf

section
variable {fuel:Nat}{c:D.Qa}
theorem zkb {b:Bool}:oneN b≤1:=by unfold oneN;split<;>omega
theorem ziG {α:Type}{f:α→Nat}{b:Nat}:∀ {xs:List α},(∀ x,x∈xs→f x≤b)→sumL f xs≤b*xs.length
 | [],_=>by simp [sumL]
 | x::xs,h=>by
  have h1:=h x (by simp)
  have h2:=ziG (b:=b) (xs:=xs) fun y hy=>h y (by simp [hy])
  simp only [sumL,List.length_cons,Nat.mul_add]
  omega
theorem zgy {ch:List D.Qi}:markN ch≤ch.length:=by
 have:=ziG (f:=fun p:D.Qi=>oneN (p.Qj == 4)) (b:=1) (xs:=ch) fun _ _=>zkb
 unfold markN
 omega
theorem znv {b:Bool}:z89 fuel b=some ((oneN b:Nat):Int):=by unfold z89;cases b<;>rfl
theorem zjm {b:Bool}:z9N fuel b=some ((oneN b:Nat):Int):=by unfold z9N;cases b<;>rfl
theorem zg6 {ch:List D.Qi}(hf:18446744073709551616≤fuel) (hl:ch.length≤1048576):z4d fuel ch=some ((markN ch:Nat):Int):=by
 unfold z4d
 have h:=sumLoop (xs:=ch) (body:=z3F fuel ch) (mk:=fun i s=>(s,i)) (out:=fun s=>s) (f:=fun p:D.Qi=>oneN (p.Qj == 4)) (c0:=0) (fuel:=fuel) (by omega) hf (fun i p hp=>by
  have hil:=(List.getElem?_eq_some_iff.1 hp).1
  have hb:=zgy (ch:=ch.take i)
  have d:=zkb (b:=p.Qj == 4)
  unfold markN at hb
  rw [List.length_take] at hb
  unfold z3F
  dsimp only
  rw [if_pos (by simpa using hil),z9 hp,Option.bind_some,znv,Option.bind_some,za (n:=_+((oneN _:Nat):Int)) (by omega) (by omega)]) (fun s=>by
  unfold z3F
  rw [if_neg (by simp)])
 try dsimp only at h
 rw [h,Option.bind_some,z8,Int.zero_add]
 rfl
theorem zg7 {ch:List D.Qi}(hf:18446744073709551616≤fuel) (hl:ch.length≤1048576):z7c fuel ch=some ((markN ch:Nat):Int):=by
 unfold z7c
 have h:=sumLoop (xs:=ch) (body:=z6t fuel ch) (mk:=fun i s=>(s,i)) (out:=fun s=>s) (f:=fun p:D.Qi=>oneN (p.Qj == 4)) (c0:=0) (fuel:=fuel) (by omega) hf (fun i p hp=>by
  have hil:=(List.getElem?_eq_some_iff.1 hp).1
  have hb:=zgy (ch:=ch.take i)
  have d:=zkb (b:=p.Qj == 4)
  unfold markN at hb
  rw [List.length_take] at hb
  unfold z6t
  dsimp only
  rw [if_pos (by simpa using hil),z9 hp,Option.bind_some,zjm,Option.bind_some,za (n:=_+((oneN _:Nat):Int)) (by omega) (by omega)]) (fun s=>by
  unfold z6t
  rw [if_neg (by simp)])
 try dsimp only at h
 rw [h,Option.bind_some,z8,Int.zero_add]
 rfl
theorem zpy (hC:Chans c) (i:Nat):sumL (fun ch:List D.Qi=>ch.length - markN ch) (c.Qf.take i)≤200*16:=by
 have:=ziG (f:=fun ch:List D.Qi=>ch.length - markN ch) (b:=200) (xs:=c.Qf.take i) fun ch hc=>by
  have:=hC.l ch (List.mem_of_mem_take hc)
  omega
 rw [List.length_take] at this
 have h2:=hC.n
 omega
theorem zpo (hf:18446744073709551616≤fuel) (hC:Chans c):z63 fuel c=some ((goN c:Nat):Int):=by
 have hcn:=hC.n
 unfold z63
 have h:=sumLoop (xs:=c.Qf) (body:=z3E fuel c) (mk:=fun i s=>(s,i)) (out:=fun s=>s) (f:=fun ch:List D.Qi=>ch.length - markN ch) (c0:=0) (fuel:=fuel) (by omega) hf (fun i ch hp=>by
  have hil:=(List.getElem?_eq_some_iff.1 hp).1
  have hb:=zpy hC i
  have hm:=zgy (ch:=ch)
  have hch:=hC.l ch (List.mem_of_getElem? hp)
  have e:(ch.length:Int) - ((markN ch:Nat):Int)=((ch.length - markN ch:Nat):Int):=by omega
  unfold z3E
  dsimp only
  rw [if_pos (by simpa using hil),z9 hp,Option.bind_some,Option.bind_some,zg6 hf (by omega),Option.bind_some,e,za (n:=((ch.length - markN ch:Nat):Int)) (by omega) (by omega),za (n:=_+((ch.length - markN ch:Nat):Int)) (by omega) (by omega)]) (fun s=>by
  unfold z3E
  rw [if_neg (by simp)])
 try dsimp only at h
 rw [h,Option.bind_some,z8,Int.zero_add]
 rfl
theorem zpp (hf:18446744073709551616≤fuel) (hC:Chans c):z2d fuel c=some ((goN c:Nat):Int):=by
 have hcn:=hC.n
 unfold z2d
 have h:=sumLoop (xs:=c.Qf) (body:=z1y fuel c) (mk:=fun i s=>(s,i)) (out:=fun s=>s) (f:=fun ch:List D.Qi=>ch.length - markN ch) (c0:=0) (fuel:=fuel) (by omega) hf (fun i ch hp=>by
  have hil:=(List.getElem?_eq_some_iff.1 hp).1
  have hb:=zpy hC i
  have hm:=zgy (ch:=ch)
  have hch:=hC.l ch (List.mem_of_getElem? hp)
  have e:(ch.length:Int) - ((markN ch:Nat):Int)=((ch.length - markN ch:Nat):Int):=by omega
  unfold z1y
  dsimp only
  rw [if_pos (by simpa using hil),z9 hp,Option.bind_some,zg7 hf (by omega),Option.bind_some,e,za (n:=((ch.length - markN ch:Nat):Int)) (by omega) (by omega),za (n:=_+((ch.length - markN ch:Nat):Int)) (by omega) (by omega)]) (fun s=>by
  unfold z1y
  rw [if_neg (by simp)])
 try dsimp only at h
 rw [h,Option.bind_some,z8,Int.zero_add]
 rfl
end
end Go.E


