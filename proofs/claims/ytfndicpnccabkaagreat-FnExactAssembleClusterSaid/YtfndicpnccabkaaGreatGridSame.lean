/- Grids: both sides' tests are the same. Conditions: none. -/
import Derived.Test.YtfndicpnccabkaaGreatGridImpl
set_option linter.unusedVariables false
set_option linter.unusedSimpArgs false
namespace Go.E
open Go.RowKit Go.Proofs

theorem zbL {α β:Type}{f:Nat→α→List β}{xs:List α}{p:β→Bool}:(fl f xs xs.length).all p=xs.zipIdx.all fun x=>(f x.2 x.1).all p:=by
 unfold fl
 rw[List.take_length,List.all_flatMap]
theorem z9D {α β γ:Type}{f:Nat→α→List β}{xs:List α}{h:β→List γ}{n:Nat}:(fl f xs n).flatMap h=fl (fun i x=>(f i x).flatMap h) xs n:=by
 unfold fl
 rw[List.flatMap_assoc]
theorem zpC {α γ:Type}{h:α→List γ}:∀ {xs:List α}{k:Nat},((xs.zipIdx k).flatMap fun x=>h x.1)=xs.flatMap h
 | [],_=>rfl
 | x::xs,k=>by rw[List.zipIdx_cons,List.flatMap_cons,List.flatMap_cons,zpC]
theorem zkB {T:LC}:zb9 T=T.flatMap zfh:=by
 unfold zb9 fl
 rw[List.take_length]
 exact zpC
theorem zbQ {α β:Type}{f f':Nat→α→List β}{xs:List α}{n:Nat}(h:∀ i x,f i x=f' i x):fl f xs n=fl f' xs n:=by
 have:f=f':=funext fun i=>funext fun x=>h i x
 rw[this]


theorem zxm {g:D.Qk}{m i:Nat}{c:Qa}:(zdw m i c).all (okT g)=c.QM.all (zH g):=by
 unfold zdw
 rw[zbL,← z8Y (p:=zH g)]
 congr 1
 funext x
 simp[zrM,okT,zrK,thA]
theorem zxj {g:D.Qk}{m i:Nat}{v:Qn}:(zfc m i v).all (okT g)=zk3 g m i v:=by
 unfold zfc zk3
 cases v.Qa0<;>simp[okT,zrK,thA]
theorem zvL {g:D.Qk}{m:Nat}{s:Qp}:(zb6 m s).all (okT g)=ziC g m s:=by
 unfold zb6 ziC
 rw[List.all_append,List.all_append,zbL,zbL,zbL]
 simp only[zxm,zxj]
 rw[z8Y (p:=fun c:Qa=>c.QM.all (zH g))]
 congr 2
 rw[← z8Y (p:=fun r:Qm=>zH g r.A && zH g r.B)]
 congr 1
 funext x
 simp[zoB,okT,zrK,thA]
theorem zso {g:D.Qk}:(zcm g).all (okT g)=zfy g:=by
 unfold zcm zfy zjY
 rw[List.all_append,zbL]
 simp only[zvL]
 simp[okT,zrK,thA]


def kT (t:QH):Key:=if t.own=true then(if t.at_.Qi=1 then(1,t.at_.Qj.toNat,t.at_.Qo.toNat,t.slot.toNat) else(0,0,0,0)) else z9S t.at_
def zf8 (st:D.Qc):List Key:=[kT st.a,kT st.b]
def zjf (t:QH):Bool:=!t.own || (decide (t.at_.Qi≠1) || decide (0<t.slot))
def zfz (st:D.Qc):Bool:=zjf st.a && zjf st.b
theorem zsM {m i:Nat}{c:Qa}:(zdw m i c).flatMap zf8=zbo 1 m i c:=by
 unfold zdw zbo
 rw[z9D]
 refine zbQ fun k a=>?_
 unfold zrM zpx zf8 kT thA
 simp
theorem zsL {m i:Nat}{v:Qn}:(zfc m i v).flatMap zf8=zeF m i v:=by
 unfold zfc zeF
 cases v.Qa0 with
 | false=>rfl
 | true=>simp[zf8,kT,thA,z9S]
theorem zrk {m:Nat}{s:Qp}:(zb6 m s).flatMap zf8=zbz m s:=by
 unfold zb6 zbz
 rw[List.flatMap_append,List.flatMap_append,z9D,z9D,z9D,zbQ (fun i c=>zsM (m:=m) (i:=i) (c:=c)),zbQ (fun i c=>zsL (m:=m) (i:=i) (v:=c))]
 congr 2
theorem zsK {g:D.Qk}:(zcm g).flatMap zf8=z7x g:=by
 unfold zcm z7x
 rw[List.flatMap_append,z9D,zbQ (fun i c=>zrk (m:=i) (s:=c))]
 rfl
theorem zsX {g:D.Qk}:(zcm g).all zfz=true:=by
 unfold zcm zjY
 rw[List.all_append,zbL]
 have hc:∀ m i c,(zdw m i c).all zfz=true:=fun m i c=>by
  unfold zdw
  rw[zbL,List.all_eq_true]
  intro x _
  simp[zrM,zfz,zjf,thA]
 have hs:∀ m s,(zb6 m s).all zfz=true:=fun m s=>by
  unfold zb6
  rw[List.all_append,List.all_append,zbL,zbL,zbL]
  rw[Bool.and_eq_true,Bool.and_eq_true,List.all_eq_true,List.all_eq_true,List.all_eq_true]
  refine⟨fun x _=>hc _ _ _,fun x _=>by simp[zoB,zfz,zjf,thA],fun x _=>?_⟩
  unfold zfc
  split<;>simp[zfz,zjf,thA]
 rw[Bool.and_eq_true]
 exact⟨by simp[zfz,zjf,thA,noneN],List.all_eq_true.2 fun x _=>hs _ _⟩
theorem zx0 {g:D.Qk}{t:QH}{K:Nat}(hK:K=1∨K=2)(h:zrK g t=true)(hf:zjf t=true)(m i:Nat):[kT t].count (K,m,i,0)=(zk0 t).count ⟨(m:Int),(K:Int),(i:Int)⟩:=by
 unfold zrK at h
 unfold zjf at hf
 unfold zk0 kT
 cases ho:t.own with
 | true=>
  rw[ho] at hf
  rw[if_pos rfl,if_pos rfl,List.count_singleton]
  by_cases k1:t.at_.Qi=1
  ·rw[if_pos k1]
   have h2:0<t.slot:=by simpa [k1] using hf
   rw[if_neg]
   ·rfl
   ·intro he
    simp only[beq_iff_eq,Prod.mk.injEq] at he
    omega
  ·rw[if_neg k1,if_neg]
   ·rfl
   ·intro he
    simp only[beq_iff_eq,Prod.mk.injEq] at he
    omega
 | false=>
  rw[ho,Bool.false_or] at h
  obtain⟨h1,h2,s,_,h3⟩:=zdW h
  have hk:t.at_.Qi=1∨t.at_.Qi=2:=by
   rcases h3 with⟨h3,_⟩ | ⟨h3,_⟩
   ·exact .inl h3
   ·exact .inr h3
  rw[if_neg (by simp),if_neg (by simp),List.count_singleton,List.count_singleton]
  generalize t.at_=a at *
  obtain⟨a1,a2,a3⟩:=a
  dsimp only at *
  unfold z9S
  dsimp only
  have e:(((if a2=1 then(1,a1.toNat,a3.toNat,0) else(2,a1.toNat,a3.toNat,0)):Key) == (K,m,i,0))=((⟨a1,a2,a3⟩:Qb) == ⟨(m:Int),(K:Int),(i:Int)⟩):=by
   rw[Bool.eq_iff_iff,beq_iff_eq,beq_iff_eq,Qb.mk.injEq]
   constructor
   ·intro he
    split at he
    ·simp only[Prod.mk.injEq] at he
     omega
    ·simp only[Prod.mk.injEq] at he
     omega
   ·rintro⟨e1,e2,e3⟩
    split
    ·obtain rfl:K=1:=by omega
     simp[e1,e3]
    ·obtain rfl:K=2:=by omega
     simp[e1,e3]
  rw[e]
theorem zjv {g:D.Qk}{K:Nat}(hK:K=1∨K=2)(m i:Nat):∀ {T:LC},T.all (okT g)=true→T.all zfz=true→(T.flatMap zf8).count (K,m,i,0)=(T.flatMap zfh).count ⟨(m:Int),(K:Int),(i:Int)⟩
 | [],_,_=>rfl
 | st::T,h1,h2=>by
  rw[List.all_cons,Bool.and_eq_true] at h1 h2
  unfold okT at h1
  unfold zfz at h2
  rw[Bool.and_eq_true] at h1 h2
  have a:=zx0 hK h1.1.1 h2.1.1 m i
  have b:=zx0 hK h1.1.2 h2.1.2 m i
  rw[List.flatMap_cons,List.flatMap_cons,List.count_append,List.count_append,zjv hK m i h1.2 h2.2]
  congr 1
  unfold zf8 zfh
  rw[show [kT st.a,kT st.b]=[kT st.a]++[kT st.b] from rfl,List.count_append,List.count_append,a,b]


theorem z7c {α β:Type}[BEq β][LawfulBEq β]{f:Nat→α→List β}{xs:List α}{y:β}(h:∀ (i:Nat) x,xs[i]? = some x→(f i x).count y=0):∀ n,n≤xs.length→(fl f xs n).count y=0
 | 0,_=>by rw[z8V];rfl
 | n+1,hn=>by
  obtain⟨x,hx⟩:=z1j (xs:=xs) (i:=n) (by omega)
  rw[z89 hx,List.count_append,z7c h n (by omega),h n x hx]
theorem znN {α β:Type}[BEq β][LawfulBEq β]{f:Nat→α→List β}{xs:List α}{y:β}{j:Nat}{a:α}(ha:xs[j]? = some a)(h:∀ (i:Nat) x,i≠j→xs[i]? = some x→(f i x).count y=0):∀ n,n≤xs.length→(fl f xs n).count y=if j<n then(f j a).count y else 0
 | 0,_=>by rw[z8V];rfl
 | n+1,hn=>by
  obtain⟨x,hx⟩:=z1j (xs:=xs) (i:=n) (by omega)
  rw[z89 hx,List.count_append,znN ha h n (by omega)]
  by_cases hj:n=j
  ·subst hj
   rw[ha] at hx
   cases hx
   rw[if_neg (Nat.lt_irrefl _),if_pos (Nat.lt_succ_self _),Nat.zero_add]
  ·rw[h n x hj hx,Nat.add_zero]
   by_cases hl:j<n
   ·rw[if_pos hl,if_pos (by omega)]
   ·rw[if_neg hl,if_neg (by omega)]
theorem zjC {m i k:Nat}{a:Qb}{X:Key}(hX:∀ a,z9S a≠X):(zpx 1 m i k a).count X=if(1,m,i,k+1)=X then 1 else 0:=by
 unfold zpx
 rw[show [((1,m,i,k+1):Key),z9S a]=[(1,m,i,k+1)]++[z9S a] from rfl,List.count_append,List.count_singleton,List.count_singleton,if_neg (c:=(z9S a == X)=true) (by simpa using hX a)]
 simp
theorem zm2 {i:Nat}{r:Qm}{X:Key}(hX:∀ a,z9S a≠X):(zr2 i r).count X=0:=by
 unfold zr2
 rw[List.count_eq_zero]
 simp only[List.mem_cons,List.not_mem_nil,or_false]
 rintro(h | h)<;>exact hX _ h.symm
theorem zi0 {m i:Nat}{v:Qn}{X:Key}(hX:∀ a,z9S a≠X)(h2:(2,m,i,0)≠X):(zeF m i v).count X=0:=by
 unfold zeF
 split
 ·rw[List.count_eq_zero]
  simp only[List.mem_cons,List.not_mem_nil,or_false]
  rintro(h | h)
  ·exact h2 h.symm
  ·exact hX _ h.symm
 ·rfl
theorem zsN {a:Qb}:(z9S a).1≠0:=by unfold z9S;split<;>simp
theorem zq1 {a:Qb}:(z9S a).2.2.2=0:=by unfold z9S;split<;>rfl
theorem zvm {g:D.Qk}:(z7x g).count (0,0,0,0)=1:=by
 have hX:∀ a,z9S a≠(0,0,0,0):=fun a h=>zsN (a:=a) (by rw[h])
 unfold z7x zhz
 rw[List.count_append,z7c (fun m s _=>?_) _ (Nat.le_refl _)]
 ·rw[show [((0,0,0,0):Key),z9S g.QO]=[(0,0,0,0)]++[z9S g.QO] from rfl,List.count_append,List.count_singleton,List.count_singleton,if_neg (c:=(z9S g.QO == (0,0,0,0))=true) (by simpa using hX g.QO)]
  rfl
 ·unfold zbz
  rw[List.count_append,List.count_append,z7c (fun i c _=>?_) _ (Nat.le_refl _),z7c (fun i c _=>zm2 hX) _ (Nat.le_refl _),z7c (fun i c _=>zi0 hX (by simp)) _ (Nat.le_refl _)]
  unfold zbo
  exact z7c (fun k a _=>by rw[zjC hX,if_neg (by simp)]) _ (Nat.le_refl _)
theorem zvv {g:D.Qk}{m i k:Nat}{s:Qp}{c:Qa}(hm:g.Qf[m]? = some s)(hc:s.Cells[i]? = some c)(hk:k<c.QM.length):(z7x g).count (1,m,i,k+1)=1:=by
 have hX:∀ a,z9S a≠(1,m,i,k+1):=fun a h=>by
  have:=zq1 (a:=a)
  rw[h] at this
  exact absurd this (Nat.succ_ne_zero k)
 have G:=(List.getElem?_eq_some_iff.1 hm).1
 have q:=(List.getElem?_eq_some_iff.1 hc).1
 obtain⟨a,ha⟩:=z1j hk
 have h0:(zhz g).count (1,m,i,k+1)=0:=by
  unfold zhz
  rw[List.count_eq_zero]
  simp only[List.mem_cons,List.not_mem_nil,or_false]
  rintro(h | h)
  ·simp at h
  ·exact hX _ h.symm
 unfold z7x
 rw[List.count_append,h0,Nat.zero_add,znN hm (fun m' s' o _=>?_) _ (Nat.le_refl _),if_pos G]
 ·unfold zbz
  rw[List.count_append,List.count_append,z7c (f:=zr2) (fun i c _=>zm2 hX) _ (Nat.le_refl _),z7c (f:=zeF m) (fun i c _=>zi0 hX (by simp)) _ (Nat.le_refl _),znN hc (fun i' c' o _=>?_) _ (Nat.le_refl _),if_pos q]
  ·unfold zbo
   rw[znN ha (fun k' a' o _=>?_) _ (Nat.le_refl _),if_pos hk,zjC hX,if_pos rfl]
   rw[zjC hX,if_neg (by simp only[Prod.mk.injEq];omega)]
  ·unfold zbo
   exact z7c (fun k' a' _=>by rw[zjC hX,if_neg (by simp only[Prod.mk.injEq];omega)]) _ (Nat.le_refl _)
 ·unfold zbz
  rw[List.count_append,List.count_append,z7c (f:=zr2) (fun i c _=>zm2 hX) _ (Nat.le_refl _),z7c (f:=zeF m') (fun i c _=>zi0 hX (by simp)) _ (Nat.le_refl _),z7c (fun i' c' _=>?_) _ (Nat.le_refl _)]
  unfold zbo
  exact z7c (fun k' a' _=>by rw[zjC hX,if_neg (by simp only[Prod.mk.injEq];omega)]) _ (Nat.le_refl _)
theorem znk {ss:LG}{k:Key}:k∈z7g ss↔k=(0,0,0,0)∨∃ (m:Nat) (s:Qp) (i:Nat) (c:Qa) (j:Nat),ss[m]? = some s∧s.Cells[i]? = some c∧c.Qi≠0∧j≤c.QM.length∧k=(1,m,i,j):=by
 unfold z7g
 rw[List.mem_cons,List.mem_flatMap]
 constructor
 ·rintro(h | ⟨⟨s,m⟩,h1,h2⟩)
  ·exact .inl h
  ·rw[List.mem_zipIdx_iff_getElem?] at h1
   unfold zbp at h2
   obtain⟨⟨c,i⟩,h3,h4⟩:=List.mem_flatMap.1 h2
   rw[List.mem_zipIdx_iff_getElem?] at h3
   dsimp only at h1 h3 h4
   unfold z9R at h4
   split at h4
   ·cases h4
   ·rename_i k0
    obtain⟨j,h5,rfl⟩:=List.mem_map.1 h4
    have:=List.mem_range.1 h5
    exact .inr ⟨m,s,i,c,j,h1,h3,k0,by omega,rfl⟩
 ·rintro(h | ⟨m,s,i,c,j,h1,h2,h3,h4,rfl⟩)
  ·exact .inl h
  ·refine .inr ⟨(s,m),by rw[List.mem_zipIdx_iff_getElem?];exact h1,List.mem_flatMap.2 ⟨(c,i),by rw[List.mem_zipIdx_iff_getElem?];exact h2,?_⟩⟩
   dsimp only
   unfold z9R
   rw[if_neg h3]
   exact List.mem_map.2 ⟨j,List.mem_range.2 (by omega),rfl⟩
theorem zvU {g:D.Qk}{N:LD}:(g.Qf.zipIdx.all fun x=>ziB N x.2 x.1)=true↔∀ (m:Nat) s,g.Qf[m]? = some s→(∀ (i:Nat) c,s.Cells[i]? = some c→c.Qi=0∨N.count ⟨(m:Int),1,(i:Int)⟩=1)∧∀ (i:Nat) v,s.QJ[i]? = some v→v.QZ=false∨N.count ⟨(m:Int),2,(i:Int)⟩=2:=by
 rw[z69 (p:=fun m s=>ziB N m s)]
 refine forall_congr' fun m=>forall_congr' fun s=>?_
 rw[Nat.zero_add]
 refine imp_congr_right fun hm=>?_
 unfold ziB
 rw[Bool.and_eq_true,z69 (p:=fun i (c:Qa)=>decide (c.Qi=0) || decide (N.count ⟨(m:Int),1,(i:Int)⟩=1)),z69 (p:=fun i (v:Qn)=>!v.QZ || decide (N.count ⟨(m:Int),2,(i:Int)⟩=2))]
 simp only[Nat.zero_add,Bool.or_eq_true,decide_eq_true_eq,Bool.not_eq_true']
end Go.E



