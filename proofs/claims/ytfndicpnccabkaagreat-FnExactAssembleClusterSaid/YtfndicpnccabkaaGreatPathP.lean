/- Clusters: the statements of parcels, at both sides, and what they count. Conditions: none. -/
import Derived.Test.YtfndicpnccabkaaGreatGridSame
import Derived.Test.YtfndicpnccabkaaGreatFX
import Derived.Test.YtfndicpnccabkaaGreatGridImpl
set_option linter.unusedVariables false
set_option linter.unusedSimpArgs false
namespace Go.E
open Go.RowKit Go.Proofs

def cellsOf:LE→LB
 | []=>[]
 | p::ps=>if p.Qi=3 then p.Qz::cellsOf ps else cellsOf ps
def zfo (p:Qh):Nat:=if p.Qi=3 then 1 else 0

def zhT (j:Nat)(p:Qh):List Key:=if p.Qi=1∨p.Qi=2 then [z9S p.A,z9S p.B] else if p.Qi=3 then zbo 3 0 j p.Qz++[(3,0,j,0),z9S p.B] else []
def zd5:Nat→LE→List Key
 | _,[]=>[]
 | j,p::ps=>zhT j p++zd5 (j+zfo p) ps
def zf5 (g:D.Qk)(p:Qh):Bool:=if p.Qi=1∨p.Qi=2 then zH g p.A && zH g p.B else if p.Qi=3 then p.Qz.QM.all (zH g) && zH g p.B else true
def zfD (at_:Qb)(k:Nat)(a:Qb):LC:=[⟨⟨at_,(k:Int)+1,true⟩,thA a⟩]
def zmN (ch i:Nat)(p:Qh):LC:=if p.Qi=1∨p.Qi=2 then [⟨thA p.A,thA p.B⟩] else if p.Qi=3 then fl (zfD ⟨(ch:Int),3,(i:Int)⟩) p.Qz.QM p.Qz.QM.length++[⟨⟨⟨(ch:Int),3,(i:Int)⟩,0,true⟩,thA p.B⟩] else []
def zh7 (ch:Nat)(ps:LE):LC:=fl (zmN ch) ps ps.length
def zaC (cs:List LE):LC:=fl zh7 cs cs.length

theorem z7e {p:Qh}{ps:LE}:cellsOf (p::ps)=if p.Qi=3 then p.Qz::cellsOf ps else cellsOf ps:=rfl
theorem zb8 {p:Qh}{ps:LE}{j:Nat}:zd5 j (p::ps)=zhT j p++zd5 (j+zfo p) ps:=rfl
theorem z9P:∀ {ps qs:LE},cellsOf (ps++qs)=cellsOf ps++cellsOf qs
 | [],_=>rfl
 | p::ps,qs=>by
  rw[List.cons_append,z7e,z7e,z9P]
  split<;>rfl
theorem zfs:∀ {ps qs:LE}{j:Nat},zd5 j (ps++qs)=zd5 j ps++zd5 (j+(cellsOf ps).length) qs
 | [],_,_=>rfl
 | p::ps,qs,j=>by
  rw[List.cons_append,zb8,zb8,zfs,List.append_assoc,z7e]
  congr 3
  unfold zfo
  split
  ·rw[List.length_cons];omega
  ·omega
theorem zvz {p:Qh}{j:Nat}:zd5 j [p]=zhT j p:=by simp[zd5]
theorem zj7 {a:Qb}:(z9S a).1≠3:=by unfold z9S;split<;>simp
theorem zxd {p:Qh}{j:Nat}(h:p.Qi=3→p.Qz.QM.length≤3):(zhT j p).length≤8:=by
 unfold zhT
 split
 ·simp
 ·split
  ·rename_i h3
   have:=zmF (t:=3) (m:=0) (i:=j) (h h3)
   rw[List.length_append]
   simp only[List.length_cons,List.length_nil]
   omega
  ·simp
theorem zpe:∀ {ps:LE}{j:Nat},(∀ p,p∈ps→p.Qi=3→p.Qz.QM.length≤3)→(zd5 j ps).length≤8*ps.length
 | [],_,_=>by simp[zd5]
 | p::ps,j,h=>by
  have h1:=zxd (j:=j) (h p (by simp))
  have h2:=zpe (ps:=ps) (j:=j+zfo p) fun q hq=>h q (by simp[hq])
  rw[zb8,List.length_append,List.length_cons]
  omega


theorem zxH {g:D.Qk}{ch i:Nat}{p:Qh}:(zmN ch i p).all (okT g)=zf5 g p:=by
 unfold zmN zf5
 split
 ·simp[okT,zrK,thA]
 ·split
  ·rw[List.all_append,zbL,← z8Y (p:=zH g)]
   congr 1
   ·congr 1
    funext x
    simp[zfD,okT,zrK,thA]
   ·simp[okT,zrK,thA]
  ·rfl
theorem zxk {g:D.Qk}{ch:Nat}{ps:LE}:(zh7 ch ps).all (okT g)=ps.all (zf5 g):=by
 unfold zh7
 rw[zbL,← z8Y (p:=zf5 g)]
 congr 1
 funext x
 exact zxH
theorem zpU {g:D.Qk}{cs:List LE}:(zaC cs).all (okT g)=cs.flatten.all (zf5 g):=by
 unfold zaC
 rw[zbL,List.all_flatten,← z8Y (p:=fun ps:LE=>ps.all (zf5 g))]
 congr 1
 funext x
 exact zxk
theorem zvW {ch i:Nat}{p:Qh}:(zmN ch i p).all zfz=true:=by
 unfold zmN
 split
 ·simp[zfz,zjf,thA]
 ·split
  ·rw[List.all_append,zbL,Bool.and_eq_true,List.all_eq_true]
   exact⟨fun x _=>by simp[zfD,zfz,zjf,thA],by simp[zfz,zjf,thA]⟩
  ·rfl
theorem zro {cs:List LE}:(zaC cs).all zfz=true:=by
 unfold zaC
 rw[zbL,List.all_eq_true]
 intro x _
 unfold zh7
 rw[zbL,List.all_eq_true]
 intro y _
 exact zvW


theorem zq8 {α β γ:Type}[BEq β][BEq γ]{f:Nat→α→List β}{h:Nat→α→List γ}{xs:List α}{y:β}{z:γ}(e:∀ i x,(f i x).count y=(h i x).count z):∀ n,n≤xs.length→(fl f xs n).count y=(fl h xs n).count z
 | 0,_=>by rw[z8V,z8V];rfl
 | n+1,hn=>by
  obtain⟨x,hx⟩:=z1j (xs:=xs) (i:=n) (by omega)
  rw[z89 hx,z89 hx,List.count_append,List.count_append,zq8 e n (by omega),e n x]
theorem zhU {x:Key}{K m n:Nat}(h:x.1≠K):([x]:List Key).count (K,m,n,0)=0:=by
 rw[List.count_eq_zero,List.mem_singleton]
 intro e
 rw[← e] at h
 exact h rfl
theorem zvy {ch i j K m n:Nat}{p:Qh}(hK:K=1∨K=2):((zmN ch i p).flatMap zf8).count (K,m,n,0)=(zhT j p).count (K,m,n,0):=by
 unfold zmN zhT
 split
 ·rfl
 ·split
  ·rw[List.flatMap_append,z9D,List.count_append,List.count_append]
   congr 1
   ·unfold zbo
    refine zq8 (fun k a=>?_) _ (Nat.le_refl _)
    have h1:((zfD ⟨(ch:Int),3,(i:Int)⟩ k a).flatMap zf8)=[(0,0,0,0)]++[z9S a]:=by simp[zfD,zf8,kT,thA]
    have h2:zpx 3 0 j k a=[(3,0,j,k+1)]++[z9S a]:=rfl
    rw[h1,h2,List.count_append,List.count_append,zhU (x:=(0,0,0,0)) (by dsimp only;omega),zhU (x:=(3,0,j,k+1)) (by dsimp only;omega)]
   ·have h1:([⟨⟨⟨(ch:Int),3,(i:Int)⟩,0,true⟩,thA p.B⟩]:LC).flatMap zf8=[(0,0,0,0)]++[z9S p.B]:=by simp[zf8,kT,thA]
    have h2:([(3,0,j,0),z9S p.B]:List Key)=[(3,0,j,0)]++[z9S p.B]:=rfl
    rw[h1,h2,List.count_append,List.count_append,zhU (x:=(0,0,0,0)) (by dsimp only;omega),zhU (x:=(3,0,j,0)) (by dsimp only;omega)]
  ·rfl
theorem zow {ch K m n:Nat}(hK:K=1∨K=2):∀ {ps:LE}{j i:Nat},((ps.zipIdx i).flatMap fun x=>(zmN ch x.2 x.1).flatMap zf8).count (K,m,n,0)=(zd5 j ps).count (K,m,n,0)
 | [],_,_=>rfl
 | p::ps,j,i=>by
  rw[List.zipIdx_cons,List.flatMap_cons,List.count_append,zow (ps:=ps) (j:=j+zfo p) hK,zvy (j:=j) hK]
  rw[zb8,List.count_append]
theorem zkO {K m n:Nat}(hK:K=1∨K=2):∀ {cs:List LE}{j i:Nat},((cs.zipIdx i).flatMap fun x=>(zh7 x.2 x.1).flatMap zf8).count (K,m,n,0)=(zd5 j cs.flatten).count (K,m,n,0)
 | [],_,_=>rfl
 | ps::cs,j,i=>by
  rw[List.zipIdx_cons,List.flatMap_cons,List.count_append,zkO (cs:=cs) (j:=j+(cellsOf ps).length) hK,List.flatten_cons,zfs,List.count_append]
  congr 1
  unfold zh7
  rw[z9D]
  unfold fl
  rw[List.take_length]
  exact zow hK
theorem zqw {K m n:Nat}{cs:List LE}(hK:K=1∨K=2):((zaC cs).flatMap zf8).count (K,m,n,0)=(zd5 0 cs.flatten).count (K,m,n,0):=by
 unfold zaC
 rw[z9D]
 unfold fl
 rw[List.take_length]
 exact zkO hK


theorem zgs {t m i k:Nat}{a:Qb}{X:Key}(hX:∀ a,z9S a≠X):(zpx t m i k a).count X=if(t,m,i,k+1)=X then 1 else 0:=by
 unfold zpx
 rw[show [((t,m,i,k+1):Key),z9S a]=[(t,m,i,k+1)]++[z9S a] from rfl,List.count_append,List.count_singleton,List.count_singleton,if_neg (c:=(z9S a == X)=true) (by simpa using hX a)]
 simp
theorem zrn {g:D.Qk}{X:Key}(h3:X.1=3):(z7x g).count X=0:=by
 have hX:∀ a,z9S a≠X:=fun a h=>zj7 (a:=a) (by rw[h];exact h3)
 have hr:(zhz g).count X=0:=by
  unfold zhz
  rw[List.count_eq_zero]
  simp only[List.mem_cons,List.not_mem_nil,or_false]
  rintro(h | h)
  ·rw[h] at h3;simp at h3
  ·exact hX _ h.symm
 unfold z7x
 rw[List.count_append,hr,z7c (fun m s _=>?_) _ (Nat.le_refl _)]
 unfold zbz
 rw[List.count_append,List.count_append,z7c (fun i c _=>?_) _ (Nat.le_refl _),z7c (fun i c _=>zm2 hX) _ (Nat.le_refl _),z7c (fun i c _=>zi0 hX (fun h=>by rw[← h] at h3;simp at h3)) _ (Nat.le_refl _)]
 unfold zbo
 exact z7c (fun k a _=>by rw[zgs hX,if_neg (fun h=>by rw[← h] at h3;simp at h3)]) _ (Nat.le_refl _)
theorem znr {p:Qh}{j:Nat}{X:Key}(hX:∀ a,z9S a≠X)(h:X.1=3→X.2.2.1≠j):(zhT j p).count X=0:=by
 have pair:∀ k:Key,k≠X→∀ a,([k,z9S a]:List Key).count X=0:=fun k hk a=>by
  rw[List.count_eq_zero]
  simp only[List.mem_cons,List.not_mem_nil,or_false]
  rintro(h | h)
  ·exact hk h.symm
  ·exact hX _ h.symm
 unfold zhT
 split
 ·exact pair _ (hX _) _
 ·split
  ·rw[List.count_append,pair _ (fun e=>by rw[← e] at h;exact h rfl rfl)]
   unfold zbo
   rw[z7c (fun k a _=>?_) _ (Nat.le_refl _)]
   rw[zgs hX,if_neg (fun e=>by rw[← e] at h;exact h rfl rfl)]
  ·rfl
theorem zg4 {X:Key}(hX:∀ a,z9S a≠X):∀ {ps:LE}{j:Nat},(X.1=3→X.2.2.1<j)→(zd5 j ps).count X=0
 | [],_,_=>rfl
 | p::ps,j,h=>by
  rw[zb8,List.count_append,znr hX (fun h3=>Nat.ne_of_lt (h h3)),zg4 hX fun h3=>Nat.lt_of_lt_of_le (h h3) (Nat.le_add_right _ _)]
theorem zvA {p:Qh}{j s:Nat}(h3:p.Qi=3)(hs:s≤p.Qz.QM.length):(zhT j p).count (3,0,j,s)=1:=by
 have hX:∀ a,z9S a≠(3,0,j,s):=fun a h=>zj7 (a:=a) (by rw[h])
 unfold zhT
 rw[if_neg (by omega),if_pos h3,List.count_append,show([(3,0,j,0),z9S p.B]:List Key)=[(3,0,j,0)]++[z9S p.B] from rfl,List.count_append,List.count_singleton,List.count_singleton,if_neg (c:=(z9S p.B == (3,0,j,s))=true) (by simpa using hX p.B)]
 unfold zbo
 cases s with
 | zero=>
  rw[z7c (fun k a _=>by rw[zgs hX,if_neg (by simp)]) _ (Nat.le_refl _),if_pos (by simp)]
 | succ s=>
  obtain⟨a,ha⟩:=z1j (xs:=p.Qz.QM) (i:=s) (by omega)
  rw[znN ha (fun k' a' o _=>?_) _ (Nat.le_refl _),if_pos (by omega),zgs hX,if_pos rfl,if_neg (by simp)]
  rw[zgs hX,if_neg (by simp only[Prod.mk.injEq];omega)]
theorem zm6:∀ {ps:LE}{j t s:Nat}{c:Qa},(cellsOf ps)[t]? = some c→s≤c.QM.length→(zd5 j ps).count (3,0,j+t,s)=1
 | [],_,_,_,_,h,_=>by simp[cellsOf] at h
 | p::ps,j,t,s,c,h,hs=>by
  have hX:∀ a,z9S a≠(3,0,j+t,s):=fun a h=>zj7 (a:=a) (by rw[h])
  rw[zb8,List.count_append]
  rw[z7e] at h
  by_cases h3:p.Qi=3
  ·rw[if_pos h3] at h
   have o:zfo p=1:=by unfold zfo;rw[if_pos h3]
   rw[o]
   cases t with
   | zero=>
    rw[List.getElem?_cons_zero,Option.some.injEq] at h
    subst h
    rw[Nat.add_zero] at hX ⊢
    rw[zvA h3 hs,zg4 hX (fun _=>Nat.lt_succ_self j)]
   | succ t=>
    rw[List.getElem?_cons_succ] at h
    rw[znr hX (fun _=>by simp),show j+(t+1)=(j+1)+t by omega,zm6 h hs]
  ·rw[if_neg h3] at h
   have o:zfo p=0:=by unfold zfo;rw[if_neg h3]
   have hk:(zhT j p).count (3,0,j+t,s)=0:=by
    unfold zhT
    split
    ·rw[List.count_eq_zero]
     simp only[List.mem_cons,List.not_mem_nil,or_false]
     rintro(h | h)<;>exact hX _ h.symm
    ·rfl
   rw[o,hk,Nat.add_zero,Nat.zero_add,zm6 h hs]
theorem zvk {cs:LB}{k:Key}:k∈zbp 3 0 cs↔∃ (i:Nat) (c:Qa) (j:Nat),cs[i]? = some c∧c.Qi≠0∧j≤c.QM.length∧k=(3,0,i,j):=by
 unfold zbp
 rw[List.mem_flatMap]
 constructor
 ·rintro⟨⟨c,i⟩,h3,h4⟩
  rw[List.mem_zipIdx_iff_getElem?] at h3
  dsimp only at h3 h4
  unfold z9R at h4
  split at h4
  ·cases h4
  ·rename_i k0
   obtain⟨j,h5,rfl⟩:=List.mem_map.1 h4
   have:=List.mem_range.1 h5
   exact⟨i,c,j,h3,k0,by omega,rfl⟩
 ·rintro⟨i,c,j,h2,h3,h4,rfl⟩
  refine⟨(c,i),by rw[List.mem_zipIdx_iff_getElem?];exact h2,?_⟩
  dsimp only
  unfold z9R
  rw[if_neg h3]
  exact List.mem_map.2 ⟨j,List.mem_range.2 (by omega),rfl⟩
theorem zpa {g:D.Qk}{P:LE}:zfC g (cellsOf P) (z7x g++zd5 0 P)=true↔∀ (m:Nat) s,g.Qf[m]? = some s→(∀ (i:Nat) c,s.Cells[i]? = some c→c.Qi=0∨(z7x g++zd5 0 P).count (1,m,i,0)=1)∧∀ (i:Nat) v,s.QJ[i]? = some v→v.QZ=false∨(z7x g++zd5 0 P).count (2,m,i,0)=2:=by
 unfold zfC
 rw[Bool.and_eq_true,List.all_eq_true,z69 (p:=fun m s=>zwZ (z7x g++zd5 0 P) m s)]
 constructor
 ·rintro⟨h1,h2⟩ m s hm
  refine⟨fun i c hc=>?_,fun i v hv=>?_⟩
  ·by_cases k0:c.Qi=0
   ·exact .inl k0
   ·have:=h1 (1,m,i,0) (List.mem_append.2 (.inl (znk.2 (.inr ⟨m,s,i,c,0,hm,hc,k0,Nat.zero_le _,rfl⟩))))
    exact .inr (by simpa only[decide_eq_true_eq] using this)
  ·have h3:=h2 m s hm
   unfold zwZ at h3
   rw[Nat.zero_add] at h3
   have h4:=(z69 (p:=fun i (v:Qn)=>!v.QZ || decide ((z7x g++zd5 0 P).count (2,m,i,0)=2))).1 h3 i v hv
   rw[Nat.zero_add] at h4
   cases hu:v.QZ with
   | false=>exact .inl rfl
   | true=>rw[hu,Bool.not_true,Bool.false_or,decide_eq_true_eq] at h4;exact .inr h4
 ·intro h
  refine⟨fun k hk=>?_,fun m s hm=>?_⟩
  ·rcases List.mem_append.1 hk with hk | hk
   ·rcases znk.1 hk with rfl | ⟨m,s,i,c,j,h1,h2,h3,h4,rfl⟩
    ·refine dct ?_
     rw[List.count_append,zvm,zg4 (fun a h=>zsN (a:=a) (by rw[h])) (fun h=>by simp at h)]
    ·cases j with
     | zero=>exact dct (((h m s h1).1 i c h2).resolve_left h3)
     | succ j=>
      refine dct ?_
      rw[List.count_append,zvv h1 h2 (by omega),zg4 (fun a h=>by have:=zq1 (a:=a);rw[h] at this;exact absurd this (Nat.succ_ne_zero j)) (fun h=>by simp at h)]
   ·obtain⟨i,c,j,h2,h3,h4,rfl⟩:=zvk.1 hk
    refine dct ?_
    have:=zm6 (j:=0) h2 h4
    rw[Nat.zero_add] at this
    rw[List.count_append,zrn rfl,this]
  ·unfold zwZ
   refine(z69 (p:=fun i (v:Qn)=>!v.QZ || decide ((z7x g++zd5 0 P).count (2,0+m,i,0)=2))).2 fun i v hv=>?_
   rw[Nat.zero_add,Nat.zero_add]
   rcases (h m s hm).2 i v hv with h1 | h1
   ·rw[h1];rfl
   ·rw[dct h1,Bool.or_true]
theorem zov {g:D.Qk}{cs:List LE}:(zfy g && (cs.flatten.all (zf5 g) && zfC g (cellsOf cs.flatten) (z7x g++zd5 0 cs.flatten)))=zsR g (zcm g++zaC cs):=by
 unfold zsR
 rw[List.all_append,zso,zpU]
 cases hA:zfy g with
 | false=>rfl
 | true=>
  cases hB:cs.flatten.all (zf5 g) with
  | false=>rfl
  | true=>
   simp only[Bool.true_and]
   rw[Bool.eq_iff_iff,zpa,zvU]
   have hk:(zcm g++zaC cs).all (okT g)=true:=by rw[List.all_append,zso,zpU,hA,hB];rfl
   have o:(zcm g++zaC cs).all zfz=true:=by rw[List.all_append,zsX,zro];rfl
   have hc:=fun m i=>zjv (g:=g) (K:=1) (.inl rfl) m i hk o
   have hv:=fun m i=>zjv (g:=g) (K:=2) (.inr rfl) m i hk o
   simp only[List.flatMap_append,List.count_append,zsK] at hc hv
   have ec:∀ m i,(z7x g++zd5 0 cs.flatten).count (1,m,i,0)=(zb9 (zcm g++zaC cs)).count ⟨(m:Int),1,(i:Int)⟩:=fun m i=>by
    rw[zkB,List.flatMap_append,List.count_append,List.count_append,← zqw (.inl rfl)]
    exact hc m i
   have ev:∀ m i,(z7x g++zd5 0 cs.flatten).count (2,m,i,0)=(zb9 (zcm g++zaC cs)).count ⟨(m:Int),2,(i:Int)⟩:=fun m i=>by
    rw[zkB,List.flatMap_append,List.count_append,List.count_append,← zqw (.inr rfl)]
    exact hv m i
   refine forall_congr' fun m=>forall_congr' fun s=>?_
   refine imp_congr_right fun hm=>and_congr (forall_congr' fun i=>forall_congr' fun c=>?_) (forall_congr' fun i=>forall_congr' fun c=>?_)
   ·rw[ec m i]
   ·rw[ev m i]
end Go.E



namespace Go.E
open Go.RowKit Go.Proofs


variable {fu:Nat}
def zg6 (xs:L9)(k:Nat):Bool:=decide (xs.length=k) && xs.all fun x=>decide (0≤x∧x≤1000000000)
def zcU (c:Qa):Bool:=decide (c.Qi=0∧c.QC=0∧c.Value=0∧c.Data=[]∧c.QM=[])
def z9V (to:Int)(p:Qh):Bool:=
 if p.Qi=1 then zcU p.Qz && decide (p.A.Qj=to) else
 if p.Qi=2 then zcU p.Qz && decide (p.A.Qj=to∧p.A.Qi=2) else
 if p.Qi=3 then(decide (p.Qz.Qi≠0) && z40 p.Qz) && (decide (p.A=noneN) && decide (p.B.Qj=to)) else
 if p.Qi=4 then zcU p.Qz && (decide (p.A=noneN) && decide (p.B=noneN)) else false
def zey (k i:Nat)(ch:LE):Bool:=decide (ch.length≤200) && ch.all (z9V ((i % k:Nat):Int))
def zh6 (k i:Nat)(ch:LE):Bool:=decide (i / k≠i % k) || decide (ch=[])
def zeJ (k:Nat)(cs:List LE):Bool:=(cs.zipIdx.all fun x=>zh6 k x.2 x.1) && cs.zipIdx.all fun x=>zey k x.2 x.1
def z8X (c:Qv):Bool:=z9U c.Qk && (decide (c.Qd.length=c.Qk.Qf.length*c.Qk.Qf.length∧c.QL.length=c.Qk.Qf.length) && (zg6 c.QY c.Qk.Qf.length && (zg6 c.Got c.Qk.Qf.length && ((c.QL.all fun x=>zg6 x 7) && zeJ c.Qk.Qf.length c.Qd))))

theorem zjx {c:Qv}(h:c.sz≤1048576):c.Qk.sz≤1048576∧c.Qd.length≤1048576∧(∀ ch,ch∈c.Qd→ch.length≤1048576∧∀ p,p∈ch→p.Qz.sz≤1048576)∧c.QL.length≤1048576∧(∀ x,x∈c.QL→x.length≤1048576)∧c.QY.length≤1048576∧c.Got.length≤1048576:=by
 unfold Qv.sz at h
 have h1:szL (fun x=>szL Qh.sz x) c.Qd≤1048576:=by first | omega | (simp only[] at h;omega)
 have h2:szL (fun x=>x.length) c.QL≤1048576:=by first | omega | (simp only[] at h;omega)
 refine⟨by omega,z4F h1,fun ch hc=>?_,z4F h2,fun x hx=>z4E h2 hx,by omega,by omega⟩
 have h3:=z4E h1 hc
 refine⟨z4F h3,fun p hp=>?_⟩
 have h4:=z4E h3 hp
 unfold Qh.sz at h4
 omega
theorem zer {fu k:Nat}{xs:L9}(hf:Big fu)(hl:xs.length≤1048576):z3f fu xs (k:Int)=some (zg6 xs k):=by
 have hm:maxLen=9223372036854775807:=rfl
 unfold z3f zg6
 by_cases h:xs.length=k
 ·subst h
  rw[if_neg (by simp)]
  have h1:=z9F (xs:=xs) (body:=z49 fu xs (xs.length:Int)) (p:=fun _ x=>decide (0≤x∧x≤1000000000)) (t:=()) (v:=false) (fu:=fu) (by omega) hf (fun i x hi hx=>by
   unfold z49
   rw[if_pos (by simpa using hi),za hx,bsm,z9B,bsm]
   cases decide (0≤x∧x≤1000000000)<;>rfl) (by unfold z49;rw[if_neg (by simp)])
  rw[z8Y (p:=fun x:Int=>decide (0≤x∧x≤1000000000))] at h1
  rw[h1,bsm]
  cases xs.all fun x=>decide (0≤x∧x≤1000000000)<;>simp[aft,z98]
 ·rw[if_pos (by simp;omega),decide_eq_false h];rfl
theorem zs5 {xs ys:L9}(hf:Big fu)(hl:xs.length≤maxLen):z9e fu xs ys=some (decide (xs=ys)):=by
 unfold z9e
 exact zmo hl hf rfl (fun i a b hi ha hb=>by
  unfold z93
  rw[if_pos (by simpa using hi),za ha,bsm,za hb,bsm]
  by_cases h:a=b<;>simp[h]) (by unfold z93;rw[if_neg (by simp)])
theorem zqZ {xs ys:LD}(hf:Big fu)(hl:xs.length≤maxLen):z2B fu xs ys=some (decide (xs=ys)):=by
 unfold z2B
 exact zmo hl hf rfl (fun i a b hi ha hb=>by
  unfold z2V
  rw[if_pos (by simpa using hi),za ha,bsm,za hb,bsm,zjH]
  by_cases h:a=b<;>simp[h]) (by unfold z2V;rw[if_neg (by simp)])
theorem zrr {c:Qa}(hf:Big fu)(hs:c.sz≤1048576):z5y fu c ⟨0,0,0,[],[]⟩=some (zcU c):=by
 have hm:maxLen=9223372036854775807:=rfl
 unfold Qa.sz at hs
 unfold z5y zcU
 dsimp only
 rw[zs5 hf (by omega),zqZ hf (by omega)]
 by_cases h1:c.Qi=0<;>by_cases h2:c.QC=0<;>by_cases h3:c.Value=0<;>by_cases h4:c.Data=[]<;>by_cases h5:c.QM=[]<;>simp[h1,h2,h3,h4,h5]
theorem zrs {c:Qa}(hf:Big fu)(hs:c.sz≤1048576):z1T fu c ⟨0,0,0,[],[]⟩=some (zcU c):=by
 have hm:maxLen=9223372036854775807:=rfl
 unfold Qa.sz at hs
 unfold z1T zcU
 dsimp only
 rw[zkK hf (by omega),zji hf (by omega)]
 by_cases h1:c.Qi=0<;>by_cases h2:c.QC=0<;>by_cases h3:c.Value=0<;>by_cases h4:c.Data=[]<;>by_cases h5:c.QM=[]<;>simp[h1,h2,h3,h4,h5]
theorem zmb {a:Qb}:(((a.Qj:Int) == 0) && (((a.Qi:Int) == 0) && (((a.Qo:Int) == 0) && true)))=decide (a=noneN):=zjH (a:=a) (b:=noneN)
theorem zxW {a b:Int}:(a == b)=decide (a=b):=by by_cases h:a=b<;>simp[h]
theorem zpc {p:Qh}{to:Int}(hf:Big fu)(hs:p.Qz.sz≤1048576):z7E fu p to=some (z9V to p):=by
 unfold z7E
 rw[show p.Qz=p.Qz from rfl,zrr hf hs,zox hf hs,zmb,zmb]
 simp only[bsm,zxW]
 unfold z9V
 by_cases k1:p.Qi=1
 ·cases zcU p.Qz<;>simp[k1]
 ·by_cases k2:p.Qi=2
  ·cases zcU p.Qz<;>by_cases h:p.A.Qj=to<;>by_cases h':p.A.Qi=2<;>simp[k2,h,h']
  ·by_cases k3:p.Qi=3
   ·by_cases h0:p.Qz.Qi=0<;>cases z40 p.Qz<;>by_cases h:p.A=noneN<;>by_cases h':p.B.Qj=to<;>simp[k3,h0,h,h']
   ·by_cases k4:p.Qi=4
    ·cases zcU p.Qz<;>by_cases h:p.A=noneN<;>by_cases h':p.B=noneN<;>simp[k4,h,h']
    ·simp[k1,k2,k3,k4]
theorem zpd {p:Qh}{to:Int}(hf:Big fu)(hs:p.Qz.sz≤1048576):z61 fu p to=some (z9V to p):=by
 have key:∀ b,z2r fu p to b=if b=true then some false else if p.Qi=1 then some (decide (p.A.Qj=to)) else if p.Qi=2 then some (decide (p.A.Qj=to∧p.A.Qi=2)) else if p.Qi=3 then some ((decide (p.Qz.Qi≠0) && z40 p.Qz) && (decide (p.A=noneN) && decide (p.B.Qj=to))) else if p.Qi=4 then some (decide (p.A=noneN) && decide (p.B=noneN)) else some false:=fun b=>by
  unfold z2r
  rw[zoy hf hs,zmb,zmb]
  simp only[bsm,zxW]
  cases b with
  | true=>rfl
  | false=>
   rw[if_neg Bool.false_ne_true,if_neg Bool.false_ne_true]
   by_cases k1:p.Qi=1
   ·simp[k1]
   ·by_cases k2:p.Qi=2
    ·by_cases h:p.A.Qj=to<;>by_cases h':p.A.Qi=2<;>simp[k2,h,h']
    ·by_cases k3:p.Qi=3
     ·by_cases h0:p.Qz.Qi=0<;>cases z40 p.Qz<;>by_cases h:p.A=noneN<;>by_cases h':p.B.Qj=to<;>simp[k3,h0,h,h']
     ·by_cases k4:p.Qi=4
      ·by_cases h:p.A=noneN<;>by_cases h':p.B=noneN<;>simp[k4,h,h']
      ·simp[k1,k2,k3,k4]
 unfold z61
 rw[zrs hf hs,key,bsm,key]
 unfold z9V
 by_cases k3:p.Qi=3
 ·simp[k3]
 ·by_cases k1:p.Qi=1
  ·cases zcU p.Qz<;>simp[k1]
  ·by_cases k2:p.Qi=2
   ·cases zcU p.Qz<;>simp[k2]
   ·by_cases k4:p.Qi=4
    ·cases zcU p.Qz<;>simp[k4]
    ·cases zcU p.Qz<;>simp[k1,k2,k3,k4]
theorem zxC {i k:Nat}(hk:k≠0):((i:Int).tmod (k:Int))=((i % k:Nat):Int):=by rw[Int.tmod_eq_emod_of_nonneg (by omega)];exact(Int.natCast_emod i k).symm
theorem zwK {k:Nat}{cs:List LE}(hk:0<k)(hl:cs.length=k*k):(cs.zipIdx.all fun x=>zh6 k x.2 x.1)=true↔∀ m,m<k→cs[m*k+m]? = some []:=by
 rw[z69 (p:=fun i ch=>zh6 k i ch)]
 constructor
 ·intro h m hm
  have o:m*k+m<cs.length:=by
   have:m*k+k≤k*k:=by rw[← Nat.succ_mul];exact Nat.mul_le_mul_right _ hm
   omega
  obtain⟨ch,hc⟩:=z1j o
  have h1:=h _ _ hc
  rw[Nat.zero_add] at h1
  unfold zh6 at h1
  have e1:(m*k+m) / k=m:=by rw[Nat.mul_comm,Nat.mul_add_div hk,Nat.div_eq_of_lt hm,Nat.add_zero]
  have e2:(m*k+m) % k=m:=by rw[Nat.mul_comm,Nat.mul_add_mod,Nat.mod_eq_of_lt hm]
  rw[e1,e2] at h1
  simp only[ne_eq,not_true_eq_false,decide_false,Bool.false_or,decide_eq_true_eq] at h1
  rw[hc,h1]
 ·intro h i ch hc
  rw[Nat.zero_add]
  unfold zh6
  have q:=(List.getElem?_eq_some_iff.1 hc).1
  by_cases e:i / k=i % k
  ·have h1:=h (i % k) (Nat.mod_lt _ hk)
   have e2:i % k*k+i % k=i:=by
    have:=Nat.div_add_mod i k
    rw[e,Nat.mul_comm] at this
    exact this
   rw[e2,hc] at h1
   simp only[Option.some.injEq] at h1
   rw[h1];simp
  ·simp[e]
theorem zm4 {c:Qv}(hf:Big fu)(hs:c.sz≤1048576):z7D fu c=some (z8X c):=by
 have hm:maxLen=9223372036854775807:=rfl
 obtain⟨z1,z2,z3,z4,z5,z6,z7⟩:=zjx hs
 have no:z14 fu c true=some false:=by unfold z14;rfl
 unfold z7D z8X
 rw[show c.Qk=c.Qk from rfl,zp8 hf z1,bsm,zer hf z6,zer hf z7]
 cases hp:z9U c.Qk with
 | false=>rw[Bool.not_false,if_pos rfl,no];rfl
 | true=>
  have hk:1≤c.Qk.Qf.length∧c.Qk.Qf.length≤4:=by
   unfold z9U at hp
   rw[Bool.and_eq_true,decide_eq_true_eq] at hp
   exact hp.1
  have Y:c.Qk.Qf.length*c.Qk.Qf.length≤16:=Nat.mul_le_mul hk.2 hk.2
  rw[Bool.not_true,if_neg (by simp),zb (by omega) (by omega),Bool.true_and]
  generalize hkd:c.Qk.Qf.length=k at *
  by_cases h1:c.Qd.length=k*k
  ·rw[if_neg (by simp[h1])]
   by_cases h2:c.QL.length=k
   ·rw[if_neg (by simp[h2]),bsm,bsm]
    cases h3:zg6 c.QY k with
    | false=>rw[Bool.not_false,if_pos rfl,no];simp
    | true=>
     rw[Bool.not_true,if_neg (by simp)]
     cases h4:zg6 c.Got k with
     | false=>rw[Bool.not_false,no];simp
     | true=>
      rw[Bool.not_true,dct ⟨h1,h2⟩,Bool.true_and,Bool.true_and,Bool.true_and]
      unfold z14
      rw[if_neg (by simp)]
      have hD:=z9F (xs:=c.QL) (body:=z4M fu c) (p:=fun m x=>zg6 x 7 && decide (c.Qd[m*k+m]? = some [])) (t:=()) (v:=false) (fu:=fu) (by omega) hf (fun m x hi hx=>by
       have X:m*k+m<c.Qd.length:=by
        have:m*k+k≤k*k:=by rw[← Nat.succ_mul];exact Nat.mul_le_mul_right _ (by omega)
        omega
       obtain⟨ch,hc⟩:=z1j X
       have G:(m:Int)*(k:Int)=((m*k:Nat):Int):=by simp
       have hb:m*k≤16:=by omega
       unfold z4M z4J
       rw[hkd,if_pos (by simp;omega),za hx,bsm]
       have h7:=zer (k:=7) hf (z5 x (List.mem_of_getElem? hx))
       rw[show((7:Nat):Int)=7 from rfl] at h7
       rw[h7,bsm,G,zb (n:=((m*k:Nat):Int)) (by omega) (by omega),zb (n:=((m*k:Nat):Int)+(m:Int)) (by omega) (by omega),show((m*k:Nat):Int)+(m:Int)=((m*k+m:Nat):Int) by omega,za hc,hc]
       cases zg6 x 7 with
       | false=>rfl
       | true=>
        cases ch with
        | nil=>simp
        | cons y ys=>simp) (by unfold z4M;rw[hkd,h2,if_neg (by simp)])
      rw[hD,bsm]
      have q:=zwK (cs:=c.Qd) (by omega:0<k) h1
      have o:((c.QL.zipIdx.all fun y=>zg6 y.1 7 && decide (c.Qd[y.2*k+y.2]? = some []))=true)↔((c.QL.all fun x=>zg6 x 7)=true∧(c.Qd.zipIdx.all fun x=>zh6 k x.2 x.1)=true):=by
       rw[q,z69 (p:=fun m x=>zg6 x 7 && decide (c.Qd[m*k+m]? = some [])),List.all_eq_true]
       constructor
       ·intro h
        refine⟨fun x hx=>?_,fun m H=>?_⟩
        ·obtain⟨m,H⟩:=List.getElem?_of_mem hx
         have:=h m x H
         rw[Bool.and_eq_true] at this
         exact this.1
        ·obtain⟨x,hx⟩:=z1j (xs:=c.QL) (i:=m) (by omega)
         have:=h m x hx
         rw[Nat.zero_add,Bool.and_eq_true,decide_eq_true_eq] at this
         exact this.2
       ·rintro⟨ha,hb⟩ m x hx
        have Z:=(List.getElem?_eq_some_iff.1 hx).1
        rw[Nat.zero_add,ha x (List.mem_of_getElem? hx),hb m (by omega)]
        simp
      unfold zeJ
      by_cases hC:(c.QL.zipIdx.all fun y=>zg6 y.1 7 && decide (c.Qd[y.2*k+y.2]? = some []))=true
      ·obtain⟨e1,e2⟩:=o.1 hC
       rw[if_pos hC,z8,e1,e2,Bool.true_and,Bool.true_and]
       unfold z9x
       have hL:=z9F (xs:=c.Qd) (body:=z4L fu c) (p:=fun i ch=>zey k i ch) (t:=()) (v:=false) (fu:=fu) (by omega) hf (fun i ch hi hc=>by
        obtain⟨y1,y2⟩:=z3 ch (List.mem_of_getElem? hc)
        unfold z4L zey
        rw[if_pos (by simpa using hi),za hc,bsm]
        by_cases hl:ch.length≤200
        ·rw[if_neg (by simp;omega),dct hl,Bool.true_and]
         have hP:=z9F (xs:=ch) (body:=z4K fu c (i:Int)) (p:=fun _ p=>z9V ((i % k:Nat):Int) p) (t:=()) (v:=Rd.ret false) (fu:=fu) (by omega) hf (fun j p hj O=>by
          unfold z4K
          rw[za hc,bsm,if_pos (by simpa using hj),bsm,za O,bsm,hkd,if_pos (by simp;omega),zxC (by omega),zpc hf (y2 p (List.mem_of_getElem? O)),bsm]
          cases z9V ((i % k:Nat):Int) p<;>rfl) (by unfold z4K;rw[za hc,bsm,if_neg (by simp)])
         rw[z8Y (p:=z9V ((i % k:Nat):Int))] at hP
         rw[hP,bsm]
         cases ch.all (z9V ((i % k:Nat):Int))<;>rfl
        ·rw[if_pos (by simp;omega),decide_eq_false hl];rfl) (by unfold z4L;rw[if_neg (by simp)])
       rw[hL,bsm]
       cases (c.Qd.zipIdx.all fun x=>zey k x.2 x.1)<;>rfl
      ·rw[if_neg hC]
       have:((c.QL.all fun x=>zg6 x 7) && ((c.Qd.zipIdx.all fun x=>zh6 k x.2 x.1) && (c.Qd.zipIdx.all fun x=>zey k x.2 x.1)))=false:=by
        cases ha:(c.QL.all fun x=>zg6 x 7) with
        | false=>rfl
        | true=>
         cases hb:(c.Qd.zipIdx.all fun x=>zh6 k x.2 x.1) with
         | false=>rfl
         | true=>exact absurd (o.2 ⟨ha,hb⟩) hC
       rw[this];rfl
   ·rw[if_pos (by simp;omega),no,decide_eq_false (fun h=>h2 h.2)];rfl
  ·rw[if_pos (by simp;omega),no,decide_eq_false (fun h=>h1 h.1)];rfl
end Go.E




namespace Go.E
open Go.RowKit Go.Proofs

theorem zda {α:Type}{xs:List (List α)}{i:Nat}{x:List α}(h:xs[i]? = some x):(xs.take (i+1)).flatten=(xs.take i).flatten++x:=by
 rw[List.take_add_one,h]
 simp
theorem zir {α:Type}{xs:List α}{i:Nat}{x:α}(h:xs[i]? = some x):xs.take (i+1)=xs.take i++[x]:=by
 rw[List.take_add_one,h]
 rfl
theorem z8U {α:Type}{b:Nat}:∀ {xs:List (List α)},(∀ x,x∈xs→x.length≤b)→xs.flatten.length≤b*xs.length
 | [],_=>by simp
 | x::xs,h=>by
  rw[List.flatten_cons,List.length_append,List.length_cons,Nat.mul_succ]
  have:=h x (by simp)
  have:=z8U (xs:=xs) fun y hy=>h y (by simp[hy])
  omega
theorem zcs:∀ {ps:LE},(cellsOf ps).length≤ps.length
 | []=>Nat.le_refl _
 | p::ps=>by
  rw[z7e]
  have:=zcs (ps:=ps)
  split
  ·simp only[List.length_cons];omega
  ·simp only[List.length_cons];omega
theorem zbn:∀ {ps:LE}{c:Qa},c∈cellsOf ps→∃ p,p∈ps∧p.Qi=3∧p.Qz=c
 | [],_,h=>by simp[cellsOf] at h
 | p::ps,c,h=>by
  rw[z7e] at h
  split at h
  ·rename_i h3
   rcases List.mem_cons.1 h with rfl | h
   ·exact⟨p,by simp,h3,rfl⟩
   ·obtain⟨q,h1,h2⟩:=zbn h
    exact⟨q,by simp[h1],h2⟩
  ·obtain⟨q,h1,h2⟩:=zbn h
   exact⟨q,by simp[h1],h2⟩
theorem zwQ {X Y:LE}{p:Qh}(h3:p.Qi=3):(cellsOf (X++p::Y))[(cellsOf X).length]? = some p.Qz:=by
 rw[z9P,List.getElem?_append_right (Nat.le_refl _),Nat.sub_self,z7e,if_pos h3]
 rfl

structure Chans (c:Qv):Prop where
 n:c.Qd.length≤16
 l:∀ ch,ch∈c.Qd→ch.length≤200
 p:∀ q,q∈c.Qd.flatten→q.Qz.sz≤1048576∧(q.Qi=3→q.Qz.Qi≠0∧q.Qz.QM.length≤3)
theorem zqt {c:Qv}(hs:c.sz≤1048576)(h:z8X c=true):z9U c.Qk=true∧Chans c:=by
 unfold z8X at h
 simp only[Bool.and_eq_true,decide_eq_true_eq] at h
 obtain⟨h1,⟨h2,h3⟩,h4,h5,h6,h7⟩:=h
 obtain⟨z1,z2,z3,z4,z5,z6,z7⟩:=zjx hs
 have hk:1≤c.Qk.Qf.length∧c.Qk.Qf.length≤4:=by
  unfold z9U at h1
  rw[Bool.and_eq_true,decide_eq_true_eq] at h1
  exact h1.1
 unfold zeJ at h7
 rw[Bool.and_eq_true] at h7
 have h8:=(z69 (p:=fun i ch=>zey c.Qk.Qf.length i ch)).1 h7.2
 have h9:∀ ch,ch∈c.Qd→ch.length≤200∧∀ q,q∈ch→q.Qi=3→q.Qz.Qi≠0∧q.Qz.QM.length≤3:=fun ch hc=>by
  obtain⟨i,hi⟩:=List.getElem?_of_mem hc
  have G:=h8 i ch hi
  unfold zey at G
  rw[Bool.and_eq_true,decide_eq_true_eq,List.all_eq_true] at G
  refine⟨G.1,fun q hq O=>?_⟩
  have o:=G.2 q hq
  unfold z9V at o
  rw[if_neg (by omega),if_neg (by omega),if_pos O] at o
  simp only[Bool.and_eq_true,decide_eq_true_eq] at o
  exact⟨o.1.1,zpG o.1.2⟩
 refine⟨h1,⟨?_,fun ch hc=>(h9 ch hc).1,fun q hq=>?_⟩⟩
 ·rw[h2];exact Nat.mul_le_mul hk.2 hk.2
 ·obtain⟨ch,hc,H⟩:=List.mem_flatten.1 hq
  exact⟨(z3 ch hc).2 q H,(h9 ch hc).2 q H⟩

section
variable {fu:Nat}{c:Qv}
theorem zrB (hf:Big fu)(hC:Chans c):iter (z3J fu c) fu (0,[])=some (.inl (cellsOf c.Qd.flatten)):=by
 have hn:=hC.n
 have X:=z8U hC.l
 have O:=zcs (ps:=c.Qd.flatten)
 obtain⟨o,h,rfl⟩:=zf (body:=z3J fu c) (fun i s=>s=((i:Int),cellsOf (c.Qd.take i).flatten)) c.Qd.length (fun o=>o=.inl (cellsOf c.Qd.flatten)) (by
  rintro i s hi rfl
  obtain⟨ch,hc⟩:=z1j hi
  have H:=hC.l ch (List.mem_of_getElem? hc)
  refine .inl ⟨_,?_,rfl⟩
  have G:=zf (body:=z5x fu c ((i:Int),cellsOf (c.Qd.take i).flatten)) (fun n s=>s=((n:Int),cellsOf ((c.Qd.take i).flatten++ch.take n))) ch.length (fun o=>o=.inl (cellsOf ((c.Qd.take i).flatten++ch))) (by
   rintro n s q rfl
   obtain⟨p,hp⟩:=z1j q
   refine .inl ⟨_,?_,rfl⟩
   have hb:(cellsOf ((c.Qd.take i).flatten++ch.take n)).length≤100000:=by
    have h1:=zcs (ps:=(c.Qd.take i).flatten++ch.take n)
    have h2:=z8U (xs:=c.Qd.take i) fun y hy=>hC.l y (List.mem_of_mem_take hy)
    rw[List.length_append,List.length_take] at h1
    rw[List.length_take] at h2
    omega
   have e:cellsOf ((c.Qd.take i).flatten++ch.take (n+1))=cellsOf ((c.Qd.take i).flatten++ch.take n)++(if p.Qi=3 then [p.Qz] else []):=by
    rw[zir hp,← List.append_assoc,z9P]
    congr 1
   rw[e]
   generalize cellsOf ((c.Qd.take i).flatten++ch.take n)=s at hb ⊢
   unfold z5x z5u
   dsimp only
   rw[za hc,bsm,if_pos (by simpa using q),bsm,za hp,bsm]
   by_cases h3:p.Qi=3
   ·rw[if_pos (by simp[h3]),bsm,za hp,bsm,if_pos (by simp only[List.length_cons,List.length_nil,decide_eq_true_eq];omega),if_pos h3,zb (by omega) (by omega)]
    rfl
   ·rw[if_neg (by simpa using h3),if_neg h3,List.append_nil,zb (by omega) (by omega)]
    rfl) (by
   rintro s rfl
   refine .inr ⟨_,?_,rfl⟩
   unfold z5x
   dsimp only
   rw[za hc,bsm,if_neg (by simp),List.take_length]) (fu:=fu) (i:=0) (s:=(0,cellsOf (c.Qd.take i).flatten)) (Nat.zero_le _) (by omega) (by simp)
  obtain⟨o,e1,rfl⟩:=G
  unfold z3J
  dsimp only
  rw[if_pos (by simpa using hi),e1,bsm,z8,zda hc]
  unfold z9Y
  dsimp only
  rw[zb (by omega) (by omega)]
  rfl) (by
  rintro s rfl
  refine .inr ⟨_,?_,rfl⟩
  unfold z3J
  rw[if_neg (by simp),List.take_length]) (fu:=fu) (i:=0) (s:=(0,[])) (Nat.zero_le _) (by omega) rfl
 exact h
theorem zq4 {g:D.Qk}(hS:Small g):(z7x g).length≤20000:=by
 have hn:=hS.n
 have o:=z8p (f:=zbz) (xs:=g.Qf) (b:=4000) (fun j s hc=>zna hS hc) g.Qf.length (Nat.le_refl _)
 unfold z7x zhz
 rw[List.length_append]
 simp only[List.length_cons,List.length_nil]
 omega

theorem zpb {L:Qg}{at_:L9}{X Y:LE}{p:Qh}{M:Qg}{ch:LE}{i n:Nat}{z:Int×Int×Qg}(hf:Big fu)(hs:c.Qk.sz≤1048576)(hS:Small c.Qk)(hI:Items c.Qk (cellsOf c.Qd.flatten) L at_)(hC:Chans c)
  (hX:c.Qd.flatten=X++p::Y)(hc:c.Qd[i]? = some ch)(hp:ch[n]? = some p)(hM:Run c.Qk (cellsOf c.Qd.flatten) L M (z7x c.Qk++zd5 0 X))(hz:z.2.1=(i:Int)):
  (zf5 c.Qk p=true→∃ M',z1k fu c (L,at_) z (((cellsOf X).length:Int),(n:Int),M)=some (.next (((cellsOf (X++[p])).length:Int),w64 ((n:Int)+1),M'))∧Run c.Qk (cellsOf c.Qd.flatten) L M' (z7x c.Qk++zd5 0 (X++[p])))∧
  (zf5 c.Qk p=false→∃ r,z1k fu c (L,at_) z (((cellsOf X).length:Int),(n:Int),M)=some (.ret r)∧∃ M',r=.ret (M',false)):=by
 have i0:=(List.getElem?_eq_some_iff.1 hp).1
 have q0:=z8U hC.l
 have g0:=hC.n
 have k0:X.length+1≤3200:=by
  have:c.Qd.flatten.length=X.length+(Y.length+1):=by rw[hX,List.length_append,List.length_cons]
  omega
 have o0:=zcs (ps:=X)
 have j0:p∈c.Qd.flatten:=by rw[hX];simp
 obtain⟨q1,q2⟩:=hC.p p j0
 have r0:=zq4 hS
 have v0:=zpe (ps:=X) (j:=0) (fun q hq h3=>((hC.p q (by rw[hX];simp[hq])).2 h3).2)
 have u0:(z7x c.Qk++zd5 0 X).length≤100000:=by rw[List.length_append];omega
 have H:zd5 0 (X++[p])=zd5 0 X++zhT (cellsOf X).length p:=by rw[zfs,Nat.zero_add,zvz]
 have ge:c.Qk=c.Qk:=rfl
 have he:z1k fu c (L,at_) z (((cellsOf X).length:Int),(n:Int),M)=z3H fu c (L,at_) (((cellsOf X).length:Int),(n:Int),M) p (decide (p.Qi=1∨p.Qi=2)):=by
  unfold z1k
  dsimp only
  rw[hz,za hc,bsm,if_pos (by simpa using i0),bsm,za hp,bsm]
  simp only[zxW]
  by_cases k1:p.Qi=1
  ·simp[k1]
  ·by_cases k2:p.Qi=2<;>simp[k1,k2]
 rw[he]
 unfold z3H
 dsimp only
 rw[ge]
 by_cases o:p.Qi=1∨p.Qi=2
 ·have k3:p.Qi≠3:=by omega
  have O:cellsOf (X++[p])=cellsOf X:=by rw[z9P,z7e,if_neg k3];simp[cellsOf]
  have b0:zhT (cellsOf X).length p=[z9S p.A,z9S p.B]:=by unfold zhT;rw[if_pos o]
  have a0:zf5 c.Qk p=(zH c.Qk p.A && zH c.Qk p.B):=by unfold zf5;rw[if_pos o]
  obtain⟨M',e1,e2⟩:=zm7 (fu:=fu) (a:=p.A) (b:=p.B) hs hI hM (by omega)
  rw[if_pos (dct o),e1,bsm,a0,O,H,b0]
  constructor
  ·intro h
   dsimp only
   rw[h,Bool.not_true,if_neg (by simp)]
   exact⟨M',rfl,by rw[← List.append_assoc];exact e2 h⟩
  ·intro h
   dsimp only
   rw[h,Bool.not_false,if_pos rfl]
   exact⟨_,rfl,_,rfl⟩
 ·rw[if_neg (by simpa using o)]
  by_cases k3:p.Qi=3
  ·obtain⟨c0,c3⟩:=q2 k3
   rw[if_pos (by simp[k3])]
   have O:(cellsOf (X++[p])).length=(cellsOf X).length+1:=by rw[z9P,z7e,if_pos k3];simp[cellsOf]
   have e0:(cellsOf c.Qd.flatten)[(cellsOf X).length]? = some p.Qz:=by rw[hX];exact zwQ k3
   have b0:zhT (cellsOf X).length p=zbo 3 0 (cellsOf X).length p.Qz++[(3,0,(cellsOf X).length,0),z9S p.B]:=by unfold zhT;rw[if_neg o,if_pos k3]
   have a0:zf5 c.Qk p=(p.Qz.QM.all (zH c.Qk) && zH c.Qk p.B):=by unfold zf5;rw[if_neg o,if_pos k3]
   have Z:=za (hI.more _ _ e0)
   have f0:=zeT hS c.Qk.Qf.length (Nat.le_refl _)
   rw[List.take_length] at f0
   have t0:=hS.n
   have y0:=zen (t:=3) (m:=0) (cs:=cellsOf c.Qd.flatten) (fun y hy=>by
    obtain⟨q,g1,g2,g3⟩:=zbn hy
    rw[← g3]
    exact((hC.p q g1).2 g2).2) (cellsOf X).length (by have:=(List.getElem?_eq_some_iff.1 e0).1;omega)
   obtain⟨M1,e1,e2⟩:=zuU (fu:=fu) (t:=3) (m:=0) (i:=(cellsOf X).length) (b:=(z7g c.Qk.Qf).length+(zbp 3 0 ((cellsOf c.Qd.flatten).take (cellsOf X).length)).length) hf hs hI hM c3 (by omega) (by omega) (fun k hk=>by
    have:=zqv (g:=c.Qk) (k:=k+1) e0 c0 (by omega)
    rw[← Nat.add_assoc] at this
    exact this)
   rw[Z,bsm,show p.Qz=p.Qz from rfl,e1,bsm,a0,O,H,b0]
   dsimp only
   cases ha:p.Qz.QM.all (zH c.Qk) with
   | false=>
    rw[Bool.not_false,if_pos rfl,Bool.false_and]
    unfold z3G
    rw[if_pos rfl]
    exact⟨fun h=>(by cases h),fun _=>⟨_,rfl,_,rfl⟩⟩
   | true=>
    rw[Bool.not_true,if_neg (by simp),zdx hs,bsm,Bool.true_and]
    unfold z3G
    dsimp only
    cases hb:zH c.Qk p.B with
    | false=>
     rw[Bool.not_false,if_pos rfl]
     exact⟨fun h=>(by cases h),fun _=>⟨_,rfl,_,rfl⟩⟩
    | true=>
     rw[Bool.not_true,if_neg (by simp),Z,bsm]
     have G:=e2 ha
     obtain⟨y,y1,y2⟩:=zgb (fu:=fu) (L':=M1) hI G.cells G.QK hb
     have hx:=zqv (g:=c.Qk) (k:=0) e0 c0 (Nat.zero_le _)
     rw[Nat.add_zero] at hx
     have p0:=zmF (t:=3) (m:=0) (i:=(cellsOf X).length) c3
     obtain⟨M2,f1,f2⟩:=zfP (fu:=fu) G hx y2 (by rw[List.length_append];omega)
     rw[y1,bsm,f1,bsm]
     unfold z5v z5w
     dsimp only
     refine⟨fun _=>⟨M2,?_,?_⟩,fun h=>by cases h⟩
     ·rw[zb (n:=((cellsOf X).length:Int)+1) (by omega) (by omega)]
      rfl
     ·rw[← List.append_assoc,← List.append_assoc]
      exact f2
  ·have O:cellsOf (X++[p])=cellsOf X:=by rw[z9P,z7e,if_neg k3];simp[cellsOf]
   have b0:zhT (cellsOf X).length p=[]:=by unfold zhT;rw[if_neg o,if_neg k3]
   have a0:zf5 c.Qk p=true:=by unfold zf5;rw[if_neg o,if_neg k3]
   rw[if_neg (by simpa using k3),O,H,b0,a0,List.append_nil]
   exact⟨fun _=>⟨M,rfl,hM⟩,fun h=>by cases h⟩
end
end Go.E



namespace Go.E
open Go.RowKit Go.Proofs

section
variable {fu:Nat}{c:Qv}
theorem zwP {L:Qg}{at_:L9}{i:Nat}{ch:LE}{M0:Qg}{z:Int×Int×Qg}(hf:Big fu)(hs:c.Qk.sz≤1048576)(hS:Small c.Qk)(hI:Items c.Qk (cellsOf c.Qd.flatten) L at_)(hC:Chans c)
  (hc:c.Qd[i]? = some ch)(hM:Run c.Qk (cellsOf c.Qd.flatten) L M0 (z7x c.Qk++zd5 0 (c.Qd.take i).flatten))(hz:z.2.1=(i:Int)):
  (ch.all (zf5 c.Qk)=true∧∃ t,iter (z1k fu c (L,at_) z) fu (((cellsOf (c.Qd.take i).flatten).length:Int),0,M0)=some (.inl t)∧∃ M,t=(((cellsOf (c.Qd.take (i+1)).flatten).length:Int),M)∧Run c.Qk (cellsOf c.Qd.flatten) L M (z7x c.Qk++zd5 0 (c.Qd.take (i+1)).flatten))∨
  (ch.all (zf5 c.Qk)=false∧∃ r,iter (z1k fu c (L,at_) z) fu (((cellsOf (c.Qd.take i).flatten).length:Int),0,M0)=some (.inr r)∧∃ M,r=.ret (M,false)):=by
 have H:=hC.l ch (List.mem_of_getElem? hc)
 have G:c.Qd.flatten=(c.Qd.take i).flatten++(ch++(c.Qd.drop (i+1)).flatten):=by
  have h1:=zda hc
  have h2:c.Qd.flatten=(c.Qd.take (i+1)).flatten++(c.Qd.drop (i+1)).flatten:=by rw[← List.flatten_append,List.take_append_drop]
  rw[h2,h1,List.append_assoc]
 have h:=zfn (xs:=ch) (body:=z1k fu c (L,at_) z) (fu:=fu)
  (fun n st=>∃ M:Qg,st=(((cellsOf ((c.Qd.take i).flatten++ch.take n)).length:Int),(n:Int),M)∧Run c.Qk (cellsOf c.Qd.flatten) L M (z7x c.Qk++zd5 0 ((c.Qd.take i).flatten++ch.take n)))
  (fun _ p=>zf5 c.Qk p)
  (fun t=>∃ M,t=(((cellsOf (c.Qd.take (i+1)).flatten).length:Int),M)∧Run c.Qk (cellsOf c.Qd.flatten) L M (z7x c.Qk++zd5 0 (c.Qd.take (i+1)).flatten))
  (fun r=>∃ M,r=.ret (M,false)) (s0:=(((cellsOf (c.Qd.take i).flatten).length:Int),0,M0)) (by omega) hf (by
  rintro n p _ hp ⟨M,rfl,o⟩
  have O:=(List.getElem?_eq_some_iff.1 hp).1
  have hX:c.Qd.flatten=((c.Qd.take i).flatten++ch.take n)++p::(ch.drop (n+1)++(c.Qd.drop (i+1)).flatten):=by
   rw[G,List.append_assoc]
   congr 1
   have:ch=ch.take n++p::ch.drop (n+1):=by
    have h3:=List.take_append_drop (n+1) ch
    rw[zir hp,List.append_assoc] at h3
    exact h3.symm
   rw[← List.cons_append,← List.append_assoc,← this]
  obtain⟨g1,g2⟩:=zpb (z:=z) hf hs hS hI hC hX hc hp o hz
  refine⟨fun q=>?_,fun q=>?_⟩
  ·obtain⟨M',e1,e2⟩:=g1 q
   have ht:(c.Qd.take i).flatten++ch.take (n+1)=((c.Qd.take i).flatten++ch.take n)++[p]:=by rw[zir hp,List.append_assoc]
   refine⟨_,e1,M',?_,?_⟩
   ·rw[ht,zb (by omega) (by omega)];rfl
   ·rw[ht];exact e2
  ·exact g2 q) (by
  rintro _ ⟨M,rfl,o⟩
  rw[List.take_length] at o
  refine⟨_,?_,M,rfl,by rw[zda hc];exact o⟩
  unfold z1k
  dsimp only
  rw[hz,za hc,bsm,if_neg (by simp),List.take_length,zda hc]) ⟨M0,by simp,by simpa using hM⟩
 rw[z8Y (p:=zf5 c.Qk)] at h
 exact h
theorem zuN {L:Qg}{at_:L9}{M0:Qg}(hf:Big fu)(hs:c.Qk.sz≤1048576)(hS:Small c.Qk)(hI:Items c.Qk (cellsOf c.Qd.flatten) L at_)(hC:Chans c)
  (hM:Run c.Qk (cellsOf c.Qd.flatten) L M0 (z7x c.Qk)):
  (c.Qd.flatten.all (zf5 c.Qk)=true∧∃ t,iter (z2A fu c (L,at_)) fu (0,0,M0)=some (.inl t)∧Run c.Qk (cellsOf c.Qd.flatten) L t (z7x c.Qk++zd5 0 c.Qd.flatten))∨
  (c.Qd.flatten.all (zf5 c.Qk)=false∧∃ r,iter (z2A fu c (L,at_)) fu (0,0,M0)=some (.inr r)∧∃ M,r=(M,false)):=by
 have hn:=hC.n
 have G:=z8U hC.l
 have h:=zfn (xs:=c.Qd) (body:=z2A fu c (L,at_)) (fu:=fu)
  (fun i st=>∃ M:Qg,st=(((cellsOf (c.Qd.take i).flatten).length:Int),(i:Int),M)∧Run c.Qk (cellsOf c.Qd.flatten) L M (z7x c.Qk++zd5 0 (c.Qd.take i).flatten))
  (fun _ ch=>ch.all (zf5 c.Qk))
  (fun t=>Run c.Qk (cellsOf c.Qd.flatten) L t (z7x c.Qk++zd5 0 c.Qd.flatten))
  (fun r=>∃ M,r=(M,false)) (s0:=(0,0,M0)) (by omega) hf (by
  rintro i ch _ hc ⟨M,rfl,o⟩
  have q:=(List.getElem?_eq_some_iff.1 hc).1
  unfold z2A
  dsimp only
  rw[if_pos (by simpa using q)]
  rcases zwP (z:=(((cellsOf (c.Qd.take i).flatten).length:Int),(i:Int),M)) hf hs hS hI hC hc o rfl with⟨c1,t,c2,M1,rfl,c3⟩ | ⟨c1,r,c2,M1,rfl⟩
  ·rw[c1,c2,bsm,z8]
   unfold z9Z
   dsimp only
   exact⟨fun _=>⟨_,rfl,M1,by rw[zb (by omega) (by omega)];rfl,c3⟩,fun h=>by cases h⟩
  ·rw[c1,c2,bsm]
   exact⟨fun h=>(by cases h),fun _=>⟨_,rfl,_,rfl⟩⟩) (by
  rintro _ ⟨M,rfl,o⟩
  rw[List.take_length] at o
  refine⟨_,?_,o⟩
  unfold z2A
  rw[if_neg (by simp)]) ⟨M0,by simp[cellsOf],by simpa [zd5] using hM⟩
 rw[z8Y (p:=fun ch:LE=>ch.all (zf5 c.Qk)),← List.all_flatten] at h
 exact h
theorem zsJ (hf:Big fu)(hs:c.Qk.sz≤1048576)(hS:Small c.Qk)(hC:Chans c):
  ∃ L at_ L',Items c.Qk (cellsOf c.Qd.flatten) L at_∧z6C fu c=some (L',zfy c.Qk && c.Qd.flatten.all (zf5 c.Qk))∧((zfy c.Qk && c.Qd.flatten.all (zf5 c.Qk))=true→Run c.Qk (cellsOf c.Qd.flatten) L L' (z7x c.Qk++zd5 0 c.Qd.flatten)):=by
 have hn:=hC.n
 have G:=z8U hC.l
 have o:=zcs (ps:=c.Qd.flatten)
 have ge:c.Qk=c.Qk:=rfl
 obtain⟨L,at_,b1,hI⟩:=zuS (fu:=fu) (g:=c.Qk) (more:=cellsOf c.Qd.flatten) hf hS ⟨by omega,fun y hy=>by
  obtain⟨q,g1,g2,g3⟩:=zbn hy
  rw[← g3]
  exact⟨(hC.p q g1).1,((hC.p q g1).2 g2).2⟩⟩
 obtain⟨M0,a1,a2⟩:=zxw (fu:=fu) hf hs hS hI
 refine⟨L,at_,?_⟩
 unfold z6C
 rw[zrB hf hC,bsm,z8]
 unfold za0
 rw[ge,b1,bsm]
 dsimp only
 rw[a1,bsm]
 dsimp only
 cases hA:zfy c.Qk with
 | false=>exact⟨M0,hI,rfl,fun h=>by cases h⟩
 | true=>
  rw[Bool.not_true,if_neg (by simp),Bool.true_and]
  rcases zuN hf hs hS hI hC (a2 hA) with⟨c1,t,c2,c3⟩ | ⟨c1,r,c2,M1,rfl⟩
  ·rw[c1,c2,bsm,z8]
   exact⟨t,hI,rfl,fun _=>c3⟩
  ·rw[c1,c2,bsm]
   exact⟨M1,hI,rfl,fun h=>by cases h⟩

def zhO (c:Qv):Bool:=z8X c && zsR c.Qk (zcm c.Qk++zaC c.Qd)
theorem zuL (hf:Big fu)(hs:c.sz≤1048576):zba fu c=some (zhO c):=by
 obtain⟨z1,_⟩:=zjx hs
 unfold zba zhO
 rw[zm4 hf hs,bsm]
 cases hp:z8X c with
 | false=>rfl
 | true=>
  obtain⟨H,hC⟩:=zqt hs hp
  have hS:=zkZ z1 H
  obtain⟨L,at_,L',hI,e1,e2⟩:=zsJ (fu:=fu) hf z1 hS hC
  have hn:=hC.n
  have Y:=hS.n
  have X:=z8U hC.l
  have O:=zcs (ps:=c.Qd.flatten)
  rw[Bool.not_true,if_neg (by simp),e1,bsm,Bool.true_and,← zov]
  dsimp only
  cases hA:zfy c.Qk with
  | false=>rfl
  | true=>
   cases hB:c.Qd.flatten.all (zf5 c.Qk) with
   | false=>rfl
   | true=>
    have G:L.Qu.length≤1048576:=by
     rw[hI.Qu]
     have h:=zeT hS c.Qk.Qf.length (Nat.le_refl _)
     rw[List.take_length] at h
     have h2:=zen (t:=3) (m:=0) (cs:=cellsOf c.Qd.flatten) (fun y hy=>by
      obtain⟨q,g1,g2,g3⟩:=zbn hy
      rw[← g3]
      exact((hC.p q g1).2 g2).2) (cellsOf c.Qd.flatten).length (Nat.le_refl _)
     rw[List.take_length] at h2
     rw[List.length_append]
     omega
    rw[Bool.true_and,if_pos rfl]
    have h9:=zry hf z1 hI (e2 (by rw[hA,hB];rfl)) G
    have o:z5q fu c.Qk L'=_:=h9
    rw[o]
    rfl


theorem zfE {k:Int}{xs:L9}(hf:Big fu)(hl:xs.length≤1048576):z7w fu k xs=some (xs.all fun x=>decide (0≤x∧x≤k)):=by
 have hm:maxLen=9223372036854775807:=rfl
 unfold z7w
 rw[zho (p:=fun x=>!decide (0≤x∧x≤k)) hf (by omega) (fun x=>by
  unfold z9u
  by_cases h:x<0
  ·rw[if_pos (dct h),decide_eq_false (by omega)];rfl
  ·rw[if_neg (by simpa using h)]
   by_cases h2:x>k
   ·rw[dct h2,decide_eq_false (by omega)];rfl
   ·rw[decide_eq_false h2,dct (by omega)];rfl),bsm,zdV,Bool.not_not]
theorem zmC {p:L9→Bool}{f:L9→Option Bool}{xs:LO}(hf:Big fu)(hl:xs.length≤maxLen)(h:∀ n,n∈xs→f n=some (p n)):
  zC fu xs f=some (xs.any p):=by
 unfold zC z1r
 obtain⟨r,h1,h2⟩:=zf3 (xs:=xs) (p:=p) (body:=zB fu xs f) (j:=z1K fu) (t:=()) hl hf rfl (fun i x hi hx=>by
  simp only[zB,za hx,h x (List.mem_of_getElem? hx),lt_t (show(i:Int)<xs.length by omega),if_true,bsm]) (by simp[zB])
 rw[h1,bsm,h2]
theorem zjw {p:Qh→Bool}{f:Qh→Option Bool}{xs:LE}(hf:Big fu)(hl:xs.length≤maxLen)(h:∀ n,n∈xs→f n=some (p n)):
  ze fu xs f=some (xs.any p):=by
 unfold ze zP
 obtain⟨r,h1,h2⟩:=zf3 (xs:=xs) (p:=p) (body:=zm fu xs f) (j:=z1g fu) (t:=()) hl hf rfl (fun i x hi hx=>by
  simp only[zm,za hx,h x (List.mem_of_getElem? hx),lt_t (show(i:Int)<xs.length by omega),if_true,bsm]) (by simp[zm])
 rw[h1,bsm,h2]
theorem zpr {xs:L9}(hf:Big fu)(hl:xs.length≤1048576):z31 fu xs=some (zg6 xs 7):=by
 unfold z31 zg6
 rw[zfE hf hl,bsm]
 by_cases h:xs.length=7
 ·rw[if_pos (by simp[h]),dct h,Bool.true_and]
 ·rw[if_neg (by simp;omega),decide_eq_false h,Bool.false_and]
theorem zwJ {i k:Nat}:((i:Int).tdiv (k:Int))=((i / k:Nat):Int):=by rw[Int.tdiv_eq_ediv_of_nonneg (by omega)];exact(Int.natCast_ediv i k).symm
theorem zoL {k:Nat}{cs:List LE}(hf:Big fu)(hk:1≤k∧k≤4)(hl:cs.length≤1048576)(hc:∀ ch,ch∈cs→ch.length≤1048576∧∀ p,p∈ch→p.Qz.sz≤1048576):z4q fu cs (k:Int)=some (decide (cs.length=k*k) && zeJ k cs):=by
 have hm:maxLen=9223372036854775807:=rfl
 have O:k*k≤16:=Nat.mul_le_mul hk.2 hk.2
 have q:(k:Int)*(k:Int)=((k*k:Nat):Int):=by simp
 unfold z4q
 rw[q,zb (by omega) (by omega)]
 by_cases h1:cs.length=k*k
 ·rw[if_neg (by simp[h1]),dct h1,Bool.true_and]
  have hL:=z9F (xs:=cs) (body:=z2K fu cs (k:Int)) (p:=fun i ch=>zh6 k i ch && zey k i ch) (t:=()) (v:=false) (fu:=fu) (by omega) hf (fun i ch hi hx=>by
   obtain⟨y1,y2⟩:=hc ch (List.mem_of_getElem? hx)
   have hP:=zjw (fu:=fu) (p:=fun p=>!z9V ((i % k:Nat):Int) p) (f:=fun y0=>z1M fu y0 ((i % k:Nat):Int)) (xs:=ch) hf (by omega) (fun p hp=>by
    unfold z1M
    rw[zpd hf (y2 p hp)]
    rfl)
   rw[zdV] at hP
   have j2:∀ b,zK fu (i:Int) b=if b=true then some (.ret false) else some (.next (w64 ((i:Int)+1))):=fun b=>by unfold zK;rfl
   have H:((i / k:Nat):Int)≤(i:Int):=Int.ofNat_le.2 (Nat.div_le_self i k)
   have G:(0:Int)≤((i / k:Nat):Int):=Int.natCast_nonneg _
   unfold z2K
   rw[if_pos (by simpa using hi),za hx,bsm,if_pos (by simp;omega),if_pos (by simp;omega),zwJ,zxC (by omega),zb (n:=((i / k:Nat):Int)) (by omega) (by omega),hP]
   simp only[bsm,j2]
   unfold zh6 zey
   by_cases e:i / k=i % k
   ·rw[if_pos (by simp[e])]
    cases ch with
    | nil=>simp[e]
    | cons y ys=>simp[e]
   ·rw[if_neg (by simp;omega)]
    by_cases h2:ch.length≤200
    ·rw[if_neg (by simp;omega)]
     cases hq:ch.all (z9V ((i % k:Nat):Int))<;>simp[e,h2,hq]
    ·rw[if_pos (by simp;omega)]
     simp[e,h2]) (by unfold z2K;rw[if_neg (by simp)])
  rw[hL,bsm]
  have o:(cs.zipIdx.all fun y=>zh6 k y.2 y.1 && zey k y.2 y.1)=zeJ k cs:=by
   unfold zeJ
   induction cs.zipIdx with
   | nil=>rfl
   | cons y ys ih=>
    simp only[List.all_cons,ih]
    cases zh6 k y.2 y.1<;>cases zey k y.2 y.1<;>cases (ys.all fun x=>zh6 k x.2 x.1)<;>rfl
  rw[o]
  cases zeJ k cs<;>simp[aft,z7u]
 ·rw[if_pos (by simp;omega),decide_eq_false h1];rfl
theorem zuV {at_:Qb}{aux:LD}(hf:Big fu)(hl:aux.length≤3):z1z fu at_ aux=some (fl (zfD at_) aux aux.length):=by
 unfold z1z
 have h:=zbw (xs:=aux) (body:=z12 fu at_ aux) (mk:=fun k s=>(s,k)) (out:=fun s=>s) (zfD at_) (s0:=[]) (by omega) hf (fun k a ha=>by
  have q:=(List.getElem?_eq_some_iff.1 ha).1
  have o:=z8p (f:=zfD at_) (xs:=aux) (b:=1) (fun _ _ _=>by simp[zfD]) k (by omega)
  rw[List.nil_append]
  generalize fl (zfD at_) aux k=s at o ⊢
  unfold z12 z47
  dsimp only
  have hw:w64 ((k:Int)+1)=(k:Int)+1:=zb (by omega) (by omega)
  rw[if_pos (by simpa using q),za ha,bsm,hw,if_pos (dct (by omega)),bsm,if_pos (by simp;omega)]
  rfl) (by
  unfold z12
  rw[if_neg (by simp)])
 rw[h,bsm,z8]
 rfl
theorem zsj {ch i:Nat}{p:Qh}(h:p.Qi=3→p.Qz.QM.length≤3):(zmN ch i p).length≤4:=by
 unfold zmN
 split
 ·simp
 ·split
  ·rename_i h3
   have:=z8p (f:=zfD ⟨(ch:Int),3,(i:Int)⟩) (xs:=p.Qz.QM) (b:=1) (fun _ _ _=>by simp[zfD]) p.Qz.QM.length (Nat.le_refl _)
   have:=h h3
   rw[List.length_append]
   simp only[List.length_cons,List.length_nil]
   omega
  ·simp
theorem ziR (hf:Big fu)(hC:Chans c):zt fu c=some (zaC c.Qd)∧(zaC c.Qd).length≤20000:=by
 have hn:=hC.n
 have O:∀ ch,ch∈c.Qd→∀ p,p∈ch→p.Qi=3→p.Qz.QM.length≤3:=fun ch h1 p h2 h3=>((hC.p p (List.mem_flatten.2 ⟨ch,h1,h2⟩)).2 h3).2
 have Z:∀ (i:Nat) ch,c.Qd[i]? = some ch→(zh7 i ch).length≤800:=fun i ch hc=>by
  have Y:=hC.l ch (List.mem_of_getElem? hc)
  have:=z8p (f:=zmN i) (xs:=ch) (b:=4) (fun j p hp=>zsj (O ch (List.mem_of_getElem? hc) p (List.mem_of_getElem? hp))) ch.length (Nat.le_refl _)
  unfold zh7
  omega
 have G:∀ i,i≤c.Qd.length→(fl zh7 c.Qd i).length≤800*i:=fun i hi=>z8p (f:=zh7) (xs:=c.Qd) (b:=800) Z i hi
 refine⟨?_,by have:=G c.Qd.length (Nat.le_refl _);unfold zaC;omega⟩
 unfold zt
 have h:=zbw (xs:=c.Qd) (body:=zV fu c) (mk:=fun k s=>(s,k)) (out:=fun s=>s) zh7 (s0:=[]) (fu:=fu) (by omega) hf (fun i ch hc=>by
  have a0:=(List.getElem?_eq_some_iff.1 hc).1
  have Y:=hC.l ch (List.mem_of_getElem? hc)
  have h0:=G i (by omega)
  rw[List.nil_append]
  generalize fl zh7 c.Qd i=s0 at h0 ⊢
  unfold zV
  dsimp only
  rw[if_pos (by simpa using a0),za hc,bsm]
  have h1:=zbw (xs:=ch) (body:=zy fu (s0,(i:Int)) ch) (mk:=fun k s=>(k,s)) (out:=fun s=>s) (zmN i) (s0:=s0) (fu:=fu) (by omega) hf (fun n p hp=>by
   have b0:=(List.getElem?_eq_some_iff.1 hp).1
   have X:=O ch (List.mem_of_getElem? hc) p (List.mem_of_getElem? hp)
   have e0:=z8p (f:=zmN i) (xs:=ch) (b:=4) (fun j p hp=>zsj (O ch (List.mem_of_getElem? hc) p (List.mem_of_getElem? hp))) n (by omega)
   have hb:(s0++fl (zmN i) ch n).length≤100000:=by rw[List.length_append];omega
   generalize s0++fl (zmN i) ch n=s at hb ⊢
   have he:zy fu (s0,(i:Int)) ch ((n:Int),s)=zx fu (s0,(i:Int)) ((n:Int),s) p (decide (p.Qi=1∨p.Qi=2)):=by
    unfold zy
    dsimp only
    rw[if_pos (by simpa using b0),za hp,bsm]
    simp only[zxW]
    by_cases k1:p.Qi=1
    ·simp[k1]
    ·by_cases k2:p.Qi=2<;>simp[k1,k2]
   rw[he]
   unfold zx zmN
   dsimp only
   by_cases o:p.Qi=1∨p.Qi=2
   ·rw[if_pos (dct o),if_pos (by simp;omega),if_pos o]
    rfl
   ·rw[if_neg (by simpa using o),if_neg o]
    by_cases k3:p.Qi=3
    ·have H:=zuV (fu:=fu) (at_:=⟨(i:Int),3,(n:Int)⟩) hf (X k3)
     have c0:=z8p (f:=zfD ⟨(i:Int),3,(n:Int)⟩) (xs:=p.Qz.QM) (b:=1) (fun _ _ _=>by simp[zfD]) p.Qz.QM.length (Nat.le_refl _)
     have q:=X k3
     rw[if_pos (by simp[k3]),if_pos k3]
     unfold z2Q
     rw[bsm,H,bsm,if_pos (by simp only[decide_eq_true_eq];omega)]
     unfold z47
     rw[if_neg (by simp),bsm,if_pos (by simp only[List.length_append,List.length_cons,List.length_nil,decide_eq_true_eq];omega),← List.append_assoc]
     rfl
    ·rw[if_neg (by simpa using k3),if_neg k3,List.append_nil]
     rfl) (by
   unfold zy
   rw[if_neg (by simp)])
  try dsimp only at h1
  rw[h1,bsm,z8]
  rfl) (by
  unfold zV
  rw[if_neg (by simp)])
 rw[h,bsm,z8]
 rfl
theorem zuM (hf:Big fu)(hs:c.sz≤1048576):z59 fu c=some (zhO c):=by
 have hm:maxLen=9223372036854775807:=rfl
 obtain⟨z1,z2,z3,z4,z5,z6,z7⟩:=zjx hs
 have ge:c.Qk=c.Qk:=rfl
 have Y:∀ r,z1c fu c r true=some false:=fun r=>by unfold z1c;rfl
 have c0:zn fu c true=some false:=by unfold zn;rfl
 have j2:zn fu c false=if(c.QL.all fun x=>zg6 x 7)=true then((zt fu c).bind fun H=>(z2u fu c.Qk H).bind fun O=>some O) else some false:=by
  unfold zn
  rw[if_neg (by simp),zmC (p:=fun x=>!zg6 x 7) hf (by omega) (fun x hx=>by unfold z5i;rw[zpr hf (z5 x hx)];rfl),zdV,bsm]
  cases (c.QL.all fun x=>zg6 x 7)<;>rfl
 unfold z59 z4v
 rw[bsm]
 by_cases hk:1≤c.Qk.Qf.length∧c.Qk.Qf.length≤4
 ·rw[if_neg (by simp;omega),if_neg (by simp;omega),zoL hf hk z2 z3,bsm]
  by_cases h1:c.Qd.length=c.Qk.Qf.length*c.Qk.Qf.length
  ·rw[dct h1,Bool.true_and]
   cases h2:zeJ c.Qk.Qf.length c.Qd with
   | false=>
    rw[Bool.not_false,Y]
    have:z8X c=false:=by unfold z8X;rw[h2];simp
    unfold zhO
    rw[this];rfl
   | true=>
    rw[Bool.not_true]
    unfold z1c
    rw[if_neg (by simp)]
    have key:∀ b,(b=false→z8X c=false)→b=false→zn fu c true=some (zhO c):=fun b h hb=>by
     rw[c0]
     unfold zhO
     rw[h hb];rfl
    by_cases h3:c.QL.length=c.Qk.Qf.length
    ·rw[if_neg (by simp[h3])]
     by_cases h4:c.QY.length=c.Qk.Qf.length
     ·rw[if_neg (by simp[h4])]
      by_cases h5:c.Got.length=c.Qk.Qf.length
      ·rw[if_neg (by simp[h5]),zfE hf z6,zfE hf z7,bsm,bsm]
       have e4:zg6 c.QY c.Qk.Qf.length=(c.QY.all fun x=>decide (0≤x∧x≤1000000000)):=by unfold zg6;rw[dct h4,Bool.true_and]
       have e5:zg6 c.Got c.Qk.Qf.length=(c.Got.all fun x=>decide (0≤x∧x≤1000000000)):=by unfold zg6;rw[dct h5,Bool.true_and]
       rw[← e4,← e5]
       cases h6:zg6 c.QY c.Qk.Qf.length with
       | false=>
        rw[Bool.not_false,if_pos rfl]
        exact key false (fun _=>by unfold z8X;rw[h6];simp) rfl
       | true=>
        rw[Bool.not_true,if_neg (by simp)]
        cases h7:zg6 c.Got c.Qk.Qf.length with
        | false=>
         rw[Bool.not_false]
         exact key false (fun _=>by unfold z8X;rw[h7];simp) rfl
        | true=>
         rw[Bool.not_true,j2]
         cases h8:(c.QL.all fun x=>zg6 x 7) with
         | false=>
          have:z8X c=false:=by unfold z8X;rw[h8];simp
          unfold zhO
          rw[if_neg (by simp),this];rfl
         | true=>
          have b0:z8X c=z9U c.Qk:=by
           unfold z8X
           rw[h2,h6,h7,h8,dct ⟨h1,h3⟩]
           simp
          rw[if_pos rfl]

          have hC:Chans c:=by
           refine⟨by rw[h1];exact Nat.mul_le_mul hk.2 hk.2,fun ch hc=>?_,fun q hq=>?_⟩
           ·unfold zeJ at h2
            rw[Bool.and_eq_true] at h2
            obtain⟨i,hi⟩:=List.getElem?_of_mem hc
            have o:=(z69 (p:=fun i ch=>zey c.Qk.Qf.length i ch)).1 h2.2 i ch hi
            unfold zey at o
            rw[Bool.and_eq_true,decide_eq_true_eq] at o
            exact o.1
           ·obtain⟨ch,hc,Z⟩:=List.mem_flatten.1 hq
            refine⟨(z3 ch hc).2 q Z,fun a0=>?_⟩
            unfold zeJ at h2
            rw[Bool.and_eq_true] at h2
            obtain⟨i,hi⟩:=List.getElem?_of_mem hc
            have o:=(z69 (p:=fun i ch=>zey c.Qk.Qf.length i ch)).1 h2.2 i ch hi
            unfold zey at o
            rw[Bool.and_eq_true,decide_eq_true_eq,List.all_eq_true] at o
            have G:=o.2 q Z
            unfold z9V at G
            rw[if_neg (by omega),if_neg (by omega),if_pos a0] at G
            simp only[Bool.and_eq_true,decide_eq_true_eq] at G
            exact⟨G.1.1,zpG G.1.2⟩
          obtain⟨e9,X⟩:=ziR (fu:=fu) hf hC
          rw[e9,bsm,zp9 hf z1]
          unfold z1i zhO
          rw[b0]
          cases hp:z9U c.Qk with
          | false=>rfl
          | true=>
           have hS:=zkZ z1 hp
           have f0:=hS.n
           have e0:=z8p (f:=zb6) (xs:=c.Qk.Qf) (b:=2000) (fun j s hc=>ziA hS hc) c.Qk.Qf.length (Nat.le_refl _)
           have hl:(zcm c.Qk).length≤100000:=by unfold zcm zjY;rw[List.length_append];simp only[List.length_cons,List.length_nil];omega
           rw[Bool.not_true,if_neg (by simp),zfd hf hS,bsm,if_pos (by simp only[decide_eq_true_eq];omega),zsc hf z1 (by rw[List.length_append];omega),bsm,bsm,Bool.true_and]
      ·rw[if_pos (by simp;omega)]
       exact key false (fun _=>by unfold z8X zg6;rw[decide_eq_false h5];simp) rfl
     ·rw[if_pos (by simp;omega)]
      exact key false (fun _=>by unfold z8X zg6;rw[decide_eq_false h4];simp) rfl
    ·rw[if_pos (by simp;omega)]
     exact key false (fun _=>by unfold z8X;rw[decide_eq_false (fun h=>h3 h.2)];simp) rfl
  ·rw[decide_eq_false h1,Bool.false_and,Bool.not_false,Y]
   have:z8X c=false:=by unfold z8X;rw[decide_eq_false (fun h=>h1 h.1)];simp
   unfold zhO
   rw[this];rfl
 ·have:z8X c=false:=by unfold z8X z9U;rw[decide_eq_false hk];rfl
  unfold zhO
  rw[this]
  by_cases h:c.Qk.Qf.length<1
  ·rw[if_pos (by simp;omega),Y];rfl
  ·rw[if_neg (by simp;omega),if_pos (by simp;omega),Y];rfl
end
end Go.E



namespace Go.E
open Go.RowKit Go.Proofs

theorem zma {α:Type}[DecidableEq α]{ks:List α}{k:α}{h:Nat}:h∈occ ks k↔ks[h]? = some k:=by
 unfold occ
 rw[List.mem_filter,List.mem_range,decide_eq_true_eq]
 exact⟨fun h=>h.2,fun h=>⟨(List.getElem?_eq_some_iff.1 h).1,h⟩⟩
theorem zsp {α:Type}[DecidableEq α]{ks:List α}{k:α}:(occ ks k).Nodup:=List.nodup_range.filter _
theorem zsr {α:Type}[DecidableEq α][BEq α][LawfulBEq α]{k:α}{ks:List α}:(occ ks k).length=ks.count k:=by
 have key:∀ n,n≤ks.length→(occ (ks.take n) k).length=(ks.take n).count k:=by
  intro n
  induction n with
  | zero=>intro _;rfl
  | succ n ih=>
   intro hn
   obtain⟨x,hx⟩:=z1j (xs:=ks) (i:=n) (by omega)
   have ih:=ih (by omega)
   rw[List.take_add_one,hx]
   show(occ (ks.take n++[x]) k).length=(ks.take n++[x]).count k
   rw[zm9,List.count_append,List.count_singleton,← ih]
   by_cases h:x=k
   ·subst h;simp
   ·rw[if_neg h];simp[h]
 have:=key ks.length (Nat.le_refl _)
 rwa [List.take_length] at this
theorem zsq {α β:Type}[DecidableEq α][DecidableEq β]{f:α→β}{ks:List α}{k:α}(hi:∀ x∈ks,f x=f k→x=k):occ (ks.map f) (f k)=occ ks k:=by
 unfold occ
 rw[List.length_map]
 apply List.filter_congr
 intro h hh
 obtain⟨x,hx⟩:=z1j (List.mem_range.1 hh)
 rw[List.getElem?_map,hx,Option.map_some]
 by_cases e:x=k
 ·subst e;simp
 ·have:f x≠f k:=fun e2=>e (hi x (List.mem_of_getElem? hx) e2)
  simp[e,this]

def par (h:Nat):Nat:=if h % 2=0 then h+1 else h - 1
theorem zcX {h:Nat}:par (par h)=h:=by
 unfold par
 by_cases h0:h % 2=0
 ·rw[if_pos h0,if_neg (by omega)];omega
 ·rw[if_neg h0,if_pos (by omega)];omega
theorem zpS {h:Nat}:par h / 2=h / 2:=by
 unfold par
 split<;>omega
theorem zg3 {n h:Nat}(hn:n % 2=0)(h1:h<n):par h<n:=by
 unfold par
 split<;>omega
theorem zvx {a b:Nat}(h:a / 2=b / 2)(o:a≠b):a=par b:=by
 unfold par
 split<;>omega

section
variable {S:List Key}
def z2S (S:List Key)(h:Nat):Key:=S.getD h (0,0,0,0)
theorem zdn {h:Nat}(hl:h<S.length):S[h]? = some (z2S S h):=by
 unfold z2S
 rw[List.getD_eq_getElem?_getD,List.getElem?_eq_getElem hl];rfl
theorem zcO {h:Nat}{k:Key}(hk:S[h]? = some k):z2S S h=k:=by
 unfold z2S
 rw[List.getD_eq_getElem?_getD,hk];rfl
structure Chain (S:List Key):Prop where
 even:S.length % 2=0
 one:∀ k∈S,k.1≠2→S.count k=1
 two:∀ k∈S,k.1=2→S.count k=2
def oth (S:List Key)(h:Nat):Nat:=match occ S (z2S S h) with
 | [a,b]=>if h=a then b else a
 | _=>h
theorem Chain.pair (hC:Chain S){h:Nat}(hl:h<S.length)(hk:(z2S S h).1=2):∃ a b,occ S (z2S S h)=[a,b]∧a≠b∧(h=a∨h=b):=by
 have hm:=zdn hl
 have hc:=hC.two _ (List.mem_of_getElem? hm) hk
 rw[← zsr] at hc
 have q:=zma.2 hm
 have o:=zsp (ks:=S) (k:=z2S S h)
 generalize occ S (z2S S h)=l at hc q o ⊢
 match l,hc,q,o with
 | [a,b],_,q,o=>
  refine⟨a,b,rfl,?_,by simpa using q⟩
  rw[List.nodup_cons] at o
  intro e
  exact o.1 (by simp[e])
theorem Chain.single (hC:Chain S){h:Nat}(hl:h<S.length)(hk:(z2S S h).1≠2):occ S (z2S S h)=[h]:=by
 have hm:=zdn hl
 have hc:=hC.one _ (List.mem_of_getElem? hm) hk
 rw[← zsr] at hc
 have o:=zma.2 hm
 generalize occ S (z2S S h)=l at hc o ⊢
 match l,hc,o with
 | [a],_,o=>simp at o;rw[o]

theorem zdf (hC:Chain S){h:Nat}(hl:h<S.length)(hk:(z2S S h).1=2):oth S h<S.length∧oth S h≠h∧z2S S (oth S h)=z2S S h∧oth S (oth S h)=h:=by
 obtain⟨a,b,e,q,G⟩:=hC.pair hl hk
 have ha:S[a]? = some (z2S S h):=zma.1 (by rw[e];simp)
 have hb:S[b]? = some (z2S S h):=zma.1 (by rw[e];simp)
 have ho:oth S h=if h=a then b else a:=by unfold oth;rw[e]
 rcases G with rfl | rfl
 ·rw[if_pos rfl] at ho
  have o:=zcO hb
  refine⟨by rw[ho];exact(List.getElem?_eq_some_iff.1 hb).1,by rw[ho];exact Ne.symm q,by rw[ho];exact o,?_⟩
  rw[ho]
  unfold oth
  rw[o,e]
  show(if b=h then b else h)=h
  rw[if_neg (Ne.symm q)]
 ·rw[if_neg (Ne.symm q)] at ho
  have o:=zcO ha
  refine⟨by rw[ho];exact(List.getElem?_eq_some_iff.1 ha).1,by rw[ho];exact q,by rw[ho];exact o,?_⟩
  rw[ho]
  unfold oth
  rw[o,e]
  show(if a=a then h else a)=h
  rw[if_pos rfl]

inductive Path (S:List Key):Nat→Nat→Nat→Prop
 | stop {h:Nat}:(z2S S (par h)).1≠2→Path S 0 h (par h)
 | more {n h g:Nat}:(z2S S (par h)).1=2→oth S (par h)≠h→Path S n (oth S (par h)) g→Path S (n+1) h g
theorem Path.det {n m h g g':Nat}(h1:Path S n h g)(h2:Path S m h g'):g=g':=by
 induction h1 generalizing m with
 | stop hs=>cases h2 with
  | stop _=>rfl
  | more hm _ _=>exact absurd hm hs
 | more hm hne _ ih=>cases h2 with
  | stop hs=>exact absurd hm hs
  | more _ _ hp=>exact ih hp
theorem Path.lt (hC:Chain S){n h g:Nat}(h1:Path S n h g)(hl:h<S.length):g<S.length∧(z2S S g).1≠2:=by
 induction h1 with
 | stop hs=>exact⟨zg3 hC.even hl,hs⟩
 | more hm hne _ ih=>exact ih (zdf hC (zg3 hC.even hl) hm).1
theorem zsi (hC:Chain S){h0:Nat}(G:(z2S S h0).1≠2):∀ (f:Nat) (rest:List Nat) (h:Nat),S.length≤f+rest.length→(h::rest).Nodup→(∀ x∈h::rest,x<S.length)→
  (∀ x∈h::rest,x=h0∨∃ y∈rest,(z2S S (par y)).1=2∧oth S (par y)=x)→∃ n g,n+rest.length<S.length∧Path S n h g
 | 0,rest,h,hf,hn,hr,_=>by
  have:=hn.length_le_of_subset (l₂:=List.range S.length) (fun x hx=>List.mem_range.2 (hr x hx))
  simp at this
  omega
 | f+1,rest,h,hf,hn,hr,hp=>by
  have hl:=hr h List.mem_cons_self
  have O:=hn.length_le_of_subset (l₂:=List.range S.length) (fun x hx=>List.mem_range.2 (hr x hx))
  simp at O
  by_cases hk:(z2S S (par h)).1=2
  ·obtain⟨o1,o2,o3,o4⟩:=zdf hC (zg3 hC.even hl) hk
   have o:oth S (par h) ∉ h::rest:=by
    intro hm
    rcases hp _ hm with e | ⟨y,hy,H,X⟩
    ·rw[e] at o3
     rw[o3] at G
     exact G hk
    ·have Y:=hr y (List.mem_cons_of_mem _ hy)
     have q:=zdf hC (zg3 hC.even Y) H
     have:par y=par h:=by rw[← q.2.2.2,X,o4]
     have:y=h:=by rw[← zcX (h:=y),this,zcX]
     subst this
     exact(List.nodup_cons.1 hn).1 hy
   obtain⟨n,g,h1,h2⟩:=zsi hC G f (h::rest) (oth S (par h)) (by simp only[List.length_cons];omega) (List.nodup_cons.2 ⟨o,hn⟩) (fun x hx=>by
    rcases List.mem_cons.1 hx with rfl | hx
    ·exact o1
    ·exact hr x hx) (fun x hx=>by
    rcases List.mem_cons.1 hx with rfl | hx
    ·exact .inr ⟨h,List.mem_cons_self,hk,rfl⟩
    ·rcases hp x hx with e | ⟨y,hy,H⟩
     ·exact .inl e
     ·exact .inr ⟨y,List.mem_cons_of_mem _ hy,H⟩)
   simp only[List.length_cons] at h1
   exact⟨n+1,g,by omega,.more hk (fun e=>o (by rw[e];exact List.mem_cons_self)) h2⟩
  ·exact⟨0,par h,by omega,.stop hk⟩

theorem zvw (hC:Chain S){h:Nat}(hl:h<S.length)(hk:(z2S S h).1≠2):∃ n g,n<S.length∧Path S n h g:=by
 obtain⟨n,g,h1,h2⟩:=zsi hC hk S.length [] h (by simp) (by simp) (fun x hx=>by simp at hx;subst hx;exact hl) (fun x hx=>by simp at hx;exact .inl hx)
 exact⟨n,g,by simpa using h1,h2⟩
theorem Path.back (hC:Chain S){n h g:Nat}(h1:Path S n h g)(hl:h<S.length):∀ {m z:Nat},Path S m (par h) z→∃ m',Path S m' g z:=by
 induction h1 with
 | stop hs=>exact fun {m z} hz=>⟨m,hz⟩
 | @more n h g hm hne hp ih=>
  intro m z hz
  obtain⟨o1,o2,o3,o4⟩:=zdf hC (zg3 hC.even hl) hm
  refine ih o1 (m:=m+1) (z:=z) (.more ?_ ?_ ?_)
  ·rw[zcX,o3];exact hm
  ·rw[zcX,o4]
   intro e
   exact hne (by rw[← zcX (h:=oth S (par h)),← e,zcX])
  ·rw[zcX,o4];exact hz

theorem Path.rev (hC:Chain S){n h g:Nat}(h1:Path S n h g)(hl:h<S.length)(hk:(z2S S h).1≠2):∃ m,Path S m g h:=by
 have h2:Path S 0 (par h) (par (par h)):=.stop (by rw[zcX];exact hk)
 rw[zcX] at h2
 exact h1.back hC hl h2
open Classical in

noncomputable def zxL (S:List Key) (h:Nat):Nat:=if hx:∃ g,∃ n,Path S n h g then hx.choose else 0
theorem zuA {n h g:Nat}(hp:Path S n h g):zxL S h=g:=by
 have hx:∃ g,∃ n,Path S n h g:=⟨g,n,hp⟩
 unfold zxL
 rw[dif_pos hx]
 obtain⟨m,hm⟩:=hx.choose_spec
 exact hm.det hp
noncomputable def zk7 (S:List Key) (k:Key):Key:=z2S S (zxL S ((occ S k).headD 0))
theorem zgo (hC:Chain S){k:Key}(hk:k∈S)(ht:k.1≠2):∃ h n g,occ S k=[h]∧h<S.length∧z2S S h=k∧n<S.length∧Path S n h g∧zk7 S k=z2S S g:=by
 obtain⟨h,hh⟩:=List.getElem?_of_mem hk
 have hl:=(List.getElem?_eq_some_iff.1 hh).1
 have o:=zcO hh
 have hs:=hC.single hl (by rw[o];exact ht)
 rw[o] at hs
 obtain⟨n,g,h1,h2⟩:=zvw hC hl (by rw[o];exact ht)
 refine⟨h,n,g,hs,hl,o,h1,h2,?_⟩
 unfold zk7
 rw[hs]
 show z2S S (zxL S h)=_
 rw[zuA h2]
theorem zuy (hC:Chain S){k:Key}(hk:k∈S)(ht:k.1≠2):zk7 S k∈S∧(zk7 S k).1≠2:=by
 obtain⟨h,n,g,h1,h2,h3,h4,h5,h6⟩:=zgo hC hk ht
 obtain⟨a,b⟩:=h5.lt hC h2
 rw[h6]
 exact⟨List.mem_of_getElem? (zdn a),b⟩
theorem zuz (hC:Chain S){k:Key}(hk:k∈S)(ht:k.1≠2):zk7 S (zk7 S k)=k:=by
 obtain⟨h,n,g,h1,h2,h3,h4,h5,h6⟩:=zgo hC hk ht
 obtain⟨m,hm⟩:=h5.rev hC h2 (by rw[h3];exact ht)
 obtain⟨a,b⟩:=h5.lt hC h2
 have hs:=hC.single a b
 unfold zk7 at h6 ⊢
 rw[h6,hs]
 show z2S S (zxL S g)=k
 rw[zuA hm]
 exact h3
end
end Go.E



