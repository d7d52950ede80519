/- NewPool: the statement FnExactNewPoolSaid (program and reference agree), from the walk and the plain law; the lemmas that it rests on stand ahead of it, each with its own conditions. Conditions of the claim: none. -/
import Derived.Test.YtijgffjimnbcpaaGreatNetVars
import Derived.Test.YtijgffjimnbcpaaGreatFLd
import Derived.Test.YtijgffjimnbcpaaGreatSizesP
import Derived.Test.YtijgffjimnbcpaaGreatRows
import Derived.WalkKit
import Derived.ProofKit
import Derived.OpenShut
import Derived.ShutString
import Derived.ChangeOld
import Derived.Below
import Derived.Carry
namespace Go.E
open Go.RowKit Go.Proofs
set_option linter.unusedSimpArgs false
set_option linter.unusedVariables false

def freeV (k size:Nat):Int:=if k<size then(k:Int) else -1
def freeC (k size:Nat):List D.Cell:=(List.range (size - k)).map fun j=>⟨0,0,freeV (k+j+1) size,[],[]⟩
def pm (L:List D.Cell) (size:Nat) (R:D.Word) (Q:List D.Pair):D.Memory:=⟨L++freeC L.length size,freeV L.length size,R,Q⟩
def vc:D.Cell:=⟨13,0,0,[],[]⟩
theorem z8i {k size:Nat}(h:k<size):freeC k size=⟨0,0,freeV (k+1) size,[],[]⟩::freeC (k+1) size:=by
  unfold freeC
  rw [show size - k=(size - (k+1))+1 by omega,List.range_succ_eq_map,List.map_cons,List.map_map]
  congr 1
  refine List.map_congr_left fun j _=>?_
  simp only [Function.comp,Nat.succ_eq_add_one]
  rw [show k+(j+1)+1=k+1+j+1 by omega]
theorem z91 {fuel size:Nat}{L:List D.Cell}{R:D.Word}{Q:List D.Pair}{c:D.Cell}(h:L.length<size):z1w fuel (pm L size R Q) c=some ((L.length:Int),pm (L++[c]) size R Q):=by
  have e:freeV L.length size=(L.length:Int):=if_pos h
  unfold z1w pm
  dsimp only
  rw [e,zb (x:=⟨0,0,freeV (L.length+1) size,[],[]⟩) (by rw [z8i h];simp),Option.bind_some,if_pos (by simp;rw [z8i h];simp)]
  simp only [Int.toNat_natCast]
  rw [z8i h,List.set_append_right _ _ (Nat.le_refl _),Nat.sub_self,List.set_cons_zero]
  simp
theorem z9z {fuel:Nat}{m:D.Memory}{c:D.Cell}:z2n fuel m c=z1w fuel m c:=rfl
theorem zeg {fuel size:Nat}{L:List D.Cell}{R:D.Word}{Q:List D.Pair}(h:L.length<size):z1j fuel (pm L size R Q)=some (⟨2,(L.length:Int)⟩,pm (L++[vc]) size R Q):=by
  unfold z1j
  rw [z91 h]
  rfl
theorem z9V {size:Nat}(h:1≤size) (v:Int):((List.range size).map fun(j:Nat)=>(⟨0,0,((j:Int)+1),[],[]⟩:D.Cell)).set (size - 1) ⟨0,0,-1,[],[]⟩=freeC 0 size:=by
  refine List.ext_getElem? fun j=>?_
  unfold freeC freeV
  rw [List.getElem?_set,List.getElem?_map,List.getElem?_map]
  by_cases hj:j<size
  · rw [List.getElem?_range hj,List.getElem?_range (by omega)]
    simp only [List.length_map,List.length_range,Option.map_some]
    by_cases h1:size - 1=j
    · rw [if_pos h1,if_pos (by omega),if_neg (by omega)]
    · rw [if_neg h1,if_pos (by omega)]
      simp
  · rw [List.getElem?_eq_none (by simp;omega),List.getElem?_eq_none (by simp;omega),if_neg (by omega)]
    rfl
theorem zbz {fuel size:Nat}(hf:18446744073709551616≤fuel) (h:1≤size) (h2:size≤1500):z3z fuel (size:Int)=some (pm [] size ⟨0,0⟩ []):=by
  unfold z3z
  obtain⟨o,h1,rfl⟩:=zo (body:=z1Z fuel (size:Int)) (fun k s=>s=((k:Int),(⟨(List.range k).map fun(j:Nat)=>(⟨0,0,((j:Int)+1),[],[]⟩:D.Cell),0,⟨0,0⟩,[]⟩:D.Memory))) size (fun o=>o=.inl (⟨(List.range size).map fun(j:Nat)=>(⟨0,0,((j:Int)+1),[],[]⟩:D.Cell),0,⟨0,0⟩,[]⟩:D.Memory)) (by
    rintro k s hk rfl
    refine .inl ⟨_,?_,rfl⟩
    unfold z1Z
    dsimp only
    rw [if_pos (by simpa using hk),if_pos (by simp;omega),z7 (by omega) (by omega),List.range_succ,List.map_append]
    simp) (by
    rintro s rfl
    refine .inr ⟨_,?_,rfl⟩
    unfold z1Z
    rw [if_neg (by simp)]) (fuel:=fuel) (i:=0) (s:=(0,(⟨[],0,⟨0,0⟩,[]⟩:D.Memory))) (Nat.zero_le _) (by omega) (by simp)
  rw [h1,Option.bind_some,z6]
  unfold z4B
  dsimp only
  rw [z7 (by omega) (by omega),show(size:Int) - 1=((size - 1:Nat):Int) by omega,zb (x:=⟨0,0,(((size - 1:Nat):Int)+1),[],[]⟩) (by rw [List.getElem?_map,List.getElem?_range (by omega)];rfl),Option.bind_some,Int.toNat_natCast,z9V h 0]
  unfold pm freeV
  rw [if_pos (by simp;omega)]
  rfl
theorem zbA {fuel size:Nat}(hf:18446744073709551616≤fuel) (h:1≤size) (h2:size≤1500):z2j fuel (size:Int)=some (pm [] size ⟨0,0⟩ []):=by
  unfold z2j
  rw [if_pos (by simp;omega),Int.toNat_natCast]
  have e0:(List.replicate size (⟨0,0,0,[],[]⟩:D.Cell))=(List.range size).map fun(j:Nat)=>(⟨0,0,(if j<0 then(j:Int)+1 else 0),[],[]⟩:D.Cell):=by
    refine List.ext_getElem? fun j=>?_
    rw [List.getElem?_replicate,List.getElem?_map]
    by_cases hj:j<size
    · rw [if_pos hj,List.getElem?_range hj];rfl
    · rw [if_neg hj,List.getElem?_eq_none (by simp;omega)];rfl
  obtain⟨o,h1,rfl⟩:=zo (body:=z18 fuel (size:Int)) (fun k s=>s=((k:Int),(⟨(List.range size).map fun(j:Nat)=>(⟨0,0,(if j<k then(j:Int)+1 else 0),[],[]⟩:D.Cell),0,⟨0,0⟩,[]⟩:D.Memory))) size (fun o=>o=.inl (⟨(List.range size).map fun(j:Nat)=>(⟨0,0,(if j<size then(j:Int)+1 else 0),[],[]⟩:D.Cell),0,⟨0,0⟩,[]⟩:D.Memory)) (by
    rintro k s hk rfl
    refine .inl ⟨_,?_,rfl⟩
    unfold z18
    dsimp only
    rw [if_pos (by simpa using hk),zb (x:=⟨0,0,0,[],[]⟩) (by rw [List.getElem?_map,List.getElem?_range hk];simp),Option.bind_some,z7 (by omega) (by omega),Int.toNat_natCast]
    congr 4
    refine List.ext_getElem? fun j=>?_
    rw [List.getElem?_set,List.getElem?_map,List.getElem?_map]
    by_cases hj:j<size
    · rw [List.getElem?_range hj]
      simp only [List.length_map,List.length_range,Option.map_some]
      by_cases h1:k=j
      · subst h1;simp [hj]
      · rw [if_neg h1]
        by_cases h3:j<k
        · rw [if_pos h3,if_pos (by omega)]
        · rw [if_neg h3,if_neg (by omega)]
    · rw [List.getElem?_eq_none (by simp;omega),if_neg (by omega)]
      rfl) (by
    rintro s rfl
    refine .inr ⟨_,?_,rfl⟩
    unfold z18
    rw [if_neg (by simp)]) (fuel:=fuel) (i:=0) (s:=(0,(⟨List.replicate size (⟨0,0,0,[],[]⟩:D.Cell),0,⟨0,0⟩,[]⟩:D.Memory))) (Nat.zero_le _) (by omega) (by rw [e0];rfl)
  rw [h1,Option.bind_some,z6]
  unfold z3M
  dsimp only
  have e1:((List.range size).map fun(j:Nat)=>(⟨0,0,(if j<size then(j:Int)+1 else 0),[],[]⟩:D.Cell))=(List.range size).map fun(j:Nat)=>(⟨0,0,((j:Int)+1),[],[]⟩:D.Cell):=List.map_congr_left fun j hj=>by rw [if_pos (List.mem_range.1 hj)]
  rw [e1,z7 (by omega) (by omega),show(size:Int) - 1=((size - 1:Nat):Int) by omega,zb (x:=⟨0,0,(((size - 1:Nat):Int)+1),[],[]⟩) (by rw [List.getElem?_map,List.getElem?_range (by omega)];rfl),Option.bind_some,Int.toNat_natCast,z9V h 0]
  unfold pm freeV
  rw [if_pos (by simp;omega)]
  rfl


def cN (w:D.Port→D.Word) (i:Nat) (a:D.Agent):D.Cell:=⟨a.Kind,a.Level,a.Value,a.Data,(List.range (a.Ports.length - 1)).map fun j=>w (prt i (j+1))⟩
def agC (n:D.Net) (w:D.Port→D.Word):List D.Cell:=(n.Agents.drop 1).zipIdx.map fun x=>cN w (x.2+1) x.1
def wz:D.Port→D.Word:=fun _=>⟨0,0⟩
def setW (w:D.Port→D.Word) (r:D.Port) (v:D.Word):D.Port→D.Word:=fun p=>if p=r then v else w p
theorem z6S {n:D.Net}{w:D.Port→D.Word}{j:Nat}:(agC n w)[j]? = (n.Agents[j+1]?).map (cN w (j+1)):=by
  unfold agC
  rw [List.getElem?_map,List.getElem?_zipIdx,List.getElem?_drop,Nat.add_comm 1 j,Option.map_map]
  simp [Function.comp_def]
theorem z42 {n:D.Net}{w:D.Port→D.Word}:(agC n w).length=n.Agents.length - 1:=by unfold agC;simp
theorem zd8 {i:Nat}{a:D.Agent}:cN wz i a=⟨a.Kind,a.Level,a.Value,a.Data,List.replicate (a.Ports.length - 1) ⟨0,0⟩⟩:=by
  unfold cN wz
  congr 1
  rw [List.map_const',List.length_range]
theorem zec {n:D.Net}{w:D.Port→D.Word}{i s:Nat}{a:D.Agent}{v:D.Word}(ha:n.Agents[i+1]? = some a) (hs:s+1<a.Ports.length):
    (agC n w).set i ⟨a.Kind,a.Level,a.Value,a.Data,(cN w (i+1) a).Words.set s v⟩=agC n (setW w (prt (i+1) (s+1)) v):=by
  refine List.ext_getElem? fun j=>?_
  rw [List.getElem?_set,z42,z6S,z6S]
  have hil:=(List.getElem?_eq_some_iff.1 ha).1
  by_cases hij:i=j
  · subst hij
    rw [if_pos rfl,if_pos (by omega),ha]
    simp only [Option.map_some,Option.some.injEq]
    unfold cN
    congr 1
    refine List.ext_getElem? fun k=>?_
    rw [List.getElem?_set,List.getElem?_map,List.getElem?_map]
    by_cases hk:k<a.Ports.length - 1
    · rw [List.getElem?_range hk]
      simp only [List.length_map,List.length_range,Option.map_some]
      unfold setW
      by_cases hsk:s=k
      · subst hsk;simp [hk]
      · rw [if_neg hsk,if_neg (fun e=>hsk (by unfold prt at e;simp only [D.Port.mk.injEq] at e;omega))]
    · rw [List.getElem?_eq_none (by simp;omega),if_neg (by omega)]
      rfl
  · rw [if_neg hij]
    cases hj:n.Agents[j+1]? with
    | none=>rfl
    | some b=>
      simp only [Option.map_some,Option.some.injEq]
      unfold cN
      congr 1
      refine List.map_congr_left fun k _=>?_
      unfold setW
      rw [if_neg (fun e=>hij (by unfold prt at e;simp only [D.Port.mk.injEq] at e;omega))]
theorem zdW {n:D.Net}{w:D.Port→D.Word}{v:D.Word}:agC n (setW w (prt 0 0) v)=agC n w:=by
  unfold agC
  refine List.map_congr_left fun x _=>?_
  have e:∀ k:Nat,setW w (prt 0 0) v (prt (x.2+1) (k+1))=w (prt (x.2+1) (k+1)):=fun k=>by
    unfold setW
    rw [if_neg (fun e=>by unfold prt at e;simp only [D.Port.mk.injEq] at e;omega)]
  unfold cN
  simp only [e]
theorem zdV {n:D.Net}{w w':D.Port→D.Word}(h:∀ p,hasN n.Agents p=true→w p=w' p):agC n w=agC n w':=by
  refine List.ext_getElem? fun j=>?_
  rw [z6S,z6S]
  cases hj:n.Agents[j+1]? with
  | none=>rfl
  | some b=>
    simp only [Option.map_some,Option.some.injEq]
    unfold cN
    congr 1
    refine List.map_congr_left fun k hk=>h _ (z4U.2 ⟨Int.natCast_nonneg _,Int.natCast_nonneg _,b,by simpa [prt] using hj,?_⟩)
    have:=List.mem_range.1 hk
    simp only [prt]
    omega
theorem zaK {n:D.Net}{w:D.Port→D.Word}{i:Nat}{a:D.Agent}(ha:n.Agents[i+1]? = some a):(agC n w).take i++[cN w (i+1) a]=(agC n w).take (i+1):=by
  have:(agC n w)[i]? = some (cN w (i+1) a):=by rw [z6S,ha];rfl
  rw [List.take_add_one,this]
  rfl

def memN (n:D.Net) (size:Nat) (w:D.Port→D.Word) (t:Nat) (R:D.Word):D.Memory:=pm (agC n w++List.replicate t vc) size R []
theorem zaP {fuel:Nat}{n:D.Net}{size t:Nat}{w:D.Port→D.Word}{R:D.Word}(h:n.Agents.length - 1+t<size):z1j fuel (memN n size w t R)=some (⟨2,((n.Agents.length - 1+t:Nat):Int)⟩,memN n size w (t+1) R):=by
  unfold memN
  rw [zeg (by simp [z42];omega),List.append_assoc,← List.replicate_succ']
  simp [z42]
theorem zaO {n:D.Net}{size t i s:Nat}{w:D.Port→D.Word}{R v:D.Word}{a:D.Agent}(ha:n.Agents[i+1]? = some a) (hs:s+1<a.Ports.length):
    (memN n size w t R).Cells[i]? = some (cN w (i+1) a)∧(memN n size w t R).Cells.set i ⟨a.Kind,a.Level,a.Value,a.Data,(cN w (i+1) a).Words.set s v⟩=(memN n size (setW w (prt (i+1) (s+1)) v) t R).Cells:=by
  have hil:=(List.getElem?_eq_some_iff.1 ha).1
  have hl:i<(agC n w).length:=by rw [z42];omega
  unfold memN pm
  dsimp only
  constructor
  · rw [List.append_assoc,List.getElem?_append_left hl,z6S,ha];rfl
  · rw [List.append_assoc,List.set_append_left _ _ hl,zec ha hs]
    simp [z42]
theorem zcd {n:D.Net}{size t:Nat}{w w':D.Port→D.Word}{R R':D.Word}:(memN n size w t R).Free=(memN n size w' t R').Free:=by
  unfold memN pm
  simp [z42]
end Go.E


namespace Go.E
open Go.RowKit Go.Proofs
set_option linter.unusedSimpArgs false
set_option linter.unusedVariables false


def wordV (N t:Nat):D.Word:=⟨2,((N - 1+t:Nat):Int)⟩
def stepV (N:Nat) (s:(D.Port→D.Word) × Nat) (x:D.Wire):(D.Port→D.Word) × Nat:=if varW x=1 then(setW (setW s.1 x.A (wordV N s.2)) x.B (wordV N s.2),s.2+1) else s
def Vs (n:D.Net) (l:List D.Wire):(D.Port→D.Word) × Nat:=l.foldl (stepV n.Agents.length) (wz,0)
def statN (n:D.Net) (r:D.Port):Option Int:=match portAt n r with
  | some q=>if(auxN r && !auxN q)=true then some (q.Agent - 1) else none
  | none=>none
def endOf (r:D.Port) (y:D.Wire):Bool:=decide (y.A=r) || decide (y.B=r)
def SW (n:D.Net) (l:List D.Wire) (r:D.Port):D.Word:=match statN n r with
  | some x=>if l.any (endOf r)=true then⟨1,x⟩ else⟨0,0⟩
  | none=>(Vs n l).1 r
def IW (n:D.Net) (ps:List D.Port) (r:D.Port):D.Word:=match statN n r with
  | some x=>if r∈ps then⟨1,x⟩ else⟨0,0⟩
  | none=>(Vs n (ps.flatMap (wireAt n))).1 r
theorem z8Y {x:D.Wire}:varW x≤1:=by unfold varW;split<;>omega
theorem z8r {n:D.Net}{l:List D.Wire}{x:D.Wire}:Vs n (l++[x])=stepV n.Agents.length (Vs n l) x:=by
  unfold Vs
  rw [List.foldl_append]
  rfl
theorem Vs_t {n:D.Net}{l:List D.Wire}:(Vs n l).2=sumL varW l:=by
  have h:∀ (l:List D.Wire) (s:(D.Port→D.Word) × Nat),(l.foldl (stepV n.Agents.length) s).2=s.2+sumL varW l:=by
    intro l
    induction l with
    | nil=>intro s;rfl
    | cons x l ih=>
      intro s
      rw [List.foldl_cons,ih]
      unfold stepV
      have:=z8Y (x:=x)
      by_cases h:varW x=1
      · rw [if_pos h];simp only [sumL];omega
      · rw [if_neg h];simp only [sumL];omega
  rw [Vs,h]
  exact Nat.zero_add _
section
variable {n:D.Net}{p q:D.Port}
theorem z3w (hq:portAt n p=some q) (h:¬ (auxN p=true∧auxN q=false)):statN n p=none:=by
  unfold statN
  rw [hq]
  dsimp only
  rw [if_neg]
  intro e
  rw [Bool.and_eq_true,Bool.not_eq_true'] at e
  exact h e
theorem z6Y (hq:portAt n p=some q) (h1:auxN p=true) (h2:auxN q=false):statN n p=some (q.Agent - 1):=by
  unfold statN
  rw [hq]
  dsimp only
  rw [h1,h2]
  rfl
theorem z9k (hb:befN p q=true) (hp:0≤p.Agent) (hs:0≤p.Slot) (hq:0≤q.Slot):auxN q=decide (q.Slot>0):=by
  unfold auxN
  unfold befN at hb
  simp only [Bool.or_eq_true,Bool.and_eq_true,decide_eq_true_eq] at hb
  by_cases h:q.Slot>0
  · simp [h]
  · have:¬ q.Agent=0:=by omega
    simp [h,this]
theorem z4V (hk:auxN q=decide (q.Slot>0)):varW ⟨p,q⟩=1↔auxN p=true∧auxN q=true:=by
  unfold varW
  rw [hk]
  by_cases h:q.Slot>0<;>cases auxN p<;>simp [h]


theorem ze1 {l:List D.Wire}(hq:portAt n p=some q) (hp:portAt n q=some p) (hk:auxN q=decide (q.Slot>0)) (h1:auxN p=true) (h2:auxN q=true):
    SW n (l++[⟨p,q⟩])=setW (setW (SW n l) p (wordV n.Agents.length (sumL varW l))) q (wordV n.Agents.length (sumL varW l)):=by
  have e1:=z3w (n:=n) hq (by rw [h2];simp)
  have e2:=z3w (n:=n) hp (by rw [h1];simp)
  have hv:=(z4V (p:=p) hk).2 ⟨h1,h2⟩
  funext r
  unfold setW
  by_cases rq:r=q
  · subst rq
    rw [if_pos rfl]
    unfold SW
    rw [e2,z8r]
    unfold stepV
    rw [if_pos hv,Vs_t]
    simp [setW]
  · rw [if_neg rq]
    by_cases rp:r=p
    · subst rp
      rw [if_pos rfl]
      unfold SW
      rw [e1,z8r]
      unfold stepV
      rw [if_pos hv,Vs_t]
      simp [setW,rq]
    · rw [if_neg rp]
      unfold SW
      have ha:(l++[(⟨p,q⟩:D.Wire)]).any (endOf r)=l.any (endOf r):=by
        rw [List.any_append]
        simp [endOf,Ne.symm rp,Ne.symm rq]
      rw [ha,z8r]
      unfold stepV
      rw [if_pos hv]
      simp [setW,rq,rp]
theorem zed {l:List D.Wire}(hv:varW ⟨p,q⟩≠1) (h:∀ r,(r=p∨r=q)→statN n r=none):SW n (l++[⟨p,q⟩])=SW n l:=by
  funext r
  unfold SW
  rw [z8r]
  unfold stepV
  rw [if_neg hv]
  cases hr:statN n r with
  | none=>rfl
  | some x=>
    have rp:r≠p:=fun e=>by rw [h r (.inl e)] at hr;cases hr
    have rq:r≠q:=fun e=>by rw [h r (.inr e)] at hr;cases hr
    have ha:(l++[(⟨p,q⟩:D.Wire)]).any (endOf r)=l.any (endOf r):=by
      rw [List.any_append]
      simp [endOf,Ne.symm rp,Ne.symm rq]
    dsimp only
    rw [ha]
theorem zaG {l:List D.Wire}{x:D.Wire}{s o:D.Port}{c:Int}(hv:varW x≠1) (hx:x=⟨s,o⟩∨x=⟨o,s⟩) (hs:statN n s=some c) (ho:statN n o=none):SW n (l++[x])=setW (SW n l) s ⟨1,c⟩:=by
  have hso:s≠o:=fun e=>by rw [e,ho] at hs;cases hs
  funext r
  unfold setW
  by_cases rs:r=s
  · subst rs
    rw [if_pos rfl]
    unfold SW
    rw [hs]
    dsimp only
    rw [if_pos]
    rw [List.any_append]
    rcases hx with rfl | rfl<;>simp [endOf]
  · rw [if_neg rs]
    unfold SW
    rw [z8r]
    unfold stepV
    rw [if_neg hv]
    cases hr:statN n r with
    | none=>rfl
    | some y=>
      have ro:r≠o:=fun e=>by rw [e,ho] at hr;cases hr
      have ha:(l++[x]).any (endOf r)=l.any (endOf r):=by
        rw [List.any_append]
        rcases hx with rfl | rfl<;>simp [endOf,Ne.symm rs,Ne.symm ro]
      dsimp only
      rw [ha]


theorem zei {ps:List D.Port}(hq:portAt n p=some q) (hp:portAt n q=some p) (hk:auxN q=decide (q.Slot>0)) (hb:befN p q=true) (h1:auxN p=true) (h2:auxN q=true):
    IW n (ps++[p])=setW (setW (IW n ps) p (wordV n.Agents.length (sumL varW (ps.flatMap (wireAt n))))) q (wordV n.Agents.length (sumL varW (ps.flatMap (wireAt n)))):=by
  have e1:=z3w (n:=n) hq (by rw [h2];simp)
  have e2:=z3w (n:=n) hp (by rw [h1];simp)
  have hv:=(z4V (p:=p) hk).2 ⟨h1,h2⟩
  have hw:wireAt n p=[⟨p,q⟩]:=by unfold wireAt;rw [hq];dsimp only;rw [if_pos hb]
  have hfl:(ps++[p]).flatMap (wireAt n)=ps.flatMap (wireAt n)++[⟨p,q⟩]:=by rw [List.flatMap_append];simp [hw]
  funext r
  unfold IW
  rw [hfl,z8r]
  unfold stepV
  rw [if_pos hv,Vs_t]
  cases hr:statN n r with
  | none=>
    unfold setW
    dsimp only
    by_cases rq:r=q
    · rw [if_pos rq,if_pos rq]
    · rw [if_neg rq,if_neg rq]
      by_cases rp:r=p
      · rw [if_pos rp,if_pos rp]
      · rw [if_neg rp,if_neg rp,hr]
  | some x=>
    have rp:r≠p:=fun e=>by rw [e,e1] at hr;cases hr
    have rq:r≠q:=fun e=>by rw [e,e2] at hr;cases hr
    unfold setW
    dsimp only
    rw [if_neg rq,if_neg rp,hr]
    simp [rp]
theorem z7P (hq:portAt n p=some q) (h:befN p q=true→varW ⟨p,q⟩≠1) (ps:List D.Port):Vs n ((ps++[p]).flatMap (wireAt n))=Vs n (ps.flatMap (wireAt n)):=by
  have hfl:(ps++[p]).flatMap (wireAt n)=ps.flatMap (wireAt n)++wireAt n p:=by rw [List.flatMap_append];simp
  rw [hfl]
  unfold wireAt
  rw [hq]
  dsimp only
  cases hb:befN p q with
  | false=>simp
  | true=>
    rw [if_pos rfl]
    have:=z8r (n:=n) (l:=ps.flatMap (wireAt n)) (x:=⟨p,q⟩)
    unfold stepV at this
    rw [if_neg (h hb)] at this
    exact this
theorem zdb {ps:List D.Port}(hq:portAt n p=some q) (h:befN p q=true→varW ⟨p,q⟩≠1) (hs:statN n p=none):IW n (ps++[p])=IW n ps:=by
  funext r
  unfold IW
  rw [z7P hq h]
  cases hr:statN n r with
  | none=>rfl
  | some x=>
    have rp:r≠p:=fun e=>by rw [e,hs] at hr;cases hr
    simp [rp]
theorem zee {ps:List D.Port}{c:Int}(hq:portAt n p=some q) (h:befN p q=true→varW ⟨p,q⟩≠1) (hs:statN n p=some c):IW n (ps++[p])=setW (IW n ps) p ⟨1,c⟩:=by
  funext r
  unfold IW setW
  rw [z7P hq h]
  by_cases rp:r=p
  · subst rp
    rw [if_pos rfl,hs]
    simp
  · rw [if_neg rp]
    cases hr:statN n r with
    | none=>simp only [hr]
    | some x=>simp [hr,rp]

theorem z8E (hn:netN n=true){r:D.Port}(hr:hasN n.Agents r=true):SW n (wiresL n) r=IW n (portsL n) r:=by
  unfold SW IW wiresL
  cases hs:statN n r with
  | none=>rfl
  | some x=>
    dsimp only
    obtain⟨q,hq⟩:=z7b hr
    obtain⟨h1,h2,h3⟩:=z6C hn hr hq
    have hm:∀ p,hasN n.Agents p=true→p∈portsL n:=fun p hp=>by
      obtain⟨a1,a2,a,a3,a4⟩:=z4U.1 hp
      refine z6q.2 ⟨p.Agent.toNat,a,p.Slot.toNat,a3,by omega,?_⟩
      unfold prt
      rw [Int.toNat_of_nonneg a1,Int.toNat_of_nonneg a2]
    rw [if_pos (hm r hr),if_pos]
    rw [List.any_eq_true]
    obtain⟨r1,r2,_⟩:=z4U.1 hr
    obtain⟨q1,q2,_⟩:=z4U.1 h2
    by_cases hb:befN r q=true
    · refine⟨⟨r,q⟩,List.mem_flatMap.2 ⟨r,hm r hr,?_⟩,by simp [endOf]⟩
      unfold wireAt
      rw [hq]
      dsimp only
      rw [if_pos hb]
      simp
    · have hb':befN q r=true:=by
        unfold befN at hb ⊢
        simp only [Bool.or_eq_true,Bool.and_eq_true,decide_eq_true_eq] at hb ⊢
        have:¬ (q.Agent=r.Agent∧q.Slot=r.Slot):=fun e=>h1 (by cases q;cases r;simp only [D.Port.mk.injEq];exact e)
        omega
      refine⟨⟨q,r⟩,List.mem_flatMap.2 ⟨q,hm q h2,?_⟩,by simp [endOf]⟩
      unfold wireAt
      rw [h3]
      dsimp only
      rw [if_pos hb']
      simp
end
end Go.E


namespace Go.E
open Go.RowKit Go.Proofs
set_option linter.unusedSimpArgs false
set_option linter.unusedVariables false


def atN (i:Nat):List Int:=(-1:Int)::(List.range i).map fun(j:Nat)=>(j:Int)
def cellsN (N k:Nat):List Int:=(List.range N).map fun(j:Nat)=>if j≤k then((j - 1:Nat):Int) else 0
theorem zb7 {i j:Nat}(h:j<i):(atN i)[j+1]? = some (j:Int):=by
  unfold atN
  rw [List.getElem?_cons_succ,List.getElem?_map,List.getElem?_range h]
  rfl
theorem zd7 {N k j:Nat}(h:j+1<N) (hk:j+1≤k):(cellsN N k)[j+1]? = some (j:Int):=by
  unfold cellsN
  rw [List.getElem?_map,List.getElem?_range h,Option.map_some,if_pos hk,Nat.add_sub_cancel]
theorem z8c {n:D.Net}(hn:netN n=true){i:Nat}{a:D.Agent}(ha:n.Agents[i]? = some a):agN a=true:=by
  unfold netN agentsN at hn
  rw [Bool.and_eq_true,Bool.and_eq_true] at hn
  have h2:=(z6L (xs:=n.Agents) (p:=fun i a=>agN a && ((a.Kind == 1) == (i == 0)))).1 hn.1.2 _ _ ha
  rw [Bool.and_eq_true] at h2
  exact h2.1
theorem zb8 {a:D.Agent}(h:agN a=true):1≤a.Ports.length:=by
  unfold agN at h
  rw [Bool.and_eq_true,decide_eq_true_eq] at h
  omega
theorem z8N {n:D.Net}(hn:netN n=true){a:D.Agent}(ha:n.Agents[0]? = some a):a.Ports.length=1:=by
  have h1:=z8c hn ha
  have h2:=z78 hn ha
  have hk:a.Kind=1:=by simpa using h2
  unfold agN agentN at h1
  rw [Bool.and_eq_true,Bool.and_eq_true,hk] at h1
  have h3:=of_decide_eq_true h1.2.1
  have h4:portsN 1 (if(1:Int)=9 then(a.Ports.length:Int) - 1 else 0)=1:=by rw [if_neg (by decide)];decide
  omega
theorem shape {n:D.Net}(hn:netN n=true){p:D.Port}(hp:hasN n.Agents p=true):p=prt 0 0∨∃ (j s:Nat) (a:D.Agent),p=prt (j+1) s∧n.Agents[j+1]? = some a∧s<a.Ports.length:=by
  obtain⟨h1,h2,a,h3,h4⟩:=z4U.1 hp
  obtain⟨pa,ps⟩:=p
  dsimp only at h1 h2 h3 h4
  by_cases h0:pa=0
  · subst h0
    have:=z8N hn h3
    left
    unfold prt
    congr 1
    omega
  · right
    refine⟨pa.toNat - 1,ps.toNat,a,?_,?_,by omega⟩
    · unfold prt
      congr 1<;>omega
    · rw [show pa.toNat - 1+1=pa.toNat by omega];exact h3
theorem zba {fuel:Nat}{a:D.Agent}{K L V:Int}{Da:List Int}(hf:18446744073709551616≤fuel) (h1:1≤a.Ports.length) (h2:a.Ports.length≤1048576):
    iter (z1d fuel a) fuel (1,(⟨K,L,V,Da,[]⟩:D.Cell))=some (.inl ⟨K,L,V,Da,List.replicate (a.Ports.length - 1) ⟨0,0⟩⟩):=by
  obtain⟨o,h,rfl⟩:=zo (body:=z1d fuel a) (fun k s=>1≤k∧s=((k:Int),(⟨K,L,V,Da,List.replicate (k - 1) ⟨0,0⟩⟩:D.Cell))) a.Ports.length (fun o=>o=.inl (⟨K,L,V,Da,List.replicate (a.Ports.length - 1) ⟨0,0⟩⟩:D.Cell)) (by
    rintro k s hk ⟨h0,rfl⟩
    refine .inl ⟨_,?_,by omega,rfl⟩
    unfold z1d
    dsimp only
    rw [if_pos (by simpa using hk),if_pos (by first | (simp;done) | (simp;omega)),z7 (by omega) (by omega),show k+1 - 1=(k - 1)+1 by omega,List.replicate_succ']
    rfl) (by
    rintro s ⟨h0,rfl⟩
    refine .inr ⟨_,?_,rfl⟩
    unfold z1d
    rw [if_neg (by simp)]) (fuel:=fuel) (i:=1) (s:=(1,(⟨K,L,V,Da,[]⟩:D.Cell))) h1 (by omega) ⟨Nat.le_refl _,rfl⟩
  exact h
theorem zbt {fuel size:Nat}{n:D.Net}(hf:18446744073709551616≤fuel) (hn:netN n=true) (hw:D.Net.wf n) (hs:n.sz≤1048576) (hN:n.Agents.length - 1≤size) (d:n.Agents.length≤600) (h1N:1≤n.Agents.length):
    iter (z1f fuel n 0) fuel (1,([(-1)]:List Int),pm [] size ⟨0,0⟩ [])=some (.inl (atN (n.Agents.length - 1),memN n size wz 0 ⟨0,0⟩)):=by
  obtain⟨o,h,rfl⟩:=zo (body:=z1f fuel n 0) (fun i s=>1≤i∧s=((i:Int),atN (i - 1),pm ((agC n wz).take (i - 1)) size ⟨0,0⟩ [])) n.Agents.length (fun o=>o=.inl (atN (n.Agents.length - 1),memN n size wz 0 ⟨0,0⟩)) (by
    rintro i s hi ⟨h0,rfl⟩
    obtain⟨j,rfl⟩:∃ j,i=j+1:=⟨i - 1,by omega⟩
    obtain⟨a,ha⟩:=z3Z hi
    obtain⟨d1,d2⟩:=z9m hs (List.mem_of_getElem? ha)
    have hwa:=(hw.1.2 a (List.mem_of_getElem? ha))
    have hlv:w64 (a.Level+0)=a.Level:=by rw [Int.add_zero];exact zdX hwa.2.1
    refine .inl ⟨_,?_,by omega,rfl⟩
    have htl:((agC n wz).take j).length=j:=by rw [List.length_take,z42];omega
    have hat:(atN j).length=j+1:=by unfold atN;simp
    have e1:atN j++[(j:Int)]=atN (j+1):=by
      unfold atN
      rw [List.range_succ,List.map_append]
      rfl
    have e2:∀ z:D.Cell,z=cN wz (j+1) a→z2P fuel (((j+1:Nat):Int),atN j,pm ((agC n wz).take j) size ⟨0,0⟩ []) z=some (.next (w64 (((j+1:Nat):Int)+1),atN (j+1),pm ((agC n wz).take (j+1)) size ⟨0,0⟩ [])):=fun z hz=>by
      subst hz
      unfold z2P
      dsimp only
      rw [z91 (by rw [htl];omega),Option.bind_some,htl]
      dsimp only
      rw [if_pos (by rw [hat];simp only [List.length_cons,List.length_nil,decide_eq_true_eq];omega),e1,zaK ha]
    have e3:∀ lv,lv=a.Level→zU fuel (((j+1:Nat):Int),atN j,pm ((agC n wz).take j) size ⟨0,0⟩ []) a ⟨a.Kind,lv,a.Value,a.Data,[]⟩=some (.next (w64 (((j+1:Nat):Int)+1),atN (j+1),pm ((agC n wz).take (j+1)) size ⟨0,0⟩ [])):=fun lv hlv2=>by
      subst hlv2
      unfold zU
      rw [zba hf (zb8 (z8c hn ha)) d2,Option.bind_some,z6,e2 _ zd8.symm]
    unfold z1f z5e z2Q
    dsimp only
    rw [Nat.add_sub_cancel,if_pos (decide_eq_true (by omega)),zb ha,Option.bind_some,if_pos (by simp only [List.length_nil,decide_eq_true_eq];omega),Option.bind_some,z8S,Option.bind_some,List.nil_append,e3 _ hlv,e3 _ rfl,ite_self,z7 (by omega) (by omega)]
    rfl) (by
    rintro s ⟨h0,rfl⟩
    refine .inr ⟨_,?_,rfl⟩
    unfold z1f
    rw [if_neg (by simp)]
    unfold memN
    rw [List.take_of_length_le (by rw [z42];omega)]
    simp) (fuel:=fuel) (i:=1) (s:=(1,([(-1)]:List Int),pm [] size ⟨0,0⟩ [])) h1N (by omega) ⟨Nat.le_refl _,by simp [atN]⟩
  exact h
theorem zd6 {N k:Nat}(h:k+1<N):(cellsN N k).set (k+1) (k:Int)=cellsN N (k+1):=by
  refine List.ext_getElem? fun j=>?_
  unfold cellsN
  rw [List.getElem?_set,List.getElem?_map,List.getElem?_map]
  by_cases hj:j<N
  · rw [List.getElem?_range hj]
    simp only [List.length_map,List.length_range,Option.map_some]
    by_cases h1:k+1=j
    · subst h1;simp [hj]
    · rw [if_neg h1]
      by_cases h2:j≤k
      · rw [if_pos h2,if_pos (by omega)]
      · rw [if_neg h2,if_neg (by omega)]
  · rw [List.getElem?_eq_none (by first | (simp;done) | (simp;omega)),if_neg (by omega)]
    rfl
theorem zbu {fuel size:Nat}{n:D.Net}(hf:18446744073709551616≤fuel) (hn:netN n=true) (hs:n.sz≤1048576) (hN:n.Agents.length - 1≤size) (d:n.Agents.length≤600) (h1N:1≤n.Agents.length):
    iter (z1G fuel n) fuel (0,List.replicate n.Agents.length (0:Int),pm [] size ⟨0,0⟩ [])=some (.inl (cellsN n.Agents.length (n.Agents.length - 1),memN n size wz 0 ⟨0,0⟩)):=by
  have hdl:((n.Agents.take n.Agents.length).drop (1:Int).toNat)=n.Agents.drop 1:=by rw [List.take_length];rfl
  have e0:List.replicate n.Agents.length (0:Int)=cellsN n.Agents.length 0:=by
    refine List.ext_getElem? fun j=>?_
    unfold cellsN
    rw [List.getElem?_replicate,List.getElem?_map]
    by_cases hj:j<n.Agents.length
    · rw [if_pos hj,List.getElem?_range hj,Option.map_some]
      split
      · simp;omega
      · rfl
    · rw [if_neg hj,List.getElem?_eq_none (by first | (simp;done) | (simp;omega))];rfl
  obtain⟨o,h,rfl⟩:=zo (body:=z1G fuel n) (fun k s=>s=((k:Int),cellsN n.Agents.length k,pm ((agC n wz).take k) size ⟨0,0⟩ [])) (n.Agents.length - 1) (fun o=>o=.inl (cellsN n.Agents.length (n.Agents.length - 1),memN n size wz 0 ⟨0,0⟩)) (by
    rintro j s hj rfl
    obtain⟨a,ha⟩:=z3Z (xs:=n.Agents) (i:=j+1) (by omega)
    obtain⟨d1,d2⟩:=z9m hs (List.mem_of_getElem? ha)
    have hp1:=zb8 (z8c hn ha)
    have htl:((agC n wz).take j).length=j:=by rw [List.length_take,z42];omega
    have hcl:(cellsN n.Agents.length j).length=n.Agents.length:=by unfold cellsN;simp
    have hpt:(w64 ((a.Ports.length:Int) - 1)).toNat=a.Ports.length - 1:=by rw [z7 (by omega) (by omega)];omega
    refine .inl ⟨_,?_,rfl⟩
    unfold z1G z4j zQ
    dsimp only
    rw [hdl,if_pos (by first | (simp;done) | (simp;omega)),zb (x:=a) (by rw [List.getElem?_drop,Nat.add_comm];exact ha),Option.bind_some,if_pos (by first | (simp;done) | (simp;omega)),Option.bind_some,if_pos (by rw [z7 (by omega) (by omega)];simp;omega),Option.bind_some,z9z,z91 (by rw [htl];omega),Option.bind_some,htl,hpt]
    dsimp only
    rw [z7 (by omega) (by omega),show((j:Int)+1).toNat=j+1 by omega,if_pos (by rw [hcl];simp;omega),zd6 (by omega),List.nil_append,← zd8 (i:=j+1),zaK ha]
    rfl) (by
    rintro s rfl
    refine .inr ⟨_,?_,rfl⟩
    unfold z1G
    rw [hdl,if_neg (by first | (simp;done) | (simp;omega))]
    unfold memN
    rw [List.take_of_length_le (by rw [z42];omega)]
    simp) (fuel:=fuel) (i:=0) (s:=(0,List.replicate n.Agents.length (0:Int),pm [] size ⟨0,0⟩ [])) (Nat.zero_le _) (by omega) (by rw [e0];rfl)
  exact h


theorem zbX {w:D.Port→D.Word}{p q:D.Port}{v:D.Word}:setW (setW w p v) q v=setW (setW w q v) p v:=by
  funext r
  unfold setW
  by_cases h1:r=q<;>by_cases h2:r=p<;>simp [h1,h2]
theorem z98 {n:D.Net}{size t:Nat}{w:D.Port→D.Word}{R v:D.Word}:memN n size (setW w (prt 0 0) v) t R=memN n size w t R:=by unfold memN;rw [zdW]
theorem zdZ {n:D.Net}{size t:Nat}{w w':D.Port→D.Word}{R:D.Word}{C:List D.Cell}(h:C=(memN n size w' t R).Cells):(⟨C,(memN n size w t R).Free,⟨(memN n size w t R).Root.Tag,(memN n size w t R).Root.At⟩,(memN n size w t R).Redexes⟩:D.Memory)=memN n size w' t R:=by
  rw [h,zcd (w:=w) (w':=w') (R:=R) (R':=R)]
  rfl
theorem zc5 {j s:Nat}:prt (j+1) s≠prt 0 0:=fun e=>by unfold prt at e;simp only [D.Port.mk.injEq] at e;omega
theorem z6O {fuel size t:Nat}{n:D.Net}{w:D.Port→D.Word}{p:D.Port}{v:D.Word}{cells:List Int}(hn:netN n=true) (hp:hasN n.Agents p=true) (hx:auxN p=true) (hc:∀ j,j+1<n.Agents.length→cells[j+1]? = some (j:Int)) (hl:∀ a,a∈n.Agents→a.Ports.length≤1048576):
    zq fuel (memN n size w t (w (prt 0 0))) p v cells=some (memN n size (setW w p v) t (setW w p v (prt 0 0))):=by
  rcases shape hn hp with rfl | ⟨j,s,a,rfl,ha,hs⟩
  · unfold zq
    rw [if_pos (by simp [prt]),z98]
    simp [memN,pm,setW]
  · cases s with
    | zero=>exact absurd hx (by unfold auxN prt;simp;omega)
    | succ s=>
      have hjl:=(List.getElem?_eq_some_iff.1 ha).1
      obtain⟨c1,c2⟩:=zaO (size:=size) (t:=t) (w:=w) (R:=w (prt 0 0)) (v:=v) ha hs
      have hpl:=hl a (List.mem_of_getElem? ha)
      have e1:w64 ((((s+1:Nat):Int)) - 1)=(s:Int):=by rw [z7 (by omega) (by omega)];omega
      have e2:setW w (prt (j+1) (s+1)) v (prt 0 0)=w (prt 0 0):=by unfold setW;rw [if_neg (Ne.symm zc5)]
      unfold zq
      rw [if_neg (by first | (simp [prt];done) | (simp [prt];omega))]
      show((idx cells ((j+1:Nat):Int)).bind fun d=>_)=_
      rw [zb (hc j hjl),Option.bind_some,zb c1,Option.bind_some]
      show(if decide (0≤w64 ((((s+1:Nat):Int)) - 1)∧(w64 ((((s+1:Nat):Int)) - 1)).toNat<(cN w (j+1) a).Words.length)=true then some (⟨(memN n size w t (w (prt 0 0))).Cells.set ((j:Int)).toNat ⟨a.Kind,a.Level,a.Value,a.Data,(cN w (j+1) a).Words.set (w64 ((((s+1:Nat):Int)) - 1)).toNat v⟩,(memN n size w t (w (prt 0 0))).Free,⟨(memN n size w t (w (prt 0 0))).Root.Tag,(memN n size w t (w (prt 0 0))).Root.At⟩,(memN n size w t (w (prt 0 0))).Redexes⟩:D.Memory) else none)=_
      rw [e1,Int.toNat_natCast,Int.toNat_natCast,if_pos (by unfold cN;simp;omega),c2,zdZ rfl,e2]
theorem z6Z {β:Type}{size t j s:Nat}{n:D.Net}{w:D.Port→D.Word}{R v:D.Word}{a:D.Agent}{k:Int}{K:D.Memory→Option β}(ha:n.Agents[j+1]? = some a) (hs:s+1<a.Ports.length) (hl:a.Ports.length≤1048576) (hk:k=((s+1:Nat):Int)):
    ((idx (memN n size w t R).Cells (j:Int)).bind fun x=>if decide (0≤w64 (k - 1)∧(w64 (k - 1)).toNat<x.Words.length)=true then K (⟨(memN n size w t R).Cells.set (j:Int).toNat ⟨x.Kind,x.Level,x.Value,x.Data,x.Words.set (w64 (k - 1)).toNat v⟩,(memN n size w t R).Free,⟨(memN n size w t R).Root.Tag,(memN n size w t R).Root.At⟩,(memN n size w t R).Redexes⟩:D.Memory) else none)=K (memN n size (setW w (prt (j+1) (s+1)) v) t R):=by
  obtain⟨c1,c2⟩:=zaO (size:=size) (t:=t) (w:=w) (R:=R) (v:=v) ha hs
  subst hk
  have e1:w64 ((((s+1:Nat):Int)) - 1)=(s:Int):=by rw [z7 (by omega) (by omega)];omega
  rw [zb c1,Option.bind_some,e1,Int.toNat_natCast,Int.toNat_natCast,if_pos (by unfold cN;simp;omega)]
  show K (⟨(memN n size w t R).Cells.set j ⟨a.Kind,a.Level,a.Value,a.Data,(cN w (j+1) a).Words.set s v⟩,_,_,_⟩:D.Memory)=_
  rw [c2,zdZ rfl]

theorem zbH {j:Nat}:auxN (prt (j+1) 0)=false:=by
  unfold auxN prt
  rw [Bool.or_eq_false_iff]
  exact⟨by simp,decide_eq_false (by dsimp only;omega)⟩
theorem zdT {i s:Nat}:auxN (prt i (s+1))=true:=by
  unfold auxN prt
  rw [Bool.or_eq_true]
  exact .inl (decide_eq_true (by dsimp only;omega))
theorem zek:auxN (prt 0 0)=true:=rfl
theorem zaL {n:D.Net}{l:List D.Wire}{x:D.Wire}:sumL varW (l++[x])=sumL varW l+varW x:=by rw [z1H];simp [sumL]
theorem zbP {fuel size i:Nat}{n:D.Net}{l Ws:List D.Wire}{p q:D.Port}{M0:D.Memory}(hn:netN n=true) (hp:hasN n.Agents p=true) (hq:portAt n p=some q) (hb:befN p q=true) (hN:n.Agents.length - 1+sumL varW (l++[⟨p,q⟩])≤size) (hW:Ws[i]? = some ⟨p,q⟩) (hl:∀ a,a∈n.Agents→a.Ports.length≤1048576):
    zL fuel ⟨0,0⟩ (atN (n.Agents.length - 1),M0) Ws ((i:Int),SW n l (prt 0 0),memN n size (SW n l) (sumL varW l) ⟨0,0⟩)=some (.next (w64 ((i:Int)+1),SW n (l++[⟨p,q⟩]) (prt 0 0),memN n size (SW n (l++[⟨p,q⟩])) (sumL varW (l++[⟨p,q⟩])) ⟨0,0⟩)):=by
  obtain⟨h1,h2,h3⟩:=z6C hn hp hq
  obtain⟨p1,p2,_⟩:=z4U.1 hp
  obtain⟨q1,q2,_⟩:=z4U.1 h2
  have hk:=z9k hb p1 p2 q2
  have hsum:=zaL (n:=n) (l:=l) (x:=⟨p,q⟩)
  have hil:=(List.getElem?_eq_some_iff.1 hW).1
  rcases shape hn h2 with rfl | ⟨j,s,b,rfl,d,G⟩
  · exfalso
    unfold befN prt at hb
    simp only [Bool.or_eq_true,Bool.and_eq_true,decide_eq_true_eq] at hb
    omega
  have hjl:=(List.getElem?_eq_some_iff.1 d).1
  have hA:idx (atN (n.Agents.length - 1)) (prt (j+1) s).Agent=some (j:Int):=zb (zb7 (by omega))
  have hbl:=hl b (List.mem_of_getElem? d)
  have nx:∀ st,zK fuel ((i:Int),SW n l (prt 0 0),memN n size (SW n l) (sumL varW l) ⟨0,0⟩) st=some (.next (w64 ((i:Int)+1),st.1,st.2)):=fun st=>rfl
  have nx11:∀ m,zC fuel ((i:Int),SW n l (prt 0 0),memN n size (SW n l) (sumL varW l) ⟨0,0⟩) m=some (.next (w64 ((i:Int)+1),SW n l (prt 0 0),m)):=fun m=>rfl
  unfold zL
  dsimp only
  rw [if_pos (by simpa using hil),zb hW,Option.bind_some,Option.bind_some]
  dsimp only
  rcases shape hn hp with rfl | ⟨j0,s0,a0,rfl,z,L⟩
  · rw [if_pos (by simp [prt])]
    unfold z1c
    dsimp only
    cases s with
    | zero=>
      have hv:varW ⟨prt 0 0,prt (j+1) 0⟩≠1:=fun e=>by
        have:=((z4V hk).1 e).2
        rw [zbH] at this;cases this
      have e0:varW ⟨prt 0 0,prt (j+1) 0⟩=0:=by have:=z8Y (x:=⟨prt 0 0,prt (j+1) 0⟩);omega
      have hS:=zaG (l:=l) (x:=⟨prt 0 0,prt (j+1) 0⟩) (s:=prt 0 0) (o:=prt (j+1) 0) (c:=(j:Int)) hv (.inl rfl) (by rw [z6Y hq zek zbH];simp [prt]) (z3w h3 (by rw [zbH];simp))
      rw [if_pos (by simp [prt]),hA,Option.bind_some,nx,hS,hsum,e0,z98,Nat.add_zero]
      simp [setW]
    | succ s=>
      have h5:auxN (prt (j+1) (s+1))=true:=zdT
      have e1:=(z4V (p:=prt 0 0) hk).2 ⟨by simp [auxN,prt],h5⟩
      have hS:=ze1 (l:=l) hq h3 hk (by simp [auxN,prt]) h5
      rw [hsum,e1] at hN
      rw [if_neg (by first | (simp [prt];done) | (simp [prt];omega)),if_pos (by simp [prt]),if_pos (by rfl),zaP (by omega),Option.bind_some]
      unfold z1Y
      dsimp only
      rw [hA,Option.bind_some]
      refine(z6Z (K:=fun m=>zK fuel _ (_,m)) d G hbl rfl).trans ?_
      rw [nx,hS,hsum,e1,zbX,z98]
      simp [setW,wordV]
  · have hj0:=(List.getElem?_eq_some_iff.1 z).1
    have hA0:idx (atN (n.Agents.length - 1)) (prt (j0+1) s0).Agent=some (j0:Int):=zb (zb7 (by omega))
    have hal:=hl a0 (List.mem_of_getElem? z)
    have hr:∀ (w:D.Port→D.Word) v,setW w (prt (j0+1) s0) v (prt 0 0)=w (prt 0 0):=fun w v=>by unfold setW;rw [if_neg (Ne.symm zc5)]
    have H:∀ (w:D.Port→D.Word) v,setW w (prt (j+1) s) v (prt 0 0)=w (prt 0 0):=fun w v=>by unfold setW;rw [if_neg (Ne.symm zc5)]
    rw [if_neg (by first | (simp [prt];done) | (simp [prt];omega))]
    unfold z1c
    dsimp only
    rw [if_neg (by simp),if_neg (by first | (simp [prt];done) | (simp [prt];omega))]
    cases s0 with
    | zero=>
      have h4:auxN (prt (j0+1) 0)=false:=zbH
      have hv:varW ⟨prt (j0+1) 0,prt (j+1) s⟩≠1:=fun e=>by
        have:=((z4V hk).1 e).1
        rw [h4] at this;cases this
      have e0:varW ⟨prt (j0+1) 0,prt (j+1) s⟩=0:=by have:=z8Y (x:=⟨prt (j0+1) 0,prt (j+1) s⟩);omega
      rw [if_neg (by simp [prt])]
      unfold z1b
      dsimp only
      rw [if_neg (by simp),if_neg (by simp [prt])]
      cases s with
      | zero=>
        have hS:=zed (n:=n) (l:=l) hv (fun r hr=>by
          rcases hr with rfl | rfl
          · exact z3w hq (by rw [h4];simp)
          · exact z3w h3 (by rw [zbH];simp))
        rw [if_neg (by simp [prt])]
        unfold zV zB zy zk
        dsimp only
        rw [if_neg (by simp [prt]),if_neg (by simp [prt]),nx11,hS,hsum,e0,Nat.add_zero]
      | succ s=>
        have h5:auxN (prt (j+1) (s+1))=true:=zdT
        have hS:=zaG (l:=l) (x:=⟨prt (j0+1) 0,prt (j+1) (s+1)⟩) (s:=prt (j+1) (s+1)) (o:=prt (j0+1) 0) (c:=(j0:Int)) hv (.inr rfl) (by rw [z6Y h3 h5 h4];simp [prt]) (z3w hq (by rw [h4];simp))
        rw [if_pos (by first | (simp [prt];done) | (simp [prt];omega)),hA0,Option.bind_some]
        unfold zV zB zy zk
        dsimp only
        rw [if_neg (by simp [prt]),if_pos (by first | (simp [prt];done) | (simp [prt];omega)),hA,Option.bind_some]
        refine(z6Z (K:=fun m=>zC fuel _ m) d G hbl rfl).trans ?_
        rw [nx11,hS,hsum,e0,H]
        rfl
    | succ s0=>
      have h4:auxN (prt (j0+1) (s0+1))=true:=zdT
      rw [if_pos (by first | (simp [prt];done) | (simp [prt];omega))]
      unfold z1b
      dsimp only
      cases s with
      | zero=>
        have h5:auxN (prt (j+1) 0)=false:=zbH
        have hv:varW ⟨prt (j0+1) (s0+1),prt (j+1) 0⟩≠1:=fun e=>by
          have:=((z4V hk).1 e).2
          rw [h5] at this;cases this
        have e0:varW ⟨prt (j0+1) (s0+1),prt (j+1) 0⟩=0:=by have:=z8Y (x:=⟨prt (j0+1) (s0+1),prt (j+1) 0⟩);omega
        have hS:=zaG (l:=l) (x:=⟨prt (j0+1) (s0+1),prt (j+1) 0⟩) (s:=prt (j0+1) (s0+1)) (o:=prt (j+1) 0) (c:=(j:Int)) hv (.inl rfl) (by rw [z6Y hq h4 h5];simp [prt]) (z3w h3 (by rw [h5];simp))
        rw [if_neg (by simp [prt]),if_pos (by first | (simp [prt];done) | (simp [prt];omega)),hA,Option.bind_some]
        unfold zB zy
        dsimp only
        rw [if_pos (by first | (simp [prt];done) | (simp [prt];omega)),hA0,Option.bind_some]
        refine(z6Z (K:=fun m=>zk fuel _ _ _ _ m) z L hal rfl).trans ?_
        unfold zk
        dsimp only
        rw [if_neg (by simp [prt]),nx11,hS,hsum,e0,hr]
        rfl
      | succ s=>
        have h5:auxN (prt (j+1) (s+1))=true:=zdT
        have e1:=(z4V (p:=prt (j0+1) (s0+1)) hk).2 ⟨h4,h5⟩
        have hS:=ze1 (l:=l) hq h3 hk h4 h5
        rw [hsum,e1] at hN
        rw [if_pos (by first | (simp [prt];done) | (simp [prt];omega)),zaP (by omega),Option.bind_some]
        unfold zy
        dsimp only
        rw [if_pos (by first | (simp [prt];done) | (simp [prt];omega)),hA0,Option.bind_some]
        refine(z6Z (K:=fun m=>zk fuel _ _ _ _ m) z L hal rfl).trans ?_
        unfold zk
        dsimp only
        rw [if_pos (by first | (simp [prt];done) | (simp [prt];omega)),hA,Option.bind_some]
        refine(z6Z (K:=fun m=>zC fuel _ m) d G hbl rfl).trans ?_
        rw [nx11,hS,hsum,e1,H,hr]
        rfl
theorem zc7 {fuel size k:Nat}{n:D.Net}{ps:List D.Port}{p q:D.Port}{M0:D.Memory}{cells:List Int}(hn:netN n=true) (hp:hasN n.Agents p=true) (hq:portAt n p=some q) (hN:n.Agents.length - 1+sumL varW ((ps++[p]).flatMap (wireAt n))≤size) (hW:(portsL n)[k]? = some p) (hl:∀ a,a∈n.Agents→a.Ports.length≤1048576)
    (hc:∀ j,j+1<n.Agents.length→cells[j+1]? = some (j:Int)):
    z14 fuel n (cells,M0) (portsL n) ((k:Int),memN n size (IW n ps) (sumL varW (ps.flatMap (wireAt n))) (IW n ps (prt 0 0)))=some (.next (w64 ((k:Int)+1),memN n size (IW n (ps++[p])) (sumL varW ((ps++[p]).flatMap (wireAt n))) (IW n (ps++[p]) (prt 0 0)))):=by
  obtain⟨h1,h2,h3⟩:=z6C hn hp hq
  obtain⟨p1,p2,_⟩:=z4U.1 hp
  obtain⟨q1,q2,_⟩:=z4U.1 h2
  have hil:=(List.getElem?_eq_some_iff.1 hW).1
  have hfl:(ps++[p]).flatMap (wireAt n)=ps.flatMap (wireAt n)++wireAt n p:=by rw [List.flatMap_append];simp
  have hz:(befN p q=true→varW ⟨p,q⟩≠1)→sumL varW ((ps++[p]).flatMap (wireAt n))=sumL varW (ps.flatMap (wireAt n)):=fun h=>by
    rw [← Vs_t (n:=n),← Vs_t (n:=n),z7P hq h]
  unfold z14
  dsimp only
  rw [if_pos (by simpa using hil),zb hW,Option.bind_some,z76,hq,Option.bind_some,z8R hn hp h2,Option.bind_some]
  cases hx:auxN p with
  | true=>
    cases hy:auxN q with
    | true=>
      rw [Bool.true_and,if_pos rfl,z8q,Option.bind_some]
      have e1:=z3w (n:=n) hq (by rw [hy];simp)
      cases hb:befN p q with
      | true=>
        have hk:=z9k hb p1 p2 q2
        have ev:=(z4V (p:=p) hk).2 ⟨hx,hy⟩
        have hw:wireAt n p=[⟨p,q⟩]:=by unfold wireAt;rw [hq];dsimp only;rw [if_pos hb]
        have hS:=zei (ps:=ps) hq h3 hk hb hx hy
        have hsum:=zaL (n:=n) (l:=ps.flatMap (wireAt n)) (x:=⟨p,q⟩)
        rw [hfl,hw,hsum,ev] at hN
        rw [if_pos rfl,z9z]
        have ht:z1w fuel (memN n size (IW n ps) (sumL varW (ps.flatMap (wireAt n))) (IW n ps (prt 0 0))) ⟨13,0,0,[],[]⟩=some (((n.Agents.length - 1+sumL varW (ps.flatMap (wireAt n)):Nat):Int),memN n size (IW n ps) (sumL varW (ps.flatMap (wireAt n))+1) (IW n ps (prt 0 0))):=by
          unfold memN
          rw [z91 (by first | (simp [z42];done) | (simp [z42];omega)),List.append_assoc,List.replicate_succ']
          simp [z42,vc]
        rw [ht,Option.bind_some]
        dsimp only
        rw [z6O hn hp hx hc hl,Option.bind_some,z6O hn h2 hy hc hl,Option.bind_some]
        unfold z1E zH
        dsimp only
        rw [hS,hfl,hw,hsum,ev]
        rfl
      | false=>
        have hno:befN p q=true→varW ⟨p,q⟩≠1:=fun h=>by rw [hb] at h;cases h
        have hS:=zdb (ps:=ps) hq hno e1
        rw [if_neg (by simp)]
        unfold z1E zH
        dsimp only
        rw [hS,hz hno]
    | false=>
      have hno:befN p q=true→varW ⟨p,q⟩≠1:=fun h e=>by
        have:=((z4V (z9k h p1 p2 q2)).1 e).2
        rw [hy] at this;cases this
      have hS:=zee (ps:=ps) hq hno (z6Y hq hx hy)
      have hqa:∃ j:Nat,q.Agent=((j+1:Nat):Int)∧j+1<n.Agents.length:=by
        rcases shape hn h2 with rfl | ⟨j,s,b,rfl,d,z⟩
        · exact absurd hy (by simp [auxN,prt])
        · exact⟨j,rfl,(List.getElem?_eq_some_iff.1 d).1⟩
      obtain⟨j,ej,hj⟩:=hqa
      have go:z12 fuel (cells,M0) ((k:Int),memN n size (IW n ps) (sumL varW (ps.flatMap (wireAt n))) (IW n ps (prt 0 0))) p q true=some (.next (w64 ((k:Int)+1),memN n size (IW n (ps++[p])) (sumL varW ((ps++[p]).flatMap (wireAt n))) (IW n (ps++[p]) (prt 0 0)))):=by
        unfold z12
        dsimp only
        rw [if_pos rfl,ej,zb (hc j hj),Option.bind_some,z6O hn hp hx hc hl,Option.bind_some]
        unfold z1D zH
        dsimp only
        rw [hS,hz hno,ej,show((j+1:Nat):Int) - 1=(j:Int) by omega]
      rw [Bool.and_false,if_neg (by simp)]
      by_cases hs:p.Slot>0
      · rw [if_pos (decide_eq_true hs)];exact go
      · rw [if_neg (by simpa using hs)]
        have:(p.Agent == 0)=true:=by
          unfold auxN at hx
          simp only [Bool.or_eq_true,decide_eq_true_eq] at hx
          have:=hx.resolve_left hs
          simp [this]
        rw [this];exact go
  | false=>
    have hno:befN p q=true→varW ⟨p,q⟩≠1:=fun h e=>by
      have:=((z4V (z9k h p1 p2 q2)).1 e).1
      rw [hx] at this;cases this
    have hS:=zdb (ps:=ps) hq hno (z3w hq (by rw [hx];simp))
    unfold auxN at hx
    simp only [Bool.or_eq_false_iff,decide_eq_false_iff_not] at hx
    rw [Bool.false_and,if_neg (by simp),if_neg (by simpa using hx.1),show(p.Agent == 0)=false by simpa using hx.2]
    unfold z12
    rw [if_neg (by simp)]
    unfold z1D zH
    dsimp only
    rw [hS,hz hno]


def pairAt (i:Nat) (a:D.Agent):List D.Pair:=match a.Ports[0]? with
  | some q=>if q.Slot=0∧q.Agent>(i:Int)∧a.Kind≠1 then [⟨(i:Int),q.Agent⟩] else []
  | none=>[]
def pairsL (n:D.Net):List D.Pair:=n.Agents.zipIdx.flatMap fun x=>pairAt x.2 x.1
theorem zc8 {i:Nat}{a:D.Agent}:(pairAt i a).length≤1:=by
  unfold pairAt
  split
  · split<;>simp
  · simp
theorem z6o {n:D.Net}(k:Nat):((n.Agents.take k).zipIdx.flatMap fun x=>pairAt x.2 x.1).length≤k:=by
  have h:=z7c (g:=fun x:D.Agent × Nat=>pairAt x.2 x.1) (fun x=>zc8) (n.Agents.take k).zipIdx
  rw [List.length_zipIdx,List.length_take] at h
  omega
theorem zbw {fuel:Nat}{n:D.Net}(hf:18446744073709551616≤fuel) (hn:netN n=true) (d:n.Agents.length≤600):z3e fuel n=some (pairsL n):=by
  unfold z3e
  have h:=zipLoop (xs:=n.Agents) (body:=z1U fuel n) (mk:=fun i s=>(s,i)) (out:=fun s=>s) (g:=fun i a=>pairAt i a) (s0:=[]) (fuel:=fuel) (by omega) hf (fun i a ha=>by
    have hil:=(List.getElem?_eq_some_iff.1 ha).1
    have hlen:=z6o (n:=n) i
    obtain⟨q,hq⟩:=z3Z (zb8 (z8c hn ha))
    simp only [List.nil_append]
    generalize (n.Agents.take i).zipIdx.flatMap (fun x=>pairAt x.2 x.1)=s at hlen ⊢
    unfold z1U pairAt
    dsimp only
    rw [if_pos (by simpa using hil),zb ha,Option.bind_some,show idx a.Ports 0=some q from zb (i:=0) hq,Option.bind_some,hq]
    unfold z11 z1T
    dsimp only
    by_cases h1:q.Slot=0
    · by_cases h2:q.Agent>i
      · by_cases h3:a.Kind=1
        · simp [h1,h2,h3]
        · have h9:decide ((s.length:Int)+(([(⟨(i:Int),q.Agent⟩:D.Pair)]:List D.Pair).length:Int)≤4294967296)=true:=by first | (simp;done) | (simp;omega)
          rw [if_pos (by simp [h1]),if_pos (decide_eq_true h2),if_pos (by simpa using h3),if_pos h9,if_pos ⟨h1,h2,h3⟩]
      · simp [h1,h2]
    · simp [h1]) (by
    unfold z1U
    rw [if_neg (by simp)])
  rw [h,Option.bind_some,z6]
  unfold z4n
  rfl
theorem zbv {fuel:Nat}{n:D.Net}(hf:18446744073709551616≤fuel) (hn:netN n=true) (d:n.Agents.length≤600) (h1N:1≤n.Agents.length):z3A fuel n=some (pairsL n):=by
  unfold z3A
  obtain⟨r,hr⟩:=z3Z (xs:=n.Agents) (i:=0) (by omega)
  have hk:r.Kind=1:=by simpa using z78 hn hr
  obtain⟨o,h,rfl⟩:=zo (body:=z25 fuel n) (fun i s=>1≤i∧s=((i:Int),(n.Agents.take i).zipIdx.flatMap fun x=>pairAt x.2 x.1)) n.Agents.length (fun o=>o=.inl (pairsL n)) (by
    rintro i s hi ⟨h0,rfl⟩
    obtain⟨a,ha⟩:=z3Z hi
    have hlen:=z6o (n:=n) i
    obtain⟨q,hq⟩:=z3Z (zb8 (z8c hn ha))
    have hka:a.Kind≠1:=fun e=>by
      have h5:=z78 hn ha
      rw [e] at h5
      simp at h5
      omega
    have z:a.Kind≠0:=fun e=>by
      have h5:=z8c hn ha
      unfold agN agentN allowN at h5
      simp only [Bool.and_eq_true,decide_eq_true_eq] at h5
      omega
    refine .inl ⟨(w64 ((i:Int)+1),((n.Agents.take i).zipIdx.flatMap fun x=>pairAt x.2 x.1)++pairAt i a),?_,by omega,?_⟩
    · generalize (n.Agents.take i).zipIdx.flatMap (fun x=>pairAt x.2 x.1)=s at hlen ⊢
      unfold z25 pairAt
      dsimp only
      rw [if_pos (by simpa using hi),zb ha,Option.bind_some,if_neg (by simpa using z),Option.bind_some,show idx a.Ports 0=some q from zb (i:=0) hq,Option.bind_some,hq]
      unfold z23 z22 z24
      dsimp only
      by_cases h1:q.Slot=0
      · by_cases h2:q.Agent>i
        · have h9:decide ((s.length:Int)+(([(⟨(i:Int),q.Agent⟩:D.Pair)]:List D.Pair).length:Int)≤4294967296)=true:=by first | (simp;done) | (simp;omega)
          rw [if_pos (by simp [h1]),if_pos (decide_eq_true h2),if_pos h9,if_pos ⟨h1,h2,hka⟩]
        · simp [h1,h2]
      · simp [h1]
    · rw [z7 (by omega) (by omega),z6T ha,List.flatMap_append]
      simp) (by
    rintro s ⟨h0,rfl⟩
    refine .inr ⟨_,?_,rfl⟩
    unfold z25
    rw [if_neg (by simp),List.take_length]
    rfl) (fuel:=fuel) (i:=1) (s:=(1,([]:List D.Pair))) h1N (by omega) ⟨Nat.le_refl _,by
      have e:=z6T hr
      rw [Nat.zero_add] at e
      rw [e,List.flatMap_append]
      simp [pairAt,hk]
      split<;>rfl⟩
  rw [h,Option.bind_some,z6]
  rfl
theorem z9N {n:D.Net}(hn:netN n=true){x:D.Pair}(h:x∈pairsL n):∃ i j:Nat,x=⟨((i+1:Nat):Int),((j+1:Nat):Int)⟩∧i<j∧i+1<n.Agents.length∧j+1<n.Agents.length:=by
  obtain⟨⟨a,i⟩,h1,h2⟩:=List.mem_flatMap.1 h
  rw [List.mem_zipIdx_iff_getElem?] at h1
  dsimp only at h1 h2
  have hil:=(List.getElem?_eq_some_iff.1 h1).1
  unfold pairAt at h2
  split at h2
  · rename_i q hq
    split at h2
    · rename_i hc
      rw [List.mem_singleton] at h2
      have hi0:i≠0:=fun e=>by
        subst e
        exact hc.2.2 (by simpa using z78 hn h1)
      have hp:hasN n.Agents (prt i 0)=true:=z4U.2 ⟨by simp [prt],by simp [prt],a,by simpa [prt] using h1,by have:=(List.getElem?_eq_some_iff.1 hq).1;simp [prt];omega⟩
      obtain⟨_,h4,_⟩:=z6C hn hp (z88 h1 hq)
      obtain⟨q1,_,b,q3,_⟩:=z4U.1 h4
      have hql:=(List.getElem?_eq_some_iff.1 q3).1
      refine⟨i - 1,q.Agent.toNat - 1,?_,by omega,by omega,by omega⟩
      rw [h2]
      congr 1<;>omega
    · cases h2
  · cases h2
def redL (n:D.Net):List D.Pair:=(pairsL n).map fun x=>⟨x.A - 1,x.B - 1⟩
def withQ (m:D.Memory) (Q:List D.Pair):D.Memory:=⟨m.Cells,m.Free,m.Root,Q⟩
theorem zc3 {fuel:Nat}{n:D.Net}{m M0:D.Memory}(hf:18446744073709551616≤fuel) (hn:netN n=true) (d:n.Agents.length≤600) (hm:m.Redexes=[]):
    iter (z1e fuel (atN (n.Agents.length - 1),M0) (pairsL n)) fuel (0,m)=some (.inl (withQ m (redL n))):=by
  have hpl:=z6o (n:=n) n.Agents.length
  rw [List.take_length] at hpl
  have hpl':(pairsL n).length≤600:=by unfold pairsL;omega
  obtain⟨o,h,rfl⟩:=zo (body:=z1e fuel (atN (n.Agents.length - 1),M0) (pairsL n)) (fun i s=>s=((i:Int),withQ m (((pairsL n).take i).map fun x=>⟨x.A - 1,x.B - 1⟩))) (pairsL n).length (fun o=>o=.inl (withQ m (redL n))) (by
    rintro i s hi rfl
    obtain⟨x,hx⟩:=z3Z hi
    obtain⟨a,b,rfl,hab,ha,hb⟩:=z9N hn (List.mem_of_getElem? hx)
    refine .inl ⟨_,?_,rfl⟩
    unfold z1e z3k z4w z5f z5g
    dsimp only
    rw [if_pos (by simpa using hi),zb hx,Option.bind_some]
    dsimp only
    rw [zb (zb7 (by omega)),Option.bind_some,Option.bind_some,zb (zb7 (by omega)),Option.bind_some,if_pos (by first | (simp;done) | (simp;omega)),if_neg (by first | (simp;done) | (simp;omega)),Option.bind_some,Option.bind_some,if_pos (by unfold withQ;simp;omega),Option.bind_some,z7 (by omega) (by omega),List.take_add_one,hx]
    unfold withQ
    simp [show((a:Int)+1 - 1)=a by omega,show((b:Int)+1 - 1)=b by omega]) (by
    rintro s rfl
    refine .inr ⟨_,?_,rfl⟩
    unfold z1e
    rw [if_neg (by simp),List.take_length]
    rfl) (fuel:=fuel) (i:=0) (s:=(0,m)) (Nat.zero_le _) (by omega) (by unfold withQ;rw [List.take_zero];cases m;simp only at hm;subst hm;rfl)
  exact h
theorem zc4 {fuel:Nat}{n:D.Net}{m M0:D.Memory}{cells:List Int}(hf:18446744073709551616≤fuel) (hn:netN n=true) (d:n.Agents.length≤600) (hm:m.Redexes=[]) (hc:∀ j,j+1<n.Agents.length→cells[j+1]? = some (j:Int)):
    iter (z1F fuel (cells,M0) (pairsL n)) fuel (0,m)=some (.inl (withQ m (redL n))):=by
  have hpl:=z6o (n:=n) n.Agents.length
  rw [List.take_length] at hpl
  have hpl':(pairsL n).length≤600:=by unfold pairsL;omega
  obtain⟨o,h,rfl⟩:=zo (body:=z1F fuel (cells,M0) (pairsL n)) (fun i s=>s=((i:Int),withQ m (((pairsL n).take i).map fun x=>⟨x.A - 1,x.B - 1⟩))) (pairsL n).length (fun o=>o=.inl (withQ m (redL n))) (by
    rintro i s hi rfl
    obtain⟨x,hx⟩:=z3Z hi
    obtain⟨a,b,rfl,hab,ha,hb⟩:=z9N hn (List.mem_of_getElem? hx)
    refine .inl ⟨_,?_,rfl⟩
    unfold z1F z3Y
    dsimp only
    rw [if_pos (by simpa using hi),zb hx,Option.bind_some]
    dsimp only
    rw [zb (hc a ha),Option.bind_some,zb (hc b hb),Option.bind_some,if_pos (by unfold withQ;simp;omega),z7 (by omega) (by omega),List.take_add_one,hx]
    unfold withQ
    simp [show((a:Int)+1 - 1)=a by omega,show((b:Int)+1 - 1)=b by omega]) (by
    rintro s rfl
    refine .inr ⟨_,?_,rfl⟩
    unfold z1F
    rw [if_neg (by simp),List.take_length]
    rfl) (fuel:=fuel) (i:=0) (s:=(0,m)) (Nat.zero_le _) (by omega) (by unfold withQ;rw [List.take_zero];cases m;simp only at hm;subst hm;rfl)
  exact h


theorem zbb {fuel size:Nat}{n:D.Net}{M0:D.Memory}(hf:18446744073709551616≤fuel) (hn:netN n=true) (hl:∀ a,a∈n.Agents→a.Ports.length≤1048576) (hwl:(wiresL n).length≤1048576) (hN:n.Agents.length - 1+sumL varW (wiresL n)≤size):
    iter (zL fuel ⟨0,0⟩ (atN (n.Agents.length - 1),M0) (wiresL n)) fuel (0,⟨0,0⟩,memN n size wz 0 ⟨0,0⟩)=some (.inl (SW n (wiresL n) (prt 0 0),memN n size (SW n (wiresL n)) (sumL varW (wiresL n)) ⟨0,0⟩)):=by
  have hz:SW n []=wz:=by
    funext r
    unfold SW
    cases statN n r with
    | none=>rfl
    | some x=>rfl
  obtain⟨o,h,rfl⟩:=zo (body:=zL fuel ⟨0,0⟩ (atN (n.Agents.length - 1),M0) (wiresL n)) (fun i s=>s=((i:Int),SW n ((wiresL n).take i) (prt 0 0),memN n size (SW n ((wiresL n).take i)) (sumL varW ((wiresL n).take i)) ⟨0,0⟩)) (wiresL n).length (fun o=>o=.inl (SW n (wiresL n) (prt 0 0),memN n size (SW n (wiresL n)) (sumL varW (wiresL n)) ⟨0,0⟩)) (by
    rintro i s hi rfl
    obtain⟨x,hx⟩:=z3Z hi
    obtain⟨p,hp,d⟩:=List.mem_flatMap.1 (List.mem_of_getElem? hx)
    have hph:=z7K hp
    obtain⟨q,hq⟩:=z7b hph
    unfold wireAt at d
    rw [hq] at d
    dsimp only at d
    split at d
    · rename_i hb
      rw [List.mem_singleton] at d
      subst d
      have ht:(wiresL n).take (i+1)=(wiresL n).take i++[⟨p,q⟩]:=by rw [List.take_add_one,hx];rfl
      have hle:=z6i (f:=varW) (xs:=wiresL n) (i+1)
      refine .inl ⟨_,zbP (l:=(wiresL n).take i) hn hph hq hb (by rw [← ht];omega) hx hl,?_⟩
      rw [ht,z7 (by omega) (by omega)]
      rfl
    · cases d) (by
    rintro s rfl
    refine .inr ⟨_,?_,rfl⟩
    unfold zL
    rw [if_neg (by simp),List.take_length]) (fuel:=fuel) (i:=0) (s:=(0,⟨0,0⟩,memN n size wz 0 ⟨0,0⟩)) (Nat.zero_le _) (by omega) (by rw [List.take_zero,hz];rfl)
  exact h
theorem zbr {fuel size:Nat}{n:D.Net}{M0:D.Memory}{cells:List Int}(hf:18446744073709551616≤fuel) (hn:netN n=true) (hl:∀ a,a∈n.Agents→a.Ports.length≤1048576) (hpl:(portsL n).length≤1048576) (hN:n.Agents.length - 1+sumL varW (wiresL n)≤size) (hc:∀ j,j+1<n.Agents.length→cells[j+1]? = some (j:Int)):
    iter (z14 fuel n (cells,M0) (portsL n)) fuel (0,memN n size wz 0 ⟨0,0⟩)=some (.inl (memN n size (IW n (portsL n)) (sumL varW (wiresL n)) (IW n (portsL n) (prt 0 0)))):=by
  have hz:IW n []=wz:=by
    funext r
    unfold IW
    cases statN n r with
    | none=>rfl
    | some x=>rfl
  obtain⟨o,h,rfl⟩:=zo (body:=z14 fuel n (cells,M0) (portsL n)) (fun i s=>s=((i:Int),memN n size (IW n ((portsL n).take i)) (sumL varW (((portsL n).take i).flatMap (wireAt n))) (IW n ((portsL n).take i) (prt 0 0)))) (portsL n).length (fun o=>o=.inl (memN n size (IW n (portsL n)) (sumL varW (wiresL n)) (IW n (portsL n) (prt 0 0)))) (by
    rintro i s hi rfl
    obtain⟨p,hp⟩:=z3Z hi
    have hph:=z7K (List.mem_of_getElem? hp)
    obtain⟨q,hq⟩:=z7b hph
    have ht:(portsL n).take (i+1)=(portsL n).take i++[p]:=by rw [List.take_add_one,hp];rfl
    have hle:sumL varW (((portsL n).take (i+1)).flatMap (wireAt n))≤sumL varW (wiresL n):=by
      have e:wiresL n=((portsL n).take (i+1)).flatMap (wireAt n)++((portsL n).drop (i+1)).flatMap (wireAt n):=by rw [← List.flatMap_append,List.take_append_drop];rfl
      rw [e,z1H]
      omega
    refine .inl ⟨_,zc7 (ps:=(portsL n).take i) hn hph hq (by rw [← ht];omega) hp hl hc,?_⟩
    rw [ht,z7 (by omega) (by omega)]
    rfl) (by
    rintro s rfl
    refine .inr ⟨_,?_,rfl⟩
    unfold z14
    rw [if_neg (by simp),List.take_length]
    rfl) (fuel:=fuel) (i:=0) (s:=(0,memN n size wz 0 ⟨0,0⟩)) (Nat.zero_le _) (by omega) (by rw [List.take_zero,hz];rfl)
  exact h
theorem zc6 {k f:Int}:portsN k f≤4:=by
  unfold portsN
  split
  · split<;>omega
  · split
    · omega
    · split
      · omega
      · split
        · omega
        · split<;>omega
theorem zdU {a:D.Agent}(h:agN a=true):a.Data.length≤4∧a.Ports.length≤4:=by
  unfold agN agentN at h
  rw [Bool.and_eq_true,Bool.and_eq_true,Bool.and_eq_true,decide_eq_true_eq,decide_eq_true_eq] at h
  obtain⟨h1,h2,h3,h4⟩:=h
  have h5:=zc6 (k:=a.Kind) (f:=if a.Kind=9 then(a.Ports.length:Int) - 1 else 0)
  refine⟨?_,by omega⟩
  unfold contentN at h4
  repeat' split at h4
  all_goals simp only [Bool.and_eq_true,decide_eq_true_eq] at h4
  all_goals omega
theorem zbW {n:D.Net}{w:D.Port→D.Word}(hn:netN n=true) (d:n.Agents.length≤600):sumL D.Cell.sz (agC n w)≤4800:=by
  have h:=z95 (f:=D.Cell.sz) (b:=8) (xs:=agC n w) (fun c hc=>by
    obtain⟨j,hj⟩:=List.getElem?_of_mem hc
    rw [z6S] at hj
    cases ha:n.Agents[j+1]? with
    | none=>rw [ha] at hj;cases hj
    | some a=>
      rw [ha,Option.map_some,Option.some.injEq] at hj
      subst hj
      obtain⟨h1,h2⟩:=zdU (z8c hn ha)
      unfold D.Cell.sz cN
      simp only [List.length_map,List.length_range]
      omega)
  rw [z42] at h
  omega
theorem z94 {α:Type}{f:α→Nat}:∀ {xs:List α},(∀ x,x∈xs→f x=0)→sumL f xs=0
  | [],_=>rfl
  | x::xs,h=>by simp only [sumL,h x (by simp),z94 fun y hy=>h y (List.mem_cons_of_mem _ hy)]
theorem z9G {fuel:Nat}{x0:D.Net}{x1:Int}(hf:18446744073709551616≤fuel) (hw:D.Net.wf x0) (h1:I64 x1) (hs:x0.sz≤1048576):
    ∃ r:D.Memory × Int,z45 fuel x0 x1=some r∧z4i fuel x0 x1=some r∧r.1.sz≤100000:=by
  obtain⟨z1,z2,z3⟩:=zcb hs
  have none_sz:(⟨[],0,⟨0,0⟩,[]⟩:D.Memory).sz≤100000:=by unfold D.Memory.sz szL;simp [sumL]
  unfold z45 z4i
  rw [zaM hf z1 z3,zaN hf z1 z2 z3,Option.bind_some,Option.bind_some]
  cases hn:netN x0 with
  | false=>exact⟨_,rfl,rfl,none_sz⟩
  | true=>
    have hN:1≤x0.Agents.length∧x0.Agents.length≤600:=by
      have hn2:=hn
      unfold netN agentsN at hn2
      rw [Bool.and_eq_true,Bool.and_eq_true,decide_eq_true_eq] at hn2
      exact hn2.1.1
    rw [if_neg (by simp),if_neg (by simp),z41,Option.bind_some]
    by_cases hr:1≤x1∧x1≤1500
    · rw [decide_eq_true hr,if_neg (by simp),if_neg (by simp;omega),show decide (x1>1500)=false by simp;omega]
      unfold z13
      obtain⟨v1,v2,v3,v4⟩:=zbQ hf hs hn
      rw [if_neg (by simp),v1,v2,Option.bind_some,Option.bind_some,z7 (n:=(x0.Agents.length:Int) - 1) (by omega) (by omega),z7 (by omega) (by omega)]
      by_cases hfull:(x0.Agents.length:Int) - 1+((sumL varW (wiresL x0):Nat):Int)>x1
      · rw [if_pos (decide_eq_true hfull),if_pos (decide_eq_true (by omega))]
        exact⟨_,rfl,rfl,none_sz⟩
      · rw [if_neg (by simpa using hfull),if_neg (by simp;omega)]
        obtain⟨size,rfl⟩:∃ size:Nat,x1=(size:Int):=⟨x1.toNat,by omega⟩
        have hp:∀ a,a∈x0.Agents→a.Ports.length≤1048576:=fun a ha=>(z9m hs ha).2
        have hNs:x0.Agents.length - 1+sumL varW (wiresL x0)≤size:=by omega
        have hc:∀ j,j+1<x0.Agents.length→(cellsN x0.Agents.length (x0.Agents.length - 1))[j+1]? = some (j:Int):=fun j hj=>zd7 hj (by omega)
        rw [zbz hf (by omega) (by omega),zbA hf (by omega) (by omega),Option.bind_some,Option.bind_some,if_pos (by simp;omega),if_pos (by simp;omega),Int.toNat_natCast]
        unfold z4A
        have e1:=zbt (size:=size) hf hn hw hs (by omega) hN.2 hN.1
        have e2:=zbu (size:=size) hf hn hs (by omega) hN.2 hN.1
        have e3:=zbb (size:=size) (M0:=memN x0 size wz 0 ⟨0,0⟩) hf hn hp v4 hNs
        have e4:=zbr (size:=size) (M0:=memN x0 size wz 0 ⟨0,0⟩) (cells:=cellsN x0.Agents.length (x0.Agents.length - 1)) hf hn hp (by rw [z6B];exact z2) hNs hc
        have ee:(⟨(pm [] size ⟨0,0⟩ []).Cells,(pm [] size ⟨0,0⟩ []).Free,(⟨(pm [] size ⟨0,0⟩ []).Root.Tag,(pm [] size ⟨0,0⟩ []).Root.At⟩:D.Word),(pm [] size ⟨0,0⟩ []).Redexes⟩:D.Memory)=pm [] size ⟨0,0⟩ []:=rfl
        rw [ee,e1,e2,Option.bind_some,Option.bind_some,z6,z6]
        unfold z4z z4S
        rw [z8F hf z1 z2,netPorts hf z1 z2,Option.bind_some,Option.bind_some,e3,e4,Option.bind_some,Option.bind_some,z6,z6]
        unfold z4y z4R
        rw [zbv hf hn hN.2 hN.1,zbw hf hn hN.2,Option.bind_some,Option.bind_some]
        dsimp only
        rw [zc3 hf hn hN.2 rfl,zc4 hf hn hN.2 rfl hc,Option.bind_some,Option.bind_some,z6,z6]
        unfold z4x z4Q
        dsimp only
        rw [Option.bind_some]
        have hA:=zdV (fun p hp=>z8E hn hp)
        have hroot:SW x0 (wiresL x0) (prt 0 0)=IW x0 (portsL x0) (prt 0 0):=by
          obtain⟨a,ha⟩:=z3Z (xs:=x0.Agents) (i:=0) (by omega)
          exact z8E hn (z4U.2 ⟨Int.natCast_nonneg _,Int.natCast_nonneg _,a,by simpa [prt] using ha,by rw [z8N hn ha];simp [prt]⟩)
        have hpl:=z6o (n:=x0) x0.Agents.length
        rw [List.take_length] at hpl
        refine⟨(withQ (memN x0 size (IW x0 (portsL x0)) (sumL varW (wiresL x0)) (IW x0 (portsL x0) (prt 0 0))) (redL x0),0),?_,rfl,?_⟩
        · rw [hroot]
          unfold withQ memN pm
          simp [hA,z42]
        · unfold withQ memN pm D.Memory.sz szL redL
          dsimp only
          have h2:=zbW (n:=x0) (w:=IW x0 (portsL x0)) hn hN.2
          have h3:sumL D.Cell.sz (List.replicate (sumL varW (wiresL x0)) vc)=0:=z94 fun y hy=>by rw [List.eq_of_mem_replicate hy];rfl
          have h4:∀ k,sumL D.Cell.sz (freeC k size)=0:=fun k=>z94 fun y hy=>by
            unfold freeC at hy
            obtain⟨j,_,rfl⟩:=List.mem_map.1 hy
            rfl
          have h5:∀ k,(freeC k size).length≤size:=fun k=>by unfold freeC;simp
          have hsz:sumL D.Agent.sz x0.Agents≤1048576:=by unfold D.Net.sz szL at hs;omega
          have hprs:(pairsL x0).length≤600:=by unfold pairsL;omega
          rw [z1H,z1H,h3,h4,List.length_append,List.length_append,List.length_map,List.length_replicate,z42]
          have:=h5 (x0.Agents.length - 1+sumL varW (wiresL x0))
          omega
    · rw [decide_eq_false hr,if_pos (by rfl)]
      have:∀ b,b=true→z13 fuel x0 x1 b=some (⟨[],0,⟨0,0⟩,[]⟩,2):=fun b hb=>by subst hb;unfold z13;rfl
      refine⟨_,rfl,?_,none_sz⟩
      by_cases h2:x1<1
      · rw [if_pos (decide_eq_true h2),this true rfl]
      · rw [if_neg (by simpa using h2),this _ (decide_eq_true (by omega))]
end Go.E


namespace Go.E
open Go.RowKit Go.Proofs
set_option linter.unusedSimpArgs false
set_option linter.unusedVariables false


theorem iterP {S1 τ1 ρ1 S2 τ2 ρ2:Type}{b1:S1→Option (Rd S1 τ1 ρ1)}{b2:S2→Option (Rd S2 τ2 ρ2)}(J:Nat→S1→S2→Prop) (n:Nat) (Q:τ1 ⊕ ρ1→τ2 ⊕ ρ2→Prop)
    (step:∀ i s1 s2,i<n→J i s1 s2→∃ s1' s2',b1 s1=some (.next s1')∧b2 s2=some (.next s2')∧J (i+1) s1' s2')
    (last:∀ s1 s2,J n s1 s2→∃ t1 t2,b1 s1=some (.brk t1)∧b2 s2=some (.brk t2)∧Q (.inl t1) (.inl t2)):
    ∀ {f i s1 s2},i≤n→n - i<f→J i s1 s2→∃ o1 o2,iter b1 f s1=some o1∧iter b2 f s2=some o2∧Q o1 o2
  | 0,i,_,_,hi,hf,_=>by omega
  | f+1,i,s1,s2,hi,hf,hJ=>by
    rcases Nat.lt_or_ge i n with h | h
    · obtain⟨t1,t2,e1,e2,h2⟩:=step i s1 s2 h hJ
      obtain⟨o1,o2,h3,h4,h5⟩:=iterP J n Q step last (f:=f) (i:=i+1) h (by omega) h2
      exact⟨o1,o2,by simp only [iter,e1];exact h3,by simp only [iter,e2];exact h4,h5⟩
    · obtain rfl:i=n:=by omega
      obtain⟨t1,t2,e1,e2,h2⟩:=last s1 s2 hJ
      exact⟨_,_,by simp only [iter,e1],by simp only [iter,e2],h2⟩
def wk0:D.Worker:=⟨1,0,[],[],[0,0,0,0,0,0,0]⟩
theorem zde {n:Nat}:sumL D.Worker.sz (List.replicate n wk0)=7*n:=by
  induction n with
  | zero=>rfl
  | succ n ih=>
    rw [List.replicate_succ]
    unfold sumL
    rw [ih,show wk0.sz=7 from rfl]
    omega
theorem ze2 {ws:List D.Worker}{k:Nat}{w y:D.Worker}(h:ws[k]? = some w):sumL D.Worker.sz (ws.set k y)+w.sz=sumL D.Worker.sz ws+y.sz:=by
  induction ws generalizing k with
  | nil=>simp at h
  | cons x ws ih=>
    cases k with
    | zero=>
      simp only [List.getElem?_cons_zero,Option.some.injEq] at h
      subst h
      simp only [List.set_cons_zero,sumL]
      omega
    | succ k=>
      simp only [List.getElem?_cons_succ] at h
      have:=ih h
      simp only [List.set_cons_succ,sumL]
      omega
theorem z9o {fuel:Nat}{n:Nat}(hf:18446744073709551616≤fuel) (hn:n≤4):
    iter (z1V fuel (n:Int)) fuel (0,[])=some (.inl (List.replicate n wk0))∧iter (z1C fuel (n:Int)) fuel (0,[])=some (.inl (List.replicate n wk0)):=by
  constructor
  · obtain⟨o,h,rfl⟩:=zo (body:=z1V fuel (n:Int)) (fun i s=>s=((i:Int),List.replicate i wk0)) n (fun o=>o=.inl (List.replicate n wk0)) (by
      rintro i s hi rfl
      refine .inl ⟨((i+1:Nat),List.replicate (i+1) wk0),?_,rfl⟩
      unfold z1V
      dsimp only
      rw [if_pos (by simpa using hi),if_pos (by simp;omega),z7 (by omega) (by omega),List.replicate_succ']
      rfl) (by
      rintro s rfl
      refine .inr ⟨_,?_,rfl⟩
      unfold z1V
      rw [if_neg (by simp)]) (fuel:=fuel) (i:=0) (s:=(0,[])) (Nat.zero_le _) (by omega) rfl
    exact h
  · obtain⟨o,h,rfl⟩:=zo (body:=z1C fuel (n:Int)) (fun i s=>s=((i:Int),List.replicate i wk0)) n (fun o=>o=.inl (List.replicate n wk0)) (by
      rintro i s hi rfl
      refine .inl ⟨((i+1:Nat),List.replicate (i+1) wk0),?_,rfl⟩
      unfold z1C
      dsimp only
      rw [if_pos (by simpa using hi),if_pos (by decide),if_pos (by simp;omega),z7 (by omega) (by omega),List.replicate_succ']
      rfl) (by
      rintro s rfl
      refine .inr ⟨_,?_,rfl⟩
      unfold z1C
      rw [if_neg (by simp)]) (fuel:=fuel) (i:=0) (s:=(0,[])) (Nat.zero_le _) (by omega) rfl
    exact h
theorem zd4 {fuel:Nat}{n:Nat}{m:D.Memory}{c:Int}(hf:18446744073709551616≤fuel) (h1:1≤n) (hn:n≤4) (hr:m.Redexes.length≤100000):
    ∃ ws,sumL D.Worker.sz ws=7*n+m.Redexes.length∧ws.length=n∧iter (z1i fuel m (n:Int)) fuel (0,List.replicate n wk0)=some (.inl ws)∧iter (z10 fuel (n:Int) (m,c)) fuel (0,List.replicate n wk0)=some (.inl ws):=by
  obtain⟨o1,o2,a1,a2,ws,g1,g2,rfl,rfl⟩:=iterP (b1:=z1i fuel m (n:Int)) (b2:=z10 fuel (n:Int) (m,c))
    (fun i s1 s2=>∃ ws,sumL D.Worker.sz ws=7*n+i∧ws.length=n∧s1=((i:Int),ws)∧s2=((i:Int),ws)) m.Redexes.length (fun o1 o2=>∃ ws,sumL D.Worker.sz ws=7*n+m.Redexes.length∧ws.length=n∧o1=.inl ws∧o2=.inl ws) (by
    rintro i s1 s2 hi ⟨ws,g1,g2,rfl,rfl⟩
    obtain⟨p,hp⟩:=z3Z hi
    have hmod:i % n<ws.length:=by rw [g2];exact Nat.mod_lt _ h1
    obtain⟨w,hw⟩:=z3Z hmod
    have e1:w64 ((i:Int)+1)=((i+1:Nat):Int):=by rw [z7 (by omega) (by omega)];rfl
    have em:(i:Int).tmod (n:Int)=((i % n:Nat):Int):=by rw [Int.tmod_eq_emod_of_nonneg (Int.natCast_nonneg _)];rfl
    have hz:=z67 (f:=D.Worker.sz) (List.mem_of_getElem? hw)
    have hw9:w.sz=w.Redexes.length+(w.Links.length+(w.Counts.length+0)):=rfl
    have hput:=ze2 (y:=⟨w.Phase,w.Victim,w.Redexes++[p],w.Links,w.Counts⟩) hw
    have hy:(⟨w.Phase,w.Victim,w.Redexes++[p],w.Links,w.Counts⟩:D.Worker).sz=w.sz+1:=by unfold D.Worker.sz;simp;omega
    refine⟨((i+1:Nat),ws.set (i % n) ⟨w.Phase,w.Victim,w.Redexes++[p],w.Links,w.Counts⟩),((i+1:Nat),ws.set (i % n) ⟨w.Phase,w.Victim,w.Redexes++[p],w.Links,w.Counts⟩),?_,?_,_,?_,?_,rfl,rfl⟩
    · unfold z1i
      dsimp only
      rw [if_pos (by simpa using hi),if_pos (by simp;omega),em,zb hw,Option.bind_some,zb hp,Option.bind_some,if_pos (by simp;omega),e1]
      rfl
    · unfold z10
      dsimp only
      rw [if_pos (by simpa using hi),zb hp,Option.bind_some,if_pos (by simp;omega),em,zb hw,Option.bind_some,if_pos (by simp;omega),e1]
      rfl
    · omega
    · rw [List.length_set];exact g2) (by
    rintro s1 s2 ⟨ws,g1,g2,rfl,rfl⟩
    refine⟨ws,ws,?_,?_,ws,g1,g2,rfl,rfl⟩
    · unfold z1i;rw [if_neg (by simp)]
    · unfold z10;rw [if_neg (by simp)]) (f:=fuel) (i:=0) (s1:=(0,List.replicate n wk0)) (s2:=(0,List.replicate n wk0)) (Nat.zero_le _) (by omega) ⟨_,by rw [zde];rfl,by simp,rfl,rfl⟩
  exact⟨ws,g1,g2,a1,a2⟩
theorem z9F {fuel:Nat}{x0:D.Net}{x1 x2:Int}(hf:18446744073709551616≤fuel) (hw:D.Net.wf x0) (h1:I64 x1) (h2:I64 x2) (hs:x0.sz≤1048576):
    ∃ r:D.Pool × Int,z44 fuel x0 x1 x2=some r∧z3j fuel x0 x1 x2=some r∧r.1.sz≤1048576:=by
  obtain⟨z1,z2,z3⟩:=zcb hs
  have z0:(⟨(⟨[],0,⟨0,0⟩,[]⟩:D.Memory),[],0⟩:D.Pool).sz≤1048576:=by decide
  unfold z44 z3j
  rw [zaM hf z1 z3,zaN hf z1 z2 z3,Option.bind_some,Option.bind_some]
  cases hn:netN x0 with
  | false=>exact⟨_,rfl,rfl,z0⟩
  | true=>
    rw [if_neg (by simp),if_neg (by simp),z41,Option.bind_some]
    have bad:∀ b,b=true→z1y fuel x0 x1 x2 b=some (⟨(⟨[],0,⟨0,0⟩,[]⟩:D.Memory),[],0⟩,2)∧zG fuel x0 x1 x2 b=some (⟨(⟨[],0,⟨0,0⟩,[]⟩:D.Memory),[],0⟩,2):=by
      rintro b rfl
      exact⟨rfl,rfl⟩
    by_cases ha:1≤x1∧x1≤1500
    · rw [decide_eq_true ha,if_neg (by simp),z41,Option.bind_some,if_neg (by simp;omega),if_neg (by simp;omega)]
      by_cases hb:1≤x2∧x2≤4
      · rw [decide_eq_true hb,if_neg (by simp;omega),show decide (x2>4)=false by simp;omega]
        unfold z1y zG
        obtain⟨r,e1,e2,e3⟩:=z9G hf hw h1 hs
        rw [if_neg (by simp),if_neg (by simp),e1,e2,Option.bind_some,Option.bind_some]
        by_cases hc:r.2=0
        · rw [if_neg (by simp [hc]),if_neg (by simp [hc])]
          obtain⟨n,rfl⟩:∃ n:Nat,x2=(n:Int):=⟨x2.toNat,by omega⟩
          have hr:r.1.Redexes.length≤100000:=by unfold D.Memory.sz at e3;omega
          obtain⟨ws,g1,g2,g3,g4⟩:=zd4 (fuel:=fuel) (n:=n) (m:=r.1) (c:=r.2) hf (by omega) (by omega) hr
          obtain⟨w1,w2⟩:=z9o (fuel:=fuel) (n:=n) hf (by omega)
          unfold z5d
          rw [w1,w2,Option.bind_some,Option.bind_some,z6,z6]
          unfold z58 z4P
          have g3':iter (z1i fuel ⟨r.1.Cells,r.1.Free,⟨r.1.Root.Tag,r.1.Root.At⟩,r.1.Redexes⟩ (n:Int)) fuel (0,List.replicate n wk0)=_:=g3
          have g4':iter (z10 fuel (n:Int) r) fuel (0,List.replicate n wk0)=_:=g4
          rw [g3',g4',Option.bind_some,Option.bind_some,z6,z6]
          unfold z57 z4O
          rw [Option.bind_some]
          refine⟨_,rfl,rfl,?_⟩
          unfold D.Pool.sz D.Memory.sz szL at *
          dsimp only at *
          simp only [List.length_nil]
          omega
        · rw [if_pos (by simp [hc]),if_pos (by simp [hc])]
          exact⟨_,rfl,rfl,z0⟩
      · rw [decide_eq_false hb]
        refine⟨_,(bad _ rfl).1,?_,z0⟩
        split
        · exact(bad _ rfl).2
        · rename_i hx
          refine(bad _ ?_).2
          simp only [decide_eq_true_eq] at hx ⊢
          omega
    · rw [decide_eq_false ha,if_pos (by rfl)]
      refine⟨_,(bad _ rfl).1,?_,z0⟩
      split
      · exact(bad _ rfl).2
      · rename_i hx
        simp only [decide_eq_true_eq] at hx
        rw [if_pos (decide_eq_true (by omega))]
        exact(bad _ rfl).2
end Go.E


namespace Go.E
open Go.RowKit Go.Proofs
set_option linter.unusedSimpArgs false
set_option linter.unusedVariables false

theorem lawNewPool {x0:D.Net}{x1:Int}{x2:Int}(h0:D.Net.wf x0) (h1:I64 x1) (h2:I64 x2):∃ fuel,z2i fuel x0 x1 x2=some true:=by
  obtain⟨fuel,hf⟩:∃ n:Nat,18446744073709551616≤n:=⟨_,Nat.le_refl _⟩
  refine⟨fuel,?_⟩
  unfold z2i
  obtain⟨r0,e0,s0⟩:=zbo (l:=(1048576:Int)) hf h0 (by decide) (by omega)
  rw [e0,Option.bind_some]
  rcases s0 with s0 | ⟨s0,t0⟩
  · rw [if_pos (by simp [s0])]
  rw [if_neg (by simp [s0])]
  have z0:D.Net.sz x0≤1048576:=by omega
  obtain⟨r,a0,a1,b0⟩:=z9F hf h0 h1 h2 z0
  have m0:=fun {β:Type}(g:_→Option β)=>z6x (g:=g) a0
  have m1:=fun {β:Type}(g:_→Option β)=>z6x (g:=g) a1
  have m2:=fun {β:Type}(g:_→Option β)=>z6x (g:=g) (zbn hf z0)
  have m3:=fun {β:Type}(g:_→Option β)=>z6x (g:=g) (zby hf z0)
  have m4:=fun {β:Type}(g:_→Option β) (k:Int) (h0:0≤k) (h1:k+(ctNet x0:Nat)≤2147483648)=>z6x (g:=g) (z9Q hf z0 h0 h1)
  have c0:=zdS (x:=x0)
  have m5:=fun {β:Type}(g:_→Option β)=>z6x (g:=g) (zaw hf b0)
  have m6:=fun {β:Type}(g:_→Option β) (k:Int) (h0:0≤k) (h1:k+(ctPool r.1:Nat)≤2147483648)=>z6x (g:=g) (z99 hf b0 h0 h1)
  have m7:=fun {β:Type}(g:_→Option β) (k:Int) (h0:0≤k) (h1:k+(ctPool r.1:Nat)≤2147483648)=>z6x (g:=g) (z9b hf b0 h0 h1)
  have d0:=zd5 (x:=r.1)
  simp (disch:=omega) only [↓reduceIte,↓m0,↓m1,↓m2,↓m3,↓m4,↓m5,↓m6,↓m7,lt_f,Bool.not_true,Bool.false_eq_true,bne_self_eq_false,z6D]
  simp (disch:=omega) only [↓reduceIte,↓zF,↓m0,↓m1,↓m2,↓m3,↓m4,↓m5,↓m6,↓m7,lt_f,Bool.not_true,Bool.false_eq_true,bne_self_eq_false,z6D]
  simp (disch:=omega) only [↓reduceIte,↓zt,↓m0,↓m1,↓m2,↓m3,↓m4,↓m5,↓m6,↓m7,lt_f,Bool.not_true,Bool.false_eq_true,bne_self_eq_false,z6D]
  simp (disch:=omega) only [↓reduceIte,↓zE,↓m0,↓m1,↓m2,↓m3,↓m4,↓m5,↓m6,↓m7,lt_f,Bool.not_true,Bool.false_eq_true,bne_self_eq_false,z6D]

end Go.E


namespace Go.Proofs.YtijgffjimnbcpaaGreat.lawNewPool
open Go.ChangeShapes Go.WideShapes Go.ChangeAt Go.RowKit Go.E
set_option linter.unusedVariables false

theorem own:ownKnob Tryz.prog.godebug=none:=by kernel_rfl
theorem laidOut:laidOutB Tryz.prog=true:=by kernel_rfl

set_option maxRecDepth 100000 in
theorem lifted (os:Os) (started:os.Started) (H:Type) (enc:TypeId × Value→H):
    ReturnsInHanded {} Tryz.checked os 5 .any (Rows.fnExactNewPoolSpec.pre6 enc Tryz.prog Tryz.f5 Rows.fnExactNewPoolRow.domain false) (Rows.fnExactNewPoolSpec.post enc Tryz.prog Tryz.f5 false true false false):=by
  refine returnsInHanded_of_change (C:=Tryz.checked) own started (by kernel_rfl) Tryz.func5
    (ChangeSpec.witness6 (enc:=enc) (C:=Tryz.checked) false ⟨#[],#[.agg #[.slice none 0 0],.int .i64 0,.int .i64 0],[]⟩ 12 (by kernel_rfl) (by kernel_rfl) (by kernel_rfl) (by kernel_rfl)) ?_
  intro W base args ds gs before hval0 hW hcnd _
  have hval:∀ (j:Nat) t v,Tryz.f5.params[j]? = some t→args[j]? = some v→Value.okWide Tryz.prog W .any base t v:=hval0
  have hW':=hW
  obtain⟨p,q,hA0,hV,rfl,hfz,hnd⟩:=hW
  have hA:DataW.TrodAll enc Tryz.prog W 0 (fun _=>true) true Tryz.f5.params.toList args.toList ds p:=hA0
  rw [Tryz.params5] at hA hval
  obtain⟨v0,vs0,d0,ds0,p0,q0,hargs,rfl,rfl,h0,r0⟩:=trodAll_cons hA
  obtain⟨v1,vs1,d1,ds1,p1,q1,rfl,rfl,rfl,h1,r1⟩:=trodAll_cons r0
  obtain⟨v2,vs2,d2,ds2,p2,q2,rfl,rfl,rfl,h2,r2⟩:=trodAll_cons r1
  obtain⟨rfl,rfl,rfl⟩:=trodAll_nil r2
  obtain rfl:args = #[v0,v1,v2]:=by cases args;simp_all
  obtain⟨rfl,rfl⟩:=trodVars_none hV
  have k0:=h0
  have lt0:∀ x∈p0,x.block<W.heap.size:=by obtain⟨m,hm⟩:=k0;exact DataW.trod_lt m _ _ _ hm
  have k1:=h1
  have lt1:∀ x∈p1,x.block<W.heap.size:=by obtain⟨m,hm⟩:=k1;exact DataW.trod_lt m _ _ _ hm
  have k2:=h2
  have lt2:∀ x∈p2,x.block<W.heap.size:=by obtain⟨m,hm⟩:=k2;exact DataW.trod_lt m _ _ _ hm
  obtain⟨c0,x0,rfl,g0,w0⟩:=zbJ Tryz.underlying49 ze5 (hval 0 49 v0 rfl rfl) h0
  obtain⟨x1,rfl,w1⟩:=zd9 Tryz.underlying2 (hval 1 2 v1 rfl rfl) h1
  obtain⟨x2,rfl,w2⟩:=zd9 Tryz.underlying2 (hval 2 2 v2 rfl rfl) h2
  clear hA0 hval0
  obtain⟨fuel,hm⟩:=lawNewPool (x0:=x0) (x1:=x1) (x2:=x2) w0 w1 w2
  refine(laws_FnExactNewPool_ok (Ext.refl _) g0 hm).mono ?_
  intro e W' hq
  obtain⟨v,rfl,rfl,hS⟩:=Ret.out hq
  have bel:Below W.heap.size W W':=hS.ext
  exact⟨_,rfl,_,_,_,[],_,[],hW',trodAll_mk1 (shut_bool Tryz.underlying4 _),(trodAll_cons_mk (Below.trod laidOut (by kernel_rfl) (of_decide_eq_true (by kernel_rfl)) k0 bel lt0) (trodAll_cons_mk (Below.trod laidOut (by kernel_rfl) (of_decide_eq_true (by kernel_rfl)) k1 bel lt1) (trodAll_cons_mk (Below.trod laidOut (by kernel_rfl) (of_decide_eq_true (by kernel_rfl)) k2 bel lt2) trodAll_mk0))),rfl,bel.frame _,fun h=>by cases h⟩

set_option maxRecDepth 100000 in
theorem j1:(Rows.fnExactNewPoolRow.wf (OpenSpec.ofChange Rows.fnExactNewPoolSpec))=true:=by kernel_rfl
set_option maxRecDepth 100000 in
theorem j2:(laidOutB Tryz.prog)=true:=by kernel_rfl
set_option maxRecDepth 100000 in
theorem j3:(mapsRowed Tryz.prog)=true:=by kernel_rfl
set_option maxRecDepth 100000 in
theorem j4:(Tryz.f5.params.all (Tryz.prog.readableRec ·))=true:=by kernel_rfl
set_option maxRecDepth 100000 in
theorem j5:(namedTie Tryz.prog Rows.fnExactNewPoolRow.named Rows.fnExactNewPoolSpec.vars)=true:=by kernel_rfl
set_option maxRecDepth 100000 in
theorem j6:((Rows.fnExactNewPoolRow.stops == []))=true:=by kernel_rfl
set_option maxRecDepth 100000 in
theorem j7:((Tryz.prog.stops == []))=true:=by kernel_rfl
set_option maxRecDepth 100000 in
theorem j8:((Rows.fnExactNewPoolRow.knobs == []))=true:=by kernel_rfl
set_option maxRecDepth 100000 in
theorem j9:((Tryz.prog.stopKnobs == []))=true:=by kernel_rfl
set_option maxRecDepth 100000 in
theorem j10:((Rows.fnExactNewPoolRow.inPlace == Tryz.prog.inPlace 5))=true:=by kernel_rfl
set_option maxRecDepth 100000 in
theorem j11:((Rows.fnExactNewPoolRow.unfollowed == Tryz.prog.unfollowed 5))=true:=by kernel_rfl
set_option maxRecDepth 100000 in
theorem j12:((Rows.fnExactNewPoolRow.recurses == Tryz.prog.recurses 5))=true:=by kernel_rfl
set_option maxRecDepth 100000 in
theorem j13:((Rows.fnExactNewPoolRow.named == Tryz.prog.varsNamed 5))=true:=by kernel_rfl
set_option maxRecDepth 100000 in
theorem j14:((Rows.fnExactNewPoolRow.maps == (Tryz.f5.params.toList++Rows.fnExactNewPoolSpec.plain.varTypes Tryz.prog).any (Tryz.prog.mapsRec ·)))=true:=by kernel_rfl
set_option maxRecDepth 100000 in
theorem j15:((Rows.fnExactNewPoolRow.ifaces == (Tryz.f5.params.toList++Rows.fnExactNewPoolSpec.plain.varTypes Tryz.prog).any (Tryz.prog.ifacesRec ·)))=true:=by kernel_rfl
set_option maxRecDepth 100000 in
theorem j16:((Rows.fnExactNewPoolRow.mapsOut == Tryz.prog.mapsAmong Tryz.f5.resultTypes.toList))=true:=by kernel_rfl
set_option maxRecDepth 100000 in
theorem j17:((Rows.fnExactNewPoolRow.loops == (Tryz.f5.params.toList++Rows.fnExactNewPoolSpec.plain.varTypes Tryz.prog).any (Tryz.prog.loopsFrom ·)))=true:=by kernel_rfl
set_option maxRecDepth 100000 in
theorem j18:((Rows.fnExactNewPoolRow.wideKeys == (Tryz.f5.params.toList++Rows.fnExactNewPoolSpec.plain.varTypes Tryz.prog++Tryz.f5.resultTypes.toList).any (Tryz.prog.wideKeysFrom ·)))=true:=by kernel_rfl
set_option maxRecDepth 100000 in
theorem j19:(Rows.fnExactNewPoolSpec.vars.all (Tryz.prog.varReadable ·))=true:=by kernel_rfl
set_option maxRecDepth 100000 in
theorem j20:(Tryz.f5.resultTypes.all (fun t=>Tryz.prog.readableRec t && decide (t<Tryz.prog.types.size)))=true:=by kernel_rfl
set_option maxRecDepth 100000 in
theorem j21:((Rows.fnExactNewPoolRow.ifacesOut == Tryz.f5.resultTypes.toList.any (Tryz.prog.ifacesRec ·)))=true:=by kernel_rfl
set_option maxRecDepth 100000 in
theorem j22:((Rows.fnExactNewPoolRow.loopsOut == Tryz.f5.resultTypes.toList.any (Tryz.prog.loopsFrom ·)))=true:=by kernel_rfl
set_option maxRecDepth 100000 in
theorem j23:((Rows.fnExactNewPoolRow.plainKeys == Tryz.prog.plainKeys))=true:=by kernel_rfl
set_option maxRecDepth 100000 in
theorem j24:(Rows.fnExactNewPoolRow.shortTexts.isNone)=true:=by kernel_rfl
set_option maxRecDepth 100000 in
theorem j25:(Tryz.prog.stopsHeard)=true:=by kernel_rfl
set_option maxRecDepth 100000 in
theorem j26:(Tryz.prog.mayEnter)=true:=by kernel_rfl
set_option maxRecDepth 100000 in
theorem j27:((Rows.fnExactNewPoolRow.lifted == Tryz.prog.liftsFinal))=true:=by kernel_rfl
set_option maxRecDepth 100000 in
theorem j28:((Tryz.prog.make == some Rows.fnExactNewPoolRow.make))=true:=by kernel_rfl
set_option maxRecDepth 100000 in
theorem j29:((Rows.fnExactNewPoolRow.kinds == (if Rows.fnExactNewPoolRow.domain.isEmpty then [] else Tryz.f5.params.toList.map fun t=>match Tryz.prog.underlying t with | some (.int k)=>some k | _=>none)))=true:=by kernel_rfl
set_option maxRecDepth 100000 in
theorem j30:((Rows.fnExactNewPoolRow.pinned == Rows.fnExactNewPoolRow.pinnedBy))=true:=by kernel_rfl
set_option maxRecDepth 100000 in
theorem j31:((Rows.fnExactNewPoolRow.veiled == (Tryz.f5.params.toList++Rows.fnExactNewPoolSpec.plain.varTypes Tryz.prog++Tryz.f5.resultTypes.toList).any (Tryz.prog.veiledRec ·)))=true:=by kernel_rfl
set_option maxRecDepth 100000 in
theorem j32:(Rows.fnExactNewPoolRow.veiledFits Tryz.prog Tryz.f5.params.toList (Tryz.f5.params.toList++Rows.fnExactNewPoolSpec.plain.varTypes Tryz.prog++Tryz.f5.resultTypes.toList))=true:=by kernel_rfl
set_option maxRecDepth 100000 in
theorem closed:joinedFacts Tryz.prog 5 Tryz.f5 Rows.fnExactNewPoolSpec Rows.fnExactNewPoolRow=true:=by
  unfold joinedFacts
  simp only [Bool.and_eq_true]
  exact⟨⟨⟨⟨⟨⟨⟨⟨⟨⟨⟨⟨⟨⟨⟨⟨⟨⟨⟨⟨⟨⟨⟨⟨⟨⟨⟨⟨⟨⟨⟨j1,j2⟩,j3⟩,j4⟩,j5⟩,j6⟩,j7⟩,j8⟩,j9⟩,j10⟩,j11⟩,j12⟩,j13⟩,j14⟩,j15⟩,j16⟩,j17⟩,j18⟩,j19⟩,j20⟩,j21⟩,j22⟩,j23⟩,j24⟩,j25⟩,j26⟩,j27⟩,j28⟩,j29⟩,j30⟩,j31⟩,j32⟩
set_option maxRecDepth 100000 in
theorem wraps:Tryz.f5.isWrapper Tryz.prog Rows.fnExactNewPoolRow.wrapper Rows.fnExactNewPoolRow.mainSum:=by
  unfold Func.isWrapper;first | (rw [if_pos (by decide +kernel)];kernel_rfl) | (rw [if_neg (by decide +kernel)];exact⟨rfl,rfl⟩)
theorem instd:Tryz.f5.isInstance Tryz.prog Rows.fnExactNewPoolRow.origin Rows.fnExactNewPoolRow.targs:=of_decide_eq_true (by kernel_rfl)

set_option maxRecDepth 100000 in
theorem over:Rows.fnExactNewPoolRow.holds Tryz.pinned (OpenSpec.ofChange Rows.fnExactNewPoolSpec):=
  OpenClaim.holds_of_wide 5 Tryz.f5 rfl rfl rfl rfl rfl rfl rfl ⟨rfl,rfl,rfl,rfl,rfl⟩ rfl rfl rfl rfl rfl (by kernel_rfl) Tryz.func5 closed instd wraps
    (fun os started H enc _=>lifted os started H enc)

theorem proved:Rows.FnExactNewPoolSaid:=over
#print axioms proved
end Go.Proofs.YtijgffjimnbcpaaGreat.lawNewPool

