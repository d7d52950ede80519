/- The reference's canonical order, and both sides' renumbering. Conditions: the net's edges lead back, and its parts are small. -/
import Derived.Test.YtfndicpnccabkaaGreatCanQ
import Derived.Test.YtfndicpnccabkaaGreatPathP
import Derived.Test.YtfndicpnccabkaaGreatFollowK
namespace Go.E
open Go.RowKit Go.Proofs Go.Sort
set_option linter.unusedSimpArgs false
set_option linter.unusedVariables false

section
variable {A:List D.Agent}
theorem zmH {fuel:Nat}{d:Int}{q:List (List Int)}{i:Nat}{C:List (List Int)}{S:List Int}(hf:18446744073709551616≤fuel) (hN:NetOk A) (hm:d∈hdN (nxN A) A.length A.length) (hr:q[i]? = some (partN (nxN A) A.length d)):
    iter (z2S fuel ⟨A⟩ q ((i:Int),C,S)) fuel (d,codeN A d,1)=some (.inl (bestN (nxN A) A.length (codeN A) d,codeN A (bestN (nxN A) A.length (codeN A) d))):=by
  have hph:=zdh hN.graph hm
  have hpl:=zhv hN hm
  have hp1:=(List.getElem?_eq_some_iff.1 hph).1
  obtain⟨o,e1,rfl⟩:=zc (body:=z2S fuel ⟨A⟩ q ((i:Int),C,S))
    (fun k st=>1≤k∧st=(bstN (codeN A) d (((partN (nxN A) A.length d).drop 1).take (k - 1)),codeN A (bstN (codeN A) d (((partN (nxN A) A.length d).drop 1).take (k - 1))),(k:Int)))
    (partN (nxN A) A.length d).length (fun o=>o=.inl (bestN (nxN A) A.length (codeN A) d,codeN A (bestN (nxN A) A.length (codeN A) d))) (by
    rintro k st hk ⟨G,rfl⟩
    obtain⟨j,rfl⟩:∃ j,k=j+1:=⟨k - 1,by omega⟩
    rw [Nat.add_sub_cancel]
    obtain⟨x,hx⟩:=z1r hk
    have hxr:=zeM hN hm (List.mem_of_getElem? hx)
    have hcl:=zcL hN hxr.1 hxr.2
    refine .inl ⟨(bstN (codeN A) d (((partN (nxN A) A.length d).drop 1).take (j+1)),codeN A (bstN (codeN A) d (((partN (nxN A) A.length d).drop 1).take (j+1))),w64 (((j+1:Nat):Int)+1)),?_,by omega,by rw [z7 (by omega) (by omega)];rfl⟩
    unfold z2S
    dsimp only
    rw [z8 hr,Option.bind_some,if_pos (by simp;omega),Option.bind_some,z8 hx,Option.bind_some,zgy hf hN hxr.1 hxr.2,Option.bind_some,zfZ hf (by omega),Option.bind_some]
    unfold z48
    dsimp only
    rw [zfz hx,zcM]
    by_cases hlt:cmpL (codeN A x) (codeN A (bstN (codeN A) d (((partN (nxN A) A.length d).drop 1).take j)))<0
    · rw [if_pos (by simpa using hlt),if_pos hlt,Option.bind_some,z8 hx,Option.bind_some]
    · rw [if_neg (by simpa using hlt),if_neg hlt]) (by
    rintro st ⟨G,rfl⟩
    refine .inr ⟨_,?_,rfl⟩
    unfold z2S
    dsimp only
    rw [z8 hr,Option.bind_some,if_neg (by simp)]
    unfold bestN
    rw [List.take_of_length_le (by simp)]) (fuel:=fuel) (i:=1) (s:=(d,codeN A d,1)) (by omega) (by omega) ⟨Nat.le_refl _,by simp [bstN]⟩
  exact e1

theorem zo8 {cs:List (List Int)}{us:List Bool}{i:Nat}:argN cs us (i+1)=if us[i]? = some false∧(argN cs us i<0∨cmpL (cs.getD i []) (cs.getD (argN cs us i).toNat [])<0) then(i:Int) else argN cs us i:=by rw [argN]
theorem zjG {fuel:Nat}{cs:List (List Int)}{S:List Int}{us:List Bool}{z1:Int}{z2:List Int}(hf:18446744073709551616≤fuel) (hl:cs.length≤1000) (hS:S.length=cs.length) (hu:us.length=cs.length) (hc:∀ c∈cs,c.length≤9600):
    iter (z2T fuel (cs,S) (z1,us,z2)) fuel (-1,0)=some (.inl (argN cs us cs.length)):=by
  obtain⟨o,e1,rfl⟩:=zc (body:=z2T fuel (cs,S) (z1,us,z2)) (fun k st=>st=(argN cs us k,(k:Int))) cs.length (fun o=>o=.inl (argN cs us cs.length)) (by
    rintro k st hk rfl
    obtain⟨u,hu'⟩:=z1r (xs:=us) (i:=k) (by omega)
    obtain⟨c,hc'⟩:=z1r hk
    refine .inl ⟨(argN cs us (k+1),w64 ((k:Int)+1)),?_,by rw [z7 (by omega) (by omega)];rfl⟩
    have j4:∀ b:Bool,z1V fuel (argN cs us k,(k:Int)) b=some (.next (if b=true then(k:Int) else argN cs us k,w64 ((k:Int)+1))):=by
      intro b
      unfold z1V z4a
      dsimp only
      cases b<;>rfl
    unfold z2T
    dsimp only
    rw [if_pos (by simp;omega),z8 hu',Option.bind_some]
    rw [zo8]
    cases u with
    | true=>
      rw [if_neg (by simp),j4,if_neg (by simp),if_neg (by rw [hu'];simp)]
    | false=>
      rw [if_pos (by simp)]
      rcases zmK (cs:=cs) (used:=us) (i:=k) with⟨h1,h2⟩ | ⟨p,h1,h2,h3,h4⟩
      · rw [if_pos (by rw [h1];simp),j4,if_pos rfl,if_pos ⟨hu',.inl (by omega)⟩]
      · obtain⟨cp,hcp⟩:=z1r (xs:=cs) (i:=p) (by omega)
        have hg:cs.getD k []=c:=by rw [List.getD_eq_getElem?_getD,hc'];rfl
        have hgp:cs.getD p []=cp:=by rw [List.getD_eq_getElem?_getD,hcp];rfl
        rw [if_neg (by rw [h1];simp),z8 hc',Option.bind_some,h1,z8 hcp,Option.bind_some,zfZ hf (by have:=hc c (List.mem_of_getElem? hc');omega),Option.bind_some,← h1,j4,h1,Int.toNat_natCast,hg,hgp]
        by_cases hlt:cmpL c cp<0
        · rw [if_pos (by simpa using hlt),if_pos ⟨hu',.inr hlt⟩]
        · rw [if_neg (by simpa using hlt),if_neg (fun h=>(h.2.elim (fun h=>by omega) hlt))]) (by
    rintro st rfl
    refine .inr ⟨_,?_,rfl⟩
    unfold z2T
    dsimp only
    rw [if_neg (by simp;omega)]) (fuel:=fuel) (i:=0) (s:=(-1,0)) (Nat.zero_le _) (by omega) rfl
  exact e1
theorem ziF {fuel:Nat}(hf:18446744073709551616≤fuel) (hN:NetOk A):z6g fuel ⟨A⟩=some (orderN (nxN A) A.length (codeN A)):=by
  have hn:=hN.len
  have h1:=hN.one
  have hpl:=zfR hN
  have hrl:=zhr hN
  have ht0:=zau hN.graph (show(0:Int)≤0 by omega) (by omega)
  have hcons:=zeX (nx:=nxN A) hN.one
  unfold z6g
  rw [zb4 hf hN (by omega) (by omega),Option.bind_some,ziC hf hN,Option.bind_some]
  have hdl:((hdN (nxN A) A.length A.length).drop 1).length≤600:=by unfold restN at hrl;rw [List.length_map] at hrl;exact hrl
  have hlen:(partsN (nxN A) A.length A.length).length=((hdN (nxN A) A.length A.length).drop 1).length+1:=by
    unfold partsN
    rw [List.length_map]
    conv=>lhs;rw [hcons]
    rfl
  have hcode:(restN (nxN A) A.length (codeN A)).map D.traversal.code=((hdN (nxN A) A.length A.length).drop 1).map fun d=>codeN A (bestN (nxN A) A.length (codeN A) d):=by
    unfold restN
    rw [List.map_map];rfl
  obtain⟨o,e1,rfl⟩:=zc (body:=z4c fuel ⟨A⟩ (partsN (nxN A) A.length A.length))
    (fun i st=>st=((i:Int),(((hdN (nxN A) A.length A.length).drop 1).take (i - 1)).map (fun d=>codeN A (bestN (nxN A) A.length (codeN A) d)),(((hdN (nxN A) A.length A.length).drop 1).take (i - 1)).map (bestN (nxN A) A.length (codeN A))))
    (partsN (nxN A) A.length A.length).length
    (fun o=>o=.inl (((hdN (nxN A) A.length A.length).drop 1).map (fun d=>codeN A (bestN (nxN A) A.length (codeN A) d)),((hdN (nxN A) A.length A.length).drop 1).map (bestN (nxN A) A.length (codeN A)))) (by
    rintro i st hi rfl
    have hil:=hi
    unfold partsN at hi
    rw [List.length_map] at hi
    obtain⟨d,hd⟩:=z1r hi
    have hdm:=List.mem_of_getElem? hd
    have hdr:=z7Y hdm
    have hp:(partsN (nxN A) A.length A.length)[i]? = some (partN (nxN A) A.length d):=by unfold partsN;rw [List.getElem?_map,hd];rfl
    have hph:=zdh hN.graph hdm
    have hph':idx (partN (nxN A) A.length d) 0=some d:=z8 (i:=0) hph
    have hcl:=zcL hN hdr.1 hdr.2
    unfold z4c
    dsimp only
    rw [if_pos (by simpa using hil),z8 hp,Option.bind_some,hph',Option.bind_some]
    cases i with
    | zero=>
      rw [hcons] at hd
      cases hd
      refine .inl ⟨_,by rw [if_pos (by simp)];rfl,?_⟩
      dsimp only
      rw [z7 (by omega) (by omega)]
      rfl
    | succ j=>
      have hd2:((hdN (nxN A) A.length A.length).drop 1)[j]? = some d:=by rw [List.getElem?_drop,Nat.add_comm 1 j];exact hd
      have hd0:d≠0:=by
        have:=zc1 (nx:=nxN A) (n:=A.length) (i:=A.length)
        rw [hcons] at this
        have:=(List.pairwise_cons.1 this).1 d (List.mem_of_getElem? hd2)
        omega
      refine .inl ⟨_,by rw [if_neg (by simpa using hd0),Option.bind_some,hph',Option.bind_some,zgy hf hN hdr.1 hdr.2,Option.bind_some,zmH hf hN hdm hp,Option.bind_some,z6];unfold z7u z49;dsimp only;rw [if_pos (by simp;omega),if_pos (by simp;omega)],?_⟩
      rw [z7 (by omega) (by omega),Nat.add_sub_cancel,Nat.add_sub_cancel,List.take_add_one,hd2,List.map_append,List.map_append]
      rfl) (by
    rintro st rfl
    refine .inr ⟨_,?_,rfl⟩
    unfold z4c
    dsimp only
    rw [if_neg (by simp),List.take_of_length_le (by omega)]) (fuel:=fuel) (i:=0) (s:=(0,[],[])) (Nat.zero_le _) (by omega) (by simp)
  rw [e1,Option.bind_some,z6]
  unfold z7x
  dsimp only
  rw [if_pos (by simp only [List.length_map,decide_eq_true_eq];omega)]
  have hSl:(((hdN (nxN A) A.length A.length).drop 1).map (bestN (nxN A) A.length (codeN A))).length=(restN (nxN A) A.length (codeN A)).length:=by unfold restN;simp
  have hcs:((restN (nxN A) A.length (codeN A)).map D.traversal.code).length=(restN (nxN A) A.length (codeN A)).length:=by simp
  rw [← hcode]
  obtain⟨o,e2,us,js,hC,hjl,rfl⟩:=zc (body:=z4b fuel ⟨A⟩ ((restN (nxN A) A.length (codeN A)).map D.traversal.code,((hdN (nxN A) A.length A.length).drop 1).map (bestN (nxN A) A.length (codeN A))))
    (fun t st=>∃ us js,Chosen ((restN (nxN A) A.length (codeN A)).map D.traversal.code) us js∧js.length=t∧st=((t:Int),us,travN (nxN A) A.length 0++js.flatMap fun j=>((restN (nxN A) A.length (codeN A)).getD j d0).list_)∧(js.flatMap fun j=>((restN (nxN A) A.length (codeN A)).getD j d0).list_).length≤600*t)
    (restN (nxN A) A.length (codeN A)).length
    (fun o=>∃ us js,Chosen ((restN (nxN A) A.length (codeN A)).map D.traversal.code) us js∧js.length=(restN (nxN A) A.length (codeN A)).length∧o=.inl (travN (nxN A) A.length 0++js.flatMap fun j=>((restN (nxN A) A.length (codeN A)).getD j d0).list_)) (by
    rintro t st ht ⟨us,js,hC,hjl,rfl,hfl⟩
    obtain⟨p,p1,p2,p3⟩:=hC.more (by rw [hcs];omega)
    rw [hcs] at p2
    have hul:=hC.len
    obtain⟨d,hd⟩:=z1r (xs:=(hdN (nxN A) A.length A.length).drop 1) (i:=p) (by unfold restN at p2;simpa using p2)
    have hdm:=List.mem_of_mem_drop (List.mem_of_getElem? hd)
    have hRp:(restN (nxN A) A.length (codeN A))[p]? = some (traN (nxN A) A.length (codeN A) d):=by unfold restN;rw [List.getElem?_map,hd];rfl
    have hg:(restN (nxN A) A.length (codeN A)).getD p d0=traN (nxN A) A.length (codeN A) d:=by rw [List.getD_eq_getElem?_getD,hRp];rfl
    have hSp:(((hdN (nxN A) A.length A.length).drop 1).map (bestN (nxN A) A.length (codeN A)))[p]? = some (bestN (nxN A) A.length (codeN A) d):=by rw [List.getElem?_map,hd];rfl
    have r:=z7Y hdm
    have rb:=z5X hN.graph r.1 r.2 (zaD (code:=codeN A) hN.graph hdm)
    obtain⟨c1,c2,c3⟩:=za5 hN hdm
    have hlist:(traN (nxN A) A.length (codeN A) d).list_=travN (nxN A) A.length (bestN (nxN A) A.length (codeN A) d):=rfl
    rw [hlist] at c2
    refine .inl ⟨(w64 ((t:Int)+1),us.set p true,travN (nxN A) A.length 0++(js++[p]).flatMap fun j=>((restN (nxN A) A.length (codeN A)).getD j d0).list_),?_,us.set p true,js++[p],p3,by simp [hjl],by rw [z7 (by omega) (by omega)];rfl,?_⟩
    · unfold z4b
      dsimp only
      rw [if_pos (by rw [hSl];simpa using ht),zjG hf (by rw [hcs];omega) (by rw [hSl,hcs]) hul (fun c hc=>by
        obtain⟨x,hx,rfl⟩:=List.mem_map.1 hc
        obtain⟨d',hd',rfl⟩:=zbg hx
        exact(za5 hN hd').1),Option.bind_some,z6,p1]
      unfold z7v
      dsimp only
      rw [if_pos (by rw [hul,hcs];simp;omega),z8 hSp,Option.bind_some,zb4 hf hN rb.1 rb.2,Option.bind_some]
      dsimp only
      rw [if_pos (by rw [List.length_append];simp only [decide_eq_true_eq];omega),List.flatMap_append,List.flatMap_cons,List.flatMap_nil,List.append_nil,hg,hlist,List.append_assoc,Int.toNat_natCast]
    · rw [List.flatMap_append,List.flatMap_cons,List.flatMap_nil,List.append_nil,hg,hlist,List.length_append]
      omega) (by
    rintro st ⟨us,js,hC,hjl,rfl,hfl⟩
    refine .inr ⟨_,?_,us,js,hC,hjl,rfl⟩
    unfold z4b
    dsimp only
    rw [hSl,if_neg (by simp)]) (fuel:=fuel) (i:=0) (s:=(0,List.replicate ((((hdN (nxN A) A.length A.length).drop 1).map (bestN (nxN A) A.length (codeN A))).length:Int).toNat false,travN (nxN A) A.length 0)) (Nat.zero_le _) (by omega) ⟨List.replicate ((restN (nxN A) A.length (codeN A)).map D.traversal.code).length false,[],Chosen.begin,rfl,by rw [hSl,hcs,Int.toNat_natCast];simp,by simp⟩
  rw [e2,Option.bind_some,z6]
  have hdone:=hC.done hjl zej
  have hflat:(js.flatMap fun j=>((restN (nxN A) A.length (codeN A)).getD j d0).list_)=(sortT (restN (nxN A) A.length (codeN A))).flatMap fun t=>t.list_:=by
    rw [← hdone,List.flatMap_map]
  unfold z7w orderN
  rw [hflat]
end
end Go.E


namespace Go.E
open Go.RowKit Go.Proofs Go.Sort
set_option linter.unusedSimpArgs false
set_option linter.unusedVariables false

def renA (l:List Int) (a:D.Agent):D.Agent:=⟨a.Kind,a.Level,a.Value,a.Data,a.Ports.map fun p=>⟨((l.idxOf p.Agent:Nat):Int),p.Slot⟩⟩
def renX (A:List D.Agent) (l:List Int) (x:Int):List D.Agent:=match A[x.toNat]? with
  | some a=>[renA l a]
  | none=>[]
def renN (A:List D.Agent) (l:List Int):List D.Agent:=l.flatMap (renX A l)
theorem zjs {A:List D.Agent}{l:List Int}{x:Int}{a:D.Agent}(h:A[x.toNat]? = some a):renX A l x=[renA l a]:=by unfold renX;rw [h]
theorem setLoop {α ρ:Type}{xs:List α}{f:α→α}{body:Int × List α→Option (Rd (Int × List α) (List α) ρ)}{fuel:Nat}(hl:xs.length≤1048576) (hf:18446744073709551616≤fuel)
    (step:∀ (i:Nat) x ys,i<xs.length→ys.length=xs.length→ys[i]? = some x→xs[i]? = some x→body ((i:Int),ys)=some (.next (w64 (i+1),ys.set i (f x))))
    (last:∀ ys,ys.length=xs.length→body ((xs.length:Int),ys)=some (.brk ys)):iter body fuel (0,xs)=some (.inl (xs.map f)):=by
  obtain⟨o,e1,rfl⟩:=zc (body:=body) (fun i st=>st=((i:Int),(xs.take i).map f++xs.drop i)) xs.length (fun o=>o=.inl (xs.map f)) (by
    rintro i st hi rfl
    obtain⟨x,hx⟩:=z1r hi
    have htl:((xs.take i).map f).length=i:=by simp;omega
    have hlt:=(List.getElem?_eq_some_iff.1 hx)
    have hd:xs.drop i=x::xs.drop (i+1):=by rw [List.drop_eq_getElem_cons hi,hlt.2]
    refine .inl ⟨_,step i x _ hi (by simp;omega) (by rw [List.getElem?_append_right (by omega),htl,Nat.sub_self,hd];rfl) hx,?_⟩
    rw [z7 (by omega) (by omega),List.set_append_right _ _ (by omega),htl,Nat.sub_self,hd,List.set_cons_zero,List.take_add_one,hx,List.map_append,List.append_assoc]
    rfl) (by
    rintro st rfl
    rw [List.drop_length,List.take_length,List.append_nil]
    exact .inr ⟨_,last _ (by simp),rfl⟩) (fuel:=fuel) (i:=0) (s:=(0,xs)) (Nat.zero_le _) (by omega) (by simp)
  exact e1
structure Full (A:List D.Agent) (l:List Int):Prop where
  nodup:l.Nodup
  mem:∀ x,x∈l↔0≤x∧x<A.length
  len:l.length=A.length
theorem zbT {A:List D.Agent}(hN:NetOk A):Full A (orderN (nxN A) A.length (codeN A)):=
  ⟨zdi hN.graph hN.one,fun x=>zfS hN.graph hN.one,zjz hN.graph hN.one⟩
theorem zop {fuel:Nat}{l:List Int}{n:Nat}(hf:18446744073709551616≤fuel) (hn:l.Nodup) (hl:l.length≤100000) (hr:∀ x∈l,0≤x∧x<l.length):
    ∃ N:List Int,iter (z1P fuel l) fuel (0,l)=some (.inl N)∧N.length=l.length∧∀ x∈l,N[x.toNat]? = some ((l.idxOf x:Nat):Int):=by
  obtain⟨o,e1,N,rfl,h2,h3⟩:=zc (body:=z1P fuel l) (fun k st=>∃ N:List Int,st=((k:Int),N)∧N.length=l.length∧∀ x∈l.take k,N[x.toNat]? = some ((l.idxOf x:Nat):Int)) l.length
    (fun o=>∃ N:List Int,o=.inl N∧N.length=l.length∧∀ x∈l,N[x.toNat]? = some ((l.idxOf x:Nat):Int)) (by
    rintro k st hk ⟨N,rfl,hNl,hNx⟩
    obtain⟨x,hx⟩:=z1r hk
    have hxr:=hr x (List.mem_of_getElem? hx)
    have hi:l.idxOf x=k:=by
      obtain⟨h1,rfl⟩:=List.getElem?_eq_some_iff.1 hx
      exact hn.idxOf_getElem k h1
    refine .inl ⟨(w64 ((k:Int)+1),N.set x.toNat (k:Int)),?_,N.set x.toNat (k:Int),by rw [z7 (by omega) (by omega)];rfl,by simp [hNl],fun y hy=>?_⟩
    · unfold z1P
      dsimp only
      rw [if_pos (by simpa using hk),z8 hx,Option.bind_some,if_pos (by simp only [decide_eq_true_eq];omega)]
    · by_cases hxy:x.toNat=y.toNat
      · rw [hxy,List.getElem?_set_self (by rw [hNl];omega)]
        have hyr:0≤y:=by
          rw [List.take_add_one,hx] at hy
          rcases List.mem_append.1 hy with hy | hy
          · exact(hr y (List.mem_of_mem_take hy)).1
          · simp at hy;omega
        obtain rfl:x=y:=by omega
        rw [hi]
      · rw [List.getElem?_set_ne hxy]
        rw [List.take_add_one,hx] at hy
        rcases List.mem_append.1 hy with hy | hy
        · exact hNx y hy
        · simp at hy;subst hy;exact absurd rfl hxy) (by
    rintro st ⟨N,rfl,hNl,hNx⟩
    rw [List.take_length] at hNx
    refine .inr ⟨N,?_,N,rfl,hNl,hNx⟩
    unfold z1P
    rw [if_neg (by simp)]) (fuel:=fuel) (i:=0) (s:=(0,l)) (Nat.zero_le _) (by omega) ⟨l,rfl,rfl,fun x hx=>by simp at hx⟩
  exact⟨N,e1,h2,h3⟩
theorem zgY {A:List D.Agent}{l:List Int}{x:Int}:(renX A l x).length≤1:=by unfold renX;split<;>simp
theorem zn1 {fuel:Nat}{A:List D.Agent}{l:List Int}(hf:18446744073709551616≤fuel) (hN:NetOk A) (hF:Full A l):z4e fuel ⟨A⟩ l=some ⟨renN A l⟩:=by
  have hn:=hN.len
  have hlen:=hF.len
  unfold z4e z2t
  rw [if_pos (by simp;omega),Option.bind_some,List.nil_append]
  obtain⟨N,e1,h2,h3⟩:=zop (n:=A.length) hf hF.nodup (by omega) (fun x hx=>by have:=(hF.mem x).1 hx;omega)
  rw [e1,Option.bind_some,z6]
  unfold z6i
  have h:=appdLoop (xs:=l) (body:=z2D fuel ⟨A⟩ l N) (mk:=fun k st=>(k,st)) (out:=fun st=>st) (g:=renX A l) (s0:=[]) (b:=1) (fuel:=fuel) (by omega) hf (fun x _=>zgY) (by
    intro k x st hx hst
    have hkl:=(List.getElem?_eq_some_iff.1 hx).1
    have hr:=(hF.mem x).1 (List.mem_of_getElem? hx)
    obtain⟨a,a1,a2⟩:=zc0 (xs:=A) hr.1 hr.2
    have am:=List.mem_of_getElem? a1
    have hpl:=hN.ports a am
    have hdl:=hN.data a am
    simp only [List.length_nil,Nat.zero_add] at hst
    unfold z2D z5Y z2t
    dsimp only
    rw [if_pos (by simpa using hkl),z8 hx,Option.bind_some,a2,Option.bind_some,if_pos (by simp;omega),Option.bind_some,if_pos (by simp;omega),Option.bind_some]
    unfold z4d
    dsimp only
    rw [List.nil_append,List.nil_append]
    have hi:=setLoop (xs:=a.Ports) (f:=fun p=>⟨((l.idxOf p.Agent:Nat):Int),p.Slot⟩) (body:=z2C fuel N (a.Kind,a.Level,a.Value,a.Data,a.Ports)) (fuel:=fuel) (by omega) hf (by
      intro i p ys hil hyl hy hp
      have hpr:=zep hN hr.1 hr.2 a1 (List.mem_of_getElem? hp)
      have hpa:=h3 p.Agent ((hF.mem _).2 hpr)
      unfold z2C
      dsimp only
      rw [if_pos (by simpa using hil),z8 hy,Option.bind_some,zjV hpr.1 hpa,Option.bind_some,Option.bind_some,Int.toNat_natCast]) (by
      intro ys hyl
      unfold z2C
      dsimp only
      rw [if_neg (by simp)])
    rw [hi,Option.bind_some,z6]
    unfold z6h
    dsimp only
    rw [if_pos (by simp;omega),zjs a1]
    rfl) (by
    intro st
    unfold z2D
    rw [if_neg (by simp)])
  try dsimp only at h
  rw [h,Option.bind_some,z6]
  rfl
theorem zn2 {fuel:Nat}{A:List D.Agent}{l:List Int}(hf:18446744073709551616≤fuel) (hN:NetOk A) (hF:Full A l):z3R fuel ⟨A⟩ l=some ⟨renN A l⟩:=by
  have hn:=hN.len
  have hlen:=hF.len
  unfold z3R
  obtain⟨M,e1,hM⟩:=zfQ (τ:=Unit) (body:=z5W fuel l) hf hF.nodup (by omega) (fun k M=>rfl)
  rw [e1,Option.bind_some,z6]
  unfold z5V
  have h:=appdLoop (xs:=l) (body:=z2k fuel ⟨A⟩ l M) (mk:=fun k st=>(k,st)) (out:=fun st=>st) (g:=renX A l) (s0:=[]) (b:=1) (fuel:=fuel) (by omega) hf (fun x _=>zgY) (by
    intro k x st hx hst
    have hkl:=(List.getElem?_eq_some_iff.1 hx).1
    have hr:=(hF.mem x).1 (List.mem_of_getElem? hx)
    obtain⟨a,a1,a2⟩:=zc0 (xs:=A) hr.1 hr.2
    have am:=List.mem_of_getElem? a1
    have hpl:=hN.ports a am
    have hdl:=hN.data a am
    simp only [List.length_nil,Nat.zero_add] at hst
    unfold z2k z73 zV z14
    dsimp only
    rw [if_pos (by simpa using hkl),z8 hx,Option.bind_some,a2,Option.bind_some,if_pos (by simp;omega),Option.bind_some,if_pos (by simp;omega),Option.bind_some,Option.bind_some]
    dsimp only
    rw [List.nil_append,List.nil_append]
    have hi:=setLoop (xs:=a.Ports) (f:=fun p=>⟨((l.idxOf p.Agent:Nat):Int),p.Slot⟩) (body:=z2j fuel M ⟨a.Kind,a.Level,a.Value,a.Data,a.Ports⟩) (fuel:=fuel) (by omega) hf (by
      intro i p ys hil hyl hy hp
      have hpr:=zep hN hr.1 hr.2 a1 (List.mem_of_getElem? hp)
      have hin:=(hF.mem _).2 hpr
      unfold z2j
      dsimp only
      rw [if_pos (by simpa using hil),z8 hy,Option.bind_some,Option.bind_some,zfP hM hin,Int.toNat_natCast]) (by
      intro ys hyl
      unfold z2j
      dsimp only
      rw [if_neg (by simp)])
    rw [hi,Option.bind_some,z6]
    unfold z5U
    dsimp only
    rw [if_pos (by simp;omega),zjs a1]
    rfl) (by
    intro st
    unfold z2k
    rw [if_neg (by simp)])
  try dsimp only at h
  rw [h,Option.bind_some,z6]
  rfl

def canN (A:List D.Agent):List D.Agent:=renN A (orderN (nxN A) A.length (codeN A))
theorem zo4 {fuel:Nat}{A:List D.Agent}(hf:18446744073709551616≤fuel) (hN:NetOk A):z7y fuel ⟨A⟩=some ⟨canN A⟩:=by
  unfold z7y
  rw [ziF hf hN,Option.bind_some,zn1 hf hN (zbT hN),Option.bind_some]
  rfl
theorem zo5 {fuel:Nat}{A:List D.Agent}(hf:18446744073709551616≤fuel) (hN:NetOk A):z5J fuel ⟨A⟩=some ⟨canN A⟩:=by
  unfold z5J
  rw [ziG hf hN,Option.bind_some,zn2 hf hN (zbT hN),Option.bind_some]
  rfl
end Go.E


namespace Go.E
open Go.RowKit Go.Proofs
set_option linter.unusedSimpArgs false
set_option linter.unusedVariables false

theorem zh0 {s:D.Shard}(h:s.Redexes.length≤400) (i:Nat) (hi:i≤s.Redexes.length):(fl redK s.Redexes i).length≤2*i:=z8i (b:=2) (fun _ _ _=>by simp [redK]) i hi
theorem zhD {s:D.Shard}{m:Nat}(i:Nat) (hi:i≤s.Vars.length):(fl (fullK m) s.Vars i).length≤2*i:=z8i (b:=2) (fun _ _ _=>by unfold fullK;split<;>simp) i hi
theorem zdO {s:D.Shard}{m:Nat}(h:∀ c,c∈s.Cells→c.Aux.length≤3) (i:Nat) (hi:i≤s.Cells.length):(fl (cellS 1 m) s.Cells i).length≤6*i:=z8i (b:=6) (fun j c hc=>zo2 (h c (List.mem_of_getElem? hc))) i hi

abbrev Tup (M:D.l27Links):List D.Agent × List D.Port × List (List Int) × List (List Int) × List (List Int) × List (List Int):=(M.agents,M.ports,M.cells,M.vars,M.ends,M.pairs)
section
variable {fuel:Nat}{g:D.Grid}{more:List D.ShardCell}{L:D.l27Links}{at_:List Int}
theorem zmD {M0:D.l27Links}{ks:List Key}{m:Nat}{s:D.Shard}{z:List D.Agent × List D.Port × List (List Int) × List (List Int) × List (List Int) × List (List Int)}(hf:18446744073709551616≤fuel) (hs:g.sz≤1048576) (hS:Small g) (hI:Items g more L at_) (hR:Run g more L M0 ks) (hm:g.Shards[m]? = some s) (hks:ks.length≤500000):
    ((s.Cells.all fun c=>c.Aux.all (aliveN g))=true∧∃ t,iter (z1g fuel g ((m:Int),z) s) fuel (0,Tup M0)=some (.inl t)∧∃ M,t=Tup M∧Run g more L M (ks++fl (cellS 1 m) s.Cells s.Cells.length))∨
    ((s.Cells.all fun c=>c.Aux.all (aliveN g))=false∧∃ r,iter (z1g fuel g ((m:Int),z) s) fuel (0,Tup M0)=some (.inr r)∧∃ M,r=.ret (false,M)):=by
  obtain⟨a1,a2,a3,a4,a5⟩:=hS.s s (List.mem_of_getElem? hm)
  have hml:=(List.getElem?_eq_some_iff.1 hm).1
  have hn:=hS.n
  have h:=tryLoop (xs:=s.Cells) (body:=z1g fuel g ((m:Int),z) s) (fuel:=fuel)
    (fun i st=>∃ M:D.l27Links,st=((i:Int),Tup M)∧Run g more L M (ks++fl (cellS 1 m) s.Cells i))
    (fun _ c=>c.Aux.all (aliveN g))
    (fun t=>∃ M,t=Tup M∧Run g more L M (ks++fl (cellS 1 m) s.Cells s.Cells.length))
    (fun r=>∃ M,r=.ret (false,M)) (s0:=(0,Tup M0)) (by omega) hf (by
    rintro i c _ hc ⟨M,rfl,hM⟩
    have hil:=(List.getElem?_eq_some_iff.1 hc).1
    obtain⟨c1,c2,c3⟩:=a4 c (List.mem_of_getElem? hc)
    have hfl:=zdO (m:=m) (fun c hc=>(a4 c hc).2.1) i (by omega)
    obtain⟨row,r1,r2⟩:=hI.cell m i s c hm hc
    have hp:=zbh hS m (by omega)
    have hr:=zbQ (t:=1) (m:=m) (fun c hc=>(a4 c hc).2.1) i (by omega)
    obtain⟨M',e1,e2⟩:=zoy (fuel:=fuel) (t:=1) (m:=m) (i:=i) (b:=(portK (g.Shards.take m)).length+(rowK 1 m (s.Cells.take i)).length) hf hs hI hM c2 (by rw [List.length_append];omega) (by omega) (fun k hk=>by
      have k0:c.Kind≠0:=fun h0=>by
        unfold shCellN at c3
        rw [if_pos h0,decide_eq_true_eq] at c3
        rw [c3.2.2.2] at hk
        exact absurd hk (Nat.not_lt_zero _)
      exact zi3 hm hc k0 hk)
    have e1':z1c fuel ⟨M.agents,M.ports,M.cells,M.vars,M.ends,M.pairs⟩ g c (((portK (g.Shards.take m)).length+(rowK 1 m (s.Cells.take i)).length:Nat):Int)=some (c.Aux.all (aliveN g),M'):=e1
    unfold z1g
    dsimp only
    rw [if_pos (by simpa using hil),z8 hc,Option.bind_some,hM.cells,z8 r1,Option.bind_some,z8 r2,Option.bind_some,← hM.cells,e1',Option.bind_some]
    constructor
    · intro hal
      rw [hal,if_neg (by simp)]
      exact⟨(w64 (i+1),Tup M'),rfl,M',by rw [z7 (by omega) (by omega)];rfl,by rw [z81 hc,← List.append_assoc];exact e2 hal⟩
    · intro hal
      rw [hal,if_pos (by simp)]
      exact⟨_,rfl,_,rfl⟩) (by
    rintro _ ⟨M,rfl,hM⟩
    refine⟨_,?_,M,rfl,hM⟩
    unfold z1g
    rw [if_neg (by simp)]) ⟨M0,rfl,by rw [z8o,List.append_nil];exact hR⟩
  rw [z9o (p:=fun c:D.ShardCell=>c.Aux.all (aliveN g))] at h
  exact h
theorem zn3 {M0:D.l27Links}{ks:List Key}{s:D.Shard}(hf:18446744073709551616≤fuel) (hs:g.sz≤1048576) (hI:Items g more L at_) (hR:Run g more L M0 ks) (hz:s.Redexes.length≤400) (hks:ks.length≤500000):
    ((s.Redexes.all fun r=>aliveN g r.A && aliveN g r.B)=true∧∃ t,iter (z1f fuel g s) fuel (0,Tup M0)=some (.inl t)∧∃ M,t=Tup M∧Run g more L M (ks++fl redK s.Redexes s.Redexes.length))∨
    ((s.Redexes.all fun r=>aliveN g r.A && aliveN g r.B)=false∧∃ r,iter (z1f fuel g s) fuel (0,Tup M0)=some (.inr r)∧∃ M,r=.ret (false,M)):=by
  have h:=tryLoop (xs:=s.Redexes) (body:=z1f fuel g s) (fuel:=fuel)
    (fun i st=>∃ M:D.l27Links,st=((i:Int),Tup M)∧Run g more L M (ks++fl redK s.Redexes i))
    (fun _ r=>aliveN g r.A && aliveN g r.B)
    (fun t=>∃ M,t=Tup M∧Run g more L M (ks++fl redK s.Redexes s.Redexes.length))
    (fun r=>∃ M,r=.ret (false,M)) (s0:=(0,Tup M0)) (by omega) hf (by
    rintro i c _ hc ⟨M,rfl,hM⟩
    have hil:=(List.getElem?_eq_some_iff.1 hc).1
    have hfl:=zh0 hz i (by omega)
    obtain⟨M',e1,e2⟩:=zhx (fuel:=fuel) (a:=c.A) (b:=c.B) hs hI hM (by rw [List.length_append];omega)
    have e1':zu fuel ⟨M.agents,M.ports,M.cells,M.vars,M.ends,M.pairs⟩ g c.A c.B=some (aliveN g c.A && aliveN g c.B,M'):=e1
    unfold z1f
    dsimp only
    rw [if_pos (by simpa using hil),z8 hc,Option.bind_some,Option.bind_some,e1',Option.bind_some]
    constructor
    · intro hal
      rw [hal,if_neg (by simp)]
      exact⟨(w64 (i+1),Tup M'),rfl,M',by rw [z7 (by omega) (by omega)];rfl,by rw [z81 hc,← List.append_assoc];exact e2 hal⟩
    · intro hal
      rw [hal,if_pos (by simp)]
      exact⟨_,rfl,_,rfl⟩) (by
    rintro _ ⟨M,rfl,hM⟩
    refine⟨_,?_,M,rfl,hM⟩
    unfold z1f
    rw [if_neg (by simp)]) ⟨M0,rfl,by rw [z8o,List.append_nil];exact hR⟩
  rw [z9o (p:=fun r:D.ShardRedex=>aliveN g r.A && aliveN g r.B)] at h
  exact h
theorem zmQ {M0:D.l27Links}{ks:List Key}{m:Nat}{s:D.Shard}{z:List D.Agent × List D.Port × List (List Int) × List (List Int) × List (List Int) × List (List Int)}(hf:18446744073709551616≤fuel) (hs:g.sz≤1048576) (hI:Items g more L at_) (hR:Run g more L M0 ks) (hz:s.Vars.length≤400) (hks:ks.length≤500000):
    ((s.Vars.zipIdx.all fun x=>fullA g m x.2 x.1)=true∧∃ t,iter (z1e fuel g ((m:Int),z) s) fuel (0,Tup M0)=some (.inl t)∧∃ M,t=Tup M∧Run g more L M (ks++fl (fullK m) s.Vars s.Vars.length))∨
    ((s.Vars.zipIdx.all fun x=>fullA g m x.2 x.1)=false∧∃ r,iter (z1e fuel g ((m:Int),z) s) fuel (0,Tup M0)=some (.inr r)∧∃ M,r=.ret (false,M)):=by
  exact tryLoop (xs:=s.Vars) (body:=z1e fuel g ((m:Int),z) s) (fuel:=fuel)
    (fun i st=>∃ M:D.l27Links,st=((i:Int),Tup M)∧Run g more L M (ks++fl (fullK m) s.Vars i))
    (fun i v=>fullA g m i v)
    (fun t=>∃ M,t=Tup M∧Run g more L M (ks++fl (fullK m) s.Vars s.Vars.length))
    (fun r=>∃ M,r=.ret (false,M)) (s0:=(0,Tup M0)) (by omega) hf (by
    rintro i c _ hc ⟨M,rfl,hM⟩
    have hil:=(List.getElem?_eq_some_iff.1 hc).1
    have hfl:=zhD (m:=m) i (by omega:i≤s.Vars.length)
    obtain⟨M',e1,e2⟩:=zhx (fuel:=fuel) (a:=⟨(m:Int),2,(i:Int)⟩) (b:=c.Held) hs hI hM (by rw [List.length_append];omega)
    have e1':zu fuel ⟨M.agents,M.ports,M.cells,M.vars,M.ends,M.pairs⟩ g ⟨(m:Int),2,(i:Int)⟩ c.Held=some (aliveN g ⟨(m:Int),2,(i:Int)⟩ && aliveN g c.Held,M'):=e1
    unfold z1e
    dsimp only
    rw [if_pos (by simpa using hil),z8 hc,Option.bind_some]
    unfold fullA
    cases hF:c.Full with
    | false=>
      rw [if_neg (by simp)]
      refine⟨fun _=>⟨(w64 (i+1),Tup M),?_,M,by rw [z7 (by omega) (by omega)];rfl,?_⟩,fun h=>by cases h⟩
      · unfold z29;rfl
      · rw [z81 hc];unfold fullK;rw [hF,if_neg (by simp),List.append_nil];exact hM
    | true=>
      rw [if_pos rfl,Option.bind_some,e1',Option.bind_some]
      unfold z29
      rw [Bool.not_true,Bool.false_or]
      constructor
      · intro hal
        rw [hal]
        refine⟨(w64 (i+1),Tup M'),rfl,M',by rw [z7 (by omega) (by omega)];rfl,?_⟩
        rw [z81 hc,← List.append_assoc]
        have h9:=e2 hal
        unfold fullK
        rw [hF,if_pos rfl]
        have:keyA ⟨(m:Int),2,(i:Int)⟩=(2,m,i,0):=by unfold keyA;simp
        rw [this] at h9
        exact h9
      · intro hal
        rw [hal]
        exact⟨_,rfl,_,rfl⟩) (by
    rintro _ ⟨M,rfl,hM⟩
    refine⟨_,?_,M,rfl,hM⟩
    unfold z1e
    rw [if_neg (by simp)]) ⟨M0,rfl,by rw [z8o,List.append_nil];exact hR⟩
theorem zfD {m:Nat}{s:D.Shard}(hS:Small g) (hm:g.Shards[m]? = some s):(shardS m s).length≤4000:=by
  obtain⟨a1,a2,a3,a4,a5⟩:=hS.s s (List.mem_of_getElem? hm)
  unfold shardS
  rw [List.length_append,List.length_append]
  have:=zdO (m:=m) (fun c hc=>(a4 c hc).2.1) s.Cells.length (Nat.le_refl _)
  have:=zh0 a3 s.Redexes.length (Nat.le_refl _)
  have:=zhD (m:=m) s.Vars.length (Nat.le_refl _)
  omega
theorem zj2 (hI:Items g more L at_):Run g more L L [] where
  ports:=rfl
  cells:=rfl
  vars:=rfl
  ends:=by
    rw [hI.ends]
    refine⟨by simp,fun x key hx=>⟨[],?_,rfl⟩⟩
    have:=(List.getElem?_eq_some_iff.1 hx).1
    rw [List.getElem?_replicate,if_pos this]
  pairs:=by rw [hI.pairs];exact Nat.le_refl _
  agents:=rfl
  endsX:=by
    rw [hI.ends]
    intro x key hx
    have:=(List.getElem?_eq_some_iff.1 hx).1
    rw [List.getElem?_replicate,if_pos this]
    rfl
  pairsX:=by
    rw [hI.pairs]
    exact⟨rfl,fun i hi=>absurd hi (Nat.not_lt_zero _)⟩
theorem zmM (hf:18446744073709551616≤fuel) (hs:g.sz≤1048576) (hS:Small g) (hI:Items g more L at_):
    ∃ L',z42 fuel g L=some (gridA g,L')∧(gridA g=true→Run g more L L' (gridS g)):=by
  have hn:=hS.n
  unfold z42 gridA
  rw [zaE hs,Option.bind_some]
  cases hr:aliveN g g.Root with
  | false=>exact⟨L,rfl,fun h=>by cases h⟩
  | true=>
    obtain⟨x,x1,x2⟩:=zcG (fuel:=fuel) (L':=L) hI rfl rfl hr
    obtain⟨M0,e1,e2⟩:=zd2 (fuel:=fuel) (x:=0) (k1:=(0,0,0,0)) (zj2 hI) (by unfold allK portK;rfl) x2 (Nat.zero_le _)
    rw [if_neg (by simp),x1,Option.bind_some]
    have e1':zD fuel L 0 (x:Int)=some M0:=e1
    rw [e1',Option.bind_some,Bool.true_and]
    have h:=tryLoop (xs:=g.Shards) (body:=z2a fuel g) (fuel:=fuel)
      (fun m st=>∃ M:D.l27Links,st=((m:Int),Tup M)∧Run g more L M (rootS g++fl shardS g.Shards m))
      (fun m s=>shardA g m s)
      (fun t=>∃ M,t=Tup M∧Run g more L M (gridS g))
      (fun r=>∃ M,r=(false,M)) (s0:=(0,Tup M0)) (by omega) hf (by
      rintro m s _ hm ⟨M,rfl,hM⟩
      have hml:=(List.getElem?_eq_some_iff.1 hm).1
      obtain⟨a1,a2,a3,a4,a5⟩:=hS.s s (List.mem_of_getElem? hm)
      have hfl:=z8i (f:=shardS) (xs:=g.Shards) (b:=4000) (fun j c hc=>zfD hS hc) m (by omega)
      have o:(rootS g++fl shardS g.Shards m).length≤100000:=by rw [List.length_append];unfold rootS;simp only [List.length_cons,List.length_nil];omega
      have hfc:=zdO (m:=m) (fun c hc=>(a4 c hc).2.1) s.Cells.length (Nat.le_refl _)
      have hfr:=zh0 a3 s.Redexes.length (Nat.le_refl _)
      unfold z2a
      dsimp only
      rw [if_pos (by simpa using hml),z8 hm,Option.bind_some]
      unfold shardA
      rcases zmD (z:=Tup M) hf hs hS hI hM hm (by omega) with⟨c1,t,c2,M1,rfl,c3⟩ | ⟨c1,r,c2,M1,rfl⟩
      · have c2':iter (z1g fuel g ((m:Int),M.agents,M.ports,M.cells,M.vars,M.ends,M.pairs) s) fuel (0,M.agents,M.ports,M.cells,M.vars,M.ends,M.pairs)=_:=c2
        rw [c1,Bool.true_and,c2',Option.bind_some,z6]
        unfold z72
        dsimp only
        rcases zn3 (s:=s) hf hs hI c3 a3 (by rw [List.length_append];omega) with⟨d1,t,d2,M2,rfl,d3⟩ | ⟨d1,r,d2,M2,rfl⟩
        · have d2':iter (z1f fuel g s) fuel (0,M1.agents,M1.ports,M1.cells,M1.vars,M1.ends,M1.pairs)=_:=d2
          rw [d1,Bool.true_and,d2',Option.bind_some,z6]
          unfold z71
          dsimp only
          rcases zmQ (m:=m) (s:=s) (z:=Tup M) hf hs hI d3 a2 (by rw [List.length_append,List.length_append];omega) with⟨f1,t,f2,M3,rfl,f3⟩ | ⟨f1,r,f2,M3,rfl⟩
          · have f2':iter (z1e fuel g ((m:Int),M.agents,M.ports,M.cells,M.vars,M.ends,M.pairs) s) fuel (0,M2.agents,M2.ports,M2.cells,M2.vars,M2.ends,M2.pairs)=_:=f2
            rw [f1,f2',Option.bind_some,z6]
            refine⟨fun _=>⟨(w64 (m+1),Tup M3),rfl,M3,by rw [z7 (by omega) (by omega)];rfl,?_⟩,fun h=>by cases h⟩
            rw [z81 hm]
            unfold shardS
            simp only [List.append_assoc] at f3 ⊢
            exact f3
          · have f2':iter (z1e fuel g ((m:Int),M.agents,M.ports,M.cells,M.vars,M.ends,M.pairs) s) fuel (0,M2.agents,M2.ports,M2.cells,M2.vars,M2.ends,M2.pairs)=_:=f2
            rw [f1,f2',Option.bind_some]
            exact⟨fun h=>(by cases h),fun _=>⟨_,rfl,_,rfl⟩⟩
        · have d2':iter (z1f fuel g s) fuel (0,M1.agents,M1.ports,M1.cells,M1.vars,M1.ends,M1.pairs)=_:=d2
          rw [d1,d2',Option.bind_some]
          exact⟨fun h=>(by cases h),fun _=>⟨_,rfl,_,rfl⟩⟩
      · have c2':iter (z1g fuel g ((m:Int),M.agents,M.ports,M.cells,M.vars,M.ends,M.pairs) s) fuel (0,M.agents,M.ports,M.cells,M.vars,M.ends,M.pairs)=_:=c2
        rw [c1,c2',Option.bind_some]
        exact⟨fun h=>(by cases h),fun _=>⟨_,rfl,_,rfl⟩⟩) (by
      rintro _ ⟨M,rfl,hM⟩
      refine⟨_,?_,M,rfl,hM⟩
      unfold z2a
      rw [if_neg (by simp)]) ⟨M0,rfl,by rw [z8o,List.append_nil];exact e2⟩
    rcases h with⟨h1,t,h2,M,rfl,h3⟩ | ⟨h1,r,h2,M,rfl⟩
    · have h2':iter (z2a fuel g) fuel (0,M0.agents,M0.ports,M0.cells,M0.vars,M0.ends,M0.pairs)=_:=h2
      rw [h2',Option.bind_some,z6,h1]
      exact⟨M,rfl,fun _=>h3⟩
    · have h2':iter (z2a fuel g) fuel (0,M0.agents,M0.ports,M0.cells,M0.vars,M0.ends,M0.pairs)=_:=h2
      rw [h2',Option.bind_some,h1]
      exact⟨M,rfl,fun h=>by cases h⟩
def varC (S:List Key) (m:Nat) (s:D.Shard):Bool:=s.Vars.zipIdx.all fun y=>!y.1.Used || decide (S.count (2,m,y.2,0)=2)
def countsN (g:D.Grid) (more:List D.ShardCell) (S:List Key):Bool:=((portK g.Shards++rowK 3 0 more).all fun k=>decide (S.count k=1)) && g.Shards.zipIdx.all fun x=>varC S x.2 x.1
theorem ziZ {M:D.l27Links}{S:List Key}(hf:18446744073709551616≤fuel) (hs:g.sz≤1048576) (hI:Items g more L at_) (hR:Run g more L M S) (hp:L.ports.length≤1048576):z3Y fuel g M=some (countsN g more S):=by
  have hm:maxLen=9223372036854775807:=rfl
  obtain⟨z1,z2⟩:=zc2 hs
  have hpl:M.ports.length=(portK g.Shards++rowK 3 0 more).length:=by rw [hR.ports];exact hI.ports
  unfold z3Y
  have hP:=allLoop (xs:=portK g.Shards++rowK 3 0 more) (body:=z3E fuel M) (p:=fun _ k=>decide (S.count k=1)) (t:=()) (v:=false) (fuel:=fuel) (by rw [← hpl,hR.ports];omega) hf (fun i k hi hx=>by
    obtain⟨e,e1,e2⟩:=hR.ends.2 i k (by unfold allK;rw [List.getElem?_append_left hi];exact hx)
    unfold z3E
    rw [if_pos (by simp only [decide_eq_true_eq];omega),z8 e1,Option.bind_some,e2]
    by_cases h:S.count k=1
    · rw [if_neg (by simp [h]),if_pos (decide_eq_true h)]
    · rw [if_pos (by simp only [bne_iff_ne,ne_eq];omega),if_neg (by simpa using h)]) (by unfold z3E;rw [← hpl,if_neg (by simp)])
  rw [z9o (p:=fun k=>decide (S.count k=1))] at hP
  rw [hP,Option.bind_some]
  unfold countsN
  cases ((portK g.Shards++rowK 3 0 more).all fun k=>decide (S.count k=1)) with
  | false=>rfl
  | true=>
    rw [if_pos rfl,z6,Bool.true_and]
    unfold z79
    have hG:=allLoop (xs:=g.Shards) (body:=z3D fuel g M) (p:=fun m s=>varC S m s) (t:=()) (v:=false) (fuel:=fuel) (by omega) hf (fun m s hi hx=>by
      obtain⟨y1,y2,y3,y4⟩:=zaw (z2 s (List.mem_of_getElem? hx))
      unfold z3D
      rw [if_pos (by simpa using hi)]
      have hV:=allLoop (xs:=s.Vars) (body:=z3C fuel g M (m:Int)) (p:=fun i v=>!v.Used || decide (S.count (2,m,i,0)=2)) (t:=()) (v:=Rd.ret false) (fuel:=fuel) (by omega) hf (fun i v hj hv=>by
        obtain⟨row,r1,r2⟩:=hI.var m i s hx hj
        obtain⟨e,e1,e2⟩:=hR.ends.2 _ _ (zmL hx hj)
        unfold z3C
        rw [z8 hx,Option.bind_some,if_pos (by simpa using hj),Option.bind_some,z8 hv,Option.bind_some]
        unfold z3B
        cases v.Used with
        | false=>rfl
        | true=>
          rw [if_pos rfl,hR.vars,z8 r1,Option.bind_some,z8 r2,Option.bind_some,z8 e1,Option.bind_some,e2]
          by_cases h:S.count (2,m,i,0)=2
          · rw [if_neg (by simp [h]),if_pos (by simp [h])]
          · rw [if_pos (by simp only [bne_iff_ne,ne_eq];omega),if_neg (by simpa using h)]) (by unfold z3C;rw [z8 hx,Option.bind_some,if_neg (by simp)])
      rw [hV,Option.bind_some]
      unfold varC
      cases (s.Vars.zipIdx.all fun y=>!y.1.Used || decide (S.count (2,m,y.2,0)=2))<;>rfl) (by unfold z3D;rw [if_neg (by simp)])
    rw [hG,Option.bind_some]
    cases (g.Shards.zipIdx.all fun x=>varC S x.2 x.1)<;>rfl
end
theorem znp {fuel:Nat}{g:D.Grid}(hf:18446744073709551616≤fuel) (hs:g.sz≤1048576):z8b fuel g=some (piecesN g && (gridA g && countsN g [] (gridS g))):=by
  unfold z8b
  rw [zh1 hf hs,Option.bind_some]
  cases hp:piecesN g with
  | false=>rfl
  | true=>
    have hS:=zeH hs hp
    obtain⟨L,at_,b1,hI⟩:=zgA (more:=[]) hf hS ⟨by simp,fun c hc=>by cases hc⟩
    obtain⟨L',c1,c2⟩:=zmM hf hs hS hI
    have hn:=hS.n
    have hpl:L.ports.length≤1048576:=by
      rw [hI.ports]
      have h:=zbh hS g.Shards.length (Nat.le_refl _)
      rw [List.take_length] at h
      rw [List.length_append]
      have:(rowK 3 0 []).length=0:=rfl
      omega
    rw [if_neg (by simp),b1,Option.bind_some]
    dsimp only
    rw [c1,Option.bind_some]
    dsimp only
    cases hA:gridA g with
    | false=>rfl
    | true=>
      rw [if_pos rfl]
      have:=ziZ hf hs hI (c2 hA) hpl
      have t':z3Y fuel g ⟨L'.agents,L'.ports,L'.cells,L'.vars,L'.ends,L'.pairs⟩=_:=this
      first | rw [t'] | rw [this]
      rfl
end Go.E


namespace Go.E
open Go.RowKit Go.Proofs
set_option linter.unusedSimpArgs false
set_option linter.unusedVariables false

def thA (a:D.Address):D.thing:=⟨a,0,false⟩
def auxT (m i k:Nat) (a:D.Address):List D.statement:=[⟨⟨⟨(m:Int),1,(i:Int)⟩,(k:Int)+1,true⟩,thA a⟩]
def redT (_:Nat) (r:D.ShardRedex):List D.statement:=[⟨thA r.A,thA r.B⟩]
def fullT (m i:Nat) (v:D.ShardVar):List D.statement:=if v.Full=true then [⟨thA ⟨(m:Int),2,(i:Int)⟩,thA v.Held⟩] else []
def cellT (m i:Nat) (c:D.ShardCell):List D.statement:=fl (auxT m i) c.Aux c.Aux.length
def shardT (m:Nat) (s:D.Shard):List D.statement:=fl (cellT m) s.Cells s.Cells.length++(fl redT s.Redexes s.Redexes.length++fl (fullT m) s.Vars s.Vars.length)
def rootT (g:D.Grid):List D.statement:=[⟨⟨noneN,0,true⟩,thA g.Root⟩]
def gridT (g:D.Grid):List D.statement:=rootT g++fl shardT g.Shards g.Shards.length

theorem addLoop {α S τ ρ β:Type}{xs:List α}{body:S→Option (Rd S τ ρ)}{mk:Int→List β→S}{out:List β→τ}(f:Nat→α→List β){s0:List β}{fuel:Nat}(hl:xs.length≤1048576) (hf:18446744073709551616≤fuel)
    (step:∀ (i:Nat) x,xs[i]? = some x→body (mk i (s0++fl f xs i))=some (.next (mk (w64 (i+1)) (s0++fl f xs i++f i x))))
    (last:body (mk xs.length (s0++fl f xs xs.length))=some (.brk (out (s0++fl f xs xs.length)))):
    iter body fuel (mk 0 s0)=some (.inl (out (s0++fl f xs xs.length))):=by
  obtain⟨o,h1,h2⟩:=zc (body:=body) (fun k s=>s=mk k (s0++fl f xs k)) xs.length (fun o=>o=.inl (out (s0++fl f xs xs.length))) (by
    rintro k s hk rfl
    obtain⟨x,hx⟩:=z1r hk
    refine .inl ⟨_,step k x hx,?_⟩
    rw [z7 (by omega) (by omega),z81 hx,List.append_assoc]
    rfl) (by
    rintro s rfl
    exact .inr ⟨_,last,rfl⟩) (fuel:=fuel) (i:=0) (s:=mk 0 s0) (Nat.zero_le _) (by omega) (by rw [z8o,List.append_nil];rfl)
  rw [h1,h2]
theorem zo7 {fuel:Nat}{m i:Nat}{aux:List D.Address}(hf:18446744073709551616≤fuel) (hl:aux.length≤3):z3i fuel ⟨(m:Int),1,(i:Int)⟩ aux=some (fl (auxT m i) aux aux.length):=by
  unfold z3i
  have h:=addLoop (xs:=aux) (body:=z1Y fuel ⟨(m:Int),1,(i:Int)⟩ aux) (mk:=fun k s=>(s,k)) (out:=fun s=>s) (auxT m i) (s0:=[]) (by omega) hf (fun k a ha=>by
    have hkl:=(List.getElem?_eq_some_iff.1 ha).1
    have hfl:=z8i (f:=auxT m i) (xs:=aux) (b:=1) (fun _ _ _=>by simp [auxT]) k (by omega)
    rw [List.nil_append]
    generalize fl (auxT m i) aux k=s at hfl ⊢
    unfold z1Y z5v
    dsimp only
    have hw:w64 ((k:Int)+1)=(k:Int)+1:=z7 (by omega) (by omega)
    rw [if_pos (by simpa using hkl),z8 ha,Option.bind_some,hw,if_pos (decide_eq_true (by omega)),Option.bind_some,if_pos (by simp;omega)]
    rfl) (by
    unfold z1Y
    rw [if_neg (by simp)])
  rw [h,Option.bind_some,z6]
  rfl
theorem zff {m i:Nat}{c:D.ShardCell}(h:c.Aux.length≤3):(cellT m i c).length≤3:=by
  have:=z8i (f:=auxT m i) (xs:=c.Aux) (b:=1) (fun _ _ _=>by simp [auxT]) c.Aux.length (Nat.le_refl _)
  unfold cellT
  omega
theorem zfC {g:D.Grid}{m:Nat}{s:D.Shard}(hS:Small g) (hm:g.Shards[m]? = some s):(shardT m s).length≤2000:=by
  obtain⟨a1,a2,a3,a4,a5⟩:=hS.s s (List.mem_of_getElem? hm)
  unfold shardT
  rw [List.length_append,List.length_append]
  have:=z8i (f:=cellT m) (xs:=s.Cells) (b:=3) (fun j c hc=>zff (a4 c (List.mem_of_getElem? hc)).2.1) s.Cells.length (Nat.le_refl _)
  have:=z8i (f:=redT) (xs:=s.Redexes) (b:=1) (fun j c hc=>by simp [redT]) s.Redexes.length (Nat.le_refl _)
  have:=z8i (f:=fullT m) (xs:=s.Vars) (b:=1) (fun j c hc=>by unfold fullT;split<;>simp) s.Vars.length (Nat.le_refl _)
  omega
theorem zaL {fuel:Nat}{g:D.Grid}(hf:18446744073709551616≤fuel) (hS:Small g):z1u fuel g=some (gridT g):=by
  have hn:=hS.n
  unfold z1u z5v
  rw [if_neg (by simp),Option.bind_some]
  have h:=addLoop (xs:=g.Shards) (body:=zJ fuel g) (mk:=fun k s=>(k,s)) (out:=fun s=>s) shardT (s0:=rootT g) (fuel:=fuel) (by omega) hf (fun m s hm=>by
    obtain⟨a1,a2,a3,a4,a5⟩:=hS.s s (List.mem_of_getElem? hm)
    have hml:=(List.getElem?_eq_some_iff.1 hm).1
    have hfl:=z8i (f:=shardT) (xs:=g.Shards) (b:=2000) (fun j c hc=>zfC hS hc) m (by omega)
    have G:(rootT g++fl shardT g.Shards m).length≤100000:=by rw [List.length_append];unfold rootT;simp only [List.length_cons,List.length_nil];omega
    generalize rootT g++fl shardT g.Shards m=s0 at G ⊢
    unfold zJ
    dsimp only
    rw [if_pos (by simpa using hml),z8 hm,Option.bind_some]
    have h1:=addLoop (xs:=s.Cells) (body:=z1B fuel ((m:Int),s0) s) (mk:=fun k s=>(k,s)) (out:=fun s=>s) (cellT m) (s0:=s0) (fuel:=fuel) (by omega) hf (fun i c hc=>by
      have hil:=(List.getElem?_eq_some_iff.1 hc).1
      have c2:=(a4 c (List.mem_of_getElem? hc)).2.1
      have hfl:=z8i (f:=cellT m) (xs:=s.Cells) (b:=3) (fun j c hc=>zff (a4 c (List.mem_of_getElem? hc)).2.1) i (by omega)
      have hcl:=zff (m:=m) (i:=i) c2
      have o:(s0++fl (cellT m) s.Cells i).length≤200000:=by rw [List.length_append];omega
      generalize s0++fl (cellT m) s.Cells i=s1 at o ⊢
      unfold z1B z1q
      dsimp only
      rw [if_pos (by simpa using hil),z8 hc,Option.bind_some,Option.bind_some,zo7 hf c2,Option.bind_some,if_pos (by unfold cellT at hcl;simp only [decide_eq_true_eq];omega)]
      rfl) (by
      unfold z1B
      rw [if_neg (by simp)])
    try dsimp only at h1
    rw [h1,Option.bind_some,z6]
    have O:=z8i (f:=cellT m) (xs:=s.Cells) (b:=3) (fun j c hc=>zff (a4 c (List.mem_of_getElem? hc)).2.1) s.Cells.length (Nat.le_refl _)
    have o:(s0++fl (cellT m) s.Cells s.Cells.length).length≤200000:=by rw [List.length_append];omega
    unfold shardT
    rw [← List.append_assoc,← List.append_assoc]
    generalize s0++fl (cellT m) s.Cells s.Cells.length=s1 at o ⊢
    unfold z4E
    try dsimp only
    have h2:=addLoop (xs:=s.Redexes) (body:=z1A fuel s) (mk:=fun k s=>(k,s)) (out:=fun s=>s) redT (s0:=s1) (fuel:=fuel) (by omega) hf (fun i c hc=>by
      have hil:=(List.getElem?_eq_some_iff.1 hc).1
      have hfl:=z8i (f:=redT) (xs:=s.Redexes) (b:=1) (fun j c hc=>by simp [redT]) i (by omega)
      have q:(s1++fl redT s.Redexes i).length≤300000:=by rw [List.length_append];omega
      generalize s1++fl redT s.Redexes i=s2 at q ⊢
      unfold z1A
      dsimp only
      rw [if_pos (by simpa using hil),z8 hc,Option.bind_some,if_pos (by simp;omega)]
      rfl) (by
      unfold z1A
      rw [if_neg (by simp)])
    try dsimp only at h2
    rw [h2,Option.bind_some,z6]
    have X:=z8i (f:=redT) (xs:=s.Redexes) (b:=1) (fun j c hc=>by simp [redT]) s.Redexes.length (Nat.le_refl _)
    have q:(s1++fl redT s.Redexes s.Redexes.length).length≤300000:=by rw [List.length_append];omega
    generalize s1++fl redT s.Redexes s.Redexes.length=s2 at q ⊢
    unfold z4D
    have h3:=addLoop (xs:=s.Vars) (body:=z1z fuel ((m:Int),s0) s) (mk:=fun k s=>(k,s)) (out:=fun s=>s) (fullT m) (s0:=s2) (fuel:=fuel) (by omega) hf (fun i c hc=>by
      have hil:=(List.getElem?_eq_some_iff.1 hc).1
      have hfl:=z8i (f:=fullT m) (xs:=s.Vars) (b:=1) (fun j c hc=>by unfold fullT;split<;>simp) i (by omega)
      have H:(s2++fl (fullT m) s.Vars i).length≤400000:=by rw [List.length_append];omega
      generalize s2++fl (fullT m) s.Vars i=s3 at H ⊢
      unfold z1z z3s fullT z1y
      dsimp only
      rw [if_pos (by simpa using hil),z8 hc,Option.bind_some]
      cases c.Full with
      | false=>rw [if_neg (by simp),if_neg (by simp),List.append_nil]
      | true=>
        rw [if_pos rfl,if_pos rfl,Option.bind_some,if_pos (by simp;omega)]
        rfl) (by
      unfold z1z
      rw [if_neg (by simp)])
    try dsimp only at h3
    rw [h3,Option.bind_some,z6]
    rfl) (by
    unfold zJ
    rw [if_neg (by simp)])
  have h':iter (zJ fuel g) fuel (0,[⟨⟨⟨0,0,0⟩,0,true⟩,⟨⟨g.Root.Machine,g.Root.Kind,g.Root.Index⟩,0,false⟩⟩])=some (.inl (gridT g)):=h
  have h'':iter (zJ fuel g) fuel (0,[⟨⟨⟨0,0,0⟩,0,(0:Int) != 1⟩,⟨⟨g.Root.Machine,g.Root.Kind,g.Root.Index⟩,0,false⟩⟩])=some (.inl (gridT g)):=h'
  rw [h'',Option.bind_some,z6]
  rfl


def nameT (t:D.thing):List D.Address:=if t.own=true then [] else [t.at_]
def namesT (st:D.statement):List D.Address:=nameT st.a++nameT st.b
def namesK (T:List D.statement):List D.Address:=fl (fun _ st=>namesT st) T T.length
def Cnt (M:List (D.Address × Int)) (N:List D.Address):Prop:=∀ a,(mget M a).getD 0=(N.count a:Nat)
theorem zov {M:List (D.Address × Int)}{N:List D.Address}{a:D.Address}(h:Cnt M N) (hN:N.length≤1000000):Cnt (mput M a (w64 ((mget M a).getD 0+1))) (N++[a]):=by
  intro b
  have hl:=List.count_le_length (a:=a) (l:=N)
  rw [h a,z7 (by omega) (by omega),z9v,List.count_append,List.count_singleton]
  by_cases hab:a=b
  · subst hab;simp
  · rw [if_neg hab,h b]
    simp [hab]
theorem zjN {fuel:Nat}{st:D.statement}{M:List (D.Address × Int)}{N:List D.Address}(hf:18446744073709551616≤fuel) (h:Cnt M N) (hN:N.length≤900000):
    ∃ M',iter (z1v fuel st) fuel (0,M)=some (.inl M')∧Cnt M' (N++namesT st):=by
  have hfu:∃ n,fuel=n+3:=⟨fuel - 3,by omega⟩
  have key:∀ (i:Nat) (x:D.thing) (M:List (D.Address × Int)) (N:List D.Address),i<2→[st.a,st.b][i]? = some x→Cnt M N→N.length≤1000000→∃ M',z1v fuel st ((i:Int),M)=some (.next (w64 (i+1),M'))∧Cnt M' (N++nameT x):=by
    intro i x M N hi hx hC hN
    unfold z1v
    dsimp only
    rw [if_pos (by simp;omega),z8 hx,Option.bind_some]
    unfold nameT z7F z6u
    cases x.own with
    | true=>exact⟨M,by rw [if_neg (by simp)],by rw [if_pos rfl,List.append_nil];exact hC⟩
    | false=>exact⟨_,by rw [if_pos (by simp)],by rw [if_neg (by simp)];exact zov hC hN⟩
  obtain⟨M1,e1,c1⟩:=key 0 st.a M N (by omega) rfl h (by omega)
  have hna:(nameT st.a).length≤1:=by unfold nameT;split<;>simp
  obtain⟨M2,e2,c2⟩:=key 1 st.b M1 (N++nameT st.a) (by omega) rfl c1 (by rw [List.length_append];omega)
  have e3:z1v fuel st (2,M2)=some (.brk M2):=by unfold z1v;rw [if_neg (by simp)]
  have w1:w64 (((0:Nat):Int)+1)=1:=by rw [z7 (by omega) (by omega)];rfl
  have w2:w64 (((1:Nat):Int)+1)=2:=by rw [z7 (by omega) (by omega)];rfl
  rw [w1] at e1
  rw [w2] at e2
  refine⟨M2,?_,by unfold namesT;rw [← List.append_assoc];exact c2⟩
  have e1':z1v fuel st (0,M)=some (.next (1,M1)):=e1
  have e2':z1v fuel st (1,M1)=some (.next (2,M2)):=e2
  generalize hb:z1v fuel st=B at *
  obtain⟨n,rfl⟩:=hfu
  simp only [iter,e1',e2',e3]
theorem zjL {st:D.statement}:(namesT st).length≤2:=by
  unfold namesT nameT
  rw [List.length_append]
  split<;>split<;>simp
theorem zjM {fuel:Nat}{T:List D.statement}(hf:18446744073709551616≤fuel) (hT:T.length≤400000):∃ M,z8g fuel T=some M∧Cnt M (namesK T):=by
  unfold z8g
  obtain⟨o,h1,M,rfl,h2⟩:=zc (body:=z6v fuel T) (fun i s=>∃ M,s=((i:Int),M)∧Cnt M (fl (fun _ st=>namesT st) T i)) T.length (fun o=>∃ M,o=.inl M∧Cnt M (namesK T)) (by
    rintro i _ hi ⟨M,rfl,hM⟩
    obtain⟨st,hst⟩:=z1r hi
    have hfl:=z8i (f:=fun _ st=>namesT st) (xs:=T) (b:=2) (fun _ _ _=>zjL) i (by omega)
    obtain⟨M',e1,e2⟩:=zjN (fuel:=fuel) (st:=st) hf hM (by omega)
    refine .inl ⟨(w64 (i+1),M'),?_,M',by rw [z7 (by omega) (by omega)];rfl,by rw [z81 hst];exact e2⟩
    unfold z6v
    dsimp only
    rw [if_pos (by simpa using hi),z8 hst,Option.bind_some,e1,Option.bind_some,z6]
    rfl) (by
    rintro _ ⟨M,rfl,hM⟩
    refine .inr ⟨M,?_,M,rfl,hM⟩
    unfold z6v
    rw [if_neg (by simp)]) (fuel:=fuel) (i:=0) (s:=(0,[])) (Nat.zero_le _) (by omega) ⟨[],rfl,fun a=>by rw [z8o];rfl⟩
  rw [h1,Option.bind_some,z6]
  exact⟨M,rfl,h2⟩
def okTh (g:D.Grid) (t:D.thing):Bool:=t.own || aliveN g t.at_
def okT (g:D.Grid) (st:D.statement):Bool:=okTh g st.a && okTh g st.b
def shardC (N:List D.Address) (m:Nat) (s:D.Shard):Bool:=(s.Cells.zipIdx.all fun y=>decide (y.1.Kind=0) || decide (N.count ⟨(m:Int),1,(y.2:Int)⟩=1)) && s.Vars.zipIdx.all fun y=>!y.1.Used || decide (N.count ⟨(m:Int),2,(y.2:Int)⟩=2)
def implN (g:D.Grid) (T:List D.statement):Bool:=T.all (okT g) && g.Shards.zipIdx.all fun x=>shardC (namesK T) x.2 x.1
theorem zjr {fuel:Nat}{g:D.Grid}{T:List D.statement}(hf:18446744073709551616≤fuel) (hs:g.sz≤1048576) (hT:T.length≤400000):z2m fuel g T=some (implN g T):=by
  have hm:maxLen=9223372036854775807:=rfl
  obtain⟨z1,z2⟩:=zc2 hs
  unfold z2m implN
  have h1:=allLoop (xs:=T) (body:=z1H fuel g T) (p:=fun _ st=>okT g st) (t:=()) (v:=false) (fuel:=fuel) (by omega) hf (fun i st hi hx=>by
    unfold z1H
    rw [if_pos (by simpa using hi),z8 hx,Option.bind_some]
    have j7:∀ b,zm fuel (i:Int) b=if b=true then some (.ret false) else some (.next (w64 (i+1))):=fun b=>by unfold zm;rfl
    simp only [ziJ,Option.bind_some,j7]
    unfold okT okTh
    cases st.a.own<;>cases st.b.own<;>cases aliveN g st.a.at_<;>cases aliveN g st.b.at_<;>rfl) (by unfold z1H;rw [if_neg (by simp)])
  rw [z9o (p:=okT g)] at h1
  rw [h1,Option.bind_some]
  cases T.all (okT g) with
  | false=>rfl
  | true=>
    rw [if_pos rfl,z6,Bool.true_and]
    unfold z4G
    obtain⟨M,e1,hC⟩:=zjM (T:=T) hf hT
    rw [e1,Option.bind_some]
    have h2:=allLoop (xs:=g.Shards) (body:=z1G fuel g M) (p:=fun m s=>shardC (namesK T) m s) (t:=()) (v:=false) (fuel:=fuel) (by omega) hf (fun m s hi hx=>by
      obtain⟨y1,y2,y3,y4⟩:=zaw (z2 s (List.mem_of_getElem? hx))
      unfold z1G
      rw [if_pos (by simpa using hi),z8 hx,Option.bind_some]
      have hcs:=allLoop (xs:=s.Cells) (body:=z1F fuel M (m:Int) s) (p:=fun i c=>decide (c.Kind=0) || decide ((namesK T).count ⟨(m:Int),1,(i:Int)⟩=1)) (t:=()) (v:=Rd.ret false) (fuel:=fuel) (by omega) hf (fun i c hj hc=>by
        unfold z1F z1q z1C
        rw [if_pos (by simpa using hj),z8 hc,Option.bind_some,Option.bind_some,hC]
        by_cases k0:c.Kind=0
        · simp [k0]
        · by_cases h:(namesK T).count ⟨(m:Int),1,(i:Int)⟩=1
          · simp [k0,h]
          · have h9:¬ (((namesK T).count ⟨(m:Int),1,(i:Int)⟩:Nat):Int)=1:=by omega
            simp [k0,h,h9]) (by unfold z1F;rw [if_neg (by simp)])
      have hvs:=allLoop (xs:=s.Vars) (body:=z1E fuel M (m:Int) s) (p:=fun i v=>!v.Used || decide ((namesK T).count ⟨(m:Int),2,(i:Int)⟩=2)) (t:=()) (v:=Rd.ret false) (fuel:=fuel) (by omega) hf (fun i c hj hc=>by
        unfold z1E z3s z1D
        rw [if_pos (by simpa using hj),z8 hc,Option.bind_some,Option.bind_some,hC]
        cases c.Used with
        | false=>rfl
        | true=>
          by_cases h:(namesK T).count ⟨(m:Int),2,(i:Int)⟩=2
          · simp [h]
          · have h9:¬ (((namesK T).count ⟨(m:Int),2,(i:Int)⟩:Nat):Int)=2:=by omega
            simp [h,h9]) (by unfold z1E;rw [if_neg (by simp)])
      rw [hcs,Option.bind_some]
      unfold shardC
      cases (s.Cells.zipIdx.all fun y=>decide (y.1.Kind=0) || decide ((namesK T).count ⟨(m:Int),1,(y.2:Int)⟩=1)) with
      | false=>rfl
      | true=>
        rw [if_pos rfl,z6,Bool.true_and]
        unfold z4F
        rw [hvs,Option.bind_some]
        cases (s.Vars.zipIdx.all fun y=>!y.1.Used || decide ((namesK T).count ⟨(m:Int),2,(y.2:Int)⟩=2))<;>rfl) (by unfold z1G;rw [if_neg (by simp)])
    rw [h2,Option.bind_some]
    cases (g.Shards.zipIdx.all fun x=>shardC (namesK T) x.2 x.1)<;>rfl
theorem zk0 {fuel:Nat}{g:D.Grid}(hf:18446744073709551616≤fuel) (hs:g.sz≤1048576):z3Z fuel g=some (piecesN g && implN g (gridT g)):=by
  unfold z3Z
  rw [zh2 hf hs]
  unfold zS
  cases hp:piecesN g with
  | false=>rfl
  | true=>
    have hS:=zeH hs hp
    have hn:=hS.n
    have hfl:=z8i (f:=shardT) (xs:=g.Shards) (b:=2000) (fun j c hc=>zfC hS hc) g.Shards.length (Nat.le_refl _)
    have hl:(gridT g).length≤100000:=by unfold gridT rootT;rw [List.length_append];simp only [List.length_cons,List.length_nil];omega
    rw [Bool.not_true,if_neg (by simp),zaL hf hS,Option.bind_some,if_pos (by simp;omega),List.append_nil,zjr hf hs (by omega),Option.bind_some]
    rfl
end Go.E


namespace Go.E
open Go.RowKit Go.Proofs
set_option linter.unusedSimpArgs false
set_option linter.unusedVariables false

theorem zaO {α β:Type}{f:Nat→α→List β}{xs:List α}{p:β→Bool}:(fl f xs xs.length).all p=xs.zipIdx.all fun x=>(f x.2 x.1).all p:=by
  unfold fl
  rw [List.take_length,List.all_flatMap]
theorem zc4 {α β γ:Type}{f:Nat→α→List β}{xs:List α}{h:β→List γ}{n:Nat}:(fl f xs n).flatMap h=fl (fun i x=>(f i x).flatMap h) xs n:=by
  unfold fl
  rw [List.flatMap_assoc]
theorem zhj {α γ:Type}{h:α→List γ}:∀ {xs:List α}{k:Nat},((xs.zipIdx k).flatMap fun x=>h x.1)=xs.flatMap h
  | [],_=>rfl
  | x::xs,k=>by rw [List.zipIdx_cons,List.flatMap_cons,List.flatMap_cons,zhj]
theorem ziK {T:List D.statement}:namesK T=T.flatMap namesT:=by
  unfold namesK fl
  rw [List.take_length]
  exact zhj
theorem zcH {α β:Type}{f f':Nat→α→List β}{xs:List α}{n:Nat}(h:∀ i x,f i x=f' i x):fl f xs n=fl f' xs n:=by
  have:f=f':=funext fun i=>funext fun x=>h i x
  rw [this]


theorem zoo {g:D.Grid}{m i:Nat}{c:D.ShardCell}:(cellT m i c).all (okT g)=c.Aux.all (aliveN g):=by
  unfold cellT
  rw [zaO,← z9o (p:=aliveN g)]
  congr 1
  funext x
  simp [auxT,okT,okTh,thA]
theorem zon {g:D.Grid}{m i:Nat}{v:D.ShardVar}:(fullT m i v).all (okT g)=fullA g m i v:=by
  unfold fullT fullA
  cases v.Full<;>simp [okT,okTh,thA]
theorem znh {g:D.Grid}{m:Nat}{s:D.Shard}:(shardT m s).all (okT g)=shardA g m s:=by
  unfold shardT shardA
  rw [List.all_append,List.all_append,zaO,zaO,zaO]
  simp only [zoo,zon]
  rw [z9o (p:=fun c:D.ShardCell=>c.Aux.all (aliveN g))]
  congr 2
  rw [← z9o (p:=fun r:D.ShardRedex=>aliveN g r.A && aliveN g r.B)]
  congr 1
  funext x
  simp [redT,okT,okTh,thA]
theorem zjB {g:D.Grid}:(gridT g).all (okT g)=gridA g:=by
  unfold gridT gridA rootT
  rw [List.all_append,zaO]
  simp only [znh]
  simp [okT,okTh,thA]


def kT (t:D.thing):Key:=if t.own=true then(if t.at_.Kind=1 then(1,t.at_.Machine.toNat,t.at_.Index.toNat,t.slot.toNat) else(0,0,0,0)) else keyA t.at_
def keysT (st:D.statement):List Key:=[kT st.a,kT st.b]
def formH (t:D.thing):Bool:=!t.own || (decide (t.at_.Kind≠1) || decide (0<t.slot))
def formT (st:D.statement):Bool:=formH st.a && formH st.b
theorem zjS {m i:Nat}{c:D.ShardCell}:(cellT m i c).flatMap keysT=cellS 1 m i c:=by
  unfold cellT cellS
  rw [zc4]
  refine zcH fun k a=>?_
  unfold auxT auxK keysT kT thA
  simp
theorem zjR {m i:Nat}{v:D.ShardVar}:(fullT m i v).flatMap keysT=fullK m i v:=by
  unfold fullT fullK
  cases v.Full with
  | false=>rfl
  | true=>simp [keysT,kT,thA,keyA]
theorem ziO {m:Nat}{s:D.Shard}:(shardT m s).flatMap keysT=shardS m s:=by
  unfold shardT shardS
  rw [List.flatMap_append,List.flatMap_append,zc4,zc4,zc4,zcH (fun i c=>zjS (m:=m) (i:=i) (c:=c)),zcH (fun i c=>zjR (m:=m) (i:=i) (v:=c))]
  congr 2
theorem zjQ {g:D.Grid}:(gridT g).flatMap keysT=gridS g:=by
  unfold gridT gridS
  rw [List.flatMap_append,zc4,zcH (fun i c=>ziO (m:=i) (s:=c))]
  rfl
theorem zg6 {g:D.Grid}:(gridT g).all formT=true:=by
  unfold gridT rootT
  rw [List.all_append,zaO]
  have hc:∀ m i c,(cellT m i c).all formT=true:=fun m i c=>by
    unfold cellT
    rw [zaO,List.all_eq_true]
    intro x _
    simp [auxT,formT,formH,thA]
  have hs:∀ m s,(shardT m s).all formT=true:=fun m s=>by
    unfold shardT
    rw [List.all_append,List.all_append,zaO,zaO,zaO]
    rw [Bool.and_eq_true,Bool.and_eq_true,List.all_eq_true,List.all_eq_true,List.all_eq_true]
    refine⟨fun x _=>hc _ _ _,fun x _=>by simp [redT,formT,formH,thA],fun x _=>?_⟩
    unfold fullT
    split<;>simp [formT,formH,thA]
  rw [Bool.and_eq_true]
  exact⟨by simp [formT,formH,thA,noneN],List.all_eq_true.2 fun x _=>hs _ _⟩
theorem zo9 {g:D.Grid}{t:D.thing}{K:Nat}(hK:K=1∨K=2) (h:okTh g t=true) (hf:formH t=true) (m i:Nat):[kT t].count (K,m,i,0)=(nameT t).count ⟨(m:Int),(K:Int),(i:Int)⟩:=by
  unfold okTh at h
  unfold formH at hf
  unfold nameT kT
  cases ho:t.own with
  | true=>
    rw [ho] at hf
    rw [if_pos rfl,if_pos rfl,List.count_singleton]
    by_cases k1:t.at_.Kind=1
    · rw [if_pos k1]
      have h2:0<t.slot:=by simpa [k1] using hf
      rw [if_neg]
      · rfl
      · intro he
        simp only [beq_iff_eq,Prod.mk.injEq] at he
        omega
    · rw [if_neg k1,if_neg]
      · rfl
      · intro he
        simp only [beq_iff_eq,Prod.mk.injEq] at he
        omega
  | false=>
    rw [ho,Bool.false_or] at h
    obtain⟨h1,h2,s,_,h3⟩:=z9N h
    have hk:t.at_.Kind=1∨t.at_.Kind=2:=by
      rcases h3 with⟨h3,_⟩ | ⟨h3,_⟩
      · exact .inl h3
      · exact .inr h3
    rw [if_neg (by simp),if_neg (by simp),List.count_singleton,List.count_singleton]
    generalize t.at_=a at *
    obtain⟨a1,a2,a3⟩:=a
    dsimp only at *
    unfold keyA
    dsimp only
    have e:(((if a2=1 then(1,a1.toNat,a3.toNat,0) else(2,a1.toNat,a3.toNat,0)):Key) == (K,m,i,0))=((⟨a1,a2,a3⟩:D.Address) == ⟨(m:Int),(K:Int),(i:Int)⟩):=by
      rw [Bool.eq_iff_iff,beq_iff_eq,beq_iff_eq,D.Address.mk.injEq]
      constructor
      · intro he
        split at he
        · simp only [Prod.mk.injEq] at he
          omega
        · simp only [Prod.mk.injEq] at he
          omega
      · rintro⟨e1,e2,e3⟩
        split
        · obtain rfl:K=1:=by omega
          simp [e1,e3]
        · obtain rfl:K=2:=by omega
          simp [e1,e3]
    rw [e]
theorem zdN {g:D.Grid}{K:Nat}(hK:K=1∨K=2) (m i:Nat):∀ {T:List D.statement},T.all (okT g)=true→T.all formT=true→(T.flatMap keysT).count (K,m,i,0)=(T.flatMap namesT).count ⟨(m:Int),(K:Int),(i:Int)⟩
  | [],_,_=>rfl
  | st::T,h1,h2=>by
    rw [List.all_cons,Bool.and_eq_true] at h1 h2
    unfold okT at h1
    unfold formT at h2
    rw [Bool.and_eq_true] at h1 h2
    have a:=zo9 hK h1.1.1 h2.1.1 m i
    have b:=zo9 hK h1.1.2 h2.1.2 m i
    rw [List.flatMap_cons,List.flatMap_cons,List.count_append,List.count_append,zdN hK m i h1.2 h2.2]
    congr 1
    unfold keysT namesT
    rw [show [kT st.a,kT st.b]=[kT st.a]++[kT st.b] from rfl,List.count_append,List.count_append,a,b]


theorem z82 {α β:Type}[BEq β] [LawfulBEq β] {f:Nat→α→List β}{xs:List α}{y:β}(h:∀ (i:Nat) x,xs[i]? = some x→(f i x).count y=0):∀ n,n≤xs.length→(fl f xs n).count y=0
  | 0,_=>by rw [z8o];rfl
  | n+1,hn=>by
    obtain⟨x,hx⟩:=z1r (xs:=xs) (i:=n) (by omega)
    rw [z81 hx,List.count_append,z82 h n (by omega),h n x hx]
theorem zhE {α β:Type}[BEq β] [LawfulBEq β] {f:Nat→α→List β}{xs:List α}{y:β}{j:Nat}{a:α}(ha:xs[j]? = some a) (h:∀ (i:Nat) x,i≠j→xs[i]? = some x→(f i x).count y=0):∀ n,n≤xs.length→(fl f xs n).count y=if j<n then(f j a).count y else 0
  | 0,_=>by rw [z8o];rfl
  | n+1,hn=>by
    obtain⟨x,hx⟩:=z1r (xs:=xs) (i:=n) (by omega)
    rw [z81 hx,List.count_append,zhE ha h n (by omega)]
    by_cases hj:n=j
    · subst hj
      rw [ha] at hx
      cases hx
      rw [if_neg (Nat.lt_irrefl _),if_pos (Nat.lt_succ_self _),Nat.zero_add]
    · rw [h n x hj hx,Nat.add_zero]
      by_cases hl:j<n
      · rw [if_pos hl,if_pos (by omega)]
      · rw [if_neg hl,if_neg (by omega)]
theorem zdR {m i k:Nat}{a:D.Address}{X:Key}(hX:∀ a,keyA a≠X):(auxK 1 m i k a).count X=if(1,m,i,k+1)=X then 1 else 0:=by
  unfold auxK
  rw [show [((1,m,i,k+1):Key),keyA a]=[(1,m,i,k+1)]++[keyA a] from rfl,List.count_append,List.count_singleton,List.count_singleton,if_neg (c:=(keyA a == X)=true) (by simpa using hX a)]
  simp
theorem zgZ {i:Nat}{r:D.ShardRedex}{X:Key}(hX:∀ a,keyA a≠X):(redK i r).count X=0:=by
  unfold redK
  rw [List.count_eq_zero]
  simp only [List.mem_cons,List.not_mem_nil,or_false]
  rintro(h | h)<;>exact hX _ h.symm
theorem zeY {m i:Nat}{v:D.ShardVar}{X:Key}(hX:∀ a,keyA a≠X) (h2:(2,m,i,0)≠X):(fullK m i v).count X=0:=by
  unfold fullK
  split
  · rw [List.count_eq_zero]
    simp only [List.mem_cons,List.not_mem_nil,or_false]
    rintro(h | h)
    · exact h2 h.symm
    · exact hX _ h.symm
  · rfl
theorem zor {a:D.Address}:(keyA a).1≠0:=by unfold keyA;split<;>simp
theorem znq {a:D.Address}:(keyA a).2.2.2=0:=by unfold keyA;split<;>rfl
theorem zn0 {g:D.Grid}:(gridS g).count (0,0,0,0)=1:=by
  have hX:∀ a,keyA a≠(0,0,0,0):=fun a h=>zor (a:=a) (by rw [h])
  unfold gridS rootS
  rw [List.count_append,z82 (fun m s _=>?_) _ (Nat.le_refl _)]
  · rw [show [((0,0,0,0):Key),keyA g.Root]=[(0,0,0,0)]++[keyA g.Root] from rfl,List.count_append,List.count_singleton,List.count_singleton,if_neg (c:=(keyA g.Root == (0,0,0,0))=true) (by simpa using hX g.Root)]
    rfl
  · unfold shardS
    rw [List.count_append,List.count_append,z82 (fun i c _=>?_) _ (Nat.le_refl _),z82 (fun i c _=>zgZ hX) _ (Nat.le_refl _),z82 (fun i c _=>zeY hX (by simp)) _ (Nat.le_refl _)]
    unfold cellS
    exact z82 (fun k a _=>by rw [zdR hX,if_neg (by simp)]) _ (Nat.le_refl _)
theorem zn6 {g:D.Grid}{m i k:Nat}{s:D.Shard}{c:D.ShardCell}(hm:g.Shards[m]? = some s) (hc:s.Cells[i]? = some c) (hk:k<c.Aux.length):(gridS g).count (1,m,i,k+1)=1:=by
  have hX:∀ a,keyA a≠(1,m,i,k+1):=fun a h=>by
    have:=znq (a:=a)
    rw [h] at this
    exact absurd this (Nat.succ_ne_zero k)
  have hml:=(List.getElem?_eq_some_iff.1 hm).1
  have hil:=(List.getElem?_eq_some_iff.1 hc).1
  obtain⟨a,ha⟩:=z1r hk
  have h0:(rootS g).count (1,m,i,k+1)=0:=by
    unfold rootS
    rw [List.count_eq_zero]
    simp only [List.mem_cons,List.not_mem_nil,or_false]
    rintro(h | h)
    · simp at h
    · exact hX _ h.symm
  unfold gridS
  rw [List.count_append,h0,Nat.zero_add,zhE hm (fun m' s' hne _=>?_) _ (Nat.le_refl _),if_pos hml]
  · unfold shardS
    rw [List.count_append,List.count_append,z82 (f:=redK) (fun i c _=>zgZ hX) _ (Nat.le_refl _),z82 (f:=fullK m) (fun i c _=>zeY hX (by simp)) _ (Nat.le_refl _),zhE hc (fun i' c' hne _=>?_) _ (Nat.le_refl _),if_pos hil]
    · unfold cellS
      rw [zhE ha (fun k' a' hne _=>?_) _ (Nat.le_refl _),if_pos hk,zdR hX,if_pos rfl]
      rw [zdR hX,if_neg (by simp only [Prod.mk.injEq];omega)]
    · unfold cellS
      exact z82 (fun k' a' _=>by rw [zdR hX,if_neg (by simp only [Prod.mk.injEq];omega)]) _ (Nat.le_refl _)
  · unfold shardS
    rw [List.count_append,List.count_append,z82 (f:=redK) (fun i c _=>zgZ hX) _ (Nat.le_refl _),z82 (f:=fullK m') (fun i c _=>zeY hX (by simp)) _ (Nat.le_refl _),z82 (fun i' c' _=>?_) _ (Nat.le_refl _)]
    unfold cellS
    exact z82 (fun k' a' _=>by rw [zdR hX,if_neg (by simp only [Prod.mk.injEq];omega)]) _ (Nat.le_refl _)
theorem zfN {ss:List D.Shard}{k:Key}:k∈portK ss↔k=(0,0,0,0)∨∃ (m:Nat) (s:D.Shard) (i:Nat) (c:D.ShardCell) (j:Nat),ss[m]? = some s∧s.Cells[i]? = some c∧c.Kind≠0∧j≤c.Aux.length∧k=(1,m,i,j):=by
  unfold portK
  rw [List.mem_cons,List.mem_flatMap]
  constructor
  · rintro(h | ⟨⟨s,m⟩,h1,h2⟩)
    · exact .inl h
    · rw [List.mem_zipIdx_iff_getElem?] at h1
      unfold rowK at h2
      obtain⟨⟨c,i⟩,h3,h4⟩:=List.mem_flatMap.1 h2
      rw [List.mem_zipIdx_iff_getElem?] at h3
      dsimp only at h1 h3 h4
      unfold cellK at h4
      split at h4
      · cases h4
      · rename_i k0
        obtain⟨j,h5,rfl⟩:=List.mem_map.1 h4
        have:=List.mem_range.1 h5
        exact .inr ⟨m,s,i,c,j,h1,h3,k0,by omega,rfl⟩
  · rintro(h | ⟨m,s,i,c,j,h1,h2,h3,h4,rfl⟩)
    · exact .inl h
    · refine .inr ⟨(s,m),by rw [List.mem_zipIdx_iff_getElem?];exact h1,List.mem_flatMap.2 ⟨(c,i),by rw [List.mem_zipIdx_iff_getElem?];exact h2,?_⟩⟩
      dsimp only
      unfold cellK
      rw [if_neg h3]
      exact List.mem_map.2 ⟨j,List.mem_range.2 (by omega),rfl⟩
theorem zj0 {g:D.Grid}:countsN g [] (gridS g)=true↔∀ (m:Nat) s,g.Shards[m]? = some s→(∀ (i:Nat) c,s.Cells[i]? = some c→c.Kind=0∨(gridS g).count (1,m,i,0)=1)∧∀ (i:Nat) v,s.Vars[i]? = some v→v.Used=false∨(gridS g).count (2,m,i,0)=2:=by
  unfold countsN
  rw [Bool.and_eq_true,List.all_eq_true,z74 (p:=fun m s=>varC (gridS g) m s),show rowK 3 0 []=[] from rfl,List.append_nil]
  constructor
  · rintro⟨h1,h2⟩ m s hm
    refine⟨fun i c hc=>?_,fun i v hv=>?_⟩
    · by_cases k0:c.Kind=0
      · exact .inl k0
      · have:=h1 (1,m,i,0) (zfN.2 (.inr ⟨m,s,i,c,0,hm,hc,k0,Nat.zero_le _,rfl⟩))
        exact .inr (by simpa using this)
    · have h3:=h2 m s hm
      unfold varC at h3
      rw [Nat.zero_add] at h3
      have h4:=(z74 (p:=fun i (v:D.ShardVar)=>!v.Used || decide ((gridS g).count (2,m,i,0)=2))).1 h3 i v hv
      rw [Nat.zero_add] at h4
      cases hu:v.Used with
      | false=>exact .inl rfl
      | true=>rw [hu] at h4;exact .inr (by simpa using h4)
  · intro h
    refine⟨fun k hk=>?_,fun m s hm=>?_⟩
    · rcases zfN.1 hk with rfl | ⟨m,s,i,c,j,h1,h2,h3,h4,rfl⟩
      · exact decide_eq_true zn0
      · cases j with
        | zero=>exact decide_eq_true (((h m s h1).1 i c h2).resolve_left h3)
        | succ j=>exact decide_eq_true (zn6 h1 h2 (by omega))
    · unfold varC
      refine(z74 (p:=fun i (v:D.ShardVar)=>!v.Used || decide ((gridS g).count (2,0+m,i,0)=2))).2 fun i v hv=>?_
      rw [Nat.zero_add,Nat.zero_add]
      rcases (h m s hm).2 i v hv with h1 | h1
      · rw [h1];rfl
      · rw [decide_eq_true h1,Bool.or_true]
theorem znt {g:D.Grid}{N:List D.Address}:(g.Shards.zipIdx.all fun x=>shardC N x.2 x.1)=true↔∀ (m:Nat) s,g.Shards[m]? = some s→(∀ (i:Nat) c,s.Cells[i]? = some c→c.Kind=0∨N.count ⟨(m:Int),1,(i:Int)⟩=1)∧∀ (i:Nat) v,s.Vars[i]? = some v→v.Used=false∨N.count ⟨(m:Int),2,(i:Int)⟩=2:=by
  rw [z74 (p:=fun m s=>shardC N m s)]
  refine forall_congr' fun m=>forall_congr' fun s=>?_
  rw [Nat.zero_add]
  refine imp_congr_right fun hm=>?_
  unfold shardC
  rw [Bool.and_eq_true,z74 (p:=fun i (c:D.ShardCell)=>decide (c.Kind=0) || decide (N.count ⟨(m:Int),1,(i:Int)⟩=1)),z74 (p:=fun i (v:D.ShardVar)=>!v.Used || decide (N.count ⟨(m:Int),2,(i:Int)⟩=2))]
  simp only [Nat.zero_add,Bool.or_eq_true,decide_eq_true_eq,Bool.not_eq_true']
theorem zjZ {g:D.Grid}:(gridA g && countsN g [] (gridS g))=implN g (gridT g):=by
  unfold implN
  rw [zjB]
  cases hA:gridA g with
  | false=>rfl
  | true=>
    rw [Bool.true_and,Bool.true_and,Bool.eq_iff_iff,zj0,znt]
    have hk:=zjB (g:=g)
    rw [hA] at hk
    have hc:=fun m i=>zdN (g:=g) (K:=1) (.inl rfl) m i hk zg6
    have hv:=fun m i=>zdN (g:=g) (K:=2) (.inr rfl) m i hk zg6
    rw [zjQ] at hc hv
    rw [← ziK] at hc hv
    refine forall_congr' fun m=>forall_congr' fun s=>?_
    refine imp_congr_right fun hm=>and_congr (forall_congr' fun i=>forall_congr' fun c=>?_) (forall_congr' fun i=>forall_congr' fun c=>?_)
    · rw [hc m i];rfl
    · rw [hv m i];rfl
end Go.E


namespace Go.E
open Go.RowKit Go.Proofs
set_option linter.unusedSimpArgs false
set_option linter.unusedVariables false


abbrev Id:=Nat × Nat × Nat
abbrev Lv:=List (Id × D.ShardCell)
def keyI (d:Id) (k:Nat):Key:=(d.1,d.2.1,d.2.2,k)
def keyR:Key:=(0,0,0,0)
def lvR (t m:Nat) (cs:List D.ShardCell):Lv:=cs.zipIdx.flatMap fun x=>if x.1.Kind=0 then [] else [((t,m,x.2),x.1)]
def lvG (g:D.Grid) (more:List D.ShardCell):Lv:=(g.Shards.zipIdx.flatMap fun x=>lvR 1 x.2 x.1.Cells)++lvR 3 0 more
def keysX (x:Id × D.ShardCell):List Key:=(List.range (x.2.Aux.length+1)).map (keyI x.1)
def keysL (lv:Lv):List Key:=lv.flatMap keysX
def allP (lv:Lv):List Key:=keyR::keysL lv
theorem zcd {a b:Lv}:keysL (a++b)=keysL a++keysL b:=by unfold keysL;rw [List.flatMap_append]
theorem zhq {t m:Nat}{cs:List D.ShardCell}:rowK t m cs=keysL (lvR t m cs):=by
  unfold rowK keysL lvR
  rw [List.flatMap_assoc]
  congr 1
  funext x
  unfold cellK
  split
  · rfl
  · simp [keysX,keyI]
theorem zjw {ss:List D.Shard}:portK ss=keyR::keysL (ss.zipIdx.flatMap fun x=>lvR 1 x.2 x.1.Cells):=by
  unfold portK keyR keysL
  rw [List.flatMap_assoc]
  congr 2
  funext x
  exact zhq
theorem zbA {g:D.Grid}{more:List D.ShardCell}:portK g.Shards++rowK 3 0 more=allP (lvG g more):=by
  unfold allP lvG
  rw [zcd,zjw,zhq];rfl
theorem zeT {t m:Nat}:∀ {cs:List D.ShardCell}{k:Nat},((cs.zipIdx k).flatMap fun x=>if x.1.Kind=0 then([]:Lv) else [((t,m,x.2),x.1)]).map (·.2)=liveL cs
  | [],k=>rfl
  | c::cs,k=>by
    rw [List.zipIdx_cons,List.flatMap_cons,List.map_append,zeT]
    unfold liveL
    rw [List.filter_cons]
    by_cases h:c.Kind=0<;>simp [h]
theorem zdv {a b:List D.ShardCell}:liveL (a++b)=liveL a++liveL b:=by unfold liveL;rw [List.filter_append]
theorem zdu:∀ {ss:List D.Shard}{k:Nat},((ss.zipIdx k).flatMap fun x=>lvR 1 x.2 x.1.Cells).map (·.2)=liveL (ss.flatMap fun s=>s.Cells)
  | [],k=>rfl
  | s::ss,k=>by
    rw [List.zipIdx_cons,List.flatMap_cons,List.map_append,zdu,List.flatMap_cons,zdv]
    congr 1
    exact zeT
theorem zhz {g:D.Grid}{more:List D.ShardCell}:(lvG g more).map (·.2)=liveL (gcellsOf g++more):=by
  unfold lvG gcellsOf
  rw [List.map_append,zdu,zdv]
  congr 1
  exact zeT
theorem zg2:∀ {lv:Lv},(keysL lv).Nodup→(lv.map (·.1)).Nodup
  | [],_=>by simp
  | x::lv,h=>by
    have e:keysL (x::lv)=keysX x++keysL lv:=rfl
    rw [e,List.nodup_append] at h
    obtain⟨h1,h2,h3⟩:=h
    rw [List.map_cons,List.nodup_cons]
    refine⟨fun hm=>?_,zg2 h2⟩
    obtain⟨y,hy,he⟩:=List.mem_map.1 hm
    exact h3 (keyI x.1 0) (by unfold keysX;exact List.mem_map.2 ⟨0,by simp,rfl⟩) (keyI x.1 0) (by
      unfold keysL
      refine List.mem_flatMap.2 ⟨y,hy,?_⟩
      unfold keysX
      rw [he]
      exact List.mem_map.2 ⟨0,by simp,rfl⟩) rfl

def numI (lv:Lv) (d:Id):Nat:=(lv.map (·.1)).idxOf d+1
def portKey (lv:Lv) (k:Key):D.Port:=if k.1=0 then⟨0,0⟩ else⟨((numI lv (k.1,k.2.1,k.2.2.1):Nat):Int),(k.2.2.2:Int)⟩
theorem z89 {lv:Lv}{d:Id}{k:Nat}(h:d.1≠0):portKey lv (keyI d k)=⟨((numI lv d:Nat):Int),(k:Int)⟩:=by
  unfold portKey keyI
  rw [if_neg h]
theorem zaN {lv:Lv}(hn:(lv.map (·.1)).Nodup){j:Nat}{x:Id × D.ShardCell}(h:lv[j]? = some x):numI lv x.1=j+1:=by
  unfold numI
  congr 1
  have hm:(lv.map (·.1))[j]? = some x.1:=by rw [List.getElem?_map,h];rfl
  obtain⟨h1,h2⟩:=List.getElem?_eq_some_iff.1 hm
  rw [← h2]
  exact hn.idxOf_getElem j h1
theorem zfL {lv:Lv}(hn:(lv.map (·.1)).Nodup) (ht:∀ x∈lv,x.1.1≠0):∀ (m:Nat),m≤lv.length→portsP (lv.length - m+1) ((lv.drop (lv.length - m)).map (·.2))=(keysL (lv.drop (lv.length - m))).map (portKey lv)
  | 0,_=>by
    rw [Nat.sub_zero,List.drop_length];rfl
  | m+1,hm=>by
    have hlt:lv.length - (m+1)<lv.length:=by omega
    have ih:=zfL hn ht m (by omega)
    rw [List.drop_eq_getElem_cons hlt]
    rw [show lv.length - (m+1)+1=lv.length - m by omega]
    generalize hx:lv[lv.length - (m+1)]=x
    have hx':lv[lv.length - (m+1)]? = some x:=by rw [List.getElem?_eq_getElem hlt,hx]
    have hxm:=List.mem_of_getElem? hx'
    have e:keysL (x::lv.drop (lv.length - m))=keysX x++keysL (lv.drop (lv.length - m)):=rfl
    rw [e,List.map_cons,List.map_append]
    unfold portsP
    rw [ih]
    congr 1
    unfold keysX
    rw [List.map_map]
    apply List.map_congr_left
    intro k _
    show _=portKey lv (keyI x.1 k)
    rw [z89 (ht x hxm),zaN hn hx',show lv.length - (m+1)+1=lv.length - m by omega]
theorem ziy {lv:Lv}(hn:(lv.map (·.1)).Nodup) (ht:∀ x∈lv,x.1.1≠0):⟨0,0⟩::portsP 1 (lv.map (·.2))=(allP lv).map (portKey lv):=by
  have h:=zfL hn ht lv.length (Nat.le_refl _)
  rw [Nat.sub_self,List.drop_zero,Nat.zero_add] at h
  rw [h];rfl


def agK (e:Key→D.Port) (x:Id × D.ShardCell):D.Agent:=⟨x.2.Kind,x.2.Level,x.2.Value,x.2.Data,(List.range (x.2.Aux.length+1)).map fun k=>e (keyI x.1 k)⟩
def netK (lv:Lv) (e:Key→D.Port):List D.Agent:=⟨1,0,0,[],[e keyR]⟩::lv.map (agK e)
theorem zdo {lv:Lv}:rootAg::(lv.map (·.2)).map agentOf=netK lv fun _=>⟨0,0⟩:=by
  unfold netK rootAg
  rw [List.map_map]
  congr 1
  apply List.map_congr_left
  intro x _
  unfold agK agentOf
  simp only [Function.comp_apply,D.Agent.mk.injEq,true_and]
  rw [List.map_const']
  simp
theorem z83 {lv:Lv}{k:Key}(h:k∈allP lv):k=keyR∨∃ (j:Nat) (x:Id × D.ShardCell) (s:Nat),lv[j]? = some x∧s≤x.2.Aux.length∧k=keyI x.1 s:=by
  unfold allP at h
  rcases List.mem_cons.1 h with h | h
  · exact .inl h
  · obtain⟨x,hx,h2⟩:=List.mem_flatMap.1 h
    obtain⟨j,hj⟩:=List.getElem?_of_mem hx
    obtain⟨s,hs,rfl⟩:=List.mem_map.1 h2
    exact .inr ⟨j,x,s,hj,by have:=List.mem_range.1 hs;omega,rfl⟩
theorem zfh {lv:Lv}{j s:Nat}{x:Id × D.ShardCell}(h:lv[j]? = some x) (hs:s≤x.2.Aux.length):keyI x.1 s∈allP lv:=
  List.mem_cons_of_mem _ (List.mem_flatMap.2 ⟨x,List.mem_of_getElem? h,List.mem_map.2 ⟨s,List.mem_range.2 (by omega),rfl⟩⟩)
def upd (e:Key→D.Port) (k:Key) (v:D.Port):Key→D.Port:=fun q=>if q=k then v else e q
theorem zhB {d d':Id}{k k':Nat}(h:keyI d k=keyI d' k'):d=d'∧k=k':=by
  obtain⟨a,b,c⟩:=d
  obtain⟨a',b',c'⟩:=d'
  unfold keyI at h
  simp only [Prod.mk.injEq] at h ⊢
  exact⟨⟨h.1,h.2.1,h.2.2.1⟩,h.2.2.2⟩
theorem zg1 {d:Id}{k:Nat}(h:d.1≠0):keyI d k≠keyR:=by
  unfold keyI keyR
  intro e
  simp only [Prod.mk.injEq] at e
  exact h e.1

theorem zjH {lv:Lv}(hn:(lv.map (·.1)).Nodup) (ht:∀ x∈lv,x.1.1≠0){e:Key→D.Port}{k:Key}(hk:k∈allP lv) (v:D.Port):
    ∃ (a s:Nat) (ag:D.Agent),portKey lv k=⟨(a:Int),(s:Int)⟩∧(netK lv e)[a]? = some ag∧s<ag.Ports.length∧(netK lv e).set a ⟨ag.Kind,ag.Level,ag.Value,ag.Data,ag.Ports.set s v⟩=netK lv (upd e k v):=by
  rcases z83 hk with rfl | ⟨j,x,s,hj,hs,rfl⟩
  · refine⟨0,0,⟨1,0,0,[],[e keyR]⟩,rfl,rfl,by simp,?_⟩
    unfold netK
    rw [List.set_cons_zero]
    have e1:upd e keyR v keyR=v:=by unfold upd;rw [if_pos rfl]
    rw [e1]
    congr 1
    apply List.map_congr_left
    intro x hx
    unfold agK
    simp only [D.Agent.mk.injEq,true_and]
    apply List.map_congr_left
    intro q _
    unfold upd
    rw [if_neg (zg1 (ht x hx))]
  · have hxm:=List.mem_of_getElem? hj
    have hjl:=(List.getElem?_eq_some_iff.1 hj).1
    refine⟨j+1,s,agK e x,by rw [z89 (ht x hxm),zaN hn hj],by unfold netK;rw [List.getElem?_cons_succ,List.getElem?_map,hj];rfl,by unfold agK;simp;omega,?_⟩
    unfold netK
    rw [List.set_cons_succ]
    have e1:upd e (keyI x.1 s) v keyR=e keyR:=by unfold upd;rw [if_neg (Ne.symm (zg1 (ht x hxm)))]
    rw [e1]
    congr 1
    apply List.ext_getElem?
    intro i
    by_cases hij:j=i
    · subst hij
      rw [List.getElem?_set_self (by simpa using hjl),List.getElem?_map,hj,Option.map_some]
      unfold agK
      simp only [Option.some.injEq,D.Agent.mk.injEq,true_and]
      apply List.ext_getElem?
      intro q
      rcases Nat.lt_or_ge q (x.2.Aux.length+1) with hq | hq
      · by_cases hsq:s=q
        · subst hsq
          rw [List.getElem?_set_self (by simpa using hq),List.getElem?_map,List.getElem?_range hq]
          simp [upd]
        · rw [List.getElem?_set_ne hsq,List.getElem?_map,List.getElem?_map,List.getElem?_range hq]
          simp only [Option.map_some,Option.some.injEq]
          unfold upd
          rw [if_neg (fun e=>hsq (zhB e).2.symm)]
      · rw [List.getElem?_eq_none (by simpa using hq),List.getElem?_eq_none (by simpa using hq)]
    · rw [List.getElem?_set_ne hij,List.getElem?_map,List.getElem?_map]
      cases hi:lv[i]? with
      | none=>rfl
      | some y=>
        simp only [Option.map_some,Option.some.injEq]
        unfold agK
        simp only [D.Agent.mk.injEq,true_and]
        apply List.map_congr_left
        intro q _
        unfold upd
        rw [if_neg]
        intro he
        have h1:=zaN hn hj
        have h2:=zaN hn hi
        rw [(zhB he).1] at h2
        omega

noncomputable def eP (lv:Lv) (S done:List Key):Key→D.Port:=fun k=>if k∈done then portKey lv (endK S k) else⟨0,0⟩
theorem zmw {lv:Lv}{S done:List Key}{k:Key}:upd (eP lv S done) k (portKey lv (endK S k))=eP lv S (done++[k]):=by
  funext q
  unfold upd eP
  by_cases h:q=k
  · subst h;simp
  · simp [h]
theorem zmv {lv:Lv}{S:List Key}:eP lv S []=fun _=>⟨0,0⟩:=by funext q;simp [eP]
noncomputable def netF (lv:Lv) (S:List Key):List D.Agent:=netK lv (eP lv S (allP lv))
theorem zaU {lv:Lv}{e:Key→D.Port}:(netK lv e).length=lv.length+1:=by unfold netK;simp
end Go.E


