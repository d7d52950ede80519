/- The reference's canonical order, and both sides' renumbering. Conditions: the net's edges lead back, and its parts are small. -/
import Derived.Test.YtfndicpnccabkaaGreatCanQ
import Derived.Test.YtfndicpnccabkaaGreatFollowK
import Derived.Test.YtfndicpnccabkaaGreatGridSame
import Derived.Test.YtfndicpnccabkaaGreatLoops
import Derived.Test.YtfndicpnccabkaaGreatFZ
import Derived.Test.YtfndicpnccabkaaGreatFZb
set_option linter.unusedVariables false
set_option linter.unusedSimpArgs false
namespace Go.E
open Go.RowKit Go.Proofs Go.Sort

section
variable {A:LA}
theorem zuR {fu:Nat}{d:Int}{q:LO}{i:Nat}{C:LO}{S:L9}(hf:Big fu)(hN:NetOk A)(hm:d∈hdN (nxN A) A.length A.length)(hr:q[i]? = some (z8o (nxN A) A.length d)):
  iter (z3Q fu ⟨A⟩ q ((i:Int),C,S)) fu (d,zF A d,1)=some (.inl (zbv (nxN A) A.length (zF A) d,zF A (zbv (nxN A) A.length (zF A) d))):=by
 have O:=ziQ hN.graph hm
 have Z:=zpR hN hm
 have Y:=(List.getElem?_eq_some_iff.1 O).1
 obtain⟨o,e1,rfl⟩:=zf (body:=z3Q fu ⟨A⟩ q ((i:Int),C,S))
  (fun k st=>1≤k∧st=(zhP (zF A) d (((z8o (nxN A) A.length d).drop 1).take (k - 1)),zF A (zhP (zF A) d (((z8o (nxN A) A.length d).drop 1).take (k - 1))),(k:Int)))
  (z8o (nxN A) A.length d).length (fun o=>o=.inl (zbv (nxN A) A.length (zF A) d,zF A (zbv (nxN A) A.length (zF A) d))) (by
  rintro k st hk ⟨G,rfl⟩
  obtain⟨j,rfl⟩:∃ j,k=j+1:=⟨k - 1,by omega⟩
  rw[Nat.add_sub_cancel]
  obtain⟨x,hx⟩:=z1j hk
  have H:=zm5 hN hm (List.mem_of_getElem? hx)
  have X:=zi7 hN H.1 H.2
  refine .inl ⟨(zhP (zF A) d (((z8o (nxN A) A.length d).drop 1).take (j+1)),zF A (zhP (zF A) d (((z8o (nxN A) A.length d).drop 1).take (j+1))),w64 (((j+1:Nat):Int)+1)),?_,by omega,by rw[zb (by omega) (by omega)];rfl⟩
  unfold z3Q
  dsimp only
  rw[za hr,bsm,if_pos (by simp;omega),bsm,za hx,bsm,zot hf hN H.1 H.2,bsm,znB hf (by omega),bsm]
  unfold z5B
  dsimp only
  rw[zn7 hx,zi8]
  by_cases hlt:zd4 (zF A x) (zF A (zhP (zF A) d (((z8o (nxN A) A.length d).drop 1).take j)))<0
  ·rw[if_pos (by simpa using hlt),if_pos hlt,bsm,za hx,bsm]
  ·rw[if_neg (by simpa using hlt),if_neg hlt]) (by
  rintro st ⟨G,rfl⟩
  refine .inr ⟨_,?_,rfl⟩
  unfold z3Q
  dsimp only
  rw[za hr,bsm,if_neg (by simp)]
  unfold zbv
  rw[List.take_of_length_le (by simp)]) (fu:=fu) (i:=1) (s:=(d,zF A d,1)) (by omega) (by omega) ⟨Nat.le_refl _,by simp[zhP]⟩
 exact e1

theorem zwX {cs:LO}{us:LJ}{i:Nat}:zmO cs us (i+1)=if us[i]? = some false∧(zmO cs us i<0∨zd4 (cs.getD i []) (cs.getD (zmO cs us i).toNat [])<0) then(i:Int) else zmO cs us i:=by rw[zmO]
theorem zsu {fu:Nat}{cs:LO}{S:L9}{us:LJ}{z1:Int}{z2:L9}(hf:Big fu)(hl:cs.length≤1000)(hS:S.length=cs.length)(hu:us.length=cs.length)(hc:∀ c∈cs,c.length≤9600):
  iter (z3R fu (cs,S) (z1,us,z2)) fu (-1,0)=some (.inl (zmO cs us cs.length)):=by
 obtain⟨o,e1,rfl⟩:=zf (body:=z3R fu (cs,S) (z1,us,z2)) (fun k st=>st=(zmO cs us k,(k:Int))) cs.length (fun o=>o=.inl (zmO cs us cs.length)) (by
  rintro k st hk rfl
  obtain⟨u,q⟩:=z1j (xs:=us) (i:=k) (by omega)
  obtain⟨c,G⟩:=z1j hk
  refine .inl ⟨(zmO cs us (k+1),w64 ((k:Int)+1)),?_,by rw[zb (by omega) (by omega)];rfl⟩
  have j4:∀ b:Bool,z2F fu (zmO cs us k,(k:Int)) b=some (.next (if b=true then(k:Int) else zmO cs us k,w64 ((k:Int)+1))):=by
   intro b
   unfold z2F z5D
   dsimp only
   cases b<;>rfl
  unfold z3R
  dsimp only
  rw[if_pos (by simp;omega),za q,bsm]
  rw[zwX]
  cases u with
  | true=>
   rw[if_neg (by simp),j4,if_neg (by simp),if_neg (by rw[q];simp)]
  | false=>
   rw[if_pos (by simp)]
   rcases zuX (cs:=cs) (used:=us) (i:=k) with⟨h1,h2⟩ | ⟨p,h1,h2,h3,h4⟩
   ·rw[if_pos (by rw[h1];simp),j4,if_pos rfl,if_pos ⟨q,.inl (by omega)⟩]
   ·obtain⟨cp,H⟩:=z1j (xs:=cs) (i:=p) (by omega)
    have hg:cs.getD k []=c:=by rw[List.getD_eq_getElem?_getD,G];rfl
    have O:cs.getD p []=cp:=by rw[List.getD_eq_getElem?_getD,H];rfl
    rw[if_neg (by rw[h1];simp),za G,bsm,h1,za H,bsm,znB hf (by have:=hc c (List.mem_of_getElem? G);omega),bsm,← h1,j4,h1,Int.toNat_natCast,hg,O]
    by_cases hlt:zd4 c cp<0
    ·rw[if_pos (by simpa using hlt),if_pos ⟨q,.inr hlt⟩]
    ·rw[if_neg (by simpa using hlt),if_neg (fun h=>(h.2.elim (fun h=>by omega) hlt))]) (by
  rintro st rfl
  refine .inr ⟨_,?_,rfl⟩
  unfold z3R
  dsimp only
  rw[if_neg (by simp;omega)]) (fu:=fu) (i:=0) (s:=(-1,0)) (Nat.zero_le _) (by omega) rfl
 exact e1
theorem zra {fu:Nat}(hf:Big fu)(hN:NetOk A):z8z fu ⟨A⟩=some (zcB (nxN A) A.length (zF A)):=by
 have hn:=hN.len
 have h1:=hN.one
 have A0:=znp hN
 have f0:=zpM hN
 have B0:=zeQ hN.graph (show(0:Int)≤0 by omega) (by omega)
 have q:=zmk (nx:=nxN A) hN.one
 unfold z8z
 rw[zfL hf hN (by omega) (by omega),bsm,zr7 hf hN,bsm]
 have y0:((hdN (nxN A) A.length A.length).drop 1).length≤600:=by unfold z6c at f0;rw[List.length_map] at f0;exact f0
 have t0:(z6A (nxN A) A.length A.length).length=((hdN (nxN A) A.length A.length).drop 1).length+1:=by
  unfold z6A
  rw[List.length_map]
  conv=>lhs;rw[q]
  rfl
 have X:(z6c (nxN A) A.length (zF A)).map QB.code=((hdN (nxN A) A.length A.length).drop 1).map fun d=>zF A (zbv (nxN A) A.length (zF A) d):=by
  unfold z6c
  rw[List.map_map];rfl
 obtain⟨o,e1,rfl⟩:=zf (body:=z5F fu ⟨A⟩ (z6A (nxN A) A.length A.length))
  (fun i st=>st=((i:Int),(((hdN (nxN A) A.length A.length).drop 1).take (i - 1)).map (fun d=>zF A (zbv (nxN A) A.length (zF A) d)),(((hdN (nxN A) A.length A.length).drop 1).take (i - 1)).map (zbv (nxN A) A.length (zF A))))
  (z6A (nxN A) A.length A.length).length
  (fun o=>o=.inl (((hdN (nxN A) A.length A.length).drop 1).map (fun d=>zF A (zbv (nxN A) A.length (zF A) d)),((hdN (nxN A) A.length A.length).drop 1).map (zbv (nxN A) A.length (zF A)))) (by
  rintro i st hi rfl
  have r0:=hi
  unfold z6A at hi
  rw[List.length_map] at hi
  obtain⟨d,hd⟩:=z1j hi
  have H:=List.mem_of_getElem? hd
  have e0:=zaR H
  have hp:(z6A (nxN A) A.length A.length)[i]? = some (z8o (nxN A) A.length d):=by unfold z6A;rw[List.getElem?_map,hd];rfl
  have u0:=ziQ hN.graph H
  have b0:idx (z8o (nxN A) A.length d) 0=some d:=za (i:=0) u0
  have v0:=zi7 hN e0.1 e0.2
  unfold z5F
  dsimp only
  rw[if_pos (by simpa using r0),za hp,bsm,b0,bsm]
  cases i with
  | zero=>
   rw[q] at hd
   cases hd
   refine .inl ⟨_,by rw[if_pos (by simp)];rfl,?_⟩
   dsimp only
   rw[zb (by omega) (by omega)]
   rfl
  | succ j=>
   have g0:((hdN (nxN A) A.length A.length).drop 1)[j]? = some d:=by rw[List.getElem?_drop,Nat.add_comm 1 j];exact hd
   have p0:d≠0:=by
    have:=zgV (nx:=nxN A) (n:=A.length) (i:=A.length)
    rw[q] at this
    have:=(List.pairwise_cons.1 this).1 d (List.mem_of_getElem? g0)
    omega
   refine .inl ⟨_,by rw[if_neg (by simpa using p0),bsm,b0,bsm,zot hf hN e0.1 e0.2,bsm,zuR hf hN H hp,bsm,z8];unfold zaa z5C;dsimp only;rw[if_pos (by simp;omega),if_pos (by simp;omega)],?_⟩
   rw[zb (by omega) (by omega),Nat.add_sub_cancel,Nat.add_sub_cancel,List.take_add_one,g0,List.map_append,List.map_append]
   rfl) (by
  rintro st rfl
  refine .inr ⟨_,?_,rfl⟩
  unfold z5F
  dsimp only
  rw[if_neg (by simp),List.take_of_length_le (by omega)]) (fu:=fu) (i:=0) (s:=(0,[],[])) (Nat.zero_le _) (by omega) (by simp)
 rw[e1,bsm,z8]
 unfold zad
 dsimp only
 rw[if_pos (by simp only[List.length_map,decide_eq_true_eq];omega)]
 have c0:(((hdN (nxN A) A.length A.length).drop 1).map (zbv (nxN A) A.length (zF A))).length=(z6c (nxN A) A.length (zF A)).length:=by unfold z6c;simp
 have O:((z6c (nxN A) A.length (zF A)).map QB.code).length=(z6c (nxN A) A.length (zF A)).length:=by simp
 rw[← X]
 obtain⟨o,e2,us,js,hC,a0,rfl⟩:=zf (body:=z5E fu ⟨A⟩ ((z6c (nxN A) A.length (zF A)).map QB.code,((hdN (nxN A) A.length A.length).drop 1).map (zbv (nxN A) A.length (zF A))))
  (fun t st=>∃ us js,Chosen ((z6c (nxN A) A.length (zF A)).map QB.code) us js∧js.length=t∧st=((t:Int),us,z2y (nxN A) A.length 0++js.flatMap fun j=>((z6c (nxN A) A.length (zF A)).getD j d0).QS)∧(js.flatMap fun j=>((z6c (nxN A) A.length (zF A)).getD j d0).QS).length≤600*t)
  (z6c (nxN A) A.length (zF A)).length
  (fun o=>∃ us js,Chosen ((z6c (nxN A) A.length (zF A)).map QB.code) us js∧js.length=(z6c (nxN A) A.length (zF A)).length∧o=.inl (z2y (nxN A) A.length 0++js.flatMap fun j=>((z6c (nxN A) A.length (zF A)).getD j d0).QS)) (by
  rintro t st ht ⟨us,js,hC,a0,rfl,q0⟩
  obtain⟨p,p1,p2,p3⟩:=hC.more (by rw[O];omega)
  rw[O] at p2
  have i0:=hC.len
  obtain⟨d,hd⟩:=z1j (xs:=(hdN (nxN A) A.length A.length).drop 1) (i:=p) (by unfold z6c at p2;simpa using p2)
  have H:=List.mem_of_mem_drop (List.mem_of_getElem? hd)
  have j0:(z6c (nxN A) A.length (zF A))[p]? = some (zpE (nxN A) A.length (zF A) d):=by unfold z6c;rw[List.getElem?_map,hd];rfl
  have hg:(z6c (nxN A) A.length (zF A)).getD p d0=zpE (nxN A) A.length (zF A) d:=by rw[List.getD_eq_getElem?_getD,j0];rfl
  have k0:(((hdN (nxN A) A.length A.length).drop 1).map (zbv (nxN A) A.length (zF A)))[p]? = some (zbv (nxN A) A.length (zF A) d):=by rw[List.getElem?_map,hd];rfl
  have r:=zaR H
  have rb:=z8a hN.graph r.1 r.2 (zf2 (code:=zF A) hN.graph H)
  obtain⟨c1,c2,c3⟩:=zeo hN H
  have G:(zpE (nxN A) A.length (zF A) d).QS=z2y (nxN A) A.length (zbv (nxN A) A.length (zF A) d):=rfl
  rw[G] at c2
  refine .inl ⟨(w64 ((t:Int)+1),us.set p true,z2y (nxN A) A.length 0++(js++[p]).flatMap fun j=>((z6c (nxN A) A.length (zF A)).getD j d0).QS),?_,us.set p true,js++[p],p3,by simp[a0],by rw[zb (by omega) (by omega)];rfl,?_⟩
  ·unfold z5E
   dsimp only
   rw[if_pos (by rw[c0];simpa using ht),zsu hf (by rw[O];omega) (by rw[c0,O]) i0 (fun c hc=>by
    obtain⟨x,hx,rfl⟩:=List.mem_map.1 hc
    obtain⟨d',o0,rfl⟩:=zfY hx
    exact(zeo hN o0).1),bsm,z8,p1]
   unfold zab
   dsimp only
   rw[if_pos (by rw[i0,O];simp;omega),za k0,bsm,zfL hf hN rb.1 rb.2,bsm]
   dsimp only
   rw[if_pos (by rw[List.length_append];simp only[decide_eq_true_eq];omega),List.flatMap_append,List.flatMap_cons,List.flatMap_nil,List.append_nil,hg,G,List.append_assoc,Int.toNat_natCast]
  ·rw[List.flatMap_append,List.flatMap_cons,List.flatMap_nil,List.append_nil,hg,G,List.length_append]
   omega) (by
  rintro st ⟨us,js,hC,a0,rfl,q0⟩
  refine .inr ⟨_,?_,us,js,hC,a0,rfl⟩
  unfold z5E
  dsimp only
  rw[c0,if_neg (by simp)]) (fu:=fu) (i:=0) (s:=(0,List.replicate ((((hdN (nxN A) A.length A.length).drop 1).map (zbv (nxN A) A.length (zF A))).length:Int).toNat false,z2y (nxN A) A.length 0)) (Nat.zero_le _) (by omega) ⟨List.replicate ((z6c (nxN A) A.length (zF A)).map QB.code).length false,[],Chosen.begin,rfl,by rw[c0,O,Int.toNat_natCast];simp,by simp⟩
 rw[e2,bsm,z8]
 have Y:=hC.done a0 zkv
 have Z:(js.flatMap fun j=>((z6c (nxN A) A.length (zF A)).getD j d0).QS)=(zjX (z6c (nxN A) A.length (zF A))).flatMap fun t=>t.QS:=by
  rw[← Y,List.flatMap_map]
 unfold zac zcB
 rw[Z]
end
end Go.E



namespace Go.E
open Go.RowKit Go.Proofs Go.Sort

variable {fu:Nat}
def zxZ (l:L9)(a:D.Qe):D.Qe:=⟨a.Qi,a.QC,a.Value,a.Data,a.Qy.map fun p=>⟨((l.idxOf p.Qe:Nat):Int),p.Qa2⟩⟩
def zvp (A:LA)(l:L9)(x:Int):LA:=match A[x.toNat]? with
 | some a=>[zxZ l a]
 | none=>[]
def zxF (A:LA)(l:L9):LA:=l.flatMap (zvp A l)
theorem zsd {A:LA}{l:L9}{x:Int}{a:D.Qe}(h:A[x.toNat]? = some a):zvp A l x=[zxZ l a]:=by unfold zvp;rw[h]
theorem zs4 {α ρ:Type}{xs:List α}{f:α→α}{body:Int×List α→Option (Rd (Int×List α) (List α) ρ)}(hl:xs.length≤1048576)(hf:Big fu)
  (step:∀ (i:Nat) x ys,i<xs.length→ys.length=xs.length→ys[i]? = some x→xs[i]? = some x→body ((i:Int),ys)=some (.next (w64 (i+1),ys.set i (f x))))
  (q:∀ ys,ys.length=xs.length→body ((xs.length:Int),ys)=some (.brk ys)):iter body fu (0,xs)=some (.inl (xs.map f)):=by
 obtain⟨o,e1,rfl⟩:=zf (body:=body) (fun i st=>st=((i:Int),(xs.take i).map f++xs.drop i)) xs.length (fun o=>o=.inl (xs.map f)) (by
  rintro i st hi rfl
  obtain⟨x,hx⟩:=z1j hi
  have G:((xs.take i).map f).length=i:=by simp;omega
  have H:=(List.getElem?_eq_some_iff.1 hx)
  have hd:xs.drop i=x::xs.drop (i+1):=by rw[List.drop_eq_getElem_cons hi,H.2]
  refine .inl ⟨_,step i x _ hi (by simp;omega) (by rw[List.getElem?_append_right (by omega),G,Nat.sub_self,hd];rfl) hx,?_⟩
  rw[zb (by omega) (by omega),List.set_append_right _ _ (by omega),G,Nat.sub_self,hd,List.set_cons_zero,List.take_add_one,hx,List.map_append,List.append_assoc]
  rfl) (by
  rintro st rfl
  rw[List.drop_length,List.take_length,List.append_nil]
  exact .inr ⟨_,q _ (by simp),rfl⟩) (fu:=fu) (i:=0) (s:=(0,xs)) (Nat.zero_le _) (by omega) (by simp)
 exact e1
structure Qa0 (A:LA) (l:L9):Prop where
 nodup:l.Nodup
 mem:∀ x,x∈l↔0≤x∧x<A.length
 len:l.length=A.length
theorem zgL {A:LA}(hN:NetOk A):Qa0 A (zcB (nxN A) A.length (zF A)):=
 ⟨ziU hN.graph hN.one,fun x=>zns hN.graph hN.one,zsm hN.graph hN.one⟩
theorem zxn {l:L9}{n:Nat}(hf:Big fu)(hn:l.Nodup)(hl:l.length≤100000)(hr:∀ x∈l,0≤x∧x<l.length):
  ∃ N:L9,iter (z2p fu l) fu (0,l)=some (.inl N)∧N.length=l.length∧∀ x∈l,N[x.toNat]? = some ((l.idxOf x:Nat):Int):=by
 obtain⟨o,e1,N,rfl,h2,h3⟩:=zf (body:=z2p fu l) (fun k st=>∃ N:L9,st=((k:Int),N)∧N.length=l.length∧∀ x∈l.take k,N[x.toNat]? = some ((l.idxOf x:Nat):Int)) l.length
  (fun o=>∃ N:L9,o=.inl N∧N.length=l.length∧∀ x∈l,N[x.toNat]? = some ((l.idxOf x:Nat):Int)) (by
  rintro k st hk ⟨N,rfl,q,G⟩
  obtain⟨x,hx⟩:=z1j hk
  have H:=hr x (List.mem_of_getElem? hx)
  have hi:l.idxOf x=k:=by
   obtain⟨h1,rfl⟩:=List.getElem?_eq_some_iff.1 hx
   exact hn.idxOf_getElem k h1
  refine .inl ⟨(w64 ((k:Int)+1),N.set x.toNat (k:Int)),?_,N.set x.toNat (k:Int),by rw[zb (by omega) (by omega)];rfl,by simp[q],fun y hy=>?_⟩
  ·unfold z2p
   dsimp only
   rw[if_pos (by simpa using hk),za hx,bsm,if_pos (by simp only[decide_eq_true_eq];omega)]
  ·by_cases hxy:x.toNat=y.toNat
   ·rw[hxy,List.getElem?_set_self (by rw[q];omega)]
    have O:0≤y:=by
     rw[List.take_add_one,hx] at hy
     rcases List.mem_append.1 hy with hy | hy
     ·exact(hr y (List.mem_of_mem_take hy)).1
     ·simp at hy;omega
    obtain rfl:x=y:=by omega
    rw[hi]
   ·rw[List.getElem?_set_ne hxy]
    rw[List.take_add_one,hx] at hy
    rcases List.mem_append.1 hy with hy | hy
    ·exact G y hy
    ·simp at hy;subst hy;exact absurd rfl hxy) (by
  rintro st ⟨N,rfl,q,G⟩
  rw[List.take_length] at G
  refine .inr ⟨N,?_,N,rfl,q,G⟩
  unfold z2p
  rw[if_neg (by simp)]) (fu:=fu) (i:=0) (s:=(0,l)) (Nat.zero_le _) (by omega) ⟨l,rfl,rfl,fun x hx=>by simp at hx⟩
 exact⟨N,e1,h2,h3⟩
theorem zp5 {A:LA}{l:L9}{x:Int}:(zvp A l x).length≤1:=by unfold zvp;split<;>simp
theorem zvn {A:LA}{l:L9}(hf:Big fu)(hN:NetOk A)(hF:Qa0 A l):z5H fu ⟨A⟩ l=some ⟨zxF A l⟩:=by
 have hn:=hN.len
 have H:=hF.len
 unfold z5H z3m
 rw[if_pos (by simp;omega),bsm,List.nil_append]
 obtain⟨N,e1,h2,h3⟩:=zxn (n:=A.length) hf hF.nodup (by omega) (fun x hx=>by have:=(hF.mem x).1 hx;omega)
 rw[e1,bsm,z8]
 unfold z8B
 have h:=zdU (xs:=l) (body:=z3w fu ⟨A⟩ l N) (mk:=fun k st=>(k,st)) (out:=fun st=>st) (g:=zvp A l) (s0:=[]) (b:=1) (fu:=fu) (by omega) hf (fun x _=>zp5) (by
  intro k x st hx X
  have G:=(List.getElem?_eq_some_iff.1 hx).1
  have hr:=(hF.mem x).1 (List.mem_of_getElem? hx)
  obtain⟨a,a1,a2⟩:=zgU (xs:=A) hr.1 hr.2
  have am:=List.mem_of_getElem? a1
  have a0:=hN.Qu a am
  have Z:=hN.data a am
  simp only[List.length_nil,Nat.zero_add] at X
  unfold z3w z8c z3m
  dsimp only
  rw[if_pos (by simpa using G),za hx,bsm,a2,bsm,if_pos (by simp;omega),bsm,if_pos (by simp;omega),bsm]
  unfold z5G
  dsimp only
  rw[List.nil_append,List.nil_append]
  have hi:=zs4 (xs:=a.Qy) (f:=fun p=>⟨((l.idxOf p.Qe:Nat):Int),p.Qa2⟩) (body:=z3v fu N (a.Qi,a.QC,a.Value,a.Data,a.Qy)) (fu:=fu) (by omega) hf (by
   intro i p ys q Y hy hp
   have o:=zkA hN hr.1 hr.2 a1 (List.mem_of_getElem? hp)
   have O:=h3 p.Qe ((hF.mem _).2 o)
   unfold z3v
   dsimp only
   rw[if_pos (by simpa using q),za hy,bsm,zsS o.1 O,bsm,bsm,Int.toNat_natCast]) (by
   intro ys Y
   unfold z3v
   dsimp only
   rw[if_neg (by simp)])
  rw[hi,bsm,z8]
  unfold z8A
  dsimp only
  rw[if_pos (by simp;omega),zsd a1]
  rfl) (by
  intro st
  unfold z3w
  rw[if_neg (by simp)])
 try dsimp only at h
 rw[h,bsm,z8]
 rfl
theorem zvo {A:LA}{l:L9}(hf:Big fu)(hN:NetOk A)(hF:Qa0 A l):z5a fu ⟨A⟩ l=some ⟨zxF A l⟩:=by
 have hn:=hN.len
 have H:=hF.len
 unfold z5a
 obtain⟨M,e1,hM⟩:=zno (τ:=Unit) (body:=z88 fu l) hf hF.nodup (by omega) (fun k M=>rfl)
 rw[e1,bsm,z8]
 unfold z87
 have h:=zdU (xs:=l) (body:=z3a fu ⟨A⟩ l M) (mk:=fun k st=>(k,st)) (out:=fun st=>st) (g:=zvp A l) (s0:=[]) (b:=1) (fu:=fu) (by omega) hf (fun x _=>zp5) (by
  intro k x st hx X
  have G:=(List.getElem?_eq_some_iff.1 hx).1
  have hr:=(hF.mem x).1 (List.mem_of_getElem? hx)
  obtain⟨a,a1,a2⟩:=zgU (xs:=A) hr.1 hr.2
  have am:=List.mem_of_getElem? a1
  have a0:=hN.Qu a am
  have Z:=hN.data a am
  simp only[List.length_nil,Nat.zero_add] at X
  unfold z3a z9t z1n z1v
  dsimp only
  rw[if_pos (by simpa using G),za hx,bsm,a2,bsm,if_pos (by simp;omega),bsm,if_pos (by simp;omega),bsm,bsm]
  dsimp only
  rw[List.nil_append,List.nil_append]
  have hi:=zs4 (xs:=a.Qy) (f:=fun p=>⟨((l.idxOf p.Qe:Nat):Int),p.Qa2⟩) (body:=z38 fu M ⟨a.Qi,a.QC,a.Value,a.Data,a.Qy⟩) (fu:=fu) (by omega) hf (by
   intro i p ys o Y hy hp
   have O:=zkA hN hr.1 hr.2 a1 (List.mem_of_getElem? hp)
   have q:=(hF.mem _).2 O
   unfold z38
   dsimp only
   rw[if_pos (by simpa using o),za hy,bsm,bsm,znn hM q,Int.toNat_natCast]) (by
   intro ys Y
   unfold z38
   dsimp only
   rw[if_neg (by simp)])
  rw[hi,bsm,z8]
  unfold z86
  dsimp only
  rw[if_pos (by simp;omega),zsd a1]
  rfl) (by
  intro st
  unfold z3a
  rw[if_neg (by simp)])
 try dsimp only at h
 rw[h,bsm,z8]
 rfl

def zwU (A:LA):LA:=zxF A (zcB (nxN A) A.length (zF A))
theorem zwS {A:LA}(hf:Big fu)(hN:NetOk A):zae fu ⟨A⟩=some ⟨zwU A⟩:=by
 unfold zae
 rw[zra hf hN,bsm,zvn hf hN (zgL hN),bsm]
 rfl
theorem zwT {A:LA}(hf:Big fu)(hN:NetOk A):z7W fu ⟨A⟩=some ⟨zwU A⟩:=by
 unfold z7W
 rw[zrb hf hN,bsm,zvo hf hN (zgL hN),bsm]
 rfl
end Go.E




namespace Go.E
open Go.RowKit Go.Proofs


abbrev Id:=Nat×Nat×Nat
abbrev Lv:=List (Id×Qa)
def zjL (d:Id)(k:Nat):Key:=(d.1,d.2.1,d.2.2,k)
def keyR:Key:=(0,0,0,0)
def lvR (t m:Nat)(cs:LB):Lv:=cs.zipIdx.flatMap fun x=>if x.1.Qi=0 then [] else [((t,m,x.2),x.1)]
def lvG (g:D.Qk)(more:LB):Lv:=(g.Qf.zipIdx.flatMap fun x=>lvR 1 x.2 x.1.Cells)++lvR 3 0 more
def zgP (x:Id×Qa):List Key:=(List.range (x.2.QM.length+1)).map (zjL x.1)
def zcx (lv:Lv):List Key:=lv.flatMap zgP
def zeb (lv:Lv):List Key:=keyR::zcx lv
theorem zhh {a b:Lv}:zcx (a++b)=zcx a++zcx b:=by unfold zcx;rw[List.flatMap_append]
theorem zpL {t m:Nat}{cs:LB}:zbp t m cs=zcx (lvR t m cs):=by
 unfold zbp zcx lvR
 rw[List.flatMap_assoc]
 congr 1
 funext x
 unfold z9R
 split
 ·rfl
 ·simp[zgP,zjL]
theorem zsh {ss:LG}:z7g ss=keyR::zcx (ss.zipIdx.flatMap fun x=>lvR 1 x.2 x.1.Cells):=by
 unfold z7g keyR zcx
 rw[List.flatMap_assoc]
 congr 2
 funext x
 exact zpL
theorem zgt {g:D.Qk}{more:LB}:z7g g.Qf++zbp 3 0 more=zeb (lvG g more):=by
 unfold zeb lvG
 rw[zhh,zsh,zpL];rfl
theorem zmg {t m:Nat}:∀ {cs:LB}{k:Nat},((cs.zipIdx k).flatMap fun x=>if x.1.Qi=0 then([]:Lv) else [((t,m,x.2),x.1)]).map (·.2)=zf7 cs
 | [],k=>rfl
 | c::cs,k=>by
  rw[List.zipIdx_cons,List.flatMap_cons,List.map_append,zmg]
  unfold zf7
  rw[List.filter_cons]
  by_cases h:c.Qi=0<;>simp[h]
theorem zj5 {a b:LB}:zf7 (a++b)=zf7 a++zf7 b:=by unfold zf7;rw[List.filter_append]
theorem zj4:∀ {ss:LG}{k:Nat},((ss.zipIdx k).flatMap fun x=>lvR 1 x.2 x.1.Cells).map (·.2)=zf7 (ss.flatMap fun s=>s.Cells)
 | [],k=>rfl
 | s::ss,k=>by
  rw[List.zipIdx_cons,List.flatMap_cons,List.map_append,zj4,List.flatMap_cons,zj5]
  congr 1
  exact zmg
theorem zpY {g:D.Qk}{more:LB}:(lvG g more).map (·.2)=zf7 (zgg g++more):=by
 unfold lvG zgg
 rw[List.map_append,zj4,zj5]
 congr 1
 exact zmg
theorem znF:∀ {lv:Lv},(zcx lv).Nodup→(lv.map (·.1)).Nodup
 | [],_=>by simp
 | x::lv,h=>by
  have e:zcx (x::lv)=zgP x++zcx lv:=rfl
  rw[e,List.nodup_append] at h
  obtain⟨h1,h2,h3⟩:=h
  rw[List.map_cons,List.nodup_cons]
  refine⟨fun hm=>?_,znF h2⟩
  obtain⟨y,hy,he⟩:=List.mem_map.1 hm
  exact h3 (zjL x.1 0) (by unfold zgP;exact List.mem_map.2 ⟨0,by simp,rfl⟩) (zjL x.1 0) (by
   unfold zcx
   refine List.mem_flatMap.2 ⟨y,hy,?_⟩
   unfold zgP
   rw[he]
   exact List.mem_map.2 ⟨0,by simp,rfl⟩) rfl

def numI (lv:Lv)(d:Id):Nat:=(lv.map (·.1)).idxOf d+1
def z4H (lv:Lv)(k:Key):Qx:=if k.1=0 then⟨0,0⟩ else⟨((numI lv (k.1,k.2.1,k.2.2.1):Nat):Int),(k.2.2.2:Int)⟩
theorem zb7 {lv:Lv}{d:Id}{k:Nat}(h:d.1≠0):z4H lv (zjL d k)=⟨((numI lv d:Nat):Int),(k:Int)⟩:=by
 unfold z4H zjL
 rw[if_neg h]
theorem zfg {lv:Lv}(hn:(lv.map (·.1)).Nodup){j:Nat}{x:Id×Qa}(h:lv[j]? = some x):numI lv x.1=j+1:=by
 unfold numI
 congr 1
 have hm:(lv.map (·.1))[j]? = some x.1:=by rw[List.getElem?_map,h];rfl
 obtain⟨h1,h2⟩:=List.getElem?_eq_some_iff.1 hm
 rw[← h2]
 exact hn.idxOf_getElem j h1
theorem zni {lv:Lv}(hn:(lv.map (·.1)).Nodup)(ht:∀ x∈lv,x.1.1≠0):∀ (m:Nat),m≤lv.length→zg0 (lv.length - m+1) ((lv.drop (lv.length - m)).map (·.2))=(zcx (lv.drop (lv.length - m))).map (z4H lv)
 | 0,_=>by
  rw[Nat.sub_zero,List.drop_length];rfl
 | m+1,hm=>by
  have o:lv.length - (m+1)<lv.length:=by omega
  have ih:=zni hn ht m (by omega)
  rw[List.drop_eq_getElem_cons o]
  rw[show lv.length - (m+1)+1=lv.length - m by omega]
  generalize hx:lv[lv.length - (m+1)]=x
  have q:lv[lv.length - (m+1)]? = some x:=by rw[List.getElem?_eq_getElem o,hx]
  have G:=List.mem_of_getElem? q
  have e:zcx (x::lv.drop (lv.length - m))=zgP x++zcx (lv.drop (lv.length - m)):=rfl
  rw[e,List.map_cons,List.map_append]
  unfold zg0
  rw[ih]
  congr 1
  unfold zgP
  rw[List.map_map]
  apply List.map_congr_left
  intro k _
  show _=z4H lv (zjL x.1 k)
  rw[zb7 (ht x G),zfg hn q,show lv.length - (m+1)+1=lv.length - m by omega]
theorem zr3 {lv:Lv}(hn:(lv.map (·.1)).Nodup)(ht:∀ x∈lv,x.1.1≠0):⟨0,0⟩::zg0 1 (lv.map (·.2))=(zeb lv).map (z4H lv):=by
 have h:=zni hn ht lv.length (Nat.le_refl _)
 rw[Nat.sub_self,List.drop_zero,Nat.zero_add] at h
 rw[h];rfl


def agK (e:Key→Qx)(x:Id×Qa):D.Qe:=⟨x.2.Qi,x.2.QC,x.2.Value,x.2.Data,(List.range (x.2.QM.length+1)).map fun k=>e (zjL x.1 k)⟩
def zdJ (lv:Lv)(e:Key→Qx):LA:=⟨1,0,0,[],[e keyR]⟩::lv.map (agK e)
theorem ziX {lv:Lv}:zsb::(lv.map (·.2)).map z7z=zdJ lv fun _=>⟨0,0⟩:=by
 unfold zdJ zsb
 rw[List.map_map]
 congr 1
 apply List.map_congr_left
 intro x _
 unfold agK z7z
 simp only[Function.comp_apply,D.Qe.mk.injEq,true_and]
 rw[List.map_const']
 simp
theorem zaZ {lv:Lv}{k:Key}(h:k∈zeb lv):k=keyR∨∃ (j:Nat) (x:Id×Qa) (s:Nat),lv[j]? = some x∧s≤x.2.QM.length∧k=zjL x.1 s:=by
 unfold zeb at h
 rcases List.mem_cons.1 h with h | h
 ·exact .inl h
 ·obtain⟨x,hx,h2⟩:=List.mem_flatMap.1 h
  obtain⟨j,hj⟩:=List.getElem?_of_mem hx
  obtain⟨s,hs,rfl⟩:=List.mem_map.1 h2
  exact .inr ⟨j,x,s,hj,by have:=List.mem_range.1 hs;omega,rfl⟩
theorem zmL {lv:Lv}{j s:Nat}{x:Id×Qa}(h:lv[j]? = some x)(hs:s≤x.2.QM.length):zjL x.1 s∈zeb lv:=
 List.mem_cons_of_mem _ (List.mem_flatMap.2 ⟨x,List.mem_of_getElem? h,List.mem_map.2 ⟨s,List.mem_range.2 (by omega),rfl⟩⟩)
def upd (e:Key→Qx)(k:Key)(v:Qx):Key→Qx:=fun q=>if q=k then v else e q
theorem zq2 {d d':Id}{k k':Nat}(h:zjL d k=zjL d' k'):d=d'∧k=k':=by
 obtain⟨a,b,c⟩:=d
 obtain⟨a',b',c'⟩:=d'
 unfold zjL at h
 simp only[Prod.mk.injEq] at h ⊢
 exact⟨⟨h.1,h.2.1,h.2.2.1⟩,h.2.2.2⟩
theorem znE {d:Id}{k:Nat}(h:d.1≠0):zjL d k≠keyR:=by
 unfold zjL keyR
 intro e
 simp only[Prod.mk.injEq] at e
 exact h e.1

theorem zsw {lv:Lv}(hn:(lv.map (·.1)).Nodup)(ht:∀ x∈lv,x.1.1≠0){e:Key→Qx}{k:Key}(hk:k∈zeb lv)(v:Qx):
  ∃ (a s:Nat) (ag:D.Qe),z4H lv k=⟨(a:Int),(s:Int)⟩∧(zdJ lv e)[a]? = some ag∧s<ag.Qy.length∧(zdJ lv e).set a ⟨ag.Qi,ag.QC,ag.Value,ag.Data,ag.Qy.set s v⟩=zdJ lv (upd e k v):=by
 rcases zaZ hk with rfl | ⟨j,x,s,hj,hs,rfl⟩
 ·refine⟨0,0,⟨1,0,0,[],[e keyR]⟩,rfl,rfl,by simp,?_⟩
  unfold zdJ
  rw[List.set_cons_zero]
  have e1:upd e keyR v keyR=v:=by unfold upd;rw[if_pos rfl]
  rw[e1]
  congr 1
  apply List.map_congr_left
  intro x hx
  unfold agK
  simp only[D.Qe.mk.injEq,true_and]
  apply List.map_congr_left
  intro q _
  unfold upd
  rw[if_neg (znE (ht x hx))]
 ·have o:=List.mem_of_getElem? hj
  have G:=(List.getElem?_eq_some_iff.1 hj).1
  refine⟨j+1,s,agK e x,by rw[zb7 (ht x o),zfg hn hj],by unfold zdJ;rw[List.getElem?_cons_succ,List.getElem?_map,hj];rfl,by unfold agK;simp;omega,?_⟩
  unfold zdJ
  rw[List.set_cons_succ]
  have e1:upd e (zjL x.1 s) v keyR=e keyR:=by unfold upd;rw[if_neg (Ne.symm (znE (ht x o)))]
  rw[e1]
  congr 1
  apply List.ext_getElem?
  intro i
  by_cases hij:j=i
  ·subst hij
   rw[List.getElem?_set_self (by simpa using G),List.getElem?_map,hj,Option.map_some]
   unfold agK
   simp only[Option.some.injEq,D.Qe.mk.injEq,true_and]
   apply List.ext_getElem?
   intro q
   rcases Nat.lt_or_ge q (x.2.QM.length+1) with hq | hq
   ·by_cases hsq:s=q
    ·subst hsq
     rw[List.getElem?_set_self (by simpa using hq),List.getElem?_map,List.getElem?_range hq]
     simp[upd]
    ·rw[List.getElem?_set_ne hsq,List.getElem?_map,List.getElem?_map,List.getElem?_range hq]
     simp only[Option.map_some,Option.some.injEq]
     unfold upd
     rw[if_neg (fun e=>hsq (zq2 e).2.symm)]
   ·rw[List.getElem?_eq_none (by simpa using hq),List.getElem?_eq_none (by simpa using hq)]
  ·rw[List.getElem?_set_ne hij,List.getElem?_map,List.getElem?_map]
   cases hi:lv[i]? with
   | none=>rfl
   | some y=>
    simp only[Option.map_some,Option.some.injEq]
    unfold agK
    simp only[D.Qe.mk.injEq,true_and]
    apply List.map_congr_left
    intro q _
    unfold upd
    rw[if_neg]
    intro he
    have h1:=zfg hn hj
    have h2:=zfg hn hi
    rw[(zq2 he).1] at h2
    omega

noncomputable def eP (lv:Lv) (S done:List Key):Key→Qx:=fun k=>if k∈done then z4H lv (zk7 S k) else⟨0,0⟩
theorem zuE {lv:Lv}{S done:List Key}{k:Key}:upd (eP lv S done) k (z4H lv (zk7 S k))=eP lv S (done++[k]):=by
 funext q
 unfold upd eP
 by_cases h:q=k
 ·subst h;simp
 ·simp[h]
theorem zuD {lv:Lv}{S:List Key}:eP lv S []=fun _=>⟨0,0⟩:=by funext q;simp[eP]
noncomputable def zmc (lv:Lv) (S:List Key):LA:=zdJ lv (eP lv S (zeb lv))
theorem zfu {lv:Lv}{e:Key→Qx}:(zdJ lv e).length=lv.length+1:=by unfold zdJ;simp
end Go.E



namespace Go.E
open Go.RowKit Go.Proofs

structure Ctx (lv:Lv) (S:List Key):Prop where
 chain:Chain S
 mem:∀ k∈zeb lv,k∈S
 memS:∀ k∈S,k.1≠2→k∈zeb lv
 nodup:(zeb lv).Nodup
 tag:∀ x∈lv,x.1.1≠0∧x.1.1≠2
 len:S.length≤1000000
 small:lv.length≤100000
 cells:∀ x∈lv,x.2.sz≤1048576∧x.2.QM.length≤3∧x.2.Data.length≤4
section
variable {lv:Lv}{S:List Key}
theorem Ctx.ids (h:Ctx lv S):(lv.map (·.1)).Nodup:=znF (by have:=h.nodup;unfold zeb at this;exact(List.nodup_cons.1 this).2)
theorem Ctx.tag0 (h:Ctx lv S):∀ x∈lv,x.1.1≠0:=fun x hx=>(h.tag x hx).1
theorem Ctx.tagP (h:Ctx lv S){k:Key}(hk:k∈zeb lv):k.1≠2:=by
 rcases zaZ hk with rfl | ⟨j,x,s,hj,_,rfl⟩
 ·decide
 ·exact(h.tag x (List.mem_of_getElem? hj)).2
theorem Ctx.endP (h:Ctx lv S){k:Key}(hk:k∈zeb lv):zk7 S k∈zeb lv∧zk7 S (zk7 S k)=k:=by
 have h1:=h.mem k hk
 have h2:=h.tagP hk
 obtain⟨a,b⟩:=zuy h.chain h1 h2
 exact⟨h.memS _ a b,zuz h.chain h1 h2⟩

theorem zsy (h:Ctx lv S){x:Int}(h0:0≤x)(h1:x<(zmc lv S).length)(y:Int):y∈nxN (zmc lv S) x↔∃ k∈zeb lv,(z4H lv k).Qe=x∧y=(z4H lv (zk7 S k)).Qe:=by
 have hl:(zmc lv S).length=lv.length+1:=zfu
 rw[hl] at h1
 by_cases hx:x=0
 ·subst hx
  have e:nxN (zmc lv S) 0=[(z4H lv (zk7 S keyR)).Qe]:=by
   have hr:keyR∈zeb lv:=List.mem_cons_self
   unfold nxN zmc zdJ
   show [(eP lv S (zeb lv) keyR).Qe]=_
   unfold eP
   rw[if_pos hr]
  rw[e,List.mem_singleton]
  constructor
  ·rintro rfl
   exact⟨keyR,List.mem_cons_self,rfl,rfl⟩
  ·rintro⟨k,hk,ha,rfl⟩
   rcases zaZ hk with rfl | ⟨j,q,s,hj,hs,rfl⟩
   ·rfl
   ·rw[zb7 (h.tag0 q (List.mem_of_getElem? hj)),zfg h.ids hj] at ha
    simp only at ha
    omega
 ·obtain⟨j,H⟩:∃ j:Nat,x=((j+1:Nat):Int):=⟨x.toNat - 1,by omega⟩
  subst H
  obtain⟨q,hq⟩:=z1j (xs:=lv) (i:=j) (by omega)
  have O:=List.mem_of_getElem? hq
  have e:nxN (zmc lv S) ((j+1:Nat):Int)=(List.range (q.2.QM.length+1)).map fun s=>(z4H lv (zk7 S (zjL q.1 s))).Qe:=by
   have G:(zmc lv S)[(((j+1:Nat):Int)).toNat]? = some (agK (eP lv S (zeb lv)) q):=by
    rw[Int.toNat_natCast]
    unfold zmc zdJ
    rw[List.getElem?_cons_succ,List.getElem?_map,hq];rfl
   rw[zrc G]
   unfold agK
   rw[List.map_map]
   apply List.map_congr_left
   intro s hs
   show(eP lv S (zeb lv) (zjL q.1 s)).Qe=_
   unfold eP
   rw[if_pos (zmL hq (by have:=List.mem_range.1 hs;omega))]
  rw[e,List.mem_map]
  constructor
  ·rintro⟨s,hs,rfl⟩
   refine⟨zjL q.1 s,zmL hq (by have:=List.mem_range.1 hs;omega),?_,rfl⟩
   rw[zb7 (h.tag0 q O),zfg h.ids hq]
  ·rintro⟨k,hk,ha,rfl⟩
   rcases zaZ hk with rfl | ⟨j',q',s,o,hs,rfl⟩
   ·have:(z4H lv keyR).Qe=0:=rfl
    rw[this] at ha
    omega
   ·rw[zb7 (h.tag0 q' (List.mem_of_getElem? o)),zfg h.ids o] at ha
    simp only at ha
    obtain rfl:j'=j:=by omega
    rw[hq] at o
    cases o
    exact⟨s,List.mem_range.2 (by omega),rfl⟩
theorem zpP (h:Ctx lv S){k:Key}(hk:k∈zeb lv):0≤(z4H lv k).Qe∧(z4H lv k).Qe<(zmc lv S).length:=by
 have hl:(zmc lv S).length=lv.length+1:=zfu
 rw[hl]
 rcases zaZ hk with rfl | ⟨j,q,s,hj,hs,rfl⟩
 ·have:(z4H lv keyR).Qe=0:=rfl
  rw[this];omega
 ·have:=(List.getElem?_eq_some_iff.1 hj).1
  rw[zb7 (h.tag0 q (List.mem_of_getElem? hj)),zfg h.ids hj]
  simp only
  omega
theorem zsx (h:Ctx lv S)(hb:lv.length+1≤600):NetOk (zmc lv S) where
 graph:=by
  refine⟨fun x h0 h1 y hy=>?_,fun x h0 h1 y hy=>?_⟩
  ·obtain⟨k,hk,ha,rfl⟩:=(zsy h h0 h1 y).1 hy
   exact zpP h (h.endP hk).1
  ·obtain⟨k,hk,ha,rfl⟩:=(zsy h h0 h1 y).1 hy
   obtain⟨e1,e2⟩:=h.endP hk
   obtain⟨r1,r2⟩:=zpP h e1
   rw[zsy h r1 r2]
   exact⟨zk7 S k,e1,rfl,by rw[e2];exact ha.symm⟩
 one:=by unfold zmc;rw[zfu];omega
 len:=by unfold zmc;rw[zfu];omega
 Qu a ha:=by
  unfold zmc zdJ at ha
  rcases List.mem_cons.1 ha with rfl | ha
  ·simp
  ·obtain⟨x,hx,rfl⟩:=List.mem_map.1 ha
   have:=(h.cells x hx).2.1
   unfold agK
   simp only[List.length_map,List.length_range]
   omega
 data a ha:=by
  unfold zmc zdJ at ha
  rcases List.mem_cons.1 ha with rfl | ha
  ·simp
  ·obtain⟨x,hx,rfl⟩:=List.mem_map.1 ha
   exact(h.cells x hx).2.2


theorem zvN {fu:Nat}{g:D.Qk}{more:LB}{L M:Qg}{at_:L9}(hf:Big fu)(hI:Items g more L at_)(hR:Run g more L M S)(h:Ctx (lvG g more) S):
  ∃ M',za1 fu M=some (if 600<(lvG g more).length+1 then(⟨[]⟩,4,M') else(⟨zwU (zmc (lvG g more) S)⟩,0,M')):=by
 have f0:=h.small
 have X:M.Qq=zdJ (lvG g more) (fun _=>⟨0,0⟩):=by rw[hR.Qq,hI.pa.Qq,← zpY,ziX]
 have Z:M.Qu=(zeb (lvG g more)).map (z4H (lvG g more)):=by rw[hR.Qu,hI.pa.Qu,← zpY,zr3 h.ids h.tag0]
 have O:M.Qu.length=(zeb (lvG g more)).length:=by rw[Z,List.length_map]
 have G:zfF g more=zeb (lvG g more)++zhp g.Qf:=by unfold zfF;rw[zgt]
 have q:∀ (y:Nat) key,(zfF g more)[y]? = some key→(y<M.Qu.length↔key.1≠2):=by
  intro y key hy
  rw[O]
  rw[G] at hy
  constructor
  ·intro Y
   rw[List.getElem?_append_left Y] at hy
   exact h.tagP (List.mem_of_getElem? hy)
  ·intro a0
   rcases Nat.lt_or_ge y (zeb (lvG g more)).length with Y | hge
   ·exact Y
   ·rw[List.getElem?_append_right hge] at hy
    exact absurd (zkS (List.mem_of_getElem? hy)) a0
 unfold za1
 by_cases hbig:600<(lvG g more).length+1
 ·rw[if_pos (by rw[X,zfu];simp only[decide_eq_true_eq];omega)]
  exact⟨M,by rw[if_pos hbig]⟩
 rw[if_neg (by rw[X,zfu];simp only[decide_eq_true_eq];omega)]
 have e0:(zeb (lvG g more)).length≤1000000:=by
  have h1:=h.nodup.length_le_of_subset (l₂:=S) (fun k hk=>h.mem k hk)
  have h2:=h.len
  omega
 obtain⟨o,e1,rfl⟩:=zf (body:=z7G fu M) (fun i st=>st=((i:Int),zdJ (lvG g more) (eP (lvG g more) S ((zeb (lvG g more)).take i)))) (zeb (lvG g more)).length (fun o=>o=.inl (zmc (lvG g more) S)) (by
  rintro i st hi rfl
  obtain⟨k,hk⟩:=z1j hi
  have H:=List.mem_of_getElem? hk
  obtain⟨a,s,ag,p1,p2,p3,p4⟩:=zsw h.ids h.tag0 (e:=eP (lvG g more) S ((zeb (lvG g more)).take i)) H (z4H (lvG g more) (zk7 S k))
  rw[zuE] at p4
  have hx:(zfF g more)[i]? = some k:=by rw[G,List.getElem?_append_left hi];exact hk
  obtain⟨y,y1,y2⟩:=zpj (L:=⟨[],M.Qu,[],[],M.ends,M.Qt⟩) hf zbU hR.endsX hR.pairsX h.chain q h.len hx (h.mem k H) (h.tagP H)
  have c0:=(q y _ y2).2 (h.tagP (h.endP H).1)
  have b0:M.Qu[y]? = some (z4H (lvG g more) (zk7 S k)):=by
   rw[G,List.getElem?_append_left (by rw[← O];exact c0)] at y2
   rw[Z,List.getElem?_map,y2];rfl
  refine .inl ⟨(w64 ((i:Int)+1),zdJ (lvG g more) (eP (lvG g more) S ((zeb (lvG g more)).take i++[k]))),?_,by rw[zb (by omega) (by omega),List.take_add_one,hk];rfl⟩
  unfold z7G
  dsimp only
  rw[if_pos (by rw[O];simpa using hi),za (x:=z4H (lvG g more) k) (by rw[Z,List.getElem?_map,hk];rfl),bsm,p1]
  dsimp only
  rw[za p2,bsm,y1,bsm,za b0,bsm,if_pos (by simp only[decide_eq_true_eq,Int.toNat_natCast];omega),Int.toNat_natCast,Int.toNat_natCast,p4]) (by
  rintro st rfl
  rw[List.take_length]
  refine .inr ⟨_,?_,rfl⟩
  unfold z7G
  rw[if_neg (by rw[O];simp)]
  rfl) (fu:=fu) (i:=0) (s:=(0,M.Qq)) (Nat.zero_le _) (by omega) (by rw[X,List.take_zero,zuD];rfl)
 rw[e1,bsm,z8]
 unfold zbr
 rw[zwS hf (zsx h (by omega)),bsm]
 exact⟨_,by rw[if_neg hbig]⟩
end
end Go.E



namespace Go.E
open Go.RowKit Go.Proofs


structure Adr (lv:Lv) (S:List Key) (T:LC) (th:Key→QH) (ad:Id→Qb):Prop where
 things:Things S T th
 root:th keyR=⟨noneN,0,true⟩
 cell:∀ x∈lv,∀ s:Nat,th (zjL x.1 s)=⟨ad x.1,(s:Int),decide (0<s) || ((ad x.1).Qi != 1)⟩
 nodup:(noneN::lv.map fun x=>ad x.1).Nodup
def zh8 (M:List (Qb×Int))(l:LD)(k:Nat):Prop:=∀ a,mget M a=if a∈l.take k then some ((l.idxOf a:Nat):Int) else none
theorem ziN {M:List (Qb×Int)}{l:LD}{k:Nat}{x:Qb}(hn:l.Nodup)(h:zh8 M l k)(hx:l[k]? = some x):zh8 (mput M x k) l (k+1):=by
 have hi:l.idxOf x=k:=by
  obtain⟨h1,rfl⟩:=List.getElem?_eq_some_iff.1 hx
  exact hn.idxOf_getElem k h1
 intro y
 rw[zdh,List.take_add_one,hx,h y]
 by_cases hxy:x=y
 ·subst hxy
  rw[if_pos rfl,if_pos (by simp),hi]
 ·rw[if_neg hxy]
  have:(y∈l.take k++(some x).toList)↔y∈l.take k:=by simp[Ne.symm hxy]
  simp only[this]
section
variable {lv:Lv}{S:List Key}{T:LC}{th:Key→QH}{ad:Id→Qb}
def adrs (lv:Lv)(ad:Id→Qb):LD:=noneN::lv.map fun x=>ad x.1

theorem zr6 (h:Ctx lv S)(hA:Adr lv S T th ad){M:List (Qb×Int)}(hM:zh8 M (adrs lv ad) (lv.length+1)){k:Key}(hk:k∈zeb lv):
  (⟨(mget M (th k).at_).getD 0,(th k).slot⟩:Qx)=z4H lv k:=by
 have q:(adrs lv ad).length=lv.length+1:=by unfold adrs;simp
 have o:∀ {i:Nat}{a:Qb},(adrs lv ad)[i]? = some a→(mget M a).getD 0=(i:Int):=by
  intro i a ha
  have hi:(adrs lv ad).idxOf a=i:=by
   obtain⟨h1,rfl⟩:=List.getElem?_eq_some_iff.1 ha
   exact List.Nodup.idxOf_getElem (by unfold adrs;exact hA.nodup) i h1
  rw[hM a,← q,List.take_length,if_pos (List.mem_of_getElem? ha),hi];rfl
 rcases zaZ hk with rfl | ⟨j,x,s,hj,hs,rfl⟩
 ·rw[hA.root]
  have:=o (i:=0) (a:=noneN) rfl
  dsimp only
  rw[this];rfl
 ·have G:=List.mem_of_getElem? hj
  rw[hA.cell x G s,zb7 (h.tag0 x G),zfg h.ids hj]
  dsimp only
  rw[o (i:=j+1) (a:=ad x.1) (by unfold adrs;rw[List.getElem?_cons_succ,List.getElem?_map,hj];rfl)]
theorem zvu {fu:Nat}{a:Qb}{s:Nat}:z47 fu a (s:Int)=some ⟨a,(s:Int),decide (0<s) || (a.Qi != 1)⟩:=by
 unfold z47
 by_cases h:0<s
 ·rw[if_pos (by simpa using h),dct h];rfl
 ·obtain rfl:s=0:=by omega
  rw[if_neg (by simp),decide_eq_false (by omega)];rfl

theorem zqa {fu:Nat}{M:List (Qb×Int)}{E:List (QH×L9)}{z1 z2:LA}{pre ks:List Key}{i:Nat}{a:Qb}{x118:D.Qe}(hf:Big fu)(h:Ctx lv S)(hA:Adr lv S T th ad)
  (hM:zh8 M (adrs lv ad) (lv.length+1))(hE:zmM E (z7b T))(H:∀ (s:Nat) k,ks[s]? = some k→k∈zeb lv∧z4H lv k=⟨(i:Int),(s:Int)⟩∧th k=⟨a,(s:Int),decide (0<s) || (a.Qi != 1)⟩)(q:x118.Qy.length=ks.length)(X:ks.length≤100000):
  iter (z3W fu (M,z1) ⟨T,E⟩ ((i:Int),z2) a x118) fu (0,zdJ lv (eP lv S pre))=some (.inl (zdJ lv (eP lv S (pre++ks)))):=by
 obtain⟨o,e1,rfl⟩:=zf (body:=z3W fu (M,z1) ⟨T,E⟩ ((i:Int),z2) a x118) (fun s st=>st=((s:Int),zdJ lv (eP lv S (pre++ks.take s)))) ks.length (fun o=>o=.inl (zdJ lv (eP lv S (pre++ks)))) (by
  rintro s st hs rfl
  obtain⟨k,hk⟩:=z1j hs
  obtain⟨k1,k2,k3⟩:=H s k hk
  obtain⟨a',s',ag,p1,p2,p3,p4⟩:=zsw h.ids h.tag0 (e:=eP lv S (pre++ks.take s)) k1 (z4H lv (zk7 S k))
  rw[zuE] at p4
  rw[k2] at p1
  simp only[Qx.mk.injEq,Int.natCast_inj] at p1
  obtain⟨rfl,rfl⟩:=p1
  have G:=zpB (fu:=fu) hf hE hA.things h.chain h.len (h.mem k k1) (h.tagP k1)
  have O:=zr6 h hA hM (h.endP k1).1
  refine .inl ⟨(w64 ((s:Int)+1),zdJ lv (eP lv S (pre++ks.take s++[k]))),?_,by rw[zb (by omega) (by omega),List.take_add_one,hk,← List.append_assoc];rfl⟩
  unfold z3W
  dsimp only
  rw[if_pos (by rw[q];simpa using hs),zvu,← k3,bsm,G,bsm,za p2,bsm,if_pos (by simp only[decide_eq_true_eq,Int.toNat_natCast];omega),O,Int.toNat_natCast,Int.toNat_natCast,p4]) (by
  rintro st rfl
  rw[List.take_length]
  refine .inr ⟨_,?_,rfl⟩
  unfold z3W
  rw[if_neg (by rw[q];simp)]) (fu:=fu) (i:=0) (s:=(0,zdJ lv (eP lv S pre))) (Nat.zero_le _) (by omega) (by simp)
 exact e1
def zpN (lv:Lv):Nat→List Key
 | 0=>[]
 | j+1=>keyR::zcx (lv.take j)
theorem zvO {fu:Nat}(hf:Big fu)(h:Ctx lv S)(hA:Adr lv S T th ad)(hb:lv.length+1≤600):
  z8Q fu (lv.map (·.2)) (lv.map fun x=>ad x.1) T=some ⟨zwU (zmc lv S)⟩:=by
 have Y:T.length≤1000000:=by
  have h1:=zjh (T:=T)
  rw[hA.things.flat,List.length_map] at h1
  have:=h.len
  omega
 unfold z8Q
 rw[if_pos (by simp)]
 obtain⟨o,e1,M,rfl,hM⟩:=zf (body:=z65 fu (lv.map (·.2)) (lv.map fun x=>ad x.1)) (fun i st=>∃ M,st=((i:Int),M,zdJ (lv.take i) (fun _=>⟨0,0⟩))∧zh8 M (adrs lv ad) (i+1)) lv.length (fun o=>∃ M,o=.inl (M,zdJ lv (fun _=>⟨0,0⟩))∧zh8 M (adrs lv ad) (lv.length+1)) (by
  rintro i _ hi ⟨M,rfl,hM⟩
  obtain⟨x,hx⟩:=z1j hi
  have G:=List.mem_of_getElem? hx
  have X:(zdJ (lv.take i) (fun _=>(⟨0,0⟩:Qx))).length=i+1:=by rw[zfu,List.length_take];omega
  have Z:zdJ (lv.take (i+1)) (fun _=>(⟨0,0⟩:Qx))=zdJ (lv.take i) (fun _=>⟨0,0⟩)++[z7z x.2]:=by
   rw[← ziX,← ziX,List.take_add_one,hx,List.map_append,List.map_append];rfl
  refine .inl ⟨(w64 ((i:Int)+1),mput M (ad x.1) ((i+1:Nat):Int),zdJ (lv.take (i+1)) (fun _=>⟨0,0⟩)),?_,_,by rw[zb (by omega) (by omega)];rfl,ziN (by unfold adrs;exact hA.nodup) hM (by unfold adrs;rw[List.getElem?_cons_succ,List.getElem?_map,hx];rfl)⟩
  unfold z65
  dsimp only
  rw[if_pos (by simp;omega),za (x:=x.2) (by rw[List.getElem?_map,hx];rfl),bsm,za (x:=ad x.1) (by rw[List.getElem?_map,hx];rfl),bsm,zfT (h.cells x G).1,bsm,if_pos (by rw[X];simp only[List.length_singleton,decide_eq_true_eq];omega),X,Z]) (by
  rintro _ ⟨M,rfl,hM⟩
  rw[List.take_length]
  refine .inr ⟨_,?_,M,rfl,hM⟩
  unfold z65
  rw[if_neg (by simp)]) (fu:=fu) (i:=0) (s:=(0,mput [] (⟨0,0,0⟩:Qb) 0,[⟨1,0,0,[],List.replicate (1:Int).toNat ⟨0,0⟩⟩])) (Nat.zero_le _) (by omega) ⟨_,rfl,by
   have:=ziN (M:=[]) (l:=adrs lv ad) (k:=0) (x:=noneN) (by unfold adrs;exact hA.nodup) (fun a=>by simp[mget]) rfl
   exact this⟩
 rw[e1,bsm,z8]
 unfold zar
 obtain⟨E,a1,hE⟩:=zmJ (fu:=fu) hf Y
 rw[a1,bsm,if_pos (by simp;omega)]
 dsimp only
 have q:[(⟨0,0,0⟩:Qb)]++(lv.map fun x=>ad x.1)=adrs lv ad:=rfl
 have O:(adrs lv ad).length=lv.length+1:=by unfold adrs;simp
 obtain⟨o,e2,rfl⟩:=zf (body:=z62 fu (lv.map fun x=>ad x.1) (M,zdJ lv (fun _=>⟨0,0⟩)) ⟨T,E⟩) (fun i st=>st=((i:Int),zdJ lv (eP lv S (zpN lv i)))) (lv.length+1) (fun o=>o=.inl (zmc lv S)) (by
  rintro i st hi rfl
  refine .inl ⟨(w64 ((i:Int)+1),zdJ lv (eP lv S (zpN lv (i+1)))),?_,by rw[zb (by omega) (by omega)];rfl⟩
  unfold z62
  rw[q]
  dsimp only
  rw[if_pos (by rw[O];simp only[decide_eq_true_eq];omega)]
  cases i with
  | zero=>
   have H:=zqa (fu:=fu) (M:=M) (E:=E) (z1:=zdJ lv (fun _=>⟨0,0⟩)) (z2:=zdJ lv (eP lv S (zpN lv 0))) (pre:=[]) (ks:=[keyR]) (i:=0) (a:=noneN) (x118:=⟨1,0,0,[],[eP lv S (zpN lv 0) keyR]⟩) hf h hA hM hE (by
    intro s k hk
    cases s with
    | zero=>
     cases hk
     exact⟨List.mem_cons_self,rfl,hA.root⟩
    | succ s=>simp at hk) rfl (by simp)
   rw[za (x:=noneN) (by rfl),bsm,za (x:=(⟨1,0,0,[],[eP lv S (zpN lv 0) keyR]⟩:D.Qe)) (by rfl),bsm]
   have e9:zpN lv 0=[]:=rfl
   rw[e9] at H ⊢
   rw[H,bsm,z8]
   unfold z8j
   rfl
  | succ j=>
   obtain⟨x,hx⟩:=z1j (xs:=lv) (i:=j) (by omega)
   have G:=List.mem_of_getElem? hx
   have H:=zqa (fu:=fu) (M:=M) (E:=E) (z1:=zdJ lv (fun _=>⟨0,0⟩)) (z2:=zdJ lv (eP lv S (zpN lv (j+1)))) (pre:=zpN lv (j+1)) (ks:=zgP x) (i:=j+1) (a:=ad x.1) (x118:=agK (eP lv S (zpN lv (j+1))) x) hf h hA hM hE (by
    intro s k hk
    unfold zgP at hk
    rw[List.getElem?_map] at hk
    rcases Nat.lt_or_ge s (x.2.QM.length+1) with hs | hs
    ·rw[List.getElem?_range hs] at hk
     cases hk
     refine⟨zmL hx (by omega),?_,hA.cell x G s⟩
     rw[zb7 (h.tag0 x G),zfg h.ids hx]
    ·rw[List.getElem?_eq_none (by simpa using hs)] at hk
     cases hk) (by unfold agK zgP;simp) (by have:=(h.cells x G).2.1;unfold zgP;simp;omega)
   rw[za (x:=ad x.1) (by unfold adrs;rw[List.getElem?_cons_succ,List.getElem?_map,hx];rfl),bsm,za (x:=agK (eP lv S (zpN lv (j+1))) x) (by unfold zdJ;rw[List.getElem?_cons_succ,List.getElem?_map,hx];rfl),bsm,H,bsm,z8]
   unfold z8j
   have e9:zpN lv (j+1)++zgP x=zpN lv (j+1+1):=by
    show(keyR::zcx (lv.take j))++zgP x=keyR::zcx (lv.take (j+1))
    rw[List.take_add_one,hx,zhh,List.cons_append]
    simp[zcx]
   rw[e9]) (by
  rintro st rfl
  refine .inr ⟨_,?_,rfl⟩
  unfold z62
  rw[q]
  dsimp only
  rw[if_neg (by rw[O];simp)]
  have e9:zpN lv (lv.length+1)=zeb lv:=by show keyR::zcx (lv.take lv.length)=keyR::zcx lv;rw[List.take_length]
  rw[e9];rfl) (fu:=fu) (i:=0) (s:=(0,zdJ lv (fun _=>⟨0,0⟩))) (Nat.zero_le _) (by omega) (by
   have e9:zpN lv 0=[]:=rfl
   rw[e9,zuD];rfl)
 rw[e2,bsm,z8]
 unfold zaq
 rw[zwT hf (zsx h hb),bsm]
end
end Go.E



namespace Go.E
open Go.RowKit Go.Proofs

theorem znO {α β:Type}{f:Nat→α→List β}{xs:List α}{y:β}:y∈fl f xs xs.length↔∃ (i:Nat) (x:α),xs[i]? = some x∧y∈f i x:=by
 unfold fl
 rw[List.take_length,List.mem_flatMap]
 constructor
 ·rintro⟨⟨x,i⟩,h1,h2⟩
  rw[List.mem_zipIdx_iff_getElem?] at h1
  exact⟨i,x,h1,h2⟩
 ·rintro⟨i,x,h1,h2⟩
  exact⟨(x,i),by rw[List.mem_zipIdx_iff_getElem?];exact h1,h2⟩
theorem zds {α β:Type}{f f':Nat→α→List β}{xs:List α}(h:∀ i x,xs[i]? = some x→f i x=f' i x):fl f xs xs.length=fl f' xs xs.length:=by
 have key:∀ n,n≤xs.length→fl f xs n=fl f' xs n:=by
  intro n
  induction n with
  | zero=>intro _;rw[z8V,z8V]
  | succ n ih=>
   intro hn
   obtain⟨x,hx⟩:=z1j (xs:=xs) (i:=n) (by omega)
   rw[z89 hx,z89 hx,ih (by omega),h n x hx]
 exact key _ (Nat.le_refl _)
theorem zhj {α β γ:Type}{f:Nat→α→List β}{xs:List α}{h:β→γ}{n:Nat}:(fl f xs n).map h=fl (fun i x=>(f i x).map h) xs n:=by
 unfold fl
 rw[List.map_flatMap]


def zpi (g:D.Qk)(k:Key):Prop:=k.1=2→∃ s v,g.Qf[k.2.1]? = some s∧s.QJ[k.2.2.1]? = some v∧v.QZ=true∧k.2.2.2=0
theorem zay {g:D.Qk}{a:Qb}(h:zH g a=true):zpi g (z9S a):=by
 obtain⟨h1,h2,s,hs,h3⟩:=zdW h
 unfold z9S zpi
 rcases h3 with⟨k1,c,c1,c2⟩ | ⟨k2,v,v1,v2⟩
 ·rw[if_pos k1];intro e;cases e
 ·rw[if_neg (by omega)]
  intro _
  exact⟨s,v,hs,v1,v2,rfl⟩
theorem zkG {g:D.Qk}{t m i:Nat}{c:Qa}(ht:t≠2)(h:c.QM.all (zH g)=true):∀ k∈zbo t m i c,zpi g k:=by
 intro k hk
 unfold zbo at hk
 obtain⟨j,a,ha,hk⟩:=znO.1 hk
 unfold zpx at hk
 rcases List.mem_cons.1 hk with rfl | hk
 ·intro e;exact absurd e ht
 ·rw[List.mem_singleton] at hk
  subst hk
  exact zay (List.all_eq_true.1 h a (List.mem_of_getElem? ha))
theorem zsW {g:D.Qk}(h:zfy g=true):∀ k∈z7x g,zpi g k:=by
 unfold zfy at h
 rw[Bool.and_eq_true] at h
 obtain⟨h1,h2⟩:=h
 intro k hk
 unfold z7x zhz at hk
 rcases List.mem_append.1 hk with hk | hk
 ·rcases List.mem_cons.1 hk with rfl | hk
  ·intro e;cases e
  ·rw[List.mem_singleton] at hk
   subst hk
   exact zay h1
 ·obtain⟨m,s,hs,hk⟩:=znO.1 hk
  have h3:=z69.1 h2 m s hs
  rw[Nat.zero_add] at h3
  unfold ziC at h3
  rw[Bool.and_eq_true,Bool.and_eq_true] at h3
  obtain⟨a1,a2,a3⟩:=h3
  unfold zbz at hk
  rcases List.mem_append.1 hk with hk | hk
  ·obtain⟨i,c,hc,hk⟩:=znO.1 hk
   exact zkG (by decide) (List.all_eq_true.1 a1 c (List.mem_of_getElem? hc)) k hk
  ·rcases List.mem_append.1 hk with hk | hk
   ·obtain⟨i,r,hr,hk⟩:=znO.1 hk
    have:=List.all_eq_true.1 a2 r (List.mem_of_getElem? hr)
    rw[Bool.and_eq_true] at this
    unfold zr2 at hk
    rcases List.mem_cons.1 hk with rfl | hk
    ·exact zay this.1
    ·rw[List.mem_singleton] at hk;subst hk;exact zay this.2
   ·obtain⟨i,v,hv,hk⟩:=znO.1 hk
    have:=z69.1 a3 i v hv
    rw[Nat.zero_add] at this
    unfold zk3 at this
    unfold zeF at hk
    split at hk
    ·rename_i hF
     rw[hF,Bool.not_true,Bool.false_or,Bool.and_eq_true] at this
     rcases List.mem_cons.1 hk with rfl | hk
     ·have:=zay this.1
      unfold z9S at this
      rw[if_neg (by simp)] at this
      simpa using this
     ·rw[List.mem_singleton] at hk;subst hk;exact zay this.2
    ·cases hk


def thG (ad3:Nat→Qb)(k:Key):QH:=if k.1=0 then⟨noneN,0,true⟩ else if k.1=1 then⟨⟨(k.2.1:Int),1,(k.2.2.1:Int)⟩,(k.2.2.2:Int),decide (0<k.2.2.2)⟩ else if k.1=2 then⟨⟨(k.2.1:Int),2,(k.2.2.1:Int)⟩,0,false⟩ else⟨ad3 k.2.2.1,(k.2.2.2:Int),true⟩
section
variable {ad3:Nat→Qb}{g:D.Qk}
theorem zdD {a:Qb}(h:zH g a=true):thG ad3 (z9S a)=thA a:=by
 obtain⟨h1,h2,s,hs,h3⟩:=zdW h
 obtain⟨am,ak,ai⟩:=a
 unfold z9S thA thG
 dsimp only at h1 h2 h3 ⊢
 rcases h3 with⟨k1,_⟩ | ⟨k2,_⟩
 ·subst k1
  have e:(if(1:Int)=1 then((1,am.toNat,ai.toNat,0):Key) else(2,am.toNat,ai.toNat,0))=(1,am.toNat,ai.toNat,0):=if_pos rfl
  rw[e]
  dsimp only
  rw[if_neg (by decide),if_pos rfl,Int.toNat_of_nonneg h1,Int.toNat_of_nonneg h2];rfl
 ·subst k2
  have e:(if(2:Int)=1 then((1,am.toNat,ai.toNat,0):Key) else(2,am.toNat,ai.toNat,0))=(2,am.toNat,ai.toNat,0):=if_neg (by decide)
  rw[e]
  dsimp only
  rw[if_neg (by decide),if_neg (by decide),if_pos rfl,Int.toNat_of_nonneg h1,Int.toNat_of_nonneg h2]
theorem zgX {α:Type}{f:Nat→α→LC}{xs:List α}{n:Nat}:z7b (fl f xs n)=fl (fun i x=>z7b (f i x)) xs n:=z9D
theorem zaV {a b:LC}:z7b (a++b)=z7b a++z7b b:=by unfold z7b;rw[List.flatMap_append]
theorem zt0 {m i:Nat}{c:Qa}(h:c.QM.all (zH g)=true):z7b (zdw m i c)=(zbo 1 m i c).map (thG ad3):=by
 unfold zdw zbo
 rw[zgX,zhj]
 refine zds fun k a ha=>?_
 have:=zdD (ad3:=ad3) (List.all_eq_true.1 h a (List.mem_of_getElem? ha))
 unfold zrM zpx z7b
 simp only[List.flatMap_cons,List.flatMap_nil,List.append_nil,List.map_cons,List.map_nil,this]
 rw[show thG ad3 (1,m,i,k+1)=⟨⟨(m:Int),1,(i:Int)⟩,(k:Int)+1,true⟩ by unfold thG;simp]
theorem zvX {r:Qm}{i:Nat}(h1:zH g r.A=true)(h2:zH g r.B=true):z7b (zoB i r)=(zr2 i r).map (thG ad3):=by
 unfold zoB zr2 z7b
 simp only[List.flatMap_cons,List.flatMap_nil,List.append_nil,List.map_cons,List.map_nil,zdD (ad3:=ad3) h1,zdD (ad3:=ad3) h2]
theorem zsZ {m i:Nat}{v:Qn}(h:zk3 g m i v=true):z7b (zfc m i v)=(zeF m i v).map (thG ad3):=by
 unfold zk3 at h
 unfold zfc zeF
 split
 ·rename_i hF
  rw[hF,Bool.not_true,Bool.false_or,Bool.and_eq_true] at h
  unfold z7b
  simp only[List.flatMap_cons,List.flatMap_nil,List.append_nil,List.map_cons,List.map_nil,zdD (ad3:=ad3) h.2]
  rw[show thG ad3 (2,m,i,0)=thA ⟨(m:Int),2,(i:Int)⟩ by unfold thG thA;simp]
 ·rfl
theorem zsY (h:zfy g=true):z7b (zcm g)=(z7x g).map (thG ad3):=by
 unfold zfy at h
 rw[Bool.and_eq_true] at h
 obtain⟨h1,h2⟩:=h
 unfold zcm z7x
 rw[zaV,List.map_append,zgX,zhj]
 congr 1
 ·unfold zjY zhz z7b
  simp only[List.flatMap_cons,List.flatMap_nil,List.append_nil,List.map_cons,List.map_nil,zdD (ad3:=ad3) h1]
  rfl
 ·refine zds fun m s hs=>?_
  have h3:=z69.1 h2 m s hs
  rw[Nat.zero_add] at h3
  unfold ziC at h3
  rw[Bool.and_eq_true,Bool.and_eq_true] at h3
  obtain⟨a1,a2,a3⟩:=h3
  unfold zb6 zbz
  rw[zaV,zaV,List.map_append,List.map_append,zgX,zgX,zgX,zhj,zhj,zhj]
  congr 1
  ·exact zds fun i c hc=>zt0 (List.all_eq_true.1 a1 c (List.mem_of_getElem? hc))
  ·congr 1
   ·refine zds fun i r hr=>?_
    have:=List.all_eq_true.1 a2 r (List.mem_of_getElem? hr)
    rw[Bool.and_eq_true] at this
    exact zvX this.1 this.2
   ·refine zds fun i v hv=>?_
    have:=z69.1 a3 i v hv
    rw[Nat.zero_add] at this
    exact zsZ this
end


theorem zuH {c:Qa}(h:z40 c=true):c.Data.length≤4:=by
 unfold z40 at h
 split at h
 ·rw[decide_eq_true_eq] at h
  rw[h.2.2.1];simp
 ·rw[Bool.and_eq_true] at h
  have h2:=h.2
  unfold agN zjG z7z at h2
  rw[Bool.and_eq_true,Bool.and_eq_true] at h2
  have h3:=h2.2.2
  unfold z3Z at h3
  dsimp only at h3
  repeat' split at h3
  all_goals simp only[Bool.and_eq_true,decide_eq_true_eq] at h3
  all_goals omega
theorem zj3 {g:D.Qk}{more:LB}{x:Id×Qa}(h:x∈lvG g more):x.2.Qi≠0∧((∃ (m i:Nat) (s:Qp),x.1=(1,m,i)∧g.Qf[m]? = some s∧s.Cells[i]? = some x.2)∨∃ i:Nat,x.1=(3,0,i)∧more[i]? = some x.2):=by
 have o:∀ {t m:Nat}{cs:LB},x∈lvR t m cs→x.2.Qi≠0∧∃ i:Nat,x.1=(t,m,i)∧cs[i]? = some x.2:=by
  intro t m cs hx
  unfold lvR at hx
  obtain⟨⟨c,i⟩,h1,h2⟩:=List.mem_flatMap.1 hx
  rw[List.mem_zipIdx_iff_getElem?] at h1
  dsimp only at h1 h2
  split at h2
  ·cases h2
  ·rename_i k0
   rw[List.mem_singleton] at h2
   subst h2
   exact⟨k0,i,rfl,h1⟩
 unfold lvG at h
 rcases List.mem_append.1 h with h | h
 ·obtain⟨⟨s,m⟩,h1,h2⟩:=List.mem_flatMap.1 h
  rw[List.mem_zipIdx_iff_getElem?] at h1
  obtain⟨k0,i,e1,e2⟩:=o h2
  exact⟨k0,.inl ⟨m,i,s,e1,h1,e2⟩⟩
 ·obtain⟨k0,i,e1,e2⟩:=o h
  exact⟨k0,.inr ⟨i,e1,e2⟩⟩
theorem zx5 {g:D.Qk}{more:LB}(hS:Small g)(hM:more.length≤20000):(lvG g more).length≤21600:=by
 have o:∀ {t m:Nat}{cs:LB},(lvR t m cs).length≤cs.length:=by
  intro t m cs
  have e:lvR t m cs=fl (fun i c=>if c.Qi=0 then [] else [((t,m,i),c)]) cs cs.length:=by unfold lvR fl;rw[List.take_length]
  rw[e]
  have:=z8p (f:=fun i (c:Qa)=>if c.Qi=0 then([]:Lv) else [((t,m,i),c)]) (xs:=cs) (b:=1) (fun i c _=>by split<;>simp) cs.length (Nat.le_refl _)
  omega
 have hn:=hS.n
 unfold lvG
 have e:(g.Qf.zipIdx.flatMap fun x=>lvR 1 x.2 x.1.Cells)=fl (fun m (s:Qp)=>lvR 1 m s.Cells) g.Qf g.Qf.length:=by unfold fl;rw[List.take_length]
 have h1:=z8p (f:=fun m (s:Qp)=>lvR 1 m s.Cells) (xs:=g.Qf) (b:=400) (fun m s hs=>by
  have:=(hS.s s (List.mem_of_getElem? hs)).1
  have:=o (t:=1) (m:=m) (cs:=s.Cells)
  omega) g.Qf.length (Nat.le_refl _)
 have h2:=o (t:=3) (m:=0) (cs:=more)
 rw[List.length_append,e]
 omega
theorem zhY {g:D.Qk}{more:LB}{Q:LO}{S:List Key}(hP:zjK (zfF g more) Q S){k:Key}(hk:k∈S):k∈zfF g more:=by
 obtain⟨h,hh⟩:=List.getElem?_of_mem hk
 obtain⟨h1,h2⟩:=hP
 have hl:=(List.getElem?_eq_some_iff.1 hh).1
 obtain⟨x,y,a,b,e1,e2,e3,e4,e5⟩:=h2 (h / 2) (by omega)
 by_cases hev:h % 2=0
 ·rw[show 2*(h / 2)=h by omega,hh] at e4
  cases e4
  exact List.mem_of_getElem? e2
 ·rw[show 2*(h / 2)+1=h by omega,hh] at e5
  cases e5
  exact List.mem_of_getElem? e3
theorem zxM {g:D.Qk}{more:LB}{L M:Qg}{S:List Key}(hS:Small g)(hM:zsD more)(Y:∀ c∈more,z40 c=true)(hR:Run g more L M S)(hc:zfC g more S=true)(q:∀ k∈S,zpi g k)(H:S.length≤1000000):Ctx (lvG g more) S:=by
 have o:zfF g more=zeb (lvG g more)++zhp g.Qf:=by unfold zfF;rw[zgt]
 unfold zfC at hc
 rw[Bool.and_eq_true,zgt,List.all_eq_true] at hc
 obtain⟨c1,c2⟩:=hc
 have G:∀ k∈zeb (lvG g more),S.count k=1:=fun k hk=>by simpa using c1 k hk
 have X:∀ k∈S,k.1≠2→k∈zeb (lvG g more):=fun k hk ht=>by
  have:=zhY hR.pairsX hk
  rw[o] at this
  rcases List.mem_append.1 this with h | h
  ·exact h
  ·exact absurd (zkS h) ht
 have O:∀ x∈lvG g more,x.1.1≠0∧x.1.1≠2:=fun x hx=>by
  rcases (zj3 hx).2 with⟨m,i,s,e,_⟩ | ⟨i,e,_⟩<;>rw[e]<;>exact⟨by simp,by simp⟩
 refine⟨⟨by have:=hR.pairsX.1;omega,fun k hk ht=>G k (X k hk ht),fun k hk ht=>?_⟩,fun k hk=>?_,X,?_,O,H,?_,fun x hx=>?_⟩
 ·obtain⟨s,v,g1,g2,g3,g4⟩:=q k hk ht
  have h3:=z69.1 c2 k.2.1 s g1
  unfold zwZ at h3
  rw[Nat.zero_add] at h3
  have h4:=(z69 (p:=fun i (v:Qn)=>!v.QZ || decide (S.count (2,k.2.1,i,0)=2))).1 h3 k.2.2.1 v g2
  rw[Nat.zero_add,g3] at h4
  have h5:S.count (2,k.2.1,k.2.2.1,0)=2:=by simpa using h4
  obtain⟨a,b,c,d⟩:=k
  simp only at ht g4 h5
  subst ht;subst g4
  exact h5
 ·exact List.count_pos_iff.1 (by rw[G k hk];decide)
 ·have:=zbU (g:=g) (more:=more)
  rw[o] at this
  exact(List.nodup_append.1 this).1
 ·have:=zx5 hS hM.1
  omega
 ·rcases (zj3 hx).2 with⟨m,i,s,_,e1,e2⟩ | ⟨i,_,e1⟩
  ·obtain⟨a1,a2,a3,a4,a5⟩:=hS.s s (List.mem_of_getElem? e1)
   obtain⟨b1,b2,b3⟩:=a4 _ (List.mem_of_getElem? e2)
   exact⟨b1,b2,zuH b3⟩
  ·have hm:=List.mem_of_getElem? e1
   exact⟨(hM.2 _ hm).1,(hM.2 _ hm).2,zuH (Y _ hm)⟩


def adI (ad3:Nat→Qb)(d:Id):Qb:=if d.1=1 then⟨(d.2.1:Int),1,(d.2.2:Int)⟩ else ad3 d.2.2
theorem zjF {g:D.Qk}{more:LB}{k:Key}(h:k∈zfF g more):k=keyR∨(∃ m i s:Nat,k=(1,m,i,s))∨(∃ i s:Nat,i<more.length∧k=(3,0,i,s))∨∃ m i:Nat,k=(2,m,i,0):=by
 have o:zfF g more=zeb (lvG g more)++zhp g.Qf:=by unfold zfF;rw[zgt]
 rw[o] at h
 rcases List.mem_append.1 h with h | h
 ·rcases zaZ h with rfl | ⟨j,x,s,hj,hs,rfl⟩
  ·exact .inl rfl
  ·rcases (zj3 (List.mem_of_getElem? hj)).2 with⟨m,i,sh,e,_⟩ | ⟨i,e,e2⟩
   ·exact .inr (.inl ⟨m,i,s,by rw[e];rfl⟩)
   ·exact .inr (.inr (.inl ⟨i,s,(List.getElem?_eq_some_iff.1 e2).1,by rw[e];rfl⟩))
 ·unfold zhp at h
  obtain⟨x,_,h2⟩:=List.mem_flatMap.1 h
  unfold zrO at h2
  obtain⟨j,_,rfl⟩:=List.mem_map.1 h2
  exact .inr (.inr (.inr ⟨_,j,rfl⟩))
theorem zxS {g:D.Qk}{more:LB}{S:List Key}{T:LC}{ad3:Nat→Qb}{Q:LO}(h:Ctx (lvG g more) S)(hP:zjK (zfF g more) Q S)(hF:z7b T=S.map (thG ad3))
  (h3:∀ i,i<more.length→(ad3 i).Qi=3)(hi:∀ i j,i<more.length→j<more.length→ad3 i=ad3 j→i=j):Adr (lvG g more) S T (thG ad3) (adI ad3) where
 root:=rfl
 things:=by
  refine⟨hF,fun k hk k' X he=>?_,fun k hk=>?_⟩
  ·have f1:=zjF (zhY hP hk)
   have f2:=zjF (zhY hP X)
   rcases f1 with rfl | ⟨m,i,s,rfl⟩ | ⟨i,s,G,rfl⟩ | ⟨m,i,rfl⟩<;>rcases f2 with rfl | ⟨m',i',s',rfl⟩ | ⟨i',s',q,rfl⟩ | ⟨m',i',rfl⟩
   all_goals (try simp[thG,keyR,noneN] at he)
   all_goals first | rfl | (exfalso;omega) | skip
   ·exfalso;have:=h3 _ q;rw[← he.1] at this;simp at this
   ·obtain⟨⟨e1,e2⟩,e3,_⟩:=he
    rw[show m=m' by omega,show i=i' by omega,show s=s' by omega]
   ·exfalso;have:=h3 _ q;rw[← he.1] at this;simp at this
   ·exfalso;have:=h3 _ G;rw[he.1] at this;simp at this
   ·exfalso;have:=h3 _ G;rw[he.1] at this;simp at this
   ·have:=hi _ _ G q he.1
    rw[this,show s=s' by omega]
   ·rw[show m=m' by omega,show i=i' by omega]
  ·rcases zjF (zhY hP hk) with rfl | ⟨m,i,s,rfl⟩ | ⟨i,s,G,rfl⟩ | ⟨m,i,rfl⟩
   ·simp[thG,keyR,noneN]
   ·simp[thG]
   ·simp[thG,h3 i G]
   ·simp[thG]
 cell x hx s:=by
  rcases (zj3 hx).2 with⟨m,i,sh,e,_⟩ | ⟨i,e,e2⟩
  ·rw[e]
   simp[thG,zjL,adI]
   first | done | exact decide_eq_decide.2 Iff.rfl
  ·rw[e]
   have:=h3 i (List.getElem?_eq_some_iff.1 e2).1
   simp[thG,zjL,adI,this]
 nodup:=by
  have H:∀ x∈lvG g more,(adI ad3 x.1).Qi≠0:=fun x hx=>by
   rcases (zj3 hx).2 with⟨m,i,sh,e,_⟩ | ⟨i,e,e2⟩
   ·rw[e];simp[adI]
   ·rw[e]
    have:=h3 i (List.getElem?_eq_some_iff.1 e2).1
    simp[adI,this]
  rw[List.nodup_cons]
  refine⟨fun hm=>?_,?_⟩
  ·obtain⟨x,hx,e⟩:=List.mem_map.1 hm
   exact H x hx (by rw[e];rfl)
  ·have o:=h.ids
   unfold List.Nodup at o ⊢
   rw[List.pairwise_map] at o ⊢
   refine o.imp_of_mem fun {x y} hx hy hne he=>hne ?_
   rcases (zj3 hx).2 with⟨m,i,sh,e,_⟩ | ⟨i,e,e2⟩<;>rcases (zj3 hy).2 with⟨m',i',Y,e',_⟩ | ⟨i',e',O⟩
   ·rw[e,e'] at he ⊢
    simp only[adI,if_true,Qb.mk.injEq,Int.natCast_inj,true_and] at he
    rw[he.1,he.2]
   ·exfalso
    have:=h3 i' (List.getElem?_eq_some_iff.1 O).1
    rw[e,e'] at he
    simp only[adI,if_true,Nat.reduceEqDiff,if_false] at he
    rw[← he] at this
    simp at this
   ·exfalso
    have:=h3 i (List.getElem?_eq_some_iff.1 e2).1
    rw[e,e'] at he
    simp only[adI,if_true,Nat.reduceEqDiff,if_false] at he
    rw[he] at this
    simp at this
   ·rw[e,e'] at he ⊢
    simp only[adI,Nat.reduceEqDiff,if_false] at he
    rw[hi _ _ (List.getElem?_eq_some_iff.1 e2).1 (List.getElem?_eq_some_iff.1 O).1 he]
end Go.E



namespace Go.E

theorem zbx {a:Int}(h0:-4611686018427387904≤a)(h1:a≤4611686018427387904):w64 (a+1)=a+1:=zb (by omega) (by omega)
def z9X {α:Type}(f:α→Int→α)(c:α→Nat):List α→Int→List α
 | [],_=>[]
 | x::xs,k=>f x k::z9X f c xs (k+c x)

section
variable {α:Type}{f:α→Int→α}{c:α→Nat}

theorem z7h:∀ (xs:List α) (k:Int),(z9X f c xs k).length=xs.length
 | [],_=>rfl
 | x::xs,k=>by simp only[z9X,List.length_cons,z7h xs]

theorem zev:∀ (xs ys:List α) (k:Int),z9X f c (xs++ys) k=z9X f c xs k++z9X f c ys (k+(sumL c xs:Nat))
 | [],ys,k=>by simp[z9X,sumL]
 | x::xs,ys,k=>by
  simp only[List.cons_append,z9X,zev xs ys,sumL]
  rw[show k+(c x:Int)+(sumL c xs:Nat)=k+((c x+sumL c xs:Nat):Int) by omega]

theorem zvQ {xs:List α}{k:Int}{i:Nat}{x:α}(h:xs[i]? = some x):(z9X f c xs k)[i]? = some (f x (k+(sumL c (xs.take i):Nat))):=by
 have hi:=(List.getElem?_eq_some_iff.1 h).1
 have hs:xs=xs.take i++(x::xs.drop (i+1)):=by
  have h1:=(List.getElem?_eq_some_iff.1 h).2
  rw[← h1,← List.drop_eq_getElem_cons hi,List.take_append_drop]
 conv=>lhs;rw[hs]
 rw[zev,List.getElem?_append_right (by rw[z7h,List.length_take];omega),z7h,List.length_take,Nat.min_eq_left (by omega),Nat.sub_self]
 simp[z9X]

theorem z8u {ρ:Type}{body:Int×Int×List α→Option (Rd (Int×Int×List α) (Int×List α) ρ)}{xs:List α}{k:Int}{fu:Nat}(hl:xs.length≤4294967296)(hf:Big fu)(h0:0≤k)(h1:k+(sumL c xs:Nat)≤2147483648)
  (step:∀ (i:Nat) (x:α) (ys:List α) (k:Int),i<xs.length→ys.length=xs.length→ys[i]? = some x→x∈xs→0≤k→k+(c x:Nat)≤2147483648→body (k,(i:Int),ys)=some (.next (k+(c x:Nat),w64 ((i:Int)+1),ys.set i (f x k))))
  (O:∀ k ys,body (k,(xs.length:Int),ys)=some (.brk (k,ys))):iter body fu (k,0,xs)=some (.inl (k+(sumL c xs:Nat),z9X f c xs k)):=by
 obtain⟨o,h2,h3⟩:=zf (body:=body) (fun i s=>s.1=k+(sumL c (xs.take i):Nat)∧s.2.1=(i:Int)∧s.2.2=z9X f c (xs.take i) k++xs.drop i) xs.length (fun o=>o=.inl (k+(sumL c xs:Nat),z9X f c xs k)) (by
  rintro i ⟨s,t,ys⟩ hi ⟨h2,h3,h4⟩
  dsimp only at h2 h3 h4
  subst h2;subst h3;subst h4
  obtain⟨x,hx⟩:=z1j hi
  have G:(z9X f c (xs.take i) k).length=i:=by rw[z7h,List.length_take];omega
  have q:xs.drop i=x::xs.drop (i+1):=by
   have h1:=(List.getElem?_eq_some_iff.1 hx).2
   rw[← h1,← List.drop_eq_getElem_cons hi]
  have H:sumL c (xs.take (i+1))=sumL c (xs.take i)+c x:=ziu hx
  have X:sumL c (xs.take (i+1))≤sumL c xs:=by
   conv=>rhs;rw[← List.take_append_drop (i+1) xs,zdE]
   omega
  refine .inl ⟨_,step i x _ _ hi (by rw[List.length_append,G,List.length_drop];omega) (by rw[List.getElem?_append_right (by omega),G,Nat.sub_self,q];rfl) (List.mem_of_getElem? hx) (by omega) (by omega),?_,?_,?_⟩
  ·show _+_=_
   rw[H];omega
  ·show w64 _=_
   rw[zbx (by omega) (by omega)];simp
  ·show List.set _ _ _=_
   rw[q,List.set_append_right _ _ (by omega),G,Nat.sub_self,List.set_cons_zero]
   have ht:xs.take (i+1)=xs.take i++[x]:=by rw[List.take_add_one,hx];rfl
   rw[ht,zev]
   simp[z9X]) (by
  rintro⟨s,t,ys⟩ ⟨h2,h3,h4⟩
  dsimp only at h2 h3 h4
  subst h2;subst h3;subst h4
  refine .inr ⟨_,O _ _,?_⟩
  rw[List.take_length,List.drop_length,List.append_nil]) (fu:=fu) (i:=0) (s:=(k,0,xs)) (Nat.zero_le _) (by omega) ⟨by simp[sumL],rfl,by simp[z9X]⟩
 rw[h2,h3]

theorem zja {body:Int×Int→Option (Rd (Int×Int) Int Int)}{xs:List α}{k:Int}{fu:Nat}(hl:xs.length≤4294967296)(hf:Big fu)(h0:0≤k)(h1:k+(sumL c xs:Nat)≤2147483648)
  (step:∀ (i:Nat) (x:α) (k':Int),i<xs.length→(z9X f c xs k)[i]? = some (f x k')→x∈xs→0≤k'→k'+(c x:Nat)≤2147483648→body (k',(i:Int))=some (.next (k'+(c x:Nat),w64 ((i:Int)+1))))
  (G:∀ k',body (k',((z9X f c xs k).length:Int))=some (.brk k')):iter body fu (k,0)=some (.inl (k+(sumL c xs:Nat))):=by
 obtain⟨o,h2,h3⟩:=zf (body:=body) (fun i s=>s.1=k+(sumL c (xs.take i):Nat)∧s.2=(i:Int)) xs.length (fun o=>o=.inl (k+(sumL c xs:Nat))) (by
  rintro i ⟨s,t⟩ hi ⟨h2,h3⟩
  dsimp only at h2 h3
  subst h2;subst h3
  obtain⟨x,hx⟩:=z1j hi
  have q:sumL c (xs.take (i+1))=sumL c (xs.take i)+c x:=ziu hx
  have H:sumL c (xs.take (i+1))≤sumL c xs:=by
   conv=>rhs;rw[← List.take_append_drop (i+1) xs,zdE]
   omega
  refine .inl ⟨_,step i x _ hi (zvQ hx) (List.mem_of_getElem? hx) (by omega) (by omega),?_,?_⟩
  ·show _+_=_
   rw[q];omega
  ·show w64 _=_
   rw[zbx (by omega) (by omega)];simp) (by
  rintro⟨s,t⟩ ⟨h2,h3⟩
  dsimp only at h2 h3
  subst h2;subst h3
  refine .inr ⟨_,by have:=G (k+(sumL c (xs.take xs.length):Nat));rw[z7h] at this;exact this,?_⟩
  rw[List.take_length]) (fu:=fu) (i:=0) (s:=(k,0)) (Nat.zero_le _) (by omega) ⟨by simp[sumL],rfl⟩
 rw[h2,h3]

theorem zbq {g:α→Nat}{m:Nat}:∀ {xs:List α},(∀ x,x∈xs→c x≤m*(g x+1))→sumL c xs≤m*szL g xs
 | [],_=>by simp[sumL]
 | x::xs,h=>by
  have h1:=h x (by simp)
  have h2:=zbq (g:=g) (m:=m) (xs:=xs) fun y hy=>h y (by simp[hy])
  unfold szL at h2 ⊢
  simp only[sumL,List.length_cons]
  have:m*(xs.length+1+(g x+sumL g xs))=m*(g x+1)+m*(xs.length+sumL g xs):=by rw[← Nat.mul_add];congr 1;omega
  omega

end
end Go.E
namespace Go.E
theorem zeK {α β:Type}{e:Option α}{a:α}{g:α→Option β}(h:e=some a):e.bind g=g a:=by rw[h];rfl
end Go.E



namespace Go.E
open Go.RowKit Go.Proofs

variable {fu:Nat}
theorem zbN {x:L9}(hf:Big fu)(hs:x.length≤1048576):z3x fu x=some x:=by
 have hl:=hs
 unfold z3x
 refine zaA hl hf (fun _=>rfl) ?_ ?_
 ·intro i y out hy o
  have hi:=(List.getElem?_eq_some_iff.1 hy).1
  have q:0≤1048576:=Nat.zero_le _
  simp only[z8e,za hy,bsm,lt_t (show(i:Int)<x.length by omega),if_true]
  rw[if_pos (by simp;omega)]
  simp
 ·intro out
  simp[z8e]

theorem zaz {x:L9}(hf:Big fu)(hs:x.length≤1048576):z2J fu x x=some true:=by
 have hl:=hs
 unfold z2J
 rw[if_neg (by simp)]
 refine z7d (n:=x.length) (t:=()) (by unfold maxLen;omega) hf rfl ?_ ?_
 ·intro i hi
  obtain⟨y,hy⟩:=z1j hi
  have o:0≤1048576:=Nat.zero_le _
  simp[z8h,za hy,hi,z1O]
 ·simp[z8h]

theorem z6a {x:Qb}(hf:Big fu)(hs:0≤1048576):z1t fu x=some x:=by
 skip
 unfold z1t
 rfl

theorem z6i {x:Qb}(hf:Big fu)(hs:0≤1048576):z1u fu x x=some true:=by
 skip
 simp[z1u,z1O]

theorem zbO {x:L9}{l:Int}(hf:Big fu)(hw:WfL I64 x)(h0:0≤l)(h1:l≤1048576):z95 (x.length) l (z3y fu x l):=by
 unfold z3y
 generalize hz:w64 (l - (x.length:Int))=z
 exact z95.sub2 h0 h1 hw.1 (m:=0) rfl hz fun g0 g1=>z95.same g0

theorem zpn {x:Qx}(hf:Big fu)(hs:0≤1048576):zam fu x x=some true:=by
 skip
 simp[zam,z1O]

theorem znQ {x:LF}(hf:Big fu)(hs:x.length≤1048576):z9k fu x x=some true:=by
 have hl:=hs
 unfold z9k
 rw[if_neg (by simp)]
 refine z7d (n:=x.length) (t:=()) (by unfold maxLen;omega) hf rfl ?_ ?_
 ·intro i hi
  obtain⟨y,hy⟩:=z1j hi
  have o:0≤1048576:=Nat.zero_le _
  simp[z94,za hy,hi,z1O,zpn hf o]
 ·simp[z94]

theorem zin {x:Qn}(hf:Big fu)(hs:0≤1048576):z6R fu x=some x:=by
 skip
 unfold z6R
 simp only[z6a hf (show 0≤1048576 by exact Nat.zero_le _),bsm]

theorem zgx {x:Qm}(hf:Big fu)(hs:0≤1048576):z4X fu x=some x:=by
 skip
 unfold z4X
 simp only[z6a hf (show 0≤1048576 by exact Nat.zero_le _),z6a hf (show 0≤1048576 by exact Nat.zero_le _),bsm]

theorem zjj {x:Qn}(hf:Big fu)(hs:0≤1048576):z71 fu x x=some true:=by
 skip
 simp[z71,z1O,z6i hf (show 0≤1048576 by exact Nat.zero_le _)]

theorem zgZ {x:Qm}(hf:Big fu)(hs:0≤1048576):z54 fu x x=some true:=by
 skip
 simp[z54,z1O,z6i hf (show 0≤1048576 by exact Nat.zero_le _),z6i hf (show 0≤1048576 by exact Nat.zero_le _)]

theorem zit {x:LD}{l:Int}(hf:Big fu)(hw:WfL Qb.wf x)(h0:0≤l)(h1:l≤1048576):z95 (x.length) l (z6V fu x l):=by
 unfold z6V
 generalize hz:w64 (l - (x.length:Int))=z
 exact z95.sub2 h0 h1 hw.1 (m:=0) rfl hz fun g0 g1=>z95.same g0

theorem ziq {x:LD}(hf:Big fu)(hs:x.length≤1048576):z6T fu x=some x:=by
 have hl:=hs
 unfold z6T
 refine zaA hl hf (fun _=>rfl) ?_ ?_
 ·intro i y out hy o
  have hi:=(List.getElem?_eq_some_iff.1 hy).1
  have q:0≤1048576:=Nat.zero_le _
  simp only[z6m,za hy,bsm,lt_t (show(i:Int)<x.length by omega),if_true,z6a hf q]
  rw[if_pos (by simp;omega)]
  simp
 ·intro out
  simp[z6m]

theorem zjm {x:LD}(hf:Big fu)(hs:x.length≤1048576):z73 fu x x=some true:=by
 have hl:=hs
 unfold z73
 rw[if_neg (by simp)]
 refine z7d (n:=x.length) (t:=()) (by unfold maxLen;omega) hf rfl ?_ ?_
 ·intro i hi
  obtain⟨y,hy⟩:=z1j hi
  have o:0≤1048576:=Nat.zero_le _
  simp[z6s,za hy,hi,z1O,z6i hf o]
 ·simp[z6s]

theorem znR {x:D.Qe}(hf:Big fu)(hs:D.Qe.sz x≤1048576):z9m fu x x=some true:=by
 unfold D.Qe.sz at hs
 simp[z9m,z1O,zaz hf (show x.Data.length≤1048576 by omega),znQ hf (show x.Qy.length≤1048576 by omega)]

theorem zhs {x:LH}{l:Int}(hf:Big fu)(hw:WfL Qn.wf x)(h0:0≤l)(h1:l≤1048576):z95 (x.length) l (z5T fu x l):=by
 unfold z5T
 generalize hz:w64 (l - (x.length:Int))=z
 exact z95.sub2 h0 h1 hw.1 (m:=0) rfl hz fun g0 g1=>z95.same g0

theorem zfO {x:LK}{l:Int}(hf:Big fu)(hw:WfL Qm.wf x)(h0:0≤l)(h1:l≤1048576):z95 (x.length) l (z4c fu x l):=by
 unfold z4c
 generalize hz:w64 (l - (x.length:Int))=z
 exact z95.sub2 h0 h1 hw.1 (m:=0) rfl hz fun g0 g1=>z95.same g0

theorem zhr {x:LH}(hf:Big fu)(hs:x.length≤1048576):z5S fu x=some x:=by
 have hl:=hs
 unfold z5S
 refine zaA hl hf (fun _=>rfl) ?_ ?_
 ·intro i y out hy o
  have hi:=(List.getElem?_eq_some_iff.1 hy).1
  have q:0≤1048576:=Nat.zero_le _
  simp only[z5R,za hy,bsm,lt_t (show(i:Int)<x.length by omega),if_true,zin hf q]
  rw[if_pos (by simp;omega)]
  simp
 ·intro out
  simp[z5R]

theorem zfN {x:LK}(hf:Big fu)(hs:x.length≤1048576):z4b fu x=some x:=by
 have hl:=hs
 unfold z4b
 refine zaA hl hf (fun _=>rfl) ?_ ?_
 ·intro i y out hy o
  have hi:=(List.getElem?_eq_some_iff.1 hy).1
  have q:0≤1048576:=Nat.zero_le _
  simp only[z4r,za hy,bsm,lt_t (show(i:Int)<x.length by omega),if_true,zgx hf q]
  rw[if_pos (by simp;omega)]
  simp
 ·intro out
  simp[z4r]

theorem zhJ {x:LH}(hf:Big fu)(hs:x.length≤1048576):z60 fu x x=some true:=by
 have hl:=hs
 unfold z60
 rw[if_neg (by simp)]
 refine z7d (n:=x.length) (t:=()) (by unfold maxLen;omega) hf rfl ?_ ?_
 ·intro i hi
  obtain⟨y,hy⟩:=z1j hi
  have o:0≤1048576:=Nat.zero_le _
  simp[z5Z,za hy,hi,z1O,zjj hf o]
 ·simp[z5Z]

theorem zgh {x:LK}(hf:Big fu)(hs:x.length≤1048576):z4g fu x x=some true:=by
 have hl:=hs
 unfold z4g
 rw[if_neg (by simp)]
 refine z7d (n:=x.length) (t:=()) (by unfold maxLen;omega) hf rfl ?_ ?_
 ·intro i hi
  obtain⟨y,hy⟩:=z1j hi
  have o:0≤1048576:=Nat.zero_le _
  simp[z4t,za hy,hi,z1O,zgZ hf o]
 ·simp[z4t]

theorem zdY {x:Qa}{l:Int}(hf:Big fu)(hw:Qa.wf x)(h0:0≤l)(h1:l≤1048576):z95 (Qa.sz x) l (z3T fu x l):=by
 obtain⟨w0,w1,w2,w3,w4,_⟩:=hw
 unfold z3T Qa.sz
 refine z95.bind (zbO hf w3 h0 (by omega)) rfl fun r1 o G=>?_
 refine z95.bind (zit hf w4 o (by omega)) rfl fun r2 q H=>?_
 exact z95.same q

theorem zdX {x:Qa}(hf:Big fu)(hs:Qa.sz x≤1048576):z3S fu x=some x:=by
 unfold Qa.sz at hs
 unfold z3S
 simp only[zbN hf (show x.Data.length≤1048576 by omega),ziq hf (show x.QM.length≤1048576 by omega),bsm]

theorem ze4 {x:Qa}(hf:Big fu)(hs:Qa.sz x≤1048576):z3V fu x x=some true:=by
 unfold Qa.sz at hs
 simp[z3V,z1O,zaz hf (show x.Data.length≤1048576 by omega),zjm hf (show x.QM.length≤1048576 by omega)]

theorem zmr {x:LA}(hf:Big fu)(hs:szL D.Qe.sz x≤1048576):z8M fu x x=some true:=by
 have hl:=z4F hs
 unfold z8M
 rw[if_neg (by simp)]
 refine z7d (n:=x.length) (t:=()) (by unfold maxLen;omega) hf rfl ?_ ?_
 ·intro i hi
  obtain⟨y,hy⟩:=z1j hi
  have o:D.Qe.sz y≤1048576:=z4E hs (List.mem_of_getElem? hy)
  simp[z8i,za hy,hi,z1O,znR hf o]
 ·simp[z8i]

theorem zgz {x:LB}{l:Int}(hf:Big fu)(hw:WfL Qa.wf x)(h0:0≤l)(h1:l≤1048576):z95 (szL Qa.sz x) l (z4Z fu x l):=by
 unfold z4Z
 generalize hz:w64 (l - (x.length:Int))=z
 refine z95.sub2 h0 h1 hw.1 (m:=sumL Qa.sz x) rfl hz fun g0 g1=>?_
 refine z95.loop hw.1 hf g0 (by omega) (fun _=>rfl) ?_ ?_
 ·intro i y l hy h0 h1
  have hi:=(List.getElem?_eq_some_iff.1 hy).1
  have o:=hw.2 y (List.mem_of_getElem? hy)
  obtain⟨r,h2,h3⟩:=zdY hf o h0 h1
  simp only[z5e,za hy,bsm,lt_t (show(i:Int)<x.length by omega),if_true,h2]
  by_cases hlt:r<0
  ·exact .inl (by simp only[lt_t hlt,if_true])
  ·exact .inr ⟨r,by simp only[lt_f hlt,if_false],h3.resolve_left hlt⟩
 ·intro l
  simp[z5e]

theorem zgy {x:LB}(hf:Big fu)(hs:szL Qa.sz x≤1048576):z4Y fu x=some x:=by
 have hl:=z4F hs
 unfold z4Y
 refine zaA hl hf (fun _=>rfl) ?_ ?_
 ·intro i y out hy o
  have hi:=(List.getElem?_eq_some_iff.1 hy).1
  have q:Qa.sz y≤1048576:=z4E hs (List.mem_of_getElem? hy)
  simp only[z5d,za hy,bsm,lt_t (show(i:Int)<x.length by omega),if_true,zdX hf q]
  rw[if_pos (by simp;omega)]
  simp
 ·intro out
  simp[z5d]

theorem zh0 {x:LB}(hf:Big fu)(hs:szL Qa.sz x≤1048576):z56 fu x x=some true:=by
 have hl:=z4F hs
 unfold z56
 rw[if_neg (by simp)]
 refine z7d (n:=x.length) (t:=()) (by unfold maxLen;omega) hf rfl ?_ ?_
 ·intro i hi
  obtain⟨y,hy⟩:=z1j hi
  have o:Qa.sz y≤1048576:=z4E hs (List.mem_of_getElem? hy)
  simp[z5h,za hy,hi,z1O,ze4 hf o]
 ·simp[z5h]

theorem zrq {x:QV}(hf:Big fu)(hs:QV.sz x≤1048576):z8L fu x x=some true:=by
 unfold QV.sz at hs
 simp[z8L,z1O,zmr hf (show szL D.Qe.sz x.QG≤1048576 by omega)]

theorem zn8 {x:Qp}{l:Int}(hf:Big fu)(hw:Qp.wf x)(h0:0≤l)(h1:l≤1048576):z95 (Qp.sz x) l (z9g fu x l):=by
 obtain⟨w0,w1,w2,_⟩:=hw
 unfold z9g Qp.sz
 refine z95.bind (zgz hf w0 h0 (by omega)) rfl fun r1 o H=>?_
 refine z95.bind (zhs hf w1 o (by omega)) rfl fun r2 q O=>?_
 refine z95.bind (zfO hf w2 q (by omega)) rfl fun r3 G X=>?_
 exact z95.same G

theorem zn6 {x:Qp}(hf:Big fu)(hs:Qp.sz x≤1048576):z9f fu x=some x:=by
 unfold Qp.sz at hs
 unfold z9f
 simp only[zgy hf (show szL Qa.sz x.Cells≤1048576 by omega),zhr hf (show x.QJ.length≤1048576 by omega),zfN hf (show x.Qs.length≤1048576 by omega),bsm]

theorem znP {x:Qp}(hf:Big fu)(hs:Qp.sz x≤1048576):z9j fu x x=some true:=by
 unfold Qp.sz at hs
 simp[z9j,z1O,zh0 hf (show szL Qa.sz x.Cells≤1048576 by omega),zhJ hf (show x.QJ.length≤1048576 by omega),zgh hf (show x.Qs.length≤1048576 by omega)]

theorem zkW {x:LG}{l:Int}(hf:Big fu)(hw:WfL Qp.wf x)(h0:0≤l)(h1:l≤1048576):z95 (szL Qp.sz x) l (z8G fu x l):=by
 unfold z8G
 generalize hz:w64 (l - (x.length:Int))=z
 refine z95.sub2 h0 h1 hw.1 (m:=sumL Qp.sz x) rfl hz fun g0 g1=>?_
 refine z95.loop hw.1 hf g0 (by omega) (fun _=>rfl) ?_ ?_
 ·intro i y l hy h0 h1
  have hi:=(List.getElem?_eq_some_iff.1 hy).1
  have o:=hw.2 y (List.mem_of_getElem? hy)
  obtain⟨r,h2,h3⟩:=zn8 hf o h0 h1
  simp only[z8f,za hy,bsm,lt_t (show(i:Int)<x.length by omega),if_true,h2]
  by_cases hlt:r<0
  ·exact .inl (by simp only[lt_t hlt,if_true])
  ·exact .inr ⟨r,by simp only[lt_f hlt,if_false],h3.resolve_left hlt⟩
 ·intro l
  simp[z8f]

theorem zkU {x:LG}(hf:Big fu)(hs:szL Qp.sz x≤1048576):z8E fu x=some x:=by
 have hl:=z4F hs
 unfold z8E
 refine zaA hl hf (fun _=>rfl) ?_ ?_
 ·intro i y out hy o
  have hi:=(List.getElem?_eq_some_iff.1 hy).1
  have q:Qp.sz y≤1048576:=z4E hs (List.mem_of_getElem? hy)
  simp only[z8d,za hy,bsm,lt_t (show(i:Int)<x.length by omega),if_true,zn6 hf q]
  rw[if_pos (by simp;omega)]
  simp
 ·intro out
  simp[z8d]

theorem zmp {x:LG}(hf:Big fu)(hs:szL Qp.sz x≤1048576):z8J fu x x=some true:=by
 have hl:=z4F hs
 unfold z8J
 rw[if_neg (by simp)]
 refine z7d (n:=x.length) (t:=()) (by unfold maxLen;omega) hf rfl ?_ ?_
 ·intro i hi
  obtain⟨y,hy⟩:=z1j hi
  have o:Qp.sz y≤1048576:=z4E hs (List.mem_of_getElem? hy)
  simp[z8g,za hy,hi,z1O,znP hf o]
 ·simp[z8g]

theorem zoY {x:D.Qk}{l:Int}(hf:Big fu)(hw:D.Qk.wf x)(h0:0≤l)(h1:l≤1048576):z95 (D.Qk.sz x) l (zah fu x l):=by
 obtain⟨w0,w1,_⟩:=hw
 unfold zah D.Qk.sz
 refine z95.bind (zkW hf w0 h0 (by omega)) rfl fun r1 o q=>?_
 exact z95.same o

theorem zoW {x:D.Qk}(hf:Big fu)(hs:D.Qk.sz x≤1048576):zag fu x=some x:=by
 unfold D.Qk.sz at hs
 unfold zag
 simp only[zkU hf (show szL Qp.sz x.Qf≤1048576 by omega),z6a hf (show 0≤1048576 by exact Nat.zero_le _),bsm]

theorem zpo {x:D.Qk}(hf:Big fu)(hs:D.Qk.sz x≤1048576):zan fu x x=some true:=by
 unfold D.Qk.sz at hs
 simp[zan,z1O,zmp hf (show szL Qp.sz x.Qf≤1048576 by omega),z6i hf (show 0≤1048576 by exact Nat.zero_le _)]

theorem zhe:Opens Tryz.prog 2 z2z I64:=Opens.int Tryz.underlying2 (by kernel_rfl)
theorem zm8:Opens Tryz.prog 45 ty45 (WfL I64):=Opens.sl Tryz.underlying45 (by kernel_rfl) zhe
set_option maxRecDepth 100000 in
theorem zft:Opens Tryz.prog 24 ty24 Qb.wf:=Opens.struct (f:=fun c:Qb=>(c.Qj,c.Qi,c.Qo,())) Tryz.underlying24 (by kernel_rfl) (z2x.cons zhe rfl rfl (z2x.cons zhe rfl rfl (z2x.cons zhe rfl rfl z2x.nil))) (fun⟨a0,a1,a2,_⟩=>⟨⟨a0,a1,a2⟩,rfl⟩)
theorem zvE:Opens Tryz.prog 235 zjN (WfL Qb.wf):=Opens.sl Tryz.underlying235 (by kernel_rfl) zft
set_option maxRecDepth 100000 in
theorem zpT:Opens Tryz.prog 237 zjM Qa.wf:=Opens.struct (f:=fun c:Qa=>(c.Qi,c.QC,c.Value,c.Data,c.QM,())) Tryz.underlying237 (by kernel_rfl) (z2x.cons zhe rfl rfl (z2x.cons zhe rfl rfl (z2x.cons zhe rfl rfl (z2x.cons zm8 rfl rfl (z2x.cons zvE rfl rfl z2x.nil))))) (fun⟨a0,a1,a2,a3,a4,_⟩=>⟨⟨a0,a1,a2,a3,a4⟩,rfl⟩)
theorem zvK:Opens Tryz.prog 137 zn1 (WfL Qa.wf):=Opens.sl Tryz.underlying137 (by kernel_rfl) zpT
theorem zx2:Opens Tryz.prog 4 zbY fun _=>True:=Opens.bool Tryz.underlying4 (by kernel_rfl)
set_option maxRecDepth 100000 in
theorem zvC:Opens Tryz.prog 270 zqF Qn.wf:=Opens.struct (f:=fun c:Qn=>(c.QZ,c.Qa0,c.QU,())) Tryz.underlying270 (by kernel_rfl) (z2x.cons zx2 rfl rfl (z2x.cons zx2 rfl rfl (z2x.cons zft rfl rfl z2x.nil))) (fun⟨a0,a1,a2,_⟩=>⟨⟨a0,a1,a2⟩,rfl⟩)
theorem zvJ:Opens Tryz.prog 138 zn0 (WfL Qn.wf):=Opens.sl Tryz.underlying138 (by kernel_rfl) zvC
set_option maxRecDepth 100000 in
theorem zvB:Opens Tryz.prog 273 zqE Qm.wf:=Opens.struct (f:=fun c:Qm=>(c.A,c.B,())) Tryz.underlying273 (by kernel_rfl) (z2x.cons zft rfl rfl (z2x.cons zft rfl rfl z2x.nil)) (fun⟨a0,a1,_⟩=>⟨⟨a0,a1⟩,rfl⟩)
theorem zvH:Opens Tryz.prog 139 zmZ (WfL Qm.wf):=Opens.sl Tryz.underlying139 (by kernel_rfl) zvB
set_option maxRecDepth 100000 in
theorem zvG:Opens Tryz.prog 141 zoS Qp.wf:=Opens.struct (f:=fun c:Qp=>(c.Cells,c.QJ,c.Qs,())) Tryz.underlying141 (by kernel_rfl) (z2x.cons zvK rfl rfl (z2x.cons zvJ rfl rfl (z2x.cons zvH rfl rfl z2x.nil))) (fun⟨a0,a1,a2,_⟩=>⟨⟨a0,a1,a2⟩,rfl⟩)
theorem zxi:Opens Tryz.prog 22 ty22 (WfL Qp.wf):=Opens.sl Tryz.underlying22 (by kernel_rfl) zvG
set_option maxRecDepth 100000 in
theorem zxh:Opens Tryz.prog 26 ty26 D.Qk.wf:=Opens.struct (f:=fun c:D.Qk=>(c.Qf,c.QO,())) Tryz.underlying26 (by kernel_rfl) (z2x.cons zxi rfl rfl (z2x.cons zft rfl rfl z2x.nil)) (fun⟨a0,a1,_⟩=>⟨⟨a0,a1⟩,rfl⟩)
end Go.E




