/- slices.Sort at a slice of whole numbers of one's own: what the library's contract gives. Conditions: none (rules). -/
import Derived.Shelf.SortM.Plain
import Derived.Shelf.SortM.SortNone
import Derived.Test.YtfndicpnccabkaaGreatField
import Derived.Test.YtfndicpnccabkaaGreatLoops
import Derived.Shelf.SlSortCmp.NoneTotal
import Derived.Test.YtfndicpnccabkaaGreatFreeze
import Derived.Shelf.SlGeneric
import Derived.Ground.SlgmProg
import Derived.Test.YtfndicpnccabkaaGreatShort
set_option linter.unusedVariables false
set_option linter.unusedSimpArgs false
namespace Go.E
open Go.RowKit Go.Proofs Go.Sort

theorem zi6 {w:World}:∀ {xs:L9}{els:List Value}{K:List Nat},zaD z2z w els xs K→els=xs.map (Value.int .i64)∧K=[]
 | [],els,K,h=>h
 | x::xs,els,K,h=>by
  obtain⟨c,d,H,K',rfl,rfl,h1,h2⟩:=h
  obtain⟨rfl,rfl⟩:=zi6 h2
  obtain⟨rfl,rfl⟩:=h1
  exact⟨rfl,rfl⟩
theorem zuB {w:World}:∀ {xs:L9},zaD z2z w (xs.map (Value.int .i64)) xs []
 | []=>⟨rfl,rfl⟩
 | x::xs=>⟨[.int .i64 x],_,[],[],rfl,rfl,⟨rfl,rfl⟩,zuB⟩

theorem zsf {w:World}{g e:Nat}{xs ys:L9}{rest:List Value}(hh:w.heap[g]? = some (.cells ⟨xs.map (Value.int .i64)++rest⟩ e (0,0)))(hl:ys.length=xs.length):
  (putRow (Value.int .i64) w g 0 ys.toArray).heap[g]? = some (.cells ⟨ys.map (Value.int .i64)++rest⟩ e (0,0)):=by
 show(w.heap.modify g _)[g]? = _
 rw[Array.getElem?_modify,if_pos rfl,hh]
 simp only[Option.map_some,onCells,Option.some.injEq,Obj.cells.injEq,and_true]
 apply Array.ext'
 unfold putCells
 apply List.ext_getElem?
 intro i
 simp only[Array.toList_mapIdx,List.getElem?_mapIdx,Nat.zero_le,true_and,Nat.zero_add,Nat.sub_zero,List.size_toArray]
 rcases Nat.lt_or_ge i xs.length with h | h
 ·obtain⟨y,hy⟩:=z1j (xs:=ys) (i:=i) (by omega)
  obtain⟨x,hx⟩:=z1j (xs:=xs) (i:=i) h
  rw[List.getElem?_append_left (by simpa using h),List.getElem?_append_left (by simp;omega),List.getElem?_map,List.getElem?_map,hx,hy]
  simp only[Option.map_some,if_pos (show i<ys.length by omega),Option.some.injEq]
  have:ys.toArray[i]! = y:=by simp[hy]
  rw[this]
 ·rw[List.getElem?_append_right (by simpa using h),List.getElem?_append_right (by simp;omega)]
  simp only[List.length_map,hl]
  cases rest[i - xs.length]? with
  | none=>rfl
  | some v=>simp only[Option.map_some,if_neg (show ¬ i<xs.length by omega)]

theorem St.putRow {W:Base}{w:World}{B:List Res}{g e k:Nat}{xs ys:L9}(hS:St W w (Own (tSl e z2z) [.slice (some ⟨g,0,none⟩) xs.length k] xs::B))(O:xs≠[])(hl:ys.length=xs.length):
  St W (Go.Sort.putRow (Value.int .i64) w g 0 ys.toArray) (Own (tSl e z2z) [.slice (some ⟨g,0,none⟩) ys.length k] ys::B):=by
 obtain⟨G,hA,g0,e0⟩:=hS.sep.head
 obtain⟨g',cap,els,rest,K,h1,hh,hc,hm,f0,b0,hk,rfl⟩:=z9d hA O
 simp only[Value.slice.injEq,Option.some.injEq,Addr.mk.injEq,and_true,true_and] at h1
 obtain⟨rfl,rfl⟩:=h1
 obtain⟨rfl,rfl⟩:=zi6 hk
 have a0:=zsf hh hl
 have c0:W.fr g:=e0 g (by simp)
 have q:∀ b,b≠g→(Go.Sort.putRow (Value.int .i64) w g 0 ys.toArray).heap[b]? = w.heap[b]?:=fun b hb=>by
  show(w.heap.modify g _)[b]? = _
  rw[Array.getElem?_modify,if_neg (Ne.symm hb)]
 have H:(tSl e z2z).own (Go.Sort.putRow (Value.int .i64) w g 0 ys.toArray) [.slice (some ⟨g,0,none⟩) ys.length k] ys [g]:=
  zc3 a0 (by omega) hm (by simpa [hl] using f0) (by simpa [hl] using b0) zuB
 refine⟨⟨hS.ext.os,hS.ext.tape,hS.ext.output,hS.ext.drawn,?_,fun b hb=>?_⟩,hS.sep.upd hS.up fun G hG _ _=>?_⟩
 ·show W.W.heap.size≤(w.heap.modify g _).size
  simpa using hS.le
 ·show(Go.Sort.putRow (Value.int .i64) w g 0 ys.toArray).heap[b]? = _
  rw[q b (fun e=>hb (e ▸ c0))];exact hS.ext.block b hb
 ·obtain⟨g2,Y,Z,X,K2,k1,_,_,_,_,_,o,rfl⟩:=z9d hG O
  simp only[Value.slice.injEq,Option.some.injEq,Addr.mk.injEq,and_true,true_and] at k1
  obtain⟨rfl,rfl⟩:=k1
  obtain⟨rfl,rfl⟩:=zi6 o
  exact⟨[g],H,by simp,fun b hb=>.inl hb,fun b _ hb=>q b (by simpa using hb)⟩

def z6z (xs:L9):L9:=xs.mergeSort fun x y=>decide (x≤y)

theorem zx9 {P:Program}{f:Nat}(Y:∀ (Z off cap:Nat) (zs:L9) (w:World),Holds (Value.int .i64) w Z off zs.toArray→Z<w.heap.size→zs.length<4611686018427387904→
   Calls P f #[.slice (some ⟨Z,off,none⟩) zs.length cap] w fun e w'=>e=.returned (.tuple #[])∧∃ n os,w'=grow (Go.Sort.putRow (Value.int .i64) (Sort.ahead w n) Z off (zs.mergeSort fun x y=>decide (x≤y)).toArray) os)
  (X:∀ (p:Option Addr) (cap:Nat) (w:World),Calls P f #[.slice p 0 cap] w fun e w'=>e=.returned (.tuple #[])∧w'=w)
  {W:Base}{w:World}{RR:List Res}{e:Nat}{q:Option Addr}{o:Nat}{x0:L9}(hS:St W w (Own (tSl e z2z) [.slice q x0.length o] x0::RR))(hb:x0.length≤4294967296):
  Calls P f ⟨[.slice q x0.length o]⟩ w (Ret fun v w8=>v=.tuple ⟨[]⟩∧St W w8 (Own (tSl e z2z) [.slice q x0.length o] (z6z x0)::RR)):=by
 by_cases hne:x0=[]
 ·subst hne
  refine(X q o w).mono ?_
  rintro e w' ⟨rfl,rfl⟩
  have e9:z6z []=[]:=by simp[z6z]
  rw[e9]
  exact⟨rfl,hS⟩
 ·obtain⟨G,hA,c0,b0⟩:=hS.sep.head
  obtain⟨g,cap,els,rest,K,h1,hh,hc,hm,e0,a0,hk,rfl⟩:=z9d hA hne
  cases h1
  obtain⟨rfl,rfl⟩:=zi6 hk
  refine(Y g 0 o x0 w ?_ (Array.getElem?_eq_some_iff.1 hh).1 (by omega)).mono ?_
  ·intro j hj
   simp only[List.size_toArray] at hj
   obtain⟨x,hx⟩:=z1j (xs:=x0) (i:=j) hj
   have e1:x0.toArray[j]! = x:=by simp[hx]
   have e2:(x0.map (Value.int .i64)++rest)[j]? = some (.int .i64 x):=by
    rw[List.getElem?_append_left (by simpa using hj),List.getElem?_map,hx];rfl
   rw[e1]
   constructor
   ·simp[World.cell?,hh,e2]
   ·simp[World.frozen?,hh]
  ·rintro e' w' ⟨rfl,n,os,rfl⟩
   have h1:Ext w (Base.of (Sort.ahead w n)):=Ext.of_below ⟨rfl,rfl,rfl,Nat.le_refl _,fun _ _=>rfl⟩ (Nat.le_add_right _ _)
   have hl:(z6z x0).length=x0.length:=by simp[z6z]
   have O:=St.putRow (ys:=z6z x0) (hS.step h1) hne hl
   have h2:Ext (Base.of (Go.Sort.putRow (Value.int .i64) (Sort.ahead w n) g 0 (z6z x0).toArray)) (Base.of (grow (Go.Sort.putRow (Value.int .i64) (Sort.ahead w n) g 0 (z6z x0).toArray) os)):=
    Ext.of_below ⟨rfl,rfl,rfl,by show _≤(_++os).size;simp,fun j hj=>by show(_++os)[j]? = _;rw[Array.getElem?_append_left hj]⟩ (Nat.le_refl _)
   have H:=O.step h2
   rw[hl] at H
   exact⟨rfl,H⟩
end Go.E



namespace Go.E
open Go.RowKit Go.Proofs Go.Sort


abbrev Tri (α:Type):=List Value×α×List Nat
theorem zaD.list {α:Type}{T:Ty α}{w:World}:∀ {xs:List α}{els:List Value}{G:List Nat},zaD T w els xs G→∃ L:List (Tri α),(∀ t,t∈L→T.own w t.1 t.2.1 t.2.2)∧els=L.flatMap (·.1)∧xs=L.map (·.2.1)∧G=L.flatMap (·.2.2)
 | [],els,G,h=>⟨[],fun t ht=>by simp at ht,h.1,rfl,h.2⟩
 | x::xs,els,G,h=>by
  obtain⟨c,d,H,K,rfl,rfl,h1,h2⟩:=h
  obtain⟨L,l1,rfl,rfl,rfl⟩:=zaD.list h2
  refine⟨(c,x,H)::L,fun t ht=>?_,by simp,by simp,by simp⟩
  rcases List.mem_cons.1 ht with rfl | ht
  ·exact h1
  ·exact l1 t ht
theorem zaD.of {α:Type}{T:Ty α}{w:World}:∀ {L:List (Tri α)},(∀ t,t∈L→T.own w t.1 t.2.1 t.2.2)→zaD T w (L.flatMap (·.1)) (L.map (·.2.1)) (L.flatMap (·.2.2))
 | [],_=>⟨rfl,rfl⟩
 | t::L,h=>⟨t.1,_,t.2.2,_,by simp,by simp,h t (by simp),zaD.of fun u hu=>h u (by simp[hu])⟩


theorem St.permEls {α:Type}{U:Ty α}{W:Base}{w:World}{B:List Res}{els els':List Value}{xs xs':List α}(hS:St W w (OwnEls U els xs::B))
  (hp:∀ G,zaD U w els xs G→∃ G',G'.Perm G∧zaD U w els' xs' G'):St W w (OwnEls U els' xs'::B):=by
 refine⟨hS.ext,hS.sep.upd hS.up fun G hG o _=>?_⟩
 obtain⟨G',h1,h2⟩:=hp G hG
 exact⟨G',h2,h1.nodup_iff.2 o,fun g hg=>.inl (h1.mem_iff.1 hg),fun b _ _=>rfl⟩


theorem St.openRow {α:Type}{U:Ty α}{W:Base}{w:World}{B:List Res}{e g k:Nat}{xs:List α}(hS:St W w (Own (tSl e U) [.slice (some ⟨g,0,none⟩) xs.length k] xs::B))(X:xs≠[]):
  ∃ els rest:List Value,els.length=xs.length*U.size∧(els++rest).length=k*U.size∧xs.length≤k∧k≤maxLen∧St W w (Box g (els++rest) e::OwnEls U els xs::B):=by
 obtain⟨G,hA,_⟩:=hS.sep.head
 obtain⟨g',cap,els,rest,K,h1,hh,hc,hm,b0,O,hk,rfl⟩:=z9d hA X
 cases h1
 refine⟨els,rest,O,b0,hc,hm,hS.ext,(Sep.conv (R':=Both (Box g (els++rest) e) (OwnEls U els xs)) hS.sep fun G hG=>?_).split⟩
 obtain⟨g2,Z,a0,Y,K2,k1,H,_,_,_,q,o,rfl⟩:=z9d hG X
 cases k1
 rw[hh] at H
 simp only[Option.some.injEq,Obj.cells.injEq,Array.mk.injEq,and_true] at H
 obtain⟨e1,_⟩:=List.append_inj H (by rw[O,q])
 subst e1
 exact⟨[g],K2,rfl,⟨rfl,hh⟩,o⟩
theorem St.closeRow {α:Type}{U:Ty α}{W:Base}{w:World}{B:List Res}{e g k:Nat}{xs:List α}{els rest:List Value}(hS:St W w (Box g (els++rest) e::OwnEls U els xs::B))(h1:els.length=xs.length*U.size)(h2:(els++rest).length=k*U.size)(h3:xs.length≤k)(h4:k≤maxLen):
  St W w (Own (tSl e U) [.slice (some ⟨g,0,none⟩) xs.length k] xs::B):=by
 refine⟨hS.ext,Sep.conv hS.sep.fuse fun G hG=>?_⟩
 obtain⟨H,K,rfl,⟨rfl,hh⟩,hk⟩:=hG
 exact zc3 hh h3 h4 h2 h1 hk


theorem St.putBox {W:Base}{w:World}{B:List Res}{e g:Nat}{els els' rest:List Value}(hS:St W w (Box g (els++rest) e::B))(hl:els'.length=els.length):
  St W (Go.Sort.putRow id w g 0 els'.toArray) (Box g (els'++rest) e::B):=by
 obtain⟨G,⟨rfl,hh⟩,X,O⟩:=hS.sep.head
 have q:(Go.Sort.putRow id w g 0 els'.toArray).heap[g]? = some (.cells ⟨els'++rest⟩ e (0,0)):=by
  show(w.heap.modify g _)[g]? = _
  rw[Array.getElem?_modify,if_pos rfl,hh]
  simp only[Option.map_some,onCells,Option.some.injEq,Obj.cells.injEq,and_true]
  apply Array.ext'
  unfold putCells
  apply List.ext_getElem?
  intro i
  simp only[Array.toList_mapIdx,List.getElem?_mapIdx,Nat.zero_le,true_and,Nat.zero_add,Nat.sub_zero,List.size_toArray,id]
  rcases Nat.lt_or_ge i els.length with h | h
  ·obtain⟨y,hy⟩:=z1j (xs:=els') (i:=i) (by omega)
   obtain⟨x,hx⟩:=z1j (xs:=els) (i:=i) h
   rw[List.getElem?_append_left h,List.getElem?_append_left (by omega),hx,hy]
   simp only[Option.map_some,if_pos (show i<els'.length by omega),Option.some.injEq]
   simp[hy]
  ·rw[List.getElem?_append_right h,List.getElem?_append_right (by omega),hl]
   cases rest[i - els.length]? with
   | none=>rfl
   | some v=>simp only[Option.map_some,if_neg (show ¬ i<els.length by omega)]
 have H:W.fr g:=O g (by simp)
 have o:∀ b,b≠g→(Go.Sort.putRow id w g 0 els'.toArray).heap[b]? = w.heap[b]?:=fun b hb=>by
  show(w.heap.modify g _)[b]? = _
  rw[Array.getElem?_modify,if_neg (Ne.symm hb)]
 refine⟨⟨hS.ext.os,hS.ext.tape,hS.ext.output,hS.ext.drawn,?_,fun b hb=>?_⟩,hS.sep.upd hS.up fun G hG _ _=>?_⟩
 ·show W.W.heap.size≤(w.heap.modify g _).size
  simpa using hS.le
 ·show(Go.Sort.putRow id w g 0 els'.toArray).heap[b]? = _
  rw[o b (fun e=>hb (e ▸ H))];exact hS.ext.block b hb
 ·obtain⟨rfl,_⟩:=hG
  exact⟨[g],⟨rfl,q⟩,by simp,fun b hb=>.inl hb,fun b _ hb=>o b (by simpa using hb)⟩


theorem Ext.grows {w w':World}(h:Ext w w'):∃ (q:Nat) (os:Array Obj),w'=grow (w.drewN q) os:=by
 refine⟨w'.drawn - w.drawn,w'.heap.extract w.heap.size w'.heap.size,?_⟩
 have hd:w.drawn+(w'.drawn - w.drawn)=w'.drawn:=by have:=h.drawn;simp only at this;omega
 have hh:w.heap++w'.heap.extract w.heap.size w'.heap.size=w'.heap:=by
  apply Array.ext_getElem?
  intro i
  rcases Nat.lt_or_ge i w.heap.size with hi | hi
  ·rw[Array.getElem?_append_left hi];exact(h.old i hi).symm
  ·rw[Array.getElem?_append_right hi]
   have hs:w.heap.size≤w'.heap.size:=h.size
   rw[Array.getElem?_extract]
   rcases Nat.lt_or_ge i w'.heap.size with h2 | h2
   ·rw[if_pos (by omega)];congr 1;omega
   ·rw[if_neg (by omega),Array.getElem?_eq_none h2]
 obtain⟨a1,a2,a3,a4,a5⟩:=w'
 unfold grow World.drewN
 simp only[World.mk.injEq]
 exact⟨hh.symm,h.tape,hd.symm,h.os,h.output⟩
end Go.E



namespace Go.E
open Go.RowKit Go.Proofs Go.Sort Go.Shelf

theorem zt1 {α:Type}{enc:α→List Value}{k:Nat}(hk:∀ x,(enc x).length=k)(h0:0<k):∀ (l:List α) (t:Nat),(l.flatMap enc)[t]? = (l[t / k]?).bind fun x=>(enc x)[t % k]?
 | [],t=>by simp
 | x::l,t=>by
  rw[List.flatMap_cons]
  rcases Nat.lt_or_ge t k with h | h
  ·rw[List.getElem?_append_left (by rw[hk];exact h),Nat.div_eq_of_lt h,Nat.mod_eq_of_lt h]
   rfl
  ·rw[List.getElem?_append_right (by rw[hk];exact h),hk,zt1 hk h0 l (t - k)]
   have h1:t / k=(t - k) / k+1:=by
    have:=Nat.div_add_mod t k
    rw[Nat.div_eq_sub_div h0 h]
   have h2:t % k=(t - k) % k:=Nat.mod_eq_sub_mod h
   rw[h1,h2]
   rfl
theorem zeW {α:Type}{enc:α→List Value}{k:Nat}(hk:∀ x,(enc x).length=k):∀ l:List α,(l.flatMap enc).length=l.length*k
 | []=>by simp
 | x::l=>by rw[List.flatMap_cons,List.length_append,hk,zeW hk l,List.length_cons,Nat.add_mul];omega
theorem zkH {α:Type}[Inhabited α]{enc:α→List Value}{k:Nat}(hk:∀ x,(enc x).length=k)(h0:0<k)(d:Array α):flatK enc k d=(d.toList.flatMap enc).toArray:=by
 apply Array.ext
 ·rw[size_flatK];simp only[List.size_toArray];rw[zeW hk];simp
 ·intro t h1 h2
  have h3:t<d.size*k:=by rwa [size_flatK] at h1
  have h4:t / k<d.size:=Nat.div_lt_of_lt_mul (by rwa [Nat.mul_comm] at h3)
  have e1:=get_flatK enc k d t h3
  rw[getElem!_pos (flatK enc k d) t h1] at e1
  rw[e1]
  have e2:=zt1 hk h0 d.toList t
  have h5:d.toList[t / k]? = some d[t / k]!:=by rw[List.getElem?_eq_getElem (by simpa using h4),getElem!_pos d (t / k) h4];simp
  have h6:t % k<(enc d[t / k]!).length:=by rw[hk];exact Nat.mod_lt _ h0
  rw[h5,bsm,List.getElem?_eq_getElem h6,List.getElem?_eq_getElem (by simpa using h2)] at e2
  rw[getElem!_pos (enc d[t / k]!) (t % k) h6]
  simpa using (Option.some.inj e2).symm
theorem zkN {k:Nat}:∀ {A B:List (List Value)},A.length=B.length→(∀ c,c∈A→c.length=k)→(∀ c,c∈B→c.length=k)→A.flatten=B.flatten→A=B
 | [],[],_,_,_,_=>rfl
 | [],_::_,h,_,_,_=>by simp at h
 | _::_,[],h,_,_,_=>by simp at h
 | a::A,b::B,h,h1,h2,he=>by
  simp only[List.flatten_cons] at he
  obtain⟨e1,e2⟩:=List.append_inj he (by rw[h1 a (by simp),h2 b (by simp)])
  rw[e1,zkN (by simpa using h) (fun c hc=>h1 c (by simp[hc])) (fun c hc=>h2 c (by simp[hc])) e2]
theorem zq9 {α β:Type}(l:List α)(f:α→List β):(List.finRange l.length).flatMap (fun i=>f l[i])=l.flatMap f:=by
 have:(List.finRange l.length).map (fun i=>l[i])=l:=by
  apply List.ext_getElem<;>simp
 conv=>rhs;rw[← this]
 rw[List.flatMap_map]
theorem zxq {α β:Type}(l:List α)(f:α→β):(List.finRange l.length).map (fun i=>f l[i])=l.map f:=by
 apply List.ext_getElem<;>simp

set_option maxHeartbeats 2000000 in
theorem zvg {P:Program}{ρ:Ren}(L:SlLaysF0.n6 P ρ){β:Type}{U:Ty β}(h0:0<U.size)(aE:∀ w,(isAgg (ρ.t 24)).run P w=.ok true w)(zE:∀ w,(Go.sizeOf (ρ.t 24)).run P w=.ok U.size w){g:Nat}(eg:∀ args w,(callFunc g args).run P w=.ok (.enter g args) w)
  {cf:β→β→Int}(hO:SWO (ltOf cf))(hq:∀ w,U.req w){W:Base}{w:World}{RR:List Res}{e:Nat}{A0_:Option Addr}{k0_:Nat}{x0:List β}(hS:St W w (Own (tSl e U) [.slice A0_ x0.length k0_] x0::RR))(hb:x0.length≤4294967296)
  (hT:x0.Pairwise fun x y=>¬ (ltOf cf x y=false∧ltOf cf y x=false))
  (hc:∀ {W1:Base}{w1:World},Ext W1 w1→∀ {c0 c1:List Value}{x y:β},x∈x0→y∈x0→U.ro W1.W c0 x→U.ro W1.W c1 y→Calls P g ⟨[.agg ⟨c0⟩,.agg ⟨c1⟩]⟩ w1 (Ret fun v w8=>v=.int .i64 (cf x y)∧St (Base.of w1) w8 [])):
  Calls P (ρ.f 6) ⟨[.slice A0_ x0.length k0_,.func (.func g) #[] #[]]⟩ w (Ret fun v w8=>v=.tuple ⟨[]⟩∧St W w8 (Own (tSl e U) [.slice A0_ x0.length k0_] (x0.mergeSort fun x y=>!(ltOf cf) y x)::RR)):=by
 by_cases hne:x0=[]
 ·subst hne
  refine(AnyF.slices_SortFunc_none L A0_ k0_ _ w).mono ?_
  rintro e' w' ⟨rfl,rfl⟩
  exact⟨rfl,by simpa using hS⟩
 obtain⟨G0,hA0,_⟩:=hS.sep.head
 obtain⟨g0,cap,_,_,_,k1,_,_,_,_,_,_,_⟩:=z9d hA0 hne
 cases k1
 obtain⟨els,rest,l1,l2,l3,l4,hS1⟩:=St.openRow hS hne
 have hS2:St W w (OwnEls U els x0::Box g0 (els++rest) e::RR):=⟨hS1.ext,hS1.sep.perm (List.Perm.swap ..)⟩
 obtain⟨W1,G,hW1,hA,hWW,hS3,hback⟩:=hS2.lend
 obtain⟨Ls,hl1,e1,e2,e3⟩:=zaD.list hA
 have hn:0<Ls.length:=by
  cases Ls with
  | nil=>exact absurd e2 hne
  | cons t l=>simp
 haveI:Inhabited (Fin Ls.length):=⟨⟨0,hn⟩⟩
 have hown:∀ i:Fin Ls.length,U.own W1.W Ls[i].1 Ls[i].2.1 Ls[i].2.2:=fun i=>hl1 _ (List.getElem_mem _)
 have hmem:∀ i:Fin Ls.length,Ls[i].2.1∈x0:=fun i=>by rw[e2];exact List.mem_map.2 ⟨_,List.getElem_mem _,rfl⟩
 have hk:∀ i:Fin Ls.length,(Ls[i].1).length=U.size:=fun i=>U.lenO (hown i)
 have hels:els=(List.finRange Ls.length).flatMap (fun i=>Ls[i].1):=by rw[e1,zq9 Ls (·.1)]

 have hworld:∀ (m:Nat) (os:Array Obj) (dk:Array (Fin Ls.length)),dk.size=Ls.length→
   St W1 (sortWorldK (fun i:Fin Ls.length=>Ls[i].1) U.size w g0 0 m dk os) (Box g0 (dk.toList.flatMap (fun i:Fin Ls.length=>Ls[i].1)++rest) e::RR):=fun m os dk hd=>by
  have h1:Ext w (Base.of (Sort.ahead w m)):=Ext.of_below ⟨rfl,rfl,rfl,Nat.le_refl _,fun _ _=>rfl⟩ (Nat.le_add_right _ _)
  have h2:=St.putBox (els':=dk.toList.flatMap (fun i:Fin Ls.length=>Ls[i].1)) (hS3.step h1) (by rw[zeW (enc:=fun i:Fin Ls.length=>Ls[i].1) hk,hels,zeW (enc:=fun i:Fin Ls.length=>Ls[i].1) hk];simp[hd])
  have h3:sortWorldK (fun i:Fin Ls.length=>Ls[i].1) U.size w g0 0 m dk os=grow (Go.Sort.putRow id (Sort.ahead w m) g0 0 (dk.toList.flatMap (fun i:Fin Ls.length=>Ls[i].1)).toArray) os:=by
   unfold sortWorldK putRowK
   rw[zkH hk h0]
  rw[h3]
  exact h2.step (Ext.of_below ⟨rfl,rfl,rfl,by show _≤(_++os).size;simp,fun j hj=>by show(_++os)[j]? = _;rw[Array.getElem?_append_left hj]⟩ (Nat.le_refl _))
 have hlen:x0.length=Ls.length:=by rw[e2];simp
 have hbox:w.heap[g0]? = some (.cells ⟨els++rest⟩ e (0,0)):=by
  obtain⟨H,⟨rfl,hh⟩,_⟩:=hS3.sep.head
  exact hh
 have hdl:(List.finRange Ls.length).toArray.size=Ls.length:=by simp
 have hflat:=zkH hk h0 (List.finRange Ls.length).toArray
 have hT':∀ i j:Fin Ls.length,ltOf (fun i j:Fin Ls.length=>cf Ls[i].2.1 Ls[j].2.1) i j=false→ltOf (fun i j:Fin Ls.length=>cf Ls[i].2.1 Ls[j].2.1) j i=false→i=j:=by
  intro i j hi hj
  rcases Nat.lt_trichotomy i.1 j.1 with h | h | h
  ·have:=List.pairwise_iff_getElem.1 hT i.1 j.1 (by omega) (by omega) h
   simp only[e2,List.getElem_map] at this
   exact absurd ⟨hi,hj⟩ this
  ·exact Fin.ext h
  ·have:=List.pairwise_iff_getElem.1 hT j.1 i.1 (by omega) (by omega) h
   simp only[e2,List.getElem_map] at this
   exact absurd ⟨hj,hi⟩ this
 have hO':SWO (ltOf (fun i j:Fin Ls.length=>cf Ls[i].2.1 Ls[j].2.1)):=⟨fun i=>hO.irrefl _,fun i j k=>hO.trans _ _ _,fun i j k=>hO.ntrans _ _ _⟩
 have hmain:=AnyQ.slices_SortFunc_total L U.size aE zE (fun i:Fin Ls.length=>Ls[i].1) hk (fun i v hv=>U.oneO (hown i) v hv) (fun i j:Fin Ls.length=>cf Ls[i].2.1 Ls[j].2.1) hO' g #[] g0 0 k0_ (List.finRange Ls.length).toArray w eg
  (fun m os dk hd i j=>by
   rw[hdl] at hd
   have hw1:=hworld m os dk hd
   refine(hc hw1.ext (hmem i) (hmem j) (U.own_ro (hown i) (hq _)) (U.own_ro (hown j) (hq _))).mono ?_
   intro e' w' hr
   obtain⟨v,rfl,rfl,hs⟩:=hr.out
   exact⟨rfl,hs.ext.grows⟩)
  (fun j hj=>by
   rw[hflat] at hj ⊢
   simp only[List.size_toArray] at hj
   obtain⟨x,hx⟩:=z1j (xs:=(List.finRange Ls.length).flatMap fun i:Fin Ls.length=>Ls[i].1) (i:=j) hj
   have e1:((List.finRange Ls.length).flatMap fun i:Fin Ls.length=>Ls[i].1).toArray[j]! = x:=by
    obtain⟨hj2,hx2⟩:=List.getElem?_eq_some_iff.1 hx
    rw[getElem!_pos _ j (by simpa using hj2)]
    exact hx2
   rw[e1]
   rw[hels] at hbox
   have e2:(((List.finRange Ls.length).flatMap fun i:Fin Ls.length=>Ls[i].1)++rest)[j]? = some x:=by
    rw[List.getElem?_append_left hj,hx]
   constructor
   ·simp only[World.cell?,hbox,Nat.zero_add];simpa using e2
   ·simp[World.frozen?,hbox])
  (Array.getElem?_eq_some_iff.1 hbox).1 (by rw[hdl,← hlen];omega) hT'
 have hgo:Calls P (ρ.f 6) ⟨[.slice (some ⟨g0,0,none⟩) (List.finRange Ls.length).toArray.size k0_,.func (.func g) #[] #[]]⟩ w (Ret fun v w8=>v=.tuple ⟨[]⟩∧St W w8 (Own (tSl e U) [.slice (some ⟨g0,0,none⟩) x0.length k0_] (x0.mergeSort fun x y=>!(ltOf cf) y x)::RR)):=?_
 ·have hz:(List.finRange Ls.length).toArray.size=x0.length:=by rw[hdl,hlen]
  rw[hz] at hgo
  exact hgo
 refine hmain.mono ?_
 rintro e' w' ⟨rfl,m,os,rfl⟩
 generalize hso:((List.finRange Ls.length).toArray.toList.mergeSort fun x y=>!ltOf (fun i j:Fin Ls.length=>cf Ls[i].2.1 Ls[j].2.1) y x)=so
 have hperm:so.Perm (List.finRange Ls.length):=by rw[← hso];exact List.mergeSort_perm _ _
 have hsol:so.toArray.size=Ls.length:=by simpa using hperm.length_eq
 have hs4:=hback _ _ (hworld m os so.toArray hsol)
 simp only[List.toList_toArray] at hs4
 have hdat:so.map (fun i:Fin Ls.length=>Ls[i].2.1)=x0.mergeSort fun x y=>!(ltOf cf) y x:=by
  subst hso
  refine(List.map_mergeSort (l:=(List.finRange Ls.length).toArray.toList) (f:=fun i:Fin Ls.length=>Ls[i].2.1) (s:=fun x y=>!(ltOf cf) y x) (fun a _ b _=>rfl)).trans ?_
  have hx:=zxq Ls (·.2.1)
  rw[← e2] at hx
  exact congrArg (fun l=>l.mergeSort fun x y=>!(ltOf cf) y x) hx
 have hs5:=St.permEls (els':=so.flatMap fun i:Fin Ls.length=>Ls[i].1) (xs':=so.map fun i:Fin Ls.length=>Ls[i].2.1) hs4 (fun G1 hG1=>by
  obtain⟨L2,m1,n1,n2,n3⟩:=zaD.list hG1
  have hll:L2.length=Ls.length:=by
   have:=congrArg List.length n2
   rw[List.length_map] at this
   omega
  have hch:L2.map (·.1)=Ls.map (·.1):=zkN (by simpa using hll)
   (fun c hc=>by obtain⟨t,ht,rfl⟩:=List.mem_map.1 hc;exact U.lenO (m1 t ht))
   (fun c hc=>by obtain⟨t,ht,rfl⟩:=List.mem_map.1 hc;exact U.lenO (hl1 t ht))
   (by rw[← List.flatMap_def,← List.flatMap_def,← n1,← e1])
  have hda:L2.map (·.2.1)=Ls.map (·.2.1):=by rw[← n2,← e2]
  have q1:∀ i:Fin Ls.length,(L2[i.1]'(by omega)).1=Ls[i].1:=fun i=>by
   have:=congrArg (fun l:List (List Value)=>l[i.1]?) hch
   simp only[List.getElem?_map,List.getElem?_eq_getElem (show i.1<L2.length by omega),List.getElem?_eq_getElem i.2,Option.map_some] at this
   exact Option.some.inj this
  have q2:∀ i:Fin Ls.length,(L2[i.1]'(by omega)).2.1=Ls[i].2.1:=fun i=>by
   have:=congrArg (fun l:List β=>l[i.1]?) hda
   simp only[List.getElem?_map,List.getElem?_eq_getElem (show i.1<L2.length by omega),List.getElem?_eq_getElem i.2,Option.map_some] at this
   exact Option.some.inj this
  have r:=zaD.of (L:=so.map fun i:Fin Ls.length=>L2[i.1]'(by omega)) (T:=U) (fun t ht=>by
   obtain⟨i,_,e9⟩:=List.mem_map.1 ht
   rw[← e9]
   exact m1 _ (List.getElem_mem (show i.1<L2.length by omega)))
  refine⟨_,?_,by simpa only[List.flatMap_map,List.map_map,Function.comp_def,q1,q2] using r⟩
  refine(hperm.flatMap_right _).trans ?_
  rw[n3]
  have:=zq9 L2 (·.2.2)
  rw[← this]
  refine List.Perm.of_eq ?_
  simp only[List.flatMap_def]
  congr 1
  apply List.ext_getElem<;>simp[hll])
 rw[hdat] at hs5
 have hs6:St W _ (Box g0 ((so.flatMap fun i:Fin Ls.length=>Ls[i].1)++rest) e::OwnEls U (so.flatMap fun i:Fin Ls.length=>Ls[i].1) (x0.mergeSort fun x y=>!(ltOf cf) y x)::RR):=⟨hs5.ext,hs5.sep.perm (List.Perm.swap ..)⟩
 have hle:(so.flatMap fun i:Fin Ls.length=>Ls[i].1).length=els.length:=by
  rw[zeW (enc:=fun i:Fin Ls.length=>Ls[i].1) hk,hels,zeW (enc:=fun i:Fin Ls.length=>Ls[i].1) hk,hperm.length_eq]
 have hs7:=St.closeRow (k:=k0_) hs6 (by rw[hle,l1];simp) (by rw[List.length_append,hle,← List.length_append];exact l2) (by simpa using l3) l4
 have hml:(x0.mergeSort fun x y=>!(ltOf cf) y x).length=x0.length:=by simp
 rw[hml] at hs7
 exact⟨rfl,hs7⟩
end Go.E



namespace Go.Proofs
open Go.Shelf
def Tryz.laysSlM5_f234_ren:Go.Shelf.Ren:=⟨fun | 5=>234 | 8=>237 | 7=>248 | 19=>257 | 20=>258 | 10=>259 | 11=>260 | 12=>261 | 13=>262 | 14=>263 | 15=>264 | 16=>265 | 17=>266 | 18=>267 | 30=>273 | 31=>269 | 32=>270 | 33=>274 | 34=>275 | 35=>238 | 40=>277 | n=>n,fun | 23=>45 | 25=>2 | 3=>3 | 32=>310 | 22=>45 | 0=>0 | 44=>322 | 46=>324 | 4=>4 | 36=>315 | 35=>314 | 41=>319 | 5=>5 | 9=>9 | 53=>330 | 57=>334 | 63=>338 | 64=>339 | n=>n,fun | n=>n⟩
theorem Tryz.laysSlM5_f234:Go.Proofs.SlLaysM.n5 Tryz.prog Tryz.laysSlM5_f234_ren:={
 mixed:=by kernel_rfl
 f5:=⟨Tryz.f234.name,by decide,Tryz.func234.trans (congrArg some (by kernel_rfl))⟩
 f7:=⟨Tryz.f248.name,by decide,Tryz.func248.trans (congrArg some (by kernel_rfl))⟩
 f8:=Tryz.func237.trans (congrArg some (by kernel_rfl))
 f10:=⟨Tryz.f259.name,by decide,Tryz.func259.trans (congrArg some (by kernel_rfl))⟩
 f11:=⟨Tryz.f260.name,by decide,Tryz.func260.trans (congrArg some (by kernel_rfl))⟩
 f12:=⟨Tryz.f261.name,by decide,Tryz.func261.trans (congrArg some (by kernel_rfl))⟩
 f13:=⟨Tryz.f262.name,by decide,Tryz.func262.trans (congrArg some (by kernel_rfl))⟩
 f14:=⟨Tryz.f263.name,by decide,Tryz.func263.trans (congrArg some (by kernel_rfl))⟩
 f15:=⟨Tryz.f264.name,by decide,Tryz.func264.trans (congrArg some (by kernel_rfl))⟩
 f16:=⟨Tryz.f265.name,by decide,Tryz.func265.trans (congrArg some (by kernel_rfl))⟩
 f17:=⟨Tryz.f266.name,by decide,Tryz.func266.trans (congrArg some (by kernel_rfl))⟩
 f18:=⟨Tryz.f267.name,by decide,Tryz.func267.trans (congrArg some (by kernel_rfl))⟩
 f19:=Tryz.func257.trans (congrArg some (by kernel_rfl))
 f20:=Tryz.func258.trans (congrArg some (by kernel_rfl))
 f30:=⟨Tryz.f273.name,by decide,Tryz.func273.trans (congrArg some (by kernel_rfl))⟩
 f31:=Tryz.func269.trans (congrArg some (by kernel_rfl))
 f32:=Tryz.func270.trans (congrArg some (by kernel_rfl))
 f33:=⟨Tryz.f274.name,by decide,Tryz.func274.trans (congrArg some (by kernel_rfl))⟩
 f34:=⟨Tryz.f275.name,by decide,Tryz.func275.trans (congrArg some (by kernel_rfl))⟩
 f35:=⟨Tryz.f238.name,by decide,Tryz.func238.trans (congrArg some (by kernel_rfl))⟩
 f40:=⟨Tryz.f277.name,by decide,Tryz.func277.trans (congrArg some (by kernel_rfl))⟩
 t0:=Tryz.underlying0
 a0:=Tryz.isAgg0
 z0:=Tryz.sizeOf0
 v0:=Tryz.zeroValue0
 t3:=Tryz.underlying3
 a3:=Tryz.isAgg3
 z3:=Tryz.sizeOf3
 v3:=Tryz.zeroValue3
 t4:=Tryz.underlying4
 a4:=Tryz.isAgg4
 z4:=Tryz.sizeOf4
 v4:=Tryz.zeroValue4
 t5:=Tryz.underlying5
 a5:=Tryz.isAgg5
 z5:=Tryz.sizeOf5
 v5:=Tryz.zeroValue5
 t9:=Tryz.underlying9
 a9:=Tryz.isAgg9
 z9:=Tryz.sizeOf9
 v9:=Tryz.zeroValue9
 t22:=Tryz.underlying45
 a22:=Tryz.isAgg45
 z22:=Tryz.sizeOf45
 v22:=Tryz.zeroValue45
 t23:=Tryz.underlying45
 a23:=Tryz.isAgg45
 z23:=Tryz.sizeOf45
 v23:=Tryz.zeroValue45
 t25:=Tryz.underlying2
 a25:=Tryz.isAgg2
 z25:=Tryz.sizeOf2
 v25:=Tryz.zeroValue2
 t32:=Tryz.underlying310
 a32:=Tryz.isAgg310
 z32:=Tryz.sizeOf310
 v32:=Tryz.zeroValue310
 t35:=Tryz.underlying314
 a35:=Tryz.isAgg314
 z35:=Tryz.sizeOf314
 v35:=Tryz.zeroValue314
 t36:=Tryz.underlying315
 a36:=Tryz.isAgg315
 z36:=Tryz.sizeOf315
 v36:=Tryz.zeroValue315
 t41:=Tryz.underlying319
 a41:=Tryz.isAgg319
 z41:=Tryz.sizeOf319
 v41:=Tryz.zeroValue319
 t44:=Tryz.underlying322
 a44:=Tryz.isAgg322
 z44:=Tryz.sizeOf322
 v44:=Tryz.zeroValue322
 t46:=Tryz.underlying324
 a46:=Tryz.isAgg324
 z46:=Tryz.sizeOf324
 v46:=Tryz.zeroValue324
 t53:=Tryz.underlying330
 a53:=Tryz.isAgg330
 z53:=Tryz.sizeOf330
 v53:=Tryz.zeroValue330
 t57:=Tryz.underlying334
 a57:=Tryz.isAgg334
 z57:=Tryz.sizeOf334
 v57:=Tryz.zeroValue334
 t63:=Tryz.underlying338
 a63:=Tryz.isAgg338
 z63:=Tryz.sizeOf338
 v63:=Tryz.zeroValue338
 t64:=Tryz.underlying339
 a64:=Tryz.isAgg339
 z64:=Tryz.sizeOf339
 v64:=Tryz.zeroValue339 }
end Go.Proofs
namespace Go.E
open Go.RowKit Go.Proofs
def z3n (fu:Nat)(x0:L9):Option L9:=if x0.length≤4294967296 then some (z6z x0) else none
theorem ztb:EN 234:=en Tryz.func234
theorem zcv {W:Base}{w:World}{RR:List Res}{o:Option Addr}{q:Nat}{x0:L9}(hS:St W w (ow ty45 o x0 q::RR)){fu:Nat}{r:L9}(hm:z3n fu x0=some r):
  Calls Tryz.prog 234 ⟨[sl o x0 q]⟩ w (Ret fun v w8=>v=.tuple ⟨[]⟩∧St W w8 (Own ty45 [sl o x0 q] r::RR)):=by
 unfold z3n at hm
 split at hm
 ·rename_i h
  cases hm
  exact zx9 (fun G off cap zs w h1 h2 h3=>AnyM.slices_Sort_int Tryz.laysSlM5_f234 G off cap zs w h1 h2 h3) (fun p cap w=>AnyM.slices_Sort_int_none Tryz.laysSlM5_f234 p cap w) hS h
 ·cases hm
end Go.E



namespace Go.E
open Go.RowKit Go.Proofs

theorem zvM {α:Type}{e:Nat}{U:Ty α}{w:World}{A:Option Addr}{k:Nat}{xs:List α}(h:(tSl e U).ro w [.slice A xs.length k] xs)(hn:xs=[]→A=none)(hz:U.size≠0:=by decide):A.isNone=xs.isEmpty:=by
 cases xs with
 | nil=>rw[hn rfl];rfl
 | cons x xs=>
  cases A with
  | some a=>rfl
  | none=>
   simp only[tSl] at h
   obtain⟨A,c,cs,hA,_,hE,hp⟩:=h
   have hl:=Els.length hE
   have G:cs≠[]:=fun e=>by
    rw[e,List.length_nil,List.length_cons,Nat.add_mul,Nat.one_mul] at hl
    omega
   obtain⟨p,q,_⟩:=hp G
   simp at hA
   rw[← hA.1] at q
   cases q
theorem zxJ {α:Type}{xs:List α}(h:(!xs.isEmpty)=true):xs≠[]:=fun e=>by rw[e] at h;cases h
variable {P:Program}{T:TT}{n:Nat}{F:Fr}{w:World}{o:Oper}(ht:TTok P T)
include ht
theorem Quiet.sliceNil {t u e l c:Nat}{x y:Operand}{i:TI}{A:Option Addr}{b:Bool}(h:A.isNone=b)
  (ho:o.op=.binOp .eql t x y u)(hi:T.get t=some i)(hd:i.d=.slice e)(hx:F.ev x=some (.slice A l c))(hy:F.ev y=some (.slice none 0 0)):Quiet P n F w o (.bool b):=by
 subst h
 intro a w' ha _
 unfold execOp
 rw[ho]
 have hu:=ht.slice hi hd
 have hg:(eqGuard .eql t x y (.slice A l c) (.slice none 0 0)).run P w'=.ok () w':=by unfold eqGuard;simp
 have h:∀ d,(Op.equalIn (d+1) t (.slice A l c) (.slice none 0 0)).run P w'=.ok A.isNone w':=fun d=>by cases A<;>simp[Op.equalIn,run_underlying hu]
 have hb:(binOp .eql t (.slice A l c) (.slice none 0 0)).run P w'=.ok (.bool A.isNone) w':=by
  simp only[binOp,Op.equal,Op.maxDepth]
  simp[h 9999]
 simp[ha.ev hx,ha.ev hy,hg,hb]
end Go.E



namespace Go.E
open Go.RowKit Go.Proofs

theorem q1B {P:Program}{T:TT}{n:Nat}{F:Fr}{w:Base}{o:Oper}{v:Value}{t:Nat}{x:Operand}{i:TI}{p q:Addr}{cs:List Value}(H:At w.W p cs)(off:Nat)(ht:TTok P T:=by exact ttok)(ho:o.op=.load t x:=by exact rfl)(hi:T.get t=some i:=by exact rfl)(G:i.agg=false:=by exact rfl)(hx:F.ev x=some (.pointer (some q)):=by exact rfl)(hq:q=p.add off:=by exact rfl)(hv:nthv cs off=some v:=by exact rfl):Quiet P n F w o v:=Quiet.load1 ht ho hi G hx H off hq hv
end Go.E



