/- A field of a struct that is no place; several pieces picked at once. Conditions: none (rules). -/
import Derived.Test.YtfndicpnccabkaaGreatShort
import Derived.Test.YtfndicpnccabkaaGreatLoops
set_option linter.unusedVariables false
set_option linter.unusedSimpArgs false
namespace Go.E
open Go.RowKit

def zg2 (Rs:List Res):List Nat→Option (List Res)
 | []=>some []
 | i::l=>match nthv Rs i,zg2 Rs l with
  | some R,some S=>some (R::S)
  | _,_=>none
def zrd (i:Nat):List Nat→Bool
 | []=>true
 | j::l=>match Nat.beq i j with
  | true=>false
  | false=>zrd i l
def unlike:List Nat→Bool
 | []=>true
 | i::l=>zrd i l && unlike l
def below (n:Nat):List Nat→Bool
 | []=>true
 | i::l=>Nat.blt i n && below n l
def zy5 (Rs:List Res)(l:List Nat)(n:Nat):Option (List Res):=match zg2 Rs l with
 | some S=>some (S++Rs.drop n)
 | none=>none
theorem ziW:∀ {i:Nat}{l:List Nat},zrd i l=true→∀ j,j∈l→j≠i
 | i,[],_,j,h=>by cases h
 | i,k::l,h,j,hj=>by
  unfold zrd at h
  split at h
  ·cases h
  ·rename_i hb
   rcases List.mem_cons.1 hj with rfl | hj
   ·rintro rfl;rw[Nat.beq_refl] at hb;cases hb
   ·exact ziW h j hj
theorem ziO {Rs:List Res}{i:Nat}:∀ {l:List Nat}{S:List Res},(∀ j,j∈l→j≠i)→zg2 Rs l=some S→zg2 (Rs.eraseIdx i) (l.map fun j=>if j<i then j else j - 1)=some S
 | [],S,_,h=>h
 | j::l,S,hn,h=>by
  have hj:=hn j (by simp)
  unfold zg2 at h
  split at h
  ·rename_i R S' h1 h2
   simp only[Option.some.injEq] at h
   subst h
   have ih:=ziO (fun k hk=>hn k (by simp[hk])) h2
   have he:nthv (Rs.eraseIdx i) (if j<i then j else j - 1)=some R:=by
    rw[z2U] at h1 ⊢
    rw[List.getElem?_eraseIdx]
    by_cases hlt:j<i
    ·rw[if_pos hlt,if_pos hlt];exact h1
    ·rw[if_neg hlt,if_neg (by omega),Nat.sub_add_cancel (by omega)];exact h1
   simp only[List.map_cons,zg2,he,ih]
  ·cases h
theorem zh9 {i:Nat}:∀ {l:List Nat},(∀ j,j∈l→j≠i)→unlike l=true→unlike (l.map fun j=>if j<i then j else j - 1)=true
 | [],_,_=>rfl
 | j::l,hn,h=>by
  simp only[unlike,Bool.and_eq_true] at h
  have ih:=zh9 (fun k hk=>hn k (by simp[hk])) h.2
  have hj:=hn j (by simp)
  simp only[List.map_cons,unlike,Bool.and_eq_true]
  refine⟨?_,ih⟩
  have key:∀ m:List Nat,(∀ k,k∈m→k≠i)→(∀ k,k∈m→k≠j)→zrd (if j<i then j else j - 1) (m.map fun j=>if j<i then j else j - 1)=true:=by
   intro m
   induction m with
   | nil=>exact fun _ _=>rfl
   | cons k m ihm=>
    intro a b
    have a1:=a k (by simp)
    have b1:=b k (by simp)
    have q:Nat.beq (if j<i then j else j - 1) (if k<i then k else k - 1)=false:=by
     rw[Bool.eq_false_iff]
     intro hb
     have:=Nat.eq_of_beq_eq_true hb
     by_cases h1:j<i<;>by_cases h2:k<i<;>simp only[h1,h2,if_true,if_false] at this<;>omega
    simp only[List.map_cons,zrd,q]
    exact ihm (fun k hk=>a k (by simp[hk])) (fun k hk=>b k (by simp[hk]))
  exact key l (fun k hk=>hn k (by simp[hk])) (ziW h.1)
theorem zgJ:∀ {n:Nat}{l:List Nat}{Rs S:List Res},l.length=n→unlike l=true→zg2 Rs l=some S→∃ T,Rs.Perm (S++T)
 | 0,l,Rs,S,hl,_,h=>by
  have:l=[]:=List.eq_nil_of_length_eq_zero hl
  subst this
  simp only[zg2,Option.some.injEq] at h
  subst h
  exact⟨Rs,List.Perm.refl _⟩
 | n+1,[],Rs,S,hl,_,h=>by cases hl
 | n+1,i::l,Rs,S,hl,hu,h=>by
  simp only[unlike,Bool.and_eq_true] at hu
  have hn:=ziW hu.1
  unfold zg2 at h
  split at h
  ·rename_i R S' h1 h2
   simp only[Option.some.injEq] at h
   subst h
   obtain⟨T,hT⟩:=zgJ (n:=n) (Rs:=Rs.eraseIdx i) (by simpa using hl) (zh9 hn hu.2) (ziO hn h2)
   exact⟨T,(zgK Rs i R h1).trans (hT.cons R)⟩
  ·cases h
theorem zky {Rs:List Res}{n:Nat}:∀ {l:List Nat}{S:List Res},below n l=true→zg2 Rs l=some S→zg2 (Rs.take n) l=some S
 | [],S,_,h=>h
 | j::l,S,hb,h=>by
  simp only[below,Bool.and_eq_true] at hb
  have hj:j<n:=by simpa using hb.1
  unfold zg2 at h
  split at h
  ·rename_i R S' h1 h2
   simp only[Option.some.injEq] at h
   subst h
   have ih:=zky hb.2 h2
   have he:nthv (Rs.take n) j=some R:=by
    rw[z2U] at h1 ⊢
    rw[List.getElem?_take,if_pos hj];exact h1
   simp only[zg2,he,ih]
  ·cases h
section
variable {W:Base}{w:World}{Rs S:List Res}
theorem St.sel (h:St W w Rs)(l:List Nat)(hu:unlike l=true:=by exact rfl)(hp:zg2 Rs l=some S:=by exact rfl):St W w S:=by
 obtain⟨T,hT⟩:=zgJ rfl hu hp
 have:=(h.perm hT).t S.length
 rwa [List.take_left'] at this
 rfl
theorem St.selR (h:St W w Rs)(l:List Nat)(n:Nat)(hu:unlike l=true:=by exact rfl)(hb:below n l=true:=by exact rfl)(hp:zy5 Rs l n=some S:=by exact rfl):St W w S:=by
 unfold zy5 at hp
 split at hp
 ·rename_i S' h1
  simp only[Option.some.injEq] at hp
  subst hp
  obtain⟨T,hT⟩:=zgJ rfl hu (zky hb h1)
  have e:Rs.Perm ((S'++Rs.drop n)++T):=by
   have:=(hT.append_right (Rs.drop n))
   rw[List.take_append_drop] at this
   refine this.trans ?_
   rw[List.append_assoc,List.append_assoc]
   exact(List.perm_append_comm).append_left S'
  have:=(h.perm e).t (S'++Rs.drop n).length
  rwa [List.take_left'] at this
  rfl
 ·cases hp
end


def tEi {α:Type}(W0:Base)(T:Ty α):Ty α where
 size:=T.size
 ro:=T.ro
 own:=fun w cs x G=>T.own w cs x G∨(T.ro W0 cs x∧G=[])
 req:=fun w=>T.req w∧Ext W0 w
 len:=T.len
 lenO:=fun h=>h.elim (fun h=>T.lenO h) fun h=>T.len h.1
 ext:=T.ext
 own_ro:=fun h hq=>h.elim (fun h=>T.own_ro h hq.1) fun h=>T.ext hq.2 h.1
 loc:=fun h hs=>h.elim (fun h=>.inl (T.loc h hs)) fun h=>.inr h
 lt:=by
  rintro _ _ _ _ (h | ⟨h,rfl⟩) g hg
  ·exact T.lt h g hg
  ·cases hg
 one:=T.one
 oneO:=fun h=>h.elim (fun h=>T.oneO h) fun h=>T.one h.1
instance {W:Base}{α:Type}{T:Ty α}[Reads W T]:Reads W (tEi W T):=⟨fun h=>⟨Reads.req h,h⟩⟩
section
variable {α:Type}{T:Ty α}{W0 W:Base}{w:World}{B:List Res}{cs:List Value}{x:α}
end


section
variable {P:Program}{md:Region.Mode}{ops:Array Oper}{Q:Exit→Act→World→Prop}{wr:Nat→Bool}{T V:World→Prop}
theorem zkP {S:Nat→Bool}{i:Nat}{oi:Oper}{v:Value}(hi:ops[i]? = some oi)(a0:∀ (j:Nat) (o:Oper) cs b,ops[j]? = some o→o.op≠.select cs b)
  (hQ:∀ c a w,Q (.panic c) (a.put oi.dst v) w→Q (.panic c) a w)(q0:wr i=false)(i0:∀ j,wr j=true→S j=true)
  (e0:∀ (j:Nat) (oj:Oper),S j=true→ops[j]? = some oj→∃ e,e∈oj.after∧Region.binds md e=true∧(e.on=i∨S e.on=true)):
  ∀ (fu:Nat) (listed:Array Bool) (a:Act) (w:World),
   (∀ j oj,ops[j]? = some oj→j≠i→listed.getD j true=false→(∀ e∈oj.after,Region.binds md e=true→e.on≠i)→oi.apart ops oj=true)→
   i∈Region.ready md ops listed→YieldsIf P ops T oi v a→zhQ S listed→T w→V w→
   zaE P md ops Q wr T V fu (listed.setIfInBounds i true) (a.put oi.dst v) w→zaE P md ops Q wr T V (fu+1) listed a w:=by
 intro fu
 induction fu with
 | zero=>
  intro listed a w _ hr hy _ hT hV H
  refine⟨fun h=>(by rw[h] at hr;cases hr),fun j hj=>?_⟩
  by_cases hji:j=i
  ·subst hji;exact hy.wpOp hi hT ⟨⟨fun _=>hT,hV⟩,H⟩
  ·have:=ready_mono hj hji
   rw[H.1] at this
   cases this
 | succ fu ih=>
  intro listed a w q hr hy f0 hT hV H
  refine⟨fun h=>(by rw[h] at hr;cases hr),fun j hj=>?_⟩
  by_cases hji:j=i
  ·subst hji;exact hy.wpOp hi hT ⟨⟨fun _=>hT,hV⟩,H⟩
  ·have h1:=H.2 j (ready_mono hj hji)
   obtain⟨X,oj,b0,O⟩:=mem_ready.1 hj
   have Y:∀ e∈oj.after,Region.binds md e=true→e.on≠i:=fun e he hb k0=>by
    have h1:=O e he hb
    have h0:=(mem_ready.1 hr).1
    rw[k0] at h1
    rcases Nat.lt_or_ge i listed.size with h' | h'
    ·simp[h'] at h0 h1;rw[h0] at h1;cases h1
    ·simp[Array.getElem?_eq_none h'] at h1
   have c0:S j=false:=by
    cases hw:S j with
    | false=>rfl
    | true=>
     obtain⟨e,he,hb,ho | ho⟩:=e0 j oj hw b0
     ·exact absurd ho (Y e he hb)
     ·have h2:=O e he hb
      have h3:=f0 e.on ho
      rcases Nat.lt_or_ge e.on listed.size with h' | h'
      ·simp[h'] at h2 h3;rw[h3] at h2;cases h2
      ·simp[Array.getElem?_eq_none h'] at h2
   have r0:wr j=false:=by
    cases hw:wr j with
    | false=>rfl
    | true=>rw[i0 j hw] at c0;cases c0
   have h2:=wpOp_putIf b0 (q j oj b0 hji X Y) (fun cs b=>a0 i oi cs b hi) (fun cs b=>a0 j oj cs b b0) hQ hy h1
   have G:∀ k ok,ops[k]? = some ok→k≠i→(listed.setIfInBounds j true).getD k true=false→
     (∀ e∈ok.after,Region.binds md e=true→e.on≠i)→oi.apart ops ok=true:=fun k ok hk o0 j0 p0=>by
    refine q k ok hk o0 ?_ p0
    by_cases hjk:j=k
    ·subst hjk;exact X
    ·rw[getD_set_ne true hjk] at j0;exact j0
   have g0:zhQ S (listed.setIfInBounds j true):=fun k hk=>by
    rw[z4w (by rintro rfl;rw[c0] at hk;cases hk)]
    exact f0 k hk
   have Z:zhQ wr ((listed.setIfInBounds i true).setIfInBounds j true):=fun k hk=>by
    rw[z4w (by rintro rfl;rw[r0] at hk;cases hk),z4w (by rintro rfl;rw[q0] at hk;cases hk)]
    exact f0 k (i0 k hk)
   refine wpOp_mono (fun a' w' h3=>⟨⟨fun _=>h3.2.1.1 Z,h3.2.1.2⟩,ih (listed.setIfInBounds j true) a' w' G (ready_mono hr (Ne.symm hji)) h3.1 g0 (h3.2.1.1 Z) h3.2.1.2 ?_⟩) h2
   rw[Array.setIfInBounds_comm _ _ hji]
   exact h3.2.2
end
def zwL (sk:List (List Nat×Nat))(S k i:Nat):Bool:=(List.range k).all fun j=>!S.testBit j || ((nthv sk j).map fun x=>x.1.any fun d=>Nat.beq d i || S.testBit d).getD true
section
variable {P:Program}{n:Nat}{Q:Post}{F:Fr}{w:World}{ops:List Oper}{o:Oper}{wm fu:Nat}{sk:List (List Nat×Nat)}{w0:World}{W9:Base}{k m:Nat}
theorem zru {S i:Nat}(O:z97 ops=sk)(hk:ops.length=k)(h:zwL sk S k i=true)(j:Nat)(oj:Oper)(hw:S.testBit j=true)(ho:ops[j]? = some oj):
  ∃ e,e∈oj.after∧Region.binds .any e=true∧(e.on=i∨S.testBit e.on=true):=by
 unfold zwL at h
 rw[List.all_eq_true] at h
 have:=h j (List.mem_range.2 (by rw[← hk];exact(List.getElem?_eq_some_iff.1 ho).1))
 rw[zfS O ho,hw] at this
 simp only[Bool.not_true,Bool.false_or,Option.map_some,Option.getD_some,List.any_eq_true,Bool.or_eq_true] at this
 obtain⟨d,hd,q⟩:=this
 unfold zhn at hd
 obtain⟨e,he,rfl⟩:=List.mem_map.1 hd
 obtain⟨G,H⟩:=List.mem_filter.1 he
 exact⟨e,by simpa using G,by simpa using H,q.imp (fun h=>Nat.eq_of_beq_eq_true h) id⟩
theorem DM.quietS {v:Value}(S:Nat)(G:z97 ops=sk∧ops.length=k)(i:Nat){m' d:Nat}(hi:nthv ops i=some o)(h:DM P n ops Q W9 w0 wm fu k m' ((d,v)::F) w)(hq:Quiet P n F w0 o v)
  (hm:m ||| 2 ^ i=m':=by exact rfl)(a0:wm.testBit i=false:=by kernel_rfl)(O:Nat.beq (wm &&& S) wm=true:=by kernel_rfl)(b0:zwL sk S k i=true:=by kernel_rfl)(X:Nat.beq (m &&& S) 0=true:=by kernel_rfl)(hf:zd2 sk (2 ^ k - 1) m i=true:=by kernel_rfl)(hg:zc ops F o=some true:=by exact rfl)(hd:o.dst=some d:=by exact rfl)(hn:Nat.blt d n=true:=by exact rfl):DM P n ops Q W9 w0 wm (fu+1) k m F w:=fun l hl hs he hv a ha=>by
 have H:=hi
 rw[z2U] at hi
 obtain⟨h1,h2⟩:=zcn (zdq G.1 G.2 hl (by rw[← z2U];exact H) hf)
 have hS:=zst hl X
 have hw:∀ j,wm.testBit j=true→S.testBit j=true:=fun j hj=>by
  have e:wm &&& S=wm:=by simpa using O
  have:=congrArg (fun x=>Nat.testBit x j) e
  simp only[Nat.testBit_and,hj,Bool.true_and] at this
  exact this
 have q:zhQ (fun j=>wm.testBit j) l:=fun j hj=>hS j (hw j hj)
 have key:=zkP (P:=P) (md:=.any) (ops:=ops.toArray) (Q:=Q.only.up n) (wr:=fun j=>wm.testBit j) (T:=onW w0) (V:=onW W9) (S:=fun j=>S.testBit j) (oi:=o) (v:=v) (i:=i) (by simpa using hi) (Region.noSelect_spec hs) (zes v _) a0 hw (fun j oj hj Y=>zru G.1 G.2 b0 j oj hj (by simpa using Y))
 refine key fu l a w (Region.free_spec (by simpa using hi) h1) (by simpa using h2) (.inl ⟨zq hg ha,fun w' Z=>hq a w' ha Z⟩) hS (he q) hv ?_
 rw[hd]
 exact h _ (hl.set (zcC G.2 H) hm) hs (fun _=>he q) hv _ (ha.put hn v)
theorem DM.idxS {T:TT}(S:Nat)(ht:TTok P T){α:Type}{U:Ty α}{w1:Base}(he:Ext w1 w0)(a0:z97 ops=sk∧ops.length=k)(i:Nat){m':Nat}{t e:Nat}{x ix:Operand}{j j':TI}{A:Option Addr}{len c:Nat}{xs:List α}{kk:IntKind}{mm:Int}{e':Nat}(hr:(tSl e' U).ro w1 [.slice A len c] xs){a:α}(G:Go.E.idx xs mm=some a){d:Nat}
  (h:∀ q es,At w1 q es→U.ro w1 es a→DM P n ops Q W9 w0 wm fu k m' ((d,.pointer (some q))::F) w)(hi:nthv ops i=some o:=by exact rfl)(ho:o.op=.indexAddr t x ix:=by exact rfl)
  (hj:T.get t=some j:=by exact rfl)(hd:j.d=.slice e:=by exact rfl)(X:T.get e=some j':=by exact rfl)(hs:U.size=j'.size:=by exact rfl)(hpos:0<U.size:=by decide)(hx:F.ev x=some (.slice A len c):=by exact rfl)(hm:F.ev ix=some (.int kk mm):=by exact rfl)
  (Y:m ||| 2 ^ i=m':=by exact rfl)(b0:wm.testBit i=false:=by kernel_rfl)(H:Nat.beq (wm &&& S) wm=true:=by kernel_rfl)(c0:zwL sk S k i=true:=by kernel_rfl)(Z:Nat.beq (m &&& S) 0=true:=by kernel_rfl)(hf:zd2 sk (2 ^ k - 1) m i=true:=by kernel_rfl)(hg:zc ops F o=some true:=by exact rfl)(O:o.dst=some d:=by exact rfl)(hn:Nat.blt d n=true:=by exact rfl):DM P n ops Q W9 w0 wm (fu+1) k m F w:=by
 obtain⟨q,es,h1,h2,h3⟩:=Quiet.idx (n:=n) ht ho hj hd X hs hpos hx hm hr (zk G).1 (zk G).2
 exact DM.quietS S a0 i hi (h q es h2 h3) (h1.later he) Y b0 H c0 Z hf hg O hn
end


def Tail {α:Type}(U:Ty α)(e:Nat)(v:Value)(xs:List α)(k:Int):Res where
 A:=fun w G=>(xs=[]∧∀ b,b∈G→b<w.heap.size)∨∃ g cap c1 c2 rest G2,v=.slice (some ⟨g,0,none⟩) xs.length cap∧w.heap[g]? = some (.cells ⟨(c1++c2)++rest⟩ e (0,0))∧xs.length≤maxLen∧c1.length=k.toNat*U.size∧
  zaD U w c2 (xs.drop k.toNat) G2∧G=g::G2
 loc:=by
  rintro w w' G (h | ⟨g,cap,c1,c2,rest,G2,hv,hh,a1,a2,a3,rfl⟩) hs
  ·refine .inl ⟨h.1,fun b hb=>?_⟩
   rcases Nat.lt_or_ge b w'.heap.size with h1 | h1
   ·exact h1
   ·have h2:=hs b hb
    rw[Array.getElem?_eq_none h1,Array.getElem?_eq_getElem (h.2 b hb)] at h2
    cases h2
  ·exact .inr ⟨g,cap,c1,c2,rest,G2,hv,by rw[hs g (by simp)];exact hh,a1,a2,a3.loc fun b hb=>hs b (by simp[hb]),rfl⟩
 lt:=by
  rintro w G (⟨_,h⟩ | ⟨g,cap,c1,c2,rest,G2,hv,hh,a1,a2,a3,rfl⟩) b hb
  ·exact h b hb
  ·rcases List.mem_cons.1 hb with rfl | hb
   ·rcases Nat.lt_or_ge b w.heap.size with h | h
    ·exact h
    ·rw[Array.getElem?_eq_none h] at hh;cases hh
   ·exact a3.lt b hb
def zxU {α:Type}(U:Ty α)(e:Nat)(v:Value)(xs:List α)(i:Nat)(es:List Value):Res where
 A:=fun w G=>∃ g cap c1 c2 rest G2,v=.slice (some ⟨g,0,none⟩) xs.length cap∧w.heap[g]? = some (.cells ⟨(c1++(es++c2))++rest⟩ e (0,0))∧xs.length≤maxLen∧c1.length=i*U.size∧es.length=U.size∧i<xs.length∧
  zaD U w c2 (xs.drop (i+1)) G2∧G=g::G2
 loc:=by
  rintro w w' G ⟨g,cap,c1,c2,rest,G2,hv,hh,a1,a2,a3,a4,a5,rfl⟩ hs
  exact⟨g,cap,c1,c2,rest,G2,hv,by rw[hs g (by simp)];exact hh,a1,a2,a3,a4,a5.loc fun b hb=>hs b (by simp[hb]),rfl⟩
 lt:=by
  rintro w G ⟨g,cap,c1,c2,rest,G2,hv,hh,a1,a2,a3,a4,a5,rfl⟩ b hb
  rcases List.mem_cons.1 hb with rfl | hb
  ·rcases Nat.lt_or_ge b w.heap.size with h | h
   ·exact h
   ·rw[Array.getElem?_eq_none h] at hh;cases hh
  ·exact a5.lt b hb
section
variable {α:Type}{U:Ty α}{e:Nat}{W:Base}{w:World}{B:List Res}{A:Option Addr}{k n i:Nat}{xs:List α}{a:α}{es:List Value}{v:Value}{m j:Int}
theorem St.tailFocus (h:St W w (Tail U e (.slice A n k) xs m::B))(hx:xs[m.toNat]? = some a):∃ es,St W w (zxU U e (.slice A n k) xs m.toNat es::Own U es a::B)∧n=xs.length∧∃ g,A=some ⟨g,0,none⟩:=by
 obtain⟨he,G,hG,O,Y,X⟩:=h
 have hi:=(List.getElem?_eq_some_iff.1 hx).1
 rcases hG with⟨rfl,_⟩ | ⟨g,cap,c1,c2,rest,G2,hv,hh,a1,a2,a3,rfl⟩
 ·simp at hi
 ·have hd:xs.drop m.toNat=a::xs.drop (m.toNat+1):=by
   rw[List.drop_eq_getElem_cons hi,(List.getElem?_eq_some_iff.1 hx).2]
  rw[hd] at a3
  obtain⟨es,d2,H,K,rfl,rfl,k1,k2⟩:=a3
  simp only[Value.slice.injEq] at hv
  refine⟨es,⟨he,g::K,⟨g,cap,c1,d2,rest,K,by rw[hv.1,hv.2.1,hv.2.2],hh,a1,a2,U.lenO k1,hi,k2,rfl⟩,?_,fun b hb=>⟨(Y b ?_).1,by simp⟩,H,k1,?_,fun b hb=>⟨(Y b (by simp[hb])).1,?_⟩,X.congr fun b hb=>?_⟩,hv.2.1,g,hv.1⟩
  ·simp only[List.nodup_cons,List.mem_append,List.nodup_append,not_or] at O ⊢
   exact⟨O.1.2,O.2.2.1⟩
  ·rcases List.mem_cons.1 hb with rfl | hb<;>simp[*]
  ·simp only[List.nodup_cons,List.nodup_append] at O
   exact O.2.1
  ·simp only[List.nodup_cons,List.mem_append,List.nodup_append,not_or,List.append_nil,List.mem_cons] at O ⊢
   exact⟨fun Z=>O.1.1 (Z ▸ hb),fun q=>O.2.2.2 b hb b q rfl⟩
  ·simp only[List.mem_append,List.mem_cons,List.append_nil] at hb ⊢
   rcases hb with hb | hb | hb<;>simp[hb]
end

theorem RW.tail {P:Program}{n:Nat}{Q:Post}{F:Fr}{W:Base}{w:World}{ops rest:List Oper}{o:Oper}{T:TT}(ht:TTok P T){α:Type}{U:Ty α}{B:List Res}{e:Nat}{A:Option Addr}{k ln:Nat}{xs:List α}{a:α}{m:Int}(hS:St W w (Tail U e (.slice A ln k) xs m::B))(hg:zc ops F o=some true){t e':Nat}{x ix:Operand}{i j:TI}
  {kd:IntKind}(ho:o.op=.indexAddr t x ix)(hi:T.get t=some i)(hd:i.d=.slice e')(hj:T.get e'=some j)(hs:U.size=j.size)(hx:F.ev x=some (.slice A ln k))(hm:F.ev ix=some (.int kd m))
  (h0:0≤m)(ha:xs[m.toNat]? = some a){d:Nat}(G:o.dst=some d)(hn:Nat.blt d n=true)
  (h:∀ q es,zmP U A m.toNat q→St W w (zxU U e (.slice A ln k) xs m.toNat es::Own U es a::B)→RW P n ops Q rest ((d,.pointer (some q))::F) w):RW P n ops Q (o::rest) F w:=by
 have H:=(List.getElem?_eq_some_iff.1 ha).1
 obtain⟨es,h1,hl,hA⟩:=hS.tailFocus ha
 exact RW.idxHole ht (U:=U) hA hg ho hi hd hj hs hx hm h0 (by omega) G hn fun q hq=>h q es hq h1

end Go.E



