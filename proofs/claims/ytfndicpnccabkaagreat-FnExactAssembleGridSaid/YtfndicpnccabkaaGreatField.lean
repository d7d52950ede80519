/- A field of a struct that is no place; several pieces picked at once. Conditions: none (rules). -/
import Derived.Test.YtfndicpnccabkaaGreatShort
import Derived.Test.YtfndicpnccabkaaGreatLoops
namespace Go.E
open Go.RowKit
set_option linter.unusedVariables false
set_option linter.unusedSimpArgs false

def pickL (Rs:List Res):List Nat→Option (List Res)
  | []=>some []
  | i::l=>match nthv Rs i,pickL Rs l with
    | some R,some S=>some (R::S)
    | _,_=>none
def notIn (i:Nat):List Nat→Bool
  | []=>true
  | j::l=>match Nat.beq i j with
    | true=>false
    | false=>notIn i l
def unlike:List Nat→Bool
  | []=>true
  | i::l=>notIn i l && unlike l
def below (n:Nat):List Nat→Bool
  | []=>true
  | i::l=>Nat.blt i n && below n l
def selF (Rs:List Res) (l:List Nat) (n:Nat):Option (List Res):=match pickL Rs l with
  | some S=>some (S++Rs.drop n)
  | none=>none
theorem zdn:∀ {i:Nat}{l:List Nat},notIn i l=true→∀ j,j∈l→j≠i
  | i,[],_,j,h=>by cases h
  | i,k::l,h,j,hj=>by
    unfold notIn at h
    split at h
    · cases h
    · rename_i hb
      rcases List.mem_cons.1 hj with rfl | hj
      · rintro rfl;rw [Nat.beq_refl] at hb;cases hb
      · exact zdn h j hj
theorem zdf {Rs:List Res}{i:Nat}:∀ {l:List Nat}{S:List Res},(∀ j,j∈l→j≠i)→pickL Rs l=some S→pickL (Rs.eraseIdx i) (l.map fun j=>if j<i then j else j - 1)=some S
  | [],S,_,h=>h
  | j::l,S,hn,h=>by
    have hj:=hn j (by simp)
    unfold pickL at h
    split at h
    · rename_i R S' h1 h2
      simp only [Option.some.injEq] at h
      subst h
      have ih:=zdf (fun k hk=>hn k (by simp [hk])) h2
      have he:nthv (Rs.eraseIdx i) (if j<i then j else j - 1)=some R:=by
        rw [z2b] at h1 ⊢
        rw [List.getElem?_eraseIdx]
        by_cases hlt:j<i
        · rw [if_pos hlt,if_pos hlt];exact h1
        · rw [if_neg hlt,if_neg (by omega),Nat.sub_add_cancel (by omega)];exact h1
      simp only [List.map_cons,pickL,he,ih]
    · cases h
theorem zc9 {i:Nat}:∀ {l:List Nat},(∀ j,j∈l→j≠i)→unlike l=true→unlike (l.map fun j=>if j<i then j else j - 1)=true
  | [],_,_=>rfl
  | j::l,hn,h=>by
    simp only [unlike,Bool.and_eq_true] at h
    have ih:=zc9 (fun k hk=>hn k (by simp [hk])) h.2
    have hj:=hn j (by simp)
    simp only [List.map_cons,unlike,Bool.and_eq_true]
    refine⟨?_,ih⟩
    have key:∀ m:List Nat,(∀ k,k∈m→k≠i)→(∀ k,k∈m→k≠j)→notIn (if j<i then j else j - 1) (m.map fun j=>if j<i then j else j - 1)=true:=by
      intro m
      induction m with
      | nil=>exact fun _ _=>rfl
      | cons k m ihm=>
        intro a b
        have a1:=a k (by simp)
        have b1:=b k (by simp)
        have hne:Nat.beq (if j<i then j else j - 1) (if k<i then k else k - 1)=false:=by
          rw [Bool.eq_false_iff]
          intro hb
          have:=Nat.eq_of_beq_eq_true hb
          by_cases h1:j<i<;>by_cases h2:k<i<;>simp only [h1,h2,if_true,if_false] at this<;>omega
        simp only [List.map_cons,notIn,hne]
        exact ihm (fun k hk=>a k (by simp [hk])) (fun k hk=>b k (by simp [hk]))
    exact key l (fun k hk=>hn k (by simp [hk])) (zdn h.1)
theorem zbR:∀ {n:Nat}{l:List Nat}{Rs S:List Res},l.length=n→unlike l=true→pickL Rs l=some S→∃ T,Rs.Perm (S++T)
  | 0,l,Rs,S,hl,_,h=>by
    have:l=[]:=List.eq_nil_of_length_eq_zero hl
    subst this
    simp only [pickL,Option.some.injEq] at h
    subst h
    exact⟨Rs,List.Perm.refl _⟩
  | n+1,[],Rs,S,hl,_,h=>by cases hl
  | n+1,i::l,Rs,S,hl,hu,h=>by
    simp only [unlike,Bool.and_eq_true] at hu
    have hn:=zdn hu.1
    unfold pickL at h
    split at h
    · rename_i R S' h1 h2
      simp only [Option.some.injEq] at h
      subst h
      obtain⟨T,hT⟩:=zbR (n:=n) (Rs:=Rs.eraseIdx i) (by simpa using hl) (zc9 hn hu.2) (zdf hn h2)
      exact⟨T,(zbS Rs i R h1).trans (hT.cons R)⟩
    · cases h
theorem zen {Rs:List Res}{n:Nat}:∀ {l:List Nat}{S:List Res},below n l=true→pickL Rs l=some S→pickL (Rs.take n) l=some S
  | [],S,_,h=>h
  | j::l,S,hb,h=>by
    simp only [below,Bool.and_eq_true] at hb
    have hj:j<n:=by simpa using hb.1
    unfold pickL at h
    split at h
    · rename_i R S' h1 h2
      simp only [Option.some.injEq] at h
      subst h
      have ih:=zen hb.2 h2
      have he:nthv (Rs.take n) j=some R:=by
        rw [z2b] at h1 ⊢
        rw [List.getElem?_take,if_pos hj];exact h1
      simp only [pickL,he,ih]
    · cases h
section
variable {W:Base}{w:World}{Rs S:List Res}
theorem St.sel (h:St W w Rs) (l:List Nat) (hu:unlike l=true:=by exact rfl) (hp:pickL Rs l=some S:=by exact rfl):St W w S:=by
  obtain⟨T,hT⟩:=zbR rfl hu hp
  have:=(h.perm hT).taken S.length
  rwa [List.take_left'] at this
  rfl
theorem St.selR (h:St W w Rs) (l:List Nat) (n:Nat) (hu:unlike l=true:=by exact rfl) (hb:below n l=true:=by exact rfl) (hp:selF Rs l n=some S:=by exact rfl):St W w S:=by
  unfold selF at hp
  split at hp
  · rename_i S' h1
    simp only [Option.some.injEq] at hp
    subst hp
    obtain⟨T,hT⟩:=zbR rfl hu (zen hb h1)
    have e:Rs.Perm ((S'++Rs.drop n)++T):=by
      have:=(hT.append_right (Rs.drop n))
      rw [List.take_append_drop] at this
      refine this.trans ?_
      rw [List.append_assoc,List.append_assoc]
      exact(List.perm_append_comm).append_left S'
    have:=(h.perm e).taken (S'++Rs.drop n).length
    rwa [List.take_left'] at this
    rfl
  · cases hp
end


def tEi {α:Type}(W0:Base) (T:Ty α):Ty α where
  size:=T.size
  ro:=T.ro
  own:=fun w cs x G=>T.own w cs x G∨(T.ro W0 cs x∧G=[])
  req:=fun w=>T.req w∧Ext W0 w
  len:=T.len
  lenO:=fun h=>h.elim (fun h=>T.lenO h) fun h=>T.len h.1
  ext:=T.ext
  own_ro:=fun h hq=>h.elim (fun h=>T.own_ro h hq.1) fun h=>T.ext hq.2 h.1
  loc:=fun h hs=>h.elim (fun h=>.inl (T.loc h hs)) fun h=>.inr h
  lt:=by
    rintro _ _ _ _ (h | ⟨h,rfl⟩) g hg
    · exact T.lt h g hg
    · cases hg
  one:=T.one
  oneO:=fun h=>h.elim (fun h=>T.oneO h) fun h=>T.one h.1
instance {W:Base}{α:Type}{T:Ty α}[Reads W T]:Reads W (tEi W T):=⟨fun h=>⟨Reads.req h,h⟩⟩
section
variable {α:Type}{T:Ty α}{W0 W:Base}{w:World}{B:List Res}{cs:List Value}{x:α}
end


section
variable {P:Program}{md:Region.Mode}{ops:Array Oper}{Q:Exit→Act→World→Prop}{wr:Nat→Bool}{T V:World→Prop}
theorem zew {S:Nat→Bool}{i:Nat}{oi:Oper}{v:Value}(hi:ops[i]? = some oi) (hsel:∀ (j:Nat) (o:Oper) cs b,ops[j]? = some o→o.op≠.select cs b)
    (hQ:∀ c a w,Q (.panic c) (a.put oi.dst v) w→Q (.panic c) a w) (hwi:wr i=false) (hSw:∀ j,wr j=true→S j=true)
    (hdep:∀ (j:Nat) (oj:Oper),S j=true→ops[j]? = some oj→∃ e,e∈oj.after∧Region.binds md e=true∧(e.on=i∨S e.on=true)):
    ∀ (fuel:Nat) (listed:Array Bool) (a:Act) (w:World),
      (∀ j oj,ops[j]? = some oj→j≠i→listed.getD j true=false→(∀ e∈oj.after,Region.binds md e=true→e.on≠i)→oi.apart ops oj=true)→
      i∈Region.ready md ops listed→YieldsIf P ops T oi v a→NoWr S listed→T w→V w→
      wpAnyL P md ops Q wr T V fuel (listed.setIfInBounds i true) (a.put oi.dst v) w→wpAnyL P md ops Q wr T V (fuel+1) listed a w:=by
  intro fuel
  induction fuel with
  | zero=>
    intro listed a w _ hr hy _ hT hV H
    refine⟨fun h=>(by rw [h] at hr;cases hr),fun j hj=>?_⟩
    by_cases hji:j=i
    · subst hji;exact hy.wpOp hi hT ⟨⟨fun _=>hT,hV⟩,H⟩
    · have:=ready_mono hj hji
      rw [H.1] at this
      cases this
  | succ fuel ih=>
    intro listed a w hfree hr hy hnw hT hV H
    refine⟨fun h=>(by rw [h] at hr;cases hr),fun j hj=>?_⟩
    by_cases hji:j=i
    · subst hji;exact hy.wpOp hi hT ⟨⟨fun _=>hT,hV⟩,H⟩
    · have h1:=H.2 j (ready_mono hj hji)
      obtain⟨hjun,oj,hoj,hall⟩:=mem_ready.1 hj
      have hnot:∀ e∈oj.after,Region.binds md e=true→e.on≠i:=fun e he hb heq=>by
        have h1:=hall e he hb
        have h0:=(mem_ready.1 hr).1
        rw [heq] at h1
        rcases Nat.lt_or_ge i listed.size with h' | h'
        · simp [h'] at h0 h1;rw [h0] at h1;cases h1
        · simp [Array.getElem?_eq_none h'] at h1
      have hSj:S j=false:=by
        cases hw:S j with
        | false=>rfl
        | true=>
          obtain⟨e,he,hb,ho | ho⟩:=hdep j oj hw hoj
          · exact absurd ho (hnot e he hb)
          · have h2:=hall e he hb
            have h3:=hnw e.on ho
            rcases Nat.lt_or_ge e.on listed.size with h' | h'
            · simp [h'] at h2 h3;rw [h3] at h2;cases h2
            · simp [Array.getElem?_eq_none h'] at h2
      have hwj:wr j=false:=by
        cases hw:wr j with
        | false=>rfl
        | true=>rw [hSw j hw] at hSj;cases hSj
      have h2:=wpOp_putIf hoj (hfree j oj hoj hji hjun hnot) (fun cs b=>hsel i oi cs b hi) (fun cs b=>hsel j oj cs b hoj) hQ hy h1
      have hfree':∀ k ok,ops[k]? = some ok→k≠i→(listed.setIfInBounds j true).getD k true=false→
          (∀ e∈ok.after,Region.binds md e=true→e.on≠i)→oi.apart ops ok=true:=fun k ok hk hki hun hno=>by
        refine hfree k ok hk hki ?_ hno
        by_cases hjk:j=k
        · subst hjk;exact hjun
        · rw [getD_set_ne true hjk] at hun;exact hun
      have hnw':NoWr S (listed.setIfInBounds j true):=fun k hk=>by
        rw [z3o (by rintro rfl;rw [hSj] at hk;cases hk)]
        exact hnw k hk
      have hnw2:NoWr wr ((listed.setIfInBounds i true).setIfInBounds j true):=fun k hk=>by
        rw [z3o (by rintro rfl;rw [hwj] at hk;cases hk),z3o (by rintro rfl;rw [hwi] at hk;cases hk)]
        exact hnw k (hSw k hk)
      refine wpOp_mono (fun a' w' h3=>⟨⟨fun _=>h3.2.1.1 hnw2,h3.2.1.2⟩,ih (listed.setIfInBounds j true) a' w' hfree' (ready_mono hr (Ne.symm hji)) h3.1 hnw' (h3.2.1.1 hnw2) h3.2.1.2 ?_⟩) h2
      rw [Array.setIfInBounds_comm _ _ hji]
      exact h3.2.2
end
def depOk (sk:List (List Nat × Nat)) (S k i:Nat):Bool:=(List.range k).all fun j=>!S.testBit j || ((nthv sk j).map fun x=>x.1.any fun d=>Nat.beq d i || S.testBit d).getD true
section
variable {P:Program}{n:Nat}{Q:Post}{F:Fr}{w:World}{ops:List Oper}{o:Oper}{wm fuel:Nat}{sk:List (List Nat × Nat)}{w0:World}{W9:Base}{k m:Nat}
theorem ziV {S i:Nat}(hsk:skOf ops=sk) (hk:ops.length=k) (h:depOk sk S k i=true) (j:Nat) (oj:Oper) (hw:S.testBit j=true) (ho:ops[j]? = some oj):
    ∃ e,e∈oj.after∧Region.binds .any e=true∧(e.on=i∨S.testBit e.on=true):=by
  unfold depOk at h
  rw [List.all_eq_true] at h
  have:=h j (List.mem_range.2 (by rw [← hk];exact(List.getElem?_eq_some_iff.1 ho).1))
  rw [zba hsk ho,hw] at this
  simp only [Bool.not_true,Bool.false_or,Option.map_some,Option.getD_some,List.any_eq_true,Bool.or_eq_true] at this
  obtain⟨d,hd,hd2⟩:=this
  unfold depsOf at hd
  obtain⟨e,he,rfl⟩:=List.mem_map.1 hd
  obtain⟨he1,he2⟩:=List.mem_filter.1 he
  exact⟨e,by simpa using he1,by simpa using he2,hd2.imp (fun h=>Nat.eq_of_beq_eq_true h) id⟩
theorem DM.quietS {v:Value}(S:Nat) (hsk:skOf ops=sk∧ops.length=k) (i:Nat){m' d:Nat}(hi:nthv ops i=some o) (h:DM P n ops Q W9 w0 wm fuel k m' ((d,v)::F) w) (hq:Quiet P n F w0 o v)
    (hm:m ||| 2 ^ i=m':=by exact rfl) (hwi:wm.testBit i=false:=by kernel_rfl) (hSw:Nat.beq (wm &&& S) wm=true:=by kernel_rfl) (hwo:depOk sk S k i=true:=by kernel_rfl) (hnw:Nat.beq (m &&& S) 0=true:=by kernel_rfl) (hf:freeM sk (2 ^ k - 1) m i=true:=by kernel_rfl) (hg:guardOf ops F o=some true:=by exact rfl) (hd:o.dst=some d:=by exact rfl) (hn:Nat.blt d n=true:=by exact rfl):DM P n ops Q W9 w0 wm (fuel+1) k m F w:=fun l hl hs he hv a ha=>by
  have hi':=hi
  rw [z2b] at hi
  obtain⟨h1,h2⟩:=z8T (z9B hsk.1 hsk.2 hl (by rw [← z2b];exact hi') hf)
  have hS:=zjF hl hnw
  have hw:∀ j,wm.testBit j=true→S.testBit j=true:=fun j hj=>by
    have e:wm &&& S=wm:=by simpa using hSw
    have:=congrArg (fun x=>Nat.testBit x j) e
    simp only [Nat.testBit_and,hj,Bool.true_and] at this
    exact this
  have hnw':NoWr (fun j=>wm.testBit j) l:=fun j hj=>hS j (hw j hj)
  have key:=zew (P:=P) (md:=.any) (ops:=ops.toArray) (Q:=Q.only.up n) (wr:=fun j=>wm.testBit j) (T:=onW w0) (V:=onW W9) (S:=fun j=>S.testBit j) (oi:=o) (v:=v) (i:=i) (by simpa using hi) (Region.noSelect_spec hs) (noPanic v _) hwi hw (fun j oj hj hoj=>ziV hsk.1 hsk.2 hwo j oj hj (by simpa using hoj))
  refine key fuel l a w (Region.free_spec (by simpa using hi) h1) (by simpa using h2) (.inl ⟨zh hg ha,fun w' hw'=>hq a w' ha hw'⟩) hS (he hnw') hv ?_
  rw [hd]
  exact h _ (hl.set (z91 hsk.2 hi') hm) hs (fun _=>he hnw') hv _ (ha.put hn v)
theorem DM.idxS {T:TT}(S:Nat) (ht:TTok P T){α:Type}{U:Ty α}{w1:Base}(he:Ext w1 w0) (hsk:skOf ops=sk∧ops.length=k) (i:Nat){m':Nat}{t e:Nat}{x ix:Operand}{j j':TI}{A:Option Addr}{len c:Nat}{xs:List α}{kk:IntKind}{mm:Int}{e':Nat}(hr:(tSl e' U).ro w1 [.slice A len c] xs){a:α}(G:Go.E.idx xs mm=some a){d:Nat}
    (h:∀ q es,At w1 q es→U.ro w1 es a→DM P n ops Q W9 w0 wm fuel k m' ((d,.pointer (some q))::F) w) (hi:nthv ops i=some o:=by exact rfl) (ho:o.op=.indexAddr t x ix:=by exact rfl)
    (hj:T.get t=some j:=by exact rfl) (hd:j.d=.slice e:=by exact rfl) (hj':T.get e=some j':=by exact rfl) (hs:U.size=j'.size:=by exact rfl) (hpos:0<U.size:=by decide) (hx:F.ev x=some (.slice A len c):=by exact rfl) (hm:F.ev ix=some (.int kk mm):=by exact rfl)
    (hm':m ||| 2 ^ i=m':=by exact rfl) (hwi:wm.testBit i=false:=by kernel_rfl) (hSw:Nat.beq (wm &&& S) wm=true:=by kernel_rfl) (hwo:depOk sk S k i=true:=by kernel_rfl) (hnw:Nat.beq (m &&& S) 0=true:=by kernel_rfl) (hf:freeM sk (2 ^ k - 1) m i=true:=by kernel_rfl) (hg:guardOf ops F o=some true:=by exact rfl) (hd':o.dst=some d:=by exact rfl) (hn:Nat.blt d n=true:=by exact rfl):DM P n ops Q W9 w0 wm (fuel+1) k m F w:=by
  obtain⟨q,es,h1,h2,h3⟩:=Quiet.idx (n:=n) ht ho hj hd hj' hs hpos hx hm hr (zo G).1 (zo G).2
  exact DM.quietS S hsk i hi (h q es h2 h3) (h1.later he) hm' hwi hSw hwo hnw hf hg hd' hn
end


def Tail {α:Type}(U:Ty α) (e:Nat) (v:Value) (xs:List α) (k:Int):Res where
  A:=fun w G=>(xs=[]∧∀ b,b∈G→b<w.heap.size)∨∃ g cap c1 c2 rest G2,v=.slice (some ⟨g,0,none⟩) xs.length cap∧w.heap[g]? = some (.cells ⟨(c1++c2)++rest⟩ e (0,0))∧xs.length≤maxLen∧c1.length=k.toNat*U.size∧
    ElsO U w c2 (xs.drop k.toNat) G2∧G=g::G2
  loc:=by
    rintro w w' G (h | ⟨g,cap,c1,c2,rest,G2,hv,hh,a1,a2,a3,rfl⟩) hs
    · refine .inl ⟨h.1,fun b hb=>?_⟩
      rcases Nat.lt_or_ge b w'.heap.size with h1 | h1
      · exact h1
      · have h2:=hs b hb
        rw [Array.getElem?_eq_none h1,Array.getElem?_eq_getElem (h.2 b hb)] at h2
        cases h2
    · exact .inr ⟨g,cap,c1,c2,rest,G2,hv,by rw [hs g (by simp)];exact hh,a1,a2,a3.loc fun b hb=>hs b (by simp [hb]),rfl⟩
  lt:=by
    rintro w G (⟨_,h⟩ | ⟨g,cap,c1,c2,rest,G2,hv,hh,a1,a2,a3,rfl⟩) b hb
    · exact h b hb
    · rcases List.mem_cons.1 hb with rfl | hb
      · rcases Nat.lt_or_ge b w.heap.size with h | h
        · exact h
        · rw [Array.getElem?_eq_none h] at hh;cases hh
      · exact a3.lt b hb
def zoP {α:Type}(U:Ty α) (e:Nat) (v:Value) (xs:List α) (i:Nat) (es:List Value):Res where
  A:=fun w G=>∃ g cap c1 c2 rest G2,v=.slice (some ⟨g,0,none⟩) xs.length cap∧w.heap[g]? = some (.cells ⟨(c1++(es++c2))++rest⟩ e (0,0))∧xs.length≤maxLen∧c1.length=i*U.size∧es.length=U.size∧i<xs.length∧
    ElsO U w c2 (xs.drop (i+1)) G2∧G=g::G2
  loc:=by
    rintro w w' G ⟨g,cap,c1,c2,rest,G2,hv,hh,a1,a2,a3,a4,a5,rfl⟩ hs
    exact⟨g,cap,c1,c2,rest,G2,hv,by rw [hs g (by simp)];exact hh,a1,a2,a3,a4,a5.loc fun b hb=>hs b (by simp [hb]),rfl⟩
  lt:=by
    rintro w G ⟨g,cap,c1,c2,rest,G2,hv,hh,a1,a2,a3,a4,a5,rfl⟩ b hb
    rcases List.mem_cons.1 hb with rfl | hb
    · rcases Nat.lt_or_ge b w.heap.size with h | h
      · exact h
      · rw [Array.getElem?_eq_none h] at hh;cases hh
    · exact a5.lt b hb
section
variable {α:Type}{U:Ty α}{e:Nat}{W:Base}{w:World}{B:List Res}{A:Option Addr}{k n i:Nat}{xs:List α}{a:α}{es:List Value}{v:Value}{m j:Int}
theorem St.tailFocus (h:St W w (Tail U e (.slice A n k) xs m::B)) (hx:xs[m.toNat]? = some a):∃ es,St W w (zoP U e (.slice A n k) xs m.toNat es::Own U es a::B)∧n=xs.length∧∃ g,A=some ⟨g,0,none⟩:=by
  obtain⟨he,G,hG,hnd,hlo,hrest⟩:=h
  have hi:=(List.getElem?_eq_some_iff.1 hx).1
  rcases hG with⟨rfl,_⟩ | ⟨g,cap,c1,c2,rest,G2,hv,hh,a1,a2,a3,rfl⟩
  · simp at hi
  · have hd:xs.drop m.toNat=a::xs.drop (m.toNat+1):=by
      rw [List.drop_eq_getElem_cons hi,(List.getElem?_eq_some_iff.1 hx).2]
    rw [hd] at a3
    obtain⟨es,d2,H,K,rfl,rfl,k1,k2⟩:=a3
    simp only [Value.slice.injEq] at hv
    refine⟨es,⟨he,g::K,⟨g,cap,c1,d2,rest,K,by rw [hv.1,hv.2.1,hv.2.2],hh,a1,a2,U.lenO k1,hi,k2,rfl⟩,?_,fun b hb=>⟨(hlo b ?_).1,by simp⟩,H,k1,?_,fun b hb=>⟨(hlo b (by simp [hb])).1,?_⟩,hrest.congr fun b hb=>?_⟩,hv.2.1,g,hv.1⟩
    · simp only [List.nodup_cons,List.mem_append,List.nodup_append,not_or] at hnd ⊢
      exact⟨hnd.1.2,hnd.2.2.1⟩
    · rcases List.mem_cons.1 hb with rfl | hb<;>simp [*]
    · simp only [List.nodup_cons,List.nodup_append] at hnd
      exact hnd.2.1
    · simp only [List.nodup_cons,List.mem_append,List.nodup_append,not_or,List.append_nil,List.mem_cons] at hnd ⊢
      exact⟨fun hbg=>hnd.1.1 (hbg ▸ hb),fun q=>hnd.2.2.2 b hb b q rfl⟩
    · simp only [List.mem_append,List.mem_cons,List.append_nil] at hb ⊢
      rcases hb with hb | hb | hb<;>simp [hb]
end

theorem RW.tail {P:Program}{n:Nat}{Q:Post}{F:Fr}{W:Base}{w:World}{ops rest:List Oper}{o:Oper}{T:TT}(ht:TTok P T){α:Type}{U:Ty α}{B:List Res}{e:Nat}{A:Option Addr}{k ln:Nat}{xs:List α}{a:α}{m:Int}(hS:St W w (Tail U e (.slice A ln k) xs m::B)) (hg:guardOf ops F o=some true){t e':Nat}{x ix:Operand}{i j:TI}
    {kd:IntKind}(ho:o.op=.indexAddr t x ix) (hi:T.get t=some i) (hd:i.d=.slice e') (hj:T.get e'=some j) (hs:U.size=j.size) (hx:F.ev x=some (.slice A ln k)) (hm:F.ev ix=some (.int kd m))
    (h0:0≤m) (ha:xs[m.toNat]? = some a){d:Nat}(hd':o.dst=some d) (hn:Nat.blt d n=true)
    (h:∀ q es,ElAt U A m.toNat q→St W w (zoP U e (.slice A ln k) xs m.toNat es::Own U es a::B)→RW P n ops Q rest ((d,.pointer (some q))::F) w):RW P n ops Q (o::rest) F w:=by
  have hlt:=(List.getElem?_eq_some_iff.1 ha).1
  obtain⟨es,h1,hl,hA⟩:=hS.tailFocus ha
  exact RW.idxHole ht (U:=U) hA hg ho hi hd hj hs hx hm h0 (by omega) hd' hn fun q hq=>h q es hq h1

end Go.E


