/- Traversals of graphs, told by plain lists. Conditions: each lemma names its own. -/
import Derived.Test.YtfndicpnccabkaaGreatRounds
import Derived.Test.YtfndicpnccabkaaGreatSortT
import Derived.Test.YtfndicpnccabkaaGreatFI
set_option linter.unusedVariables false
set_option linter.unusedSimpArgs false
namespace Go.E
open Go.RowKit Go.Proofs


def vis (l:L9):L9→L9
  | []=>l
  | y::ys=>if y∈l then vis l ys else vis (l++[y]) ys
theorem zkR:∀ {ys l:L9},∃ m,vis l ys=l++m∧∀ x∈m,x∈ys
  | [],l=>⟨[],by simp[vis],by simp⟩
  | y::ys,l=>by
    unfold vis
    by_cases h:y∈l
    · rw[if_pos h]
      obtain⟨m,h1,h2⟩:=zkR (ys:=ys) (l:=l)
      exact⟨m,h1,fun x hx=>List.mem_cons_of_mem _ (h2 x hx)⟩
    · rw[if_neg h]
      obtain⟨m,h1,h2⟩:=zkR (ys:=ys) (l:=l++[y])
      refine⟨y::m,by rw[h1];simp,fun x hx=>?_⟩
      rcases List.mem_cons.1 hx with rfl | hx
      · exact List.mem_cons_self
      · exact List.mem_cons_of_mem _ (h2 x hx)
theorem zib:∀ {ys l:L9},l.Nodup→(vis l ys).Nodup
  | [],l,h=>h
  | y::ys,l,h=>by
    unfold vis
    by_cases hy:y∈l
    · rw[if_pos hy];exact zib h
    · rw[if_neg hy]
      refine zib (List.nodup_append.2 ⟨h,by simp,?_⟩)
      intro a ha b hb
      rw[List.mem_singleton] at hb
      subst hb
      rintro rfl
      exact hy ha
theorem zoG {ys l:L9}{x:Int}(h:x∈l):x∈vis l ys:=by
  obtain⟨m,h1,_⟩:=zkR (ys:=ys) (l:=l)
  rw[h1];exact List.mem_append_left _ h
theorem zoH:∀ {ys l:L9}{x:Int},x∈ys→x∈vis l ys
  | y::ys,l,x,h=>by
    unfold vis
    rcases List.mem_cons.1 h with rfl | h
    · by_cases hy:x∈l
      · rw[if_pos hy];exact zoG hy
      · rw[if_neg hy];exact zoG (by simp)
    · by_cases hy:y∈l
      · rw[if_pos hy];exact zoH h
      · rw[if_neg hy];exact zoH h

def trv (nx:Int→L9):Nat→Nat→L9→L9
  | 0,_,l=>l
  | f+1,k,l=>match l[k]? with
    | some x=>trv nx f (k+1) (vis l (nx x))
    | none=>l
def z2y (nx:Int→L9)(n:Nat)(s:Int):L9:=trv nx (n+1) 0 [s]
inductive Reach (nx:Int→L9):Int→Int→Prop
  | refl {a:Int}:Reach nx a a
  | step {a b c:Int}:Reach nx a b→c∈nx b→Reach nx a c
theorem Reach.trans {nx:Int→L9}{a b c:Int}(h1:Reach nx a b)(h2:Reach nx b c):Reach nx a c:=by
  induction h2 with
  | refl=>exact h1
  | step _ h ih=>exact .step ih h

structure Graph (nx:Int→L9) (n:Nat):Prop where
  rng:∀ x:Int,0≤x→x<(n:Int)→∀ y∈nx x,0≤y∧y<(n:Int)
  back:∀ x:Int,0≤x→x<(n:Int)→∀ y∈nx x,x∈nx y
theorem Reach.rng {nx:Int→L9}{n:Nat}(hG:Graph nx n){a b:Int}(h:Reach nx a b)(h0:0≤a)(h1:a<n):0≤b∧b<n:=by
  induction h with
  | refl=>exact⟨h0,h1⟩
  | step _ h ih=>exact hG.rng _ ih.1 ih.2 _ h
theorem Reach.symm {nx:Int→L9}{n:Nat}(hG:Graph nx n){a b:Int}(h:Reach nx a b)(h0:0≤a)(h1:a<n):Reach nx b a:=by
  induction h with
  | refl=>exact .refl
  | step hab h ih=>
    have hr:=hab.rng hG h0 h1
    exact(Reach.step .refl (hG.back _ hr.1 hr.2 _ h)).trans ih
theorem zhV {n:Nat}:∀ {l:L9},l.Nodup→(∀ x∈l,0≤x∧x<n)→l.length≤n:=by
  induction n with
  | zero=>
    intro l _ h
    cases l with
    | nil=>simp
    | cons x xs=>have:=h x List.mem_cons_self;omega
  | succ n ih=>
    intro l hn h
    have h1:(l.erase (n:Int)).Nodup:=hn.erase _
    have h2:=ih h1 (fun x hx=>by
      have a:=(hn.mem_erase_iff).1 hx
      have b:=h x a.2
      have c:=a.1
      omega)
    have h3:l.length≤(l.erase (n:Int)).length+1:=by rw[List.length_erase];split<;>omega
    omega

structure TrvI (nx:Int→L9) (n:Nat) (s:Int) (k:Nat) (l:L9):Prop where
  nodup:l.Nodup
  rng:∀ x∈l,0≤x∧x<n
  head:l[0]? = some s
  reach:∀ x∈l,Reach nx s x
  closed:∀ i x,i<k→l[i]? = some x→∀ y∈nx x,y∈l
theorem TrvI.begin {nx:Int→L9}{n:Nat}{s:Int}(h0:0≤s)(h1:s<n):TrvI nx n s 0 [s] where
  nodup:=by simp
  rng x hx:=by rw[List.mem_singleton] at hx;subst hx;exact⟨h0,h1⟩
  head:=rfl
  reach x hx:=by rw[List.mem_singleton] at hx;subst hx;exact .refl
  closed i x hi:=absurd hi (Nat.not_lt_zero _)
theorem TrvI.len {nx:Int→L9}{n:Nat}{s:Int}{k:Nat}{l:L9}(h:TrvI nx n s k l):l.length≤n:=zhV h.nodup h.rng
theorem TrvI.next {nx:Int→L9}{n:Nat}{s:Int}{k:Nat}{l:L9}{x:Int}(hG:Graph nx n)(h:TrvI nx n s k l)(hx:l[k]? = some x):TrvI nx n s (k+1) (vis l (nx x)):=by
  have o:=List.mem_of_getElem? hx
  have q:=h.rng x o
  obtain⟨m,e1,e2⟩:=zkR (ys:=nx x) (l:=l)
  refine⟨zib h.nodup,fun y hy=>?_,?_,fun y hy=>?_,fun i y hi hy z hz=>?_⟩
  · rw[e1] at hy
    rcases List.mem_append.1 hy with hy | hy
    · exact h.rng y hy
    · exact hG.rng x q.1 q.2 y (e2 y hy)
  · rw[e1,List.getElem?_append_left (List.getElem?_eq_some_iff.1 h.head).1]
    exact h.head
  · rw[e1] at hy
    rcases List.mem_append.1 hy with hy | hy
    · exact h.reach y hy
    · exact .step (h.reach x o) (e2 y hy)
  · have hk:=(List.getElem?_eq_some_iff.1 hx).1
    rw[e1,List.getElem?_append_left (by omega)] at hy
    by_cases hik:i<k
    · exact zoG (h.closed i y hik hy z hz)
    · obtain rfl:i=k:=by omega
      rw[hx] at hy;cases hy
      exact zoH hz
theorem TrvI.fin {nx:Int→L9}{n:Nat}{s:Int}(hG:Graph nx n):∀ {f k:Nat}{l:L9},n+1≤f+k→TrvI nx n s k l→∃ k',TrvI nx n s k' (trv nx f k l)∧(trv nx f k l).length≤k'
  | 0,k,l,hf,h=>⟨k,h,by unfold trv;have:=h.len;omega⟩
  | f+1,k,l,hf,h=>by
    unfold trv
    cases hx:l[k]? with
    | some x=>exact TrvI.fin hG (by omega) (h.next hG hx)
    | none=>exact⟨k,h,by simpa using hx⟩
theorem zoV {nx:Int→L9}{n:Nat}{s:Int}(hG:Graph nx n)(h0:0≤s)(h1:s<n):∃ k',TrvI nx n s k' (z2y nx n s)∧(z2y nx n s).length≤k':=
  TrvI.fin hG (by omega) (TrvI.begin h0 h1)
theorem zhR {nx:Int→L9}{n:Nat}{s x:Int}(hG:Graph nx n)(h0:0≤s)(h1:s<n):x∈z2y nx n s↔Reach nx s x:=by
  obtain⟨k,h,hk⟩:=zoV hG h0 h1
  refine⟨h.reach x,fun hr=>?_⟩
  induction hr with
  | refl=>exact List.mem_of_getElem? h.head
  | step _ hc ih=>
    obtain⟨i,hi⟩:=List.getElem?_of_mem ih
    exact h.closed i _ (by have:=(List.getElem?_eq_some_iff.1 hi).1;omega) hi _ hc
theorem zeP {nx:Int→L9}{n:Nat}{s:Int}(hG:Graph nx n)(h0:0≤s)(h1:s<n):(z2y nx n s).Nodup:=by
  obtain⟨k,h,hk⟩:=zoV hG h0 h1
  exact h.nodup
theorem z8a {nx:Int→L9}{n:Nat}{s x:Int}(hG:Graph nx n)(h0:0≤s)(h1:s<n)(hx:x∈z2y nx n s):0≤x∧x<n:=by
  obtain⟨k,h,hk⟩:=zoV hG h0 h1
  exact h.rng x hx
theorem zeQ {nx:Int→L9}{n:Nat}{s:Int}(hG:Graph nx n)(h0:0≤s)(h1:s<n):(z2y nx n s).length≤n:=zhV (zeP hG h0 h1) (fun x hx=>z8a hG h0 h1 hx)
theorem z8r {nx:Int→L9}{n:Nat}{s:Int}(hG:Graph nx n)(h0:0≤s)(h1:s<n):s∈z2y nx n s:=(zhR hG h0 h1).2 .refl

theorem zee {nx:Int→L9}{n:Nat}{a b x y:Int}(hG:Graph nx n)(ha:0≤a∧a<n)(hb:0≤b∧b<n)(h1:x∈z2y nx n a)(h2:x∈z2y nx n b)(hy:y∈z2y nx n a):y∈z2y nx n b:=by
  rw[zhR hG ha.1 ha.2] at h1 hy
  rw[zhR hG hb.1 hb.2] at h2 ⊢
  exact(h2.trans (h1.symm hG ha.1 ha.2)).trans hy



theorem ze3 {l:L9}{y:Int}(h:y ∉ l)(x:Int):(l++[y]).idxOf x=if x∈l then l.idxOf x else if x=y then l.length else l.length+1:=by
  rw[List.idxOf_append]
  by_cases hx:x∈l
  · rw[if_pos hx,if_pos hx]
  · rw[if_neg hx,if_neg hx]
    by_cases hxy:x=y
    · subst hxy;simp
    · rw[if_neg hxy,List.idxOf_cons,show(y == x)=false by simpa using Ne.symm hxy];simp;omega

theorem zmm {S τ ρ:Type}{nx:Int→L9}{n:Nat}{s0:Int}{body:S→Option (Rd S τ ρ)}(J:Nat→L9→S→Prop)(Q:L9→τ→Prop)
    (hG:Graph nx n)
    (step:∀ k l x s,TrvI nx n s0 k l→l[k]? = some x→J k l s→∃ s',body s=some (.next s')∧J (k+1) (vis l (nx x)) s')
    (o:∀ k l s,TrvI nx n s0 k l→l.length≤k→J k l s→∃ t,body s=some (.brk t)∧Q l t):
    ∀ {f k l s fu},n+1≤f+k→f<fu→TrvI nx n s0 k l→J k l s→∃ t,iter body fu s=some (.inl t)∧Q (trv nx f k l) t
  | 0,k,l,s,0,_,hfu,_,_=>absurd hfu (Nat.not_lt_zero _)
  | 0,k,l,s,fu+1,hf,hfu,hT,hJ=>by
    obtain⟨t,e1,e2⟩:=o k l s hT (by have:=hT.len;omega) hJ
    exact⟨t,by simp only[iter,e1],by unfold trv;exact e2⟩
  | f+1,k,l,s,0,_,hfu,_,_=>absurd hfu (Nat.not_lt_zero _)
  | f+1,k,l,s,fu+1,hf,hfu,hT,hJ=>by
    unfold trv
    cases hx:l[k]? with
    | some x=>
      obtain⟨s',e1,e2⟩:=step k l x s hT hx hJ
      obtain⟨t,e3,e4⟩:=zmm J Q hG step o (f:=f) (k:=k+1) (l:=vis l (nx x)) (s:=s') (fu:=fu) (by omega) (by omega) (hT.next hG hx) e2
      exact⟨t,by simp only[iter,e1];exact e3,e4⟩
    | none=>
      obtain⟨t,e1,e2⟩:=o k l s hT (by simpa using hx) hJ
      exact⟨t,by simp only[iter,e1],e2⟩

theorem zoJ {α S τ ρ:Type}{xs:List α}{ag:α→Int}{body:S→Option (Rd S τ ρ)}(J:Nat→L9→S→Prop)(Q:L9→τ→Prop)
    (step:∀ i x l s,xs[i]? = some x→J i l s→∃ s',body s=some (.next s')∧J (i+1) (if ag x∈l then l else l++[ag x]) s')
    (o:∀ l s,J xs.length l s→∃ t,body s=some (.brk t)∧Q l t):
    ∀ {ys:List α}{i:Nat}{l:L9}{s:S}{fu:Nat},i+ys.length=xs.length→(∀ j,ys[j]? = xs[i+j]?)→ys.length<fu→J i l s→∃ t,iter body fu s=some (.inl t)∧Q (vis l (ys.map ag)) t
  | ys,i,l,s,0,_,_,hfu,_=>absurd hfu (Nat.not_lt_zero _)
  | [],i,l,s,fu+1,hi,_,hfu,hJ=>by
    simp only[List.length_nil,Nat.add_zero] at hi
    subst hi
    obtain⟨t,e1,e2⟩:=o l s hJ
    exact⟨t,by simp only[iter,e1],by simpa [vis] using e2⟩
  | y::ys,i,l,s,fu+1,hi,hat,hfu,hJ=>by
    simp only[List.length_cons] at hi hfu
    have hx:xs[i]? = some y:=by have:=hat 0;simpa using this.symm
    obtain⟨s',e1,e2⟩:=step i y l s hx hJ
    obtain⟨t,e3,e4⟩:=zoJ J Q step o (ys:=ys) (i:=i+1) (fu:=fu) (by omega) (fun j=>by have:=hat (j+1);rw[show i+1+j=i+(j+1) by omega];simpa using this) (by omega) e2
    refine⟨t,by simp only[iter,e1];exact e3,?_⟩
    rw[List.map_cons]
    unfold vis
    by_cases h:ag y∈l
    · rw[if_pos h];rw[if_pos h] at e4;exact e4
    · rw[if_neg h];rw[if_neg h] at e4;exact e4
end Go.E



namespace Go.E
open Go.RowKit Go.Proofs


theorem ziP {α:Type}{le:α→α→Prop}{l m:List α}(hp:l.Perm m)(hl:l.Pairwise le)(hm:m.Pairwise le)(ha:∀ a∈l,∀ b∈l,le a b→le b a→a=b):l=m:=by
  exact hp.eq_of_pairwise (fun a b h1 h2 h3 h4=>ha a h1 b (hp.mem_iff.2 h2) h3 h4) hl hm
theorem zeh {xs:L9}:(z6z xs).Perm xs:=List.mergeSort_perm _ _
theorem zha {xs:L9}:(z6z xs).Pairwise (·≤·):=by
  have:=List.pairwise_mergeSort (le:=fun(x y:Int)=>decide (x≤y)) (by intro a b c;simp;omega) (by intro a b;simp;omega) xs
  exact this.imp fun {a b} h=>by simpa using h
theorem zqV {xs ys:L9}(hp:ys.Perm xs)(hs:ys.Pairwise (·≤·)):ys=z6z xs:=
  ziP (le:=(·≤·)) (hp.trans zeh.symm) hs zha (fun a _ b _ h1 h2=>by omega)
theorem zdG {xs:L9}{x:Int}:x∈z6z xs↔x∈xs:=zeh.mem_iff
theorem zp0 {xs:L9}:(z6z xs).length=xs.length:=zeh.length_eq
theorem zn9 {xs:L9}{h:Int}(hm:h∈xs)(hl:∀ x∈xs,h≤x):(z6z xs)[0]? = some h:=by
  cases hs:z6z xs with
  | nil=>rw[← zdG (xs:=xs),hs] at hm;cases hm
  | cons y ys=>
    have h1:y∈xs:=by rw[← zdG (xs:=xs),hs];exact List.mem_cons_self
    have h2:=hl y h1
    have h3:=zha (xs:=xs)
    rw[hs] at h3
    have h4:h∈y::ys:=by rw[← hs];exact zdG.2 hm
    rcases List.mem_cons.1 h4 with rfl | h4
    · rfl
    · have:=(List.pairwise_cons.1 h3).1 h h4
      rw[show y=h by omega];rfl


section
variable {nx:Int→L9}{n:Nat}

def hdN (nx:Int→L9)(n:Nat):Nat→L9
  | 0=>[]
  | i+1=>if ∃ h∈hdN nx n i,(i:Int)∈z2y nx n h then hdN nx n i else hdN nx n i++[(i:Int)]
theorem zaR:∀ {i:Nat}{h:Int},h∈hdN nx n i→0≤h∧h<i
  | 0,h,hm=>by simp[hdN] at hm
  | i+1,h,hm=>by
    unfold hdN at hm
    split at hm
    · have:=zaR hm;omega
    · rcases List.mem_append.1 hm with hm | hm
      · have:=zaR hm;omega
      · rw[List.mem_singleton] at hm;omega
theorem zgV:∀ {i:Nat},(hdN nx n i).Pairwise (· < ·)
  | 0=>by simp[hdN]
  | i+1=>by
    unfold hdN
    split
    · exact zgV
    · refine List.pairwise_append.2 ⟨zgV,by simp,fun a ha b hb=>?_⟩
      rw[List.mem_singleton] at hb
      have:=zaR ha
      omega
theorem zmj (hG:Graph nx n):∀ {i:Nat},i≤n→∀ x:Int,0≤x→x<i→∃ h∈hdN nx n i,x∈z2y nx n h
  | 0,_,x,h0,h1=>by omega
  | i+1,hi,x,h0,h1=>by
    unfold hdN
    by_cases hx:x<i
    · obtain⟨h,a,b⟩:=zmj hG (by omega) x h0 hx
      split
      · exact⟨h,a,b⟩
      · exact⟨h,List.mem_append_left _ a,b⟩
    · obtain rfl:x=i:=by omega
      split
      · assumption
      · exact⟨i,by simp,z8r hG (by omega) (by omega)⟩

theorem zgf (hG:Graph nx n):∀ {i:Nat},i≤n→∀ h∈hdN nx n i,∀ x∈z2y nx n h,h≤x
  | 0,_,h,hm=>by simp[hdN] at hm
  | i+1,hi,h,hm=>by
    unfold hdN at hm
    split at hm
    · exact zgf hG (by omega) h hm
    · rename_i o
      rcases List.mem_append.1 hm with hm | hm
      · exact zgf hG (by omega) h hm
      · rw[List.mem_singleton] at hm
        subst hm
        intro x hx
        rcases Int.lt_or_le x i with hxi | hxi
        · exfalso
          have hr:=z8a hG (by omega) (by omega) hx
          obtain⟨h',a,b⟩:=zmj hG (show i≤n by omega) x hr.1 hxi
          have q:=zaR a
          exact o ⟨h',a,zee hG (by omega) (by omega) hx b (z8r hG (by omega) (by omega))⟩
        · exact hxi
theorem zsV (hG:Graph nx n){h h' x:Int}(hm:h∈hdN nx n n)(o:h'∈hdN nx n n)(hx:x∈z2y nx n h)(q:x∈z2y nx n h'):h=h':=by
  have r:=zaR hm
  have r':=zaR o
  have a:=zgf hG (Nat.le_refl n) h hm h' (zee hG r' r q hx (z8r hG r'.1 r'.2))
  have b:=zgf hG (Nat.le_refl n) h' o h (zee hG r r' hx q (z8r hG r.1 r.2))
  omega
theorem zsU:∀ {i:Nat},1≤i→(hdN nx n i)[0]? = some 0
  | 1,_=>by simp[hdN]
  | i+2,_=>by
    have h:=zsU (i:=i+1) (by omega)
    unfold hdN
    split
    · exact h
    · rw[List.getElem?_append_left (List.getElem?_eq_some_iff.1 h).1];exact h
theorem zmk (h:1≤n):hdN nx n n=0::(hdN nx n n).drop 1:=by
  have h0:=zsU (nx:=nx) (n:=n) h
  cases hh:hdN nx n n with
  | nil=>rw[hh] at h0;cases h0
  | cons a l=>rw[hh] at h0;cases h0;rfl
theorem znH:∀ {i:Nat},(hdN nx n i).length≤i
  | 0=>by simp[hdN]
  | i+1=>by
    have:=znH (i:=i)
    unfold hdN
    split
    · omega
    · rw[List.length_append,List.length_singleton];omega
def z8o (nx:Int→L9)(n:Nat)(h:Int):L9:=z6z (z2y nx n h)
def z6A (nx:Int→L9)(n:Nat)(i:Nat):LO:=(hdN nx n i).map (z8o nx n)
theorem ziQ (hG:Graph nx n){h:Int}(hm:h∈hdN nx n n):(z8o nx n h)[0]? = some h:=by
  have r:=zaR hm
  exact zn9 (z8r hG r.1 r.2) (zgf hG (Nat.le_refl n) h hm)
theorem zpQ {h x:Int}:x∈z8o nx n h↔x∈z2y nx n h:=zdG


variable {code:Int→L9}
def zhP (code:Int→L9)(b:Int):L9→Int
  | []=>b
  | x::xs=>if zd4 (code x) (code b)<0 then zhP code x xs else zhP code b xs
theorem zmG:∀ {xs:L9}{b:Int},zhP code b xs=b∨zhP code b xs∈xs
  | [],b=>.inl rfl
  | x::xs,b=>by
    unfold zhP
    split
    · rcases zmG (xs:=xs) (b:=x) with h | h
      · exact .inr (by rw[h];exact List.mem_cons_self)
      · exact .inr (List.mem_cons_of_mem _ h)
    · rcases zmG (xs:=xs) (b:=b) with h | h
      · exact .inl h
      · exact .inr (List.mem_cons_of_mem _ h)
def zbv (nx:Int→L9)(n:Nat)(code:Int→L9)(h:Int):Int:=zhP code h ((z8o nx n h).drop 1)
theorem zf2 (hG:Graph nx n){h:Int}(hm:h∈hdN nx n n):zbv nx n code h∈z2y nx n h:=by
  have r:=zaR hm
  unfold zbv
  rcases zmG (code:=code) (xs:=(z8o nx n h).drop 1) (b:=h) with e | e
  · rw[e];exact z8r hG r.1 r.2
  · exact zpQ.1 (List.mem_of_mem_drop e)
def zpE (nx:Int→L9)(n:Nat)(code:Int→L9)(h:Int):QB:=⟨z2y nx n (zbv nx n code h),code (zbv nx n code h),h⟩
def z6c (nx:Int→L9)(n:Nat)(code:Int→L9):LL:=((hdN nx n n).drop 1).map (zpE nx n code)
def zjX (ts:LL):LL:=ts.mergeSort fun x y=>!(ltOf cfT y x)
def zcB (nx:Int→L9)(n:Nat)(code:Int→L9):L9:=z2y nx n 0++(zjX (z6c nx n code)).flatMap fun t=>t.QS
end
end Go.E



namespace Go.E
open Go.RowKit Go.Proofs

theorem zps {a b:Int}(h:zkb a b=0):a=b:=by
  unfold zkb at h
  split at h
  · omega
  · split at h<;>omega
theorem zxv {a b:Int}(h:a<b):zkb a b = -1:=by unfold zkb;rw[if_pos h]
theorem zoZ {α:Type}[DecidableEq α]:∀ {l m:List α},l.Nodup→(∀ x∈l,x∈m)→l.length≤m.length
  | [],m,_,_=>Nat.zero_le _
  | x::l,m,hn,h=>by
    have hx:=h x List.mem_cons_self
    rw[List.nodup_cons] at hn
    have h2:=zoZ (l:=l) (m:=m.erase x) hn.2 (fun y hy=>(List.mem_erase_of_ne (show y≠x from fun e=>hn.1 (e ▸ hy))).2 (h y (List.mem_cons_of_mem _ hy)))
    rw[List.length_erase_of_mem hx] at h2
    have:=List.length_pos_of_mem hx
    rw[List.length_cons]
    omega

def zmO (cs:LO)(used:LJ):Nat→Int
  | 0=>-1
  | i+1=>if used[i]? = some false∧(zmO cs used i<0∨zd4 (cs.getD i []) (cs.getD (zmO cs used i).toNat [])<0) then(i:Int) else zmO cs used i
def Less (cs:LO)(a b:Nat):Prop:=zd4 (cs.getD a []) (cs.getD b [])<0∨(zd4 (cs.getD a []) (cs.getD b [])=0∧a<b)
theorem zxu {a b c:L9}(h1:zd4 a b<0)(h2:zd4 b c≤0):zd4 a c<0:=by
  have h3:=zmE a b c (by omega) h2
  rcases Int.lt_or_eq_of_le h3 with h | h
  · exact h
  · have h4:=zgr a c
    have h5:=zmE b c a h2 (by omega)
    have h6:=zgr a b
    omega
theorem zuX {cs:LO}{used:LJ}:∀ {i:Nat},(zmO cs used i = -1∧∀ j<i,used[j]?≠some false)∨
    (∃ p:Nat,zmO cs used i=p∧p<i∧used[p]? = some false∧∀ j<i,used[j]? = some false→j≠p→Less cs p j)
  | 0=>.inl ⟨rfl,fun j hj=>absurd hj (Nat.not_lt_zero _)⟩
  | i+1=>by
    unfold zmO
    rcases zuX (cs:=cs) (used:=used) (i:=i) with⟨h1,h2⟩ | ⟨p,h1,h2,h3,h4⟩
    · rw[h1]
      by_cases hu:used[i]? = some false
      · rw[if_pos ⟨hu,.inl (by omega)⟩]
        refine .inr ⟨i,rfl,by omega,hu,fun j hj G o=>absurd G (h2 j (by omega))⟩
      · rw[if_neg (fun h=>hu h.1)]
        refine .inl ⟨rfl,fun j hj=>?_⟩
        by_cases hji:j<i
        · exact h2 j hji
        · obtain rfl:j=i:=by omega
          exact hu
    · rw[h1,Int.toNat_natCast]
      by_cases hc:used[i]? = some false∧((p:Int)<0∨zd4 (cs.getD i []) (cs.getD p [])<0)
      · rw[if_pos hc]
        have q:zd4 (cs.getD i []) (cs.getD p [])<0:=hc.2.elim (fun h=>absurd h (by omega)) id
        refine .inr ⟨i,rfl,by omega,hc.1,fun j hj hu o=>?_⟩
        by_cases hjp:j=p
        · subst hjp;exact .inl q
        · have:=h4 j (by omega) hu hjp
          exact .inl (zxu q (by rcases this with h | h<;>omega))
      · rw[if_neg hc]
        refine .inr ⟨p,rfl,by omega,h3,fun j hj hu o=>?_⟩
        by_cases hji:j<i
        · exact h4 j hji hu o
        · obtain rfl:j=i:=by omega
          have h5:¬ zd4 (cs.getD j []) (cs.getD p [])<0:=fun h=>hc ⟨hu,.inr h⟩
          have h6:=zgr (cs.getD p []) (cs.getD j [])
          unfold Less
          omega

structure Chosen (cs:LO) (us:LJ) (js:List Nat):Prop where
  len:us.length=cs.length
  rng:∀ j∈js,j<cs.length
  nodup:js.Nodup
  used:∀ j,j<cs.length→(us[j]? = some true↔j∈js)
  pair:js.Pairwise (Less cs)
  rest:∀ a∈js,∀ b:Nat,us[b]? = some false→Less cs a b
theorem Chosen.begin {cs:LO}:Chosen cs (List.replicate cs.length false) [] where
  len:=by simp
  rng j h:=by cases h
  nodup:=List.nodup_nil
  used j hj:=by simp[hj]
  pair:=List.Pairwise.nil
  rest a h:=by cases h
theorem Chosen.more {cs:LO}{used:LJ}{js:List Nat}(h:Chosen cs used js)(hl:js.length<cs.length):
    ∃ p:Nat,zmO cs used cs.length=p∧p<cs.length∧Chosen cs (used.set p true) (js++[p]):=by
  rcases zuX (cs:=cs) (used:=used) (i:=cs.length) with⟨h1,h2⟩ | ⟨p,h1,h2,h3,h4⟩
  · exfalso
    have G:∀ j,j<cs.length→j∈js:=fun j hj=>by
      rw[← h.used j hj]
      have H:j<used.length:=by rw[h.len];exact hj
      cases hb:used[j]'(H) with
      | true=>rw[List.getElem?_eq_getElem H,hb]
      | false=>exact absurd (by rw[List.getElem?_eq_getElem H,hb]) (h2 j hj)
    have:=zoZ List.nodup_range (fun j hj=>G j (List.mem_range.1 hj))
    simp at this
    omega
  · refine⟨p,h1,h2,?_⟩
    have Y:p ∉ js:=fun hp=>by
      have:=(h.used p h2).2 hp
      rw[h3] at this;cases this
    have O:∀ j,(used.set p true)[j]? = some false→used[j]? = some false∧j≠p:=fun j hj=>by
      by_cases hjp:p=j
      · subst hjp
        rw[List.getElem?_set_self (by rw[h.len];exact h2)] at hj
        cases hj
      · rw[List.getElem?_set_ne hjp] at hj
        exact⟨hj,fun e=>hjp e.symm⟩
    refine⟨by simp[h.len],fun j hj=>?_,?_,fun j hj=>?_,?_,fun a ha b hb=>?_⟩
    · rcases List.mem_append.1 hj with hj | hj
      · exact h.rng j hj
      · rw[List.mem_singleton] at hj;omega
    · refine List.nodup_append.2 ⟨h.nodup,by simp,fun a ha b hb=>?_⟩
      rw[List.mem_singleton] at hb
      subst hb
      rintro rfl
      exact Y ha
    · by_cases hjp:p=j
      · subst hjp
        rw[List.getElem?_set_self (by rw[h.len];exact h2)]
        simp
      · rw[List.getElem?_set_ne hjp,h.used j hj,List.mem_append,List.mem_singleton]
        constructor
        · exact .inl
        · rintro(h | h)
          · exact h
          · exact absurd h.symm hjp
    · refine List.pairwise_append.2 ⟨h.pair,by simp,fun a ha b hb=>?_⟩
      rw[List.mem_singleton] at hb
      subst hb
      exact h.rest a ha _ h3
    · obtain⟨o,q⟩:=O b hb
      rcases List.mem_append.1 ha with ha | ha
      · exact h.rest a ha b o
      · rw[List.mem_singleton] at ha
        subst ha
        have X:=(List.getElem?_eq_some_iff.1 o).1
        exact h4 b (by rw[← h.len];exact X) o q

theorem z9H {ts:LL}:(zjX ts).Perm ts:=List.mergeSort_perm _ _
theorem zqW {ts:LL}:(zjX ts).Pairwise fun x y=>cfT x y≤0:=by
  have h:=List.pairwise_mergeSort (le:=fun x y=>!(ltOf cfT y x)) (by
    intro a b c h1 h2
    simp only[ltOf,Bool.not_eq_true',decide_eq_false_iff_not] at *
    have:=zbR.le a b c (by have:=zbR.neg a b;omega) (by have:=zbR.neg b c;omega)
    have:=zbR.neg a c
    omega) (by
    intro a b
    have:=zbR.neg a b
    simp only[ltOf,Bool.or_eq_true,Bool.not_eq_true',decide_eq_false_iff_not]
    omega) ts
  refine h.imp fun {a b} h=>?_
  simp only[ltOf,Bool.not_eq_true',decide_eq_false_iff_not] at h
  have:=zbR.neg a b
  omega
theorem zse {α:Type}{d:α}{xs:List α}:(List.range xs.length).map (fun j=>xs.getD j d)=xs:=by
  apply List.ext_getElem?
  intro i
  rw[List.getElem?_map]
  rcases Nat.lt_or_ge i xs.length with h | h
  · rw[List.getElem?_range h,Option.map_some,List.getD_eq_getElem?_getD,List.getElem?_eq_getElem h];rfl
  · rw[List.getElem?_eq_none (by simpa using h),List.getElem?_eq_none h];rfl
def d0:QB:=⟨[],[],0⟩

theorem Chosen.done {R:LL}{used:LJ}{js:List Nat}(h:Chosen (R.map QB.code) used js)(hl:js.length=R.length)(hR:(R.map QB.Qa1).Pairwise (· < ·)):
    js.map (fun j=>R.getD j d0)=zjX R:=by
  have q:∀ j∈js,j<R.length:=fun j hj=>by have:=h.rng j hj;simpa using this
  have hp:js.Perm (List.range R.length):=by
    rw[List.perm_ext_iff_of_nodup h.nodup List.nodup_range]
    intro j
    rw[List.mem_range]
    refine⟨q j,fun hj=>?_⟩
    by_cases hm:j∈js
    · exact hm
    · have:=zoZ (l:=j::js) (m:=List.range R.length) (List.nodup_cons.2 ⟨hm,h.nodup⟩) (fun i hi=>by
        rcases List.mem_cons.1 hi with rfl | hi
        · exact List.mem_range.2 hj
        · exact List.mem_range.2 (q i hi))
      simp[hl] at this
      omega
  have H:(js.map fun j=>R.getD j d0).Perm R:=by
    have:=hp.map (fun j=>R.getD j d0)
    rwa [zse] at this
  have G:∀ {a b:Nat},a<b→b<R.length→(R.getD a d0).Qa1<(R.getD b d0).Qa1:=fun {a b} hab hb=>by
    have:=List.pairwise_iff_getElem.1 hR a b (by simp;omega) (by simpa using hb) hab
    simp only[List.getElem_map] at this
    rw[List.getD_eq_getElem?_getD,List.getD_eq_getElem?_getD,List.getElem?_eq_getElem hb,List.getElem?_eq_getElem (by omega)]
    exact this
  have o:∀ {a:Nat},a<R.length→(R.map QB.code).getD a []=(R.getD a d0).code:=fun {a} ha=>by
    rw[List.getD_eq_getElem?_getD,List.getD_eq_getElem?_getD,List.getElem?_map,List.getElem?_eq_getElem ha];rfl
  refine ziP (le:=fun x y=>cfT x y≤0) (H.trans z9H.symm) ?_ zqW ?_
  · rw[List.pairwise_map]
    refine h.pair.imp_of_mem fun {a b} ha hb hab=>?_
    unfold Less at hab
    rw[o (q a ha),o (q b hb)] at hab
    unfold cfT
    rcases hab with h1 | ⟨h1,h2⟩
    · rw[if_pos (by omega)];omega
    · rw[if_neg (by omega),zxv (G h2 (q b hb))];omega
  · intro x hx y hy h1 h2
    have h3:=zbR.neg x y
    have h4:cfT x y=0:=by omega
    have h5:zkb x.Qa1 y.Qa1=0:=by
      unfold cfT at h4
      split at h4
      · rename_i h;exact absurd h4 h
      · exact h4
    have h6:=zps h5
    obtain⟨a,ha,rfl⟩:=List.mem_map.1 hx
    obtain⟨b,hb,rfl⟩:=List.mem_map.1 hy
    rcases Nat.lt_trichotomy a b with h | h | h
    · have:=G h (q b hb);omega
    · rw[h]
    · have:=G h (q a ha);omega

theorem zy2 {R:LL}(hR:(R.map QB.Qa1).Pairwise (· < ·)):R.Pairwise fun x y=>¬ (ltOf cfT x y=false∧ltOf cfT y x=false):=by
  rw[List.pairwise_map] at hR
  refine hR.imp fun {a b} hab h=>?_
  simp only[ltOf,decide_eq_false_iff_not] at h
  have h3:=zbR.neg a b
  have h4:cfT a b=0:=by omega
  unfold cfT at h4
  split at h4
  · rename_i h;exact h h4
  · have:=zps h4;omega
theorem zkv {nx:Int→L9}{n:Nat}{code:Int→L9}:((z6c nx n code).map QB.Qa1).Pairwise (· < ·):=by
  unfold z6c
  rw[List.map_map]
  have e:(fun h:Int=>h)=(QB.Qa1 ∘ zpE nx n code):=rfl
  rw[← e,List.map_id']
  exact(zgV).sublist (List.drop_sublist _ _)

theorem zns {nx:Int→L9}{n:Nat}{code:Int→L9}(hG:Graph nx n)(hn:1≤n){x:Int}:x∈zcB nx n code↔0≤x∧x<n:=by
  unfold zcB
  have hc:=zmk (nx:=nx) hn
  constructor
  · intro h
    rcases List.mem_append.1 h with h | h
    · exact z8a hG (by omega) (by omega) h
    · obtain⟨t,ht,hx⟩:=List.mem_flatMap.1 h
      rw[z9H.mem_iff] at ht
      obtain⟨d,hd,rfl⟩:=List.mem_map.1 ht
      have o:=List.mem_of_mem_drop hd
      have r:=zaR o
      have rb:=z8a hG r.1 r.2 (zf2 (code:=code) hG o)
      exact z8a hG rb.1 rb.2 hx
  · rintro⟨h0,h1⟩
    obtain⟨d,hd,hx⟩:=zmj hG (Nat.le_refl n) x h0 h1
    rw[hc] at hd
    rcases List.mem_cons.1 hd with rfl | hd
    · exact List.mem_append_left _ hx
    · refine List.mem_append_right _ (List.mem_flatMap.2 ⟨zpE nx n code d,?_,?_⟩)
      · rw[z9H.mem_iff]
        exact List.mem_map.2 ⟨d,hd,rfl⟩
      · have o:d∈hdN nx n n:=by rw[hc];exact List.mem_cons_of_mem _ hd
        have r:=zaR o
        have hb:=zf2 (code:=code) hG o
        have rb:=z8a hG r.1 r.2 hb
        exact zee hG r rb hb (z8r hG rb.1 rb.2) hx
theorem ziU {nx:Int→L9}{n:Nat}{code:Int→L9}(hG:Graph nx n)(hn:1≤n):(zcB nx n code).Nodup:=by
  unfold zcB
  have hc:=zmk (nx:=nx) hn
  have o:∀ {d:Int},d∈(hdN nx n n).drop 1→d∈hdN nx n n∧d≠0:=fun {d} hd=>by
    refine⟨List.mem_of_mem_drop hd,fun e=>?_⟩
    have:=zgV (nx:=nx) (n:=n) (i:=n)
    rw[hc] at this
    have:=(List.pairwise_cons.1 this).1 d hd
    omega
  have q:∀ {d x:Int},d∈hdN nx n n→x∈z2y nx n (zbv nx n code d)→x∈z2y nx n d:=fun {d x} hd hx=>by
    have r:=zaR hd
    have hb:=zf2 (code:=code) hG hd
    have rb:=z8a hG r.1 r.2 hb
    exact zee hG rb r (z8r hG rb.1 rb.2) hb hx
  have H:(0:Int)∈hdN nx n n:=by rw[hc];exact List.mem_cons_self
  refine List.nodup_append.2 ⟨zeP hG (by omega) (by omega),?_,fun a ha b hb=>?_⟩
  · have hp:((zjX (z6c nx n code)).flatMap fun t=>t.QS).Perm ((z6c nx n code).flatMap fun t=>t.QS):=z9H.flatMap_right _
    refine hp.symm.nodup ?_
    unfold z6c
    rw[List.flatMap_map]
    unfold List.Nodup
    rw[List.pairwise_flatMap]
    constructor
    · intro d hd
      have G:=(o hd).1
      have r:=zaR G
      have rb:=z8a hG r.1 r.2 (zf2 (code:=code) hG G)
      exact zeP hG rb.1 rb.2
    · have O:((hdN nx n n).drop 1).Pairwise (· < ·):=(zgV).sublist (List.drop_sublist _ _)
      refine O.imp_of_mem fun {a b} ha hb hab x hx y hy he=>?_
      subst he
      have:=zsV hG (o ha).1 (o hb).1 (q (o ha).1 hx) (q (o hb).1 hy)
      omega
  · obtain⟨t,ht,hx⟩:=List.mem_flatMap.1 hb
    rw[z9H.mem_iff] at ht
    obtain⟨d,hd,rfl⟩:=List.mem_map.1 ht
    rintro rfl
    exact(o hd).2 (zsV hG H (o hd).1 ha (q (o hd).1 hx)).symm
theorem zsm {nx:Int→L9}{n:Nat}{code:Int→L9}(hG:Graph nx n)(hn:1≤n):(zcB nx n code).length=n:=by
  have hp:(zcB nx n code).Perm ((List.range n).map fun i:Nat=>(i:Int)):=by
    rw[List.perm_ext_iff_of_nodup (ziU hG hn) (by
      unfold List.Nodup
      rw[List.pairwise_map]
      exact(List.nodup_range (n:=n)).imp fun {a b} h e=>h (by exact_mod_cast e))]
    intro x
    rw[zns hG hn,List.mem_map]
    constructor
    · rintro⟨h0,h1⟩
      exact⟨x.toNat,List.mem_range.2 (by omega),by omega⟩
    · rintro⟨i,hi,rfl⟩
      have:=List.mem_range.1 hi
      omega
  have:=hp.length_eq
  simpa using this
end Go.E



namespace Go.E
open Go.RowKit Go.Proofs

def nxN (A:LA)(x:Int):L9:=match A[x.toNat]? with
  | some a=>a.Qy.map fun p=>p.Qe
  | none=>[]
structure NetOk (A:LA):Prop where
  graph:Graph (nxN A) A.length
  one:1≤A.length
  len:A.length≤600
  Qu:∀ a∈A,a.Qy.length≤4
  data:∀ a∈A,a.Data.length≤4
theorem zrc {A:LA}{x:Int}{a:D.Qe}(h:A[x.toNat]? = some a):nxN A x=a.Qy.map fun p=>p.Qe:=by unfold nxN;rw[h]
theorem zgU {α:Type}{xs:List α}{i:Int}(h0:0≤i)(h:i<xs.length):∃ x,xs[i.toNat]? = some x∧idx xs i=some x:=by
  obtain⟨x,hx⟩:=z1j (xs:=xs) (i:=i.toNat) (by omega)
  exact⟨x,hx,by unfold idx;rw[if_pos h0,hx]⟩
theorem zsS {α:Type}{xs:List α}{i:Int}{x:α}(h0:0≤i)(h:xs[i.toNat]? = some x):idx xs i=some x:=by unfold idx;rw[if_pos h0,h]
theorem zkA {A:LA}(hN:NetOk A){x:Int}{a:D.Qe}{p:Qx}(h0:0≤x)(h1:x<A.length)(ha:A[x.toNat]? = some a)(hp:p∈a.Qy):0≤p.Qe∧p.Qe<A.length:=
  hN.graph.rng x h0 h1 _ (by rw[zrc ha];exact List.mem_map.2 ⟨p,hp,rfl⟩)


def zjZ (n:Nat)(l:L9):L9:=(List.range n).map fun i:Nat=>if(i:Int)∈l then((l.idxOf (i:Int):Nat):Int) else -1
theorem zm3 {n:Nat}{l:L9}:(zjZ n l).length=n:=by simp[zjZ]
theorem zpO {n:Nat}{l:L9}{x:Int}(h0:0≤x)(h1:x<n):(zjZ n l)[x.toNat]? = some (if x∈l then((l.idxOf x:Nat):Int) else -1):=by
  unfold zjZ
  rw[List.getElem?_map,List.getElem?_range (by omega),Option.map_some,show((x.toNat:Nat):Int)=x by omega]
theorem zsg {n:Nat}{l:L9}{y:Int}(h0:0≤y)(h1:y<n)(hy:y ∉ l):(zjZ n l).set y.toNat (l.length:Int)=zjZ n (l++[y]):=by
  apply List.ext_getElem?
  intro i
  rcases Nat.lt_or_ge i n with h | h
  · have e:=zpO (n:=n) (l:=l++[y]) (x:=(i:Int)) (by omega) (by omega)
    have e':=zpO (n:=n) (l:=l) (x:=(i:Int)) (by omega) (by omega)
    rw[Int.toNat_natCast] at e e'
    rw[e]
    by_cases hi:y.toNat=i
    · rw[hi,List.getElem?_set_self (by rw[zm3];exact h)]
      obtain rfl:y=(i:Int):=by omega
      rw[if_pos (by simp),ze3 hy,if_neg hy,if_pos rfl]
    · have o:(i:Int)≠y:=by omega
      rw[List.getElem?_set_ne hi,e',ze3 hy]
      by_cases hm:(i:Int)∈l
      · rw[if_pos hm,if_pos (by simp[hm]),if_pos hm]
      · rw[if_neg hm,if_neg (by simp[hm,o])]
  · rw[List.getElem?_eq_none (by simp[zm3];omega),List.getElem?_eq_none (by simp[zm3];omega)]
structure Met (n:Nat) (l:L9):Prop where
  nodup:l.Nodup
  rng:∀ x∈l,0≤x∧x<n
theorem Met.len {n:Nat}{l:L9}(h:Met n l):l.length≤n:=zhV h.nodup h.rng
theorem Met.add {n:Nat}{l:L9}{y:Int}(h:Met n l)(hy:0≤y∧y<n):Met n (if y∈l then l else l++[y]):=by
  split
  · exact h
  · rename_i hn
    refine⟨List.nodup_append.2 ⟨h.nodup,by simp,fun a ha b hb=>?_⟩,fun x hx=>?_⟩
    · rw[List.mem_singleton] at hb;subst hb;rintro rfl;exact hn ha
    · rcases List.mem_append.1 hx with hx | hx
      · exact h.rng x hx
      · rw[List.mem_singleton] at hx;subst hx;exact hy
theorem zfL {fu:Nat}{A:LA}{s:Int}(hf:Big fu)(hN:NetOk A)(h0:0≤s)(h1:s<A.length):
    z1U fu ⟨A⟩ s=some (z2y (nxN A) A.length s,zjZ A.length (z2y (nxN A) A.length s)):=by
  have hn:=hN.len
  unfold z1U
  obtain⟨o,e1,rfl⟩:=zf (body:=z3u fu ⟨A⟩) (fun i st=>st=((i:Int),List.replicate i (-1))) A.length (fun o=>o=.inl (List.replicate A.length (-1))) (by
    rintro i st hi rfl
    refine .inl ⟨(w64 (i+1),List.replicate i (-1)++[-1]),?_,?_⟩
    · unfold z3u
      dsimp only
      rw[if_pos (by simpa using hi),if_pos (by simp;omega)]
    · rw[zb (by omega) (by omega),List.replicate_succ'];rfl) (by
    rintro st rfl
    refine .inr ⟨_,?_,rfl⟩
    unfold z3u
    rw[if_neg (by simp)]) (fu:=fu) (i:=0) (s:=(0,[])) (Nat.zero_le _) (by omega) rfl
  rw[e1,bsm,z8]
  unfold z8x
  rw[if_pos (by simp;omega)]
  have O:(List.replicate A.length (-1)).set s.toNat 0=zjZ A.length [s]:=by
    have h:=zsg (n:=A.length) (l:=[]) (y:=s) h0 h1 (by simp)
    have e:zjZ A.length []=List.replicate A.length (-1):=by
      unfold zjZ
      apply List.ext_getElem?
      intro i
      rcases Nat.lt_or_ge i A.length with h | h
      · rw[List.getElem?_map,List.getElem?_range h,List.getElem?_replicate,if_pos h];simp
      · rw[List.getElem?_eq_none (by simpa using h),List.getElem?_eq_none (by simpa using h)]
    rw[e] at h
    exact h
  rw[O]
  obtain⟨t,e2,rfl⟩:=zmm (nx:=nxN A) (n:=A.length) (s0:=s) (body:=z3t fu ⟨A⟩) (fun k l st=>st=((k:Int),zjZ A.length l,l)) (fun l t=>t=(zjZ A.length l,l)) hN.graph (by
    rintro k l x st hT hx rfl
    have hr:=hT.rng x (List.mem_of_getElem? hx)
    have H:=(List.getElem?_eq_some_iff.1 hx).1
    have Z:=hT.len
    obtain⟨a,a1,a2⟩:=zgU (xs:=A) hr.1 hr.2
    have a0:=hN.Qu a (List.mem_of_getElem? a1)
    obtain⟨t,e3,rfl⟩:=zoJ (xs:=a.Qy) (ag:=fun p=>p.Qe) (body:=z3s fu a) (fun i l st=>st=((i:Int),zjZ A.length l,l)∧Met A.length l) (fun l t=>t=(zjZ A.length l,l)) (by
      rintro i p l st hp ⟨rfl,hM⟩
      have G:=(List.getElem?_eq_some_iff.1 hp).1
      have q:=zkA hN hr.1 hr.2 a1 (List.mem_of_getElem? hp)
      have hl:=hM.len
      have X:=zpO (l:=l) q.1 q.2
      refine⟨(w64 (i+1),zjZ A.length (if p.Qe∈l then l else l++[p.Qe]),(if p.Qe∈l then l else l++[p.Qe])),?_,by rw[zb (by omega) (by omega)];rfl,hM.add q⟩
      unfold z3s z3r
      dsimp only
      rw[if_pos (by simpa using G),za hp,bsm,zsS q.1 X,bsm]
      by_cases hm:p.Qe∈l
      · rw[if_pos hm,if_neg (by simp),if_pos hm]
      · rw[if_neg hm,if_pos (by simp),if_neg hm,if_pos (by simp only[zm3,decide_eq_true_eq];omega),if_pos (by simp;omega),zsg q.1 q.2 hm]) (by
      rintro l st ⟨rfl,hM⟩
      refine⟨_,?_,rfl⟩
      unfold z3s
      rw[if_neg (by simp)]) (ys:=a.Qy) (i:=0) (l:=l) (s:=(0,zjZ A.length l,l)) (fu:=fu) (by simp) (by simp) (by omega) ⟨rfl,hT.nodup,hT.rng⟩
    refine⟨(w64 (k+1),zjZ A.length (vis l (nxN A x)),vis l (nxN A x)),?_,by rw[zb (by omega) (by omega)];rfl⟩
    unfold z3t z8w
    dsimp only
    rw[if_pos (by simpa using H),za hx,bsm,a2,bsm,e3,bsm,z8,zrc a1]) (by
    rintro k l st hT Y rfl
    refine⟨_,?_,rfl⟩
    unfold z3t
    rw[if_neg (by simp;omega)]) (f:=A.length+1) (k:=0) (l:=[s]) (s:=(0,zjZ A.length [s],[s])) (fu:=fu) (by omega) (by omega) (TrvI.begin h0 h1) rfl
  rw[e2,bsm,z8]
  rfl
def Seen (M:List (Int×Bool))(l:L9):Prop:=∀ x,(mget M x).getD false=decide (x∈l)
theorem zpK {M:List (Int×Bool)}{l:L9}{y:Int}(h:Seen M l):Seen (mput M y true) (l++[y]):=by
  intro x
  rw[zdh]
  by_cases hxy:y=x
  · subst hxy;simp
  · rw[if_neg hxy,h x]
    simp[Ne.symm hxy]
theorem zfM {fu:Nat}{A:LA}{s:Int}(hf:Big fu)(hN:NetOk A)(h0:0≤s)(h1:s<A.length):
    z2o fu ⟨A⟩ s=some (z2y (nxN A) A.length s):=by
  have hn:=hN.len
  unfold z2o
  obtain⟨t,e2,rfl⟩:=zmm (nx:=nxN A) (n:=A.length) (s0:=s) (body:=z37 fu ⟨A⟩) (fun k l st=>∃ M,st=((k:Int),M,l)∧Seen M l) (fun l t=>t=l) hN.graph (by
    rintro k l x st hT hx ⟨M,rfl,hM⟩
    have hr:=hT.rng x (List.mem_of_getElem? hx)
    have H:=(List.getElem?_eq_some_iff.1 hx).1
    have Y:=hT.len
    obtain⟨a,a1,a2⟩:=zgU (xs:=A) hr.1 hr.2
    have Z:=hN.Qu a (List.mem_of_getElem? a1)
    obtain⟨t,e3,M2,rfl,q⟩:=zoJ (xs:=a.Qy) (ag:=fun p=>p.Qe) (body:=z34 fu a) (fun i l st=>(∃ M,st=((i:Int),M,l)∧Seen M l)∧Met A.length l) (fun l t=>∃ M,t=(M,l)∧Seen M l) (by
      rintro i p l st hp ⟨⟨M,rfl,hS⟩,hM⟩
      have G:=(List.getElem?_eq_some_iff.1 hp).1
      have O:=zkA hN hr.1 hr.2 a1 (List.mem_of_getElem? hp)
      have hl:=hM.len
      have o:=hM.add O
      unfold z34 z33
      dsimp only
      rw[if_pos (by simpa using G),za hp,bsm,hS p.Qe]
      by_cases hm:p.Qe∈l
      · rw[if_pos hm] at o ⊢
        exact⟨(w64 (i+1),M,l),by rw[if_neg (by simp[hm])],⟨M,by rw[zb (by omega) (by omega)];rfl,hS⟩,o⟩
      · rw[if_neg hm] at o ⊢
        exact⟨(w64 (i+1),mput M p.Qe true,l++[p.Qe]),by rw[if_pos (by simp[hm]),if_pos (by simp;omega)],⟨_,by rw[zb (by omega) (by omega)];rfl,zpK hS⟩,o⟩) (by
      rintro l st ⟨⟨M,rfl,hS⟩,hM⟩
      refine⟨_,?_,M,rfl,hS⟩
      unfold z34
      rw[if_neg (by simp)]) (ys:=a.Qy) (i:=0) (l:=l) (s:=(0,M,l)) (fu:=fu) (by simp) (by simp) (by omega) ⟨⟨M,rfl,hM⟩,hT.nodup,hT.rng⟩
    refine⟨(w64 (k+1),M2,vis l (nxN A x)),?_,M2,by rw[zb (by omega) (by omega)];rfl,by rw[zrc a1];exact q⟩
    unfold z37 z85
    dsimp only
    rw[if_pos (by simpa using H),za hx,bsm,a2,bsm,e3,bsm,z8,zrc a1]) (by
    rintro k l st hT X ⟨M,rfl,hM⟩
    refine⟨_,?_,rfl⟩
    unfold z37
    rw[if_neg (by simp;omega)]) (f:=A.length+1) (k:=0) (l:=[s]) (s:=(0,mput [] s true,[s])) (fu:=fu) (by omega) (by omega) (TrvI.begin h0 h1) ⟨_,rfl,zpK (l:=[]) (fun x=>by simp[mget])⟩
  rw[e2,bsm,z8]
  rfl


def zp7 (l:L9)(p:Qx):L9:=[((l.idxOf p.Qe:Nat):Int),p.Qa2]
def agC (l:L9)(a:D.Qe):L9:=[a.Qi,a.QC,a.Value,(a.Data.length:Int)]++a.Data++a.Qy.flatMap (zp7 l)
def agX (A:LA)(l:L9)(x:Int):L9:=match A[x.toNat]? with
  | some a=>agC l a
  | none=>[]
theorem zx7 {A:LA}{l:L9}{x:Int}{a:D.Qe}(h:A[x.toNat]? = some a):agX A l x=agC l a:=by unfold agX;rw[h]
def zwO (A:LA)(l:L9):L9:=l.flatMap (agX A l)
def zF (A:LA)(x:Int):L9:=zwO A (z2y (nxN A) A.length x)

theorem zdU {α S τ ρ β:Type}{xs:List α}{body:S→Option (Rd S τ ρ)}{mk:Int→List β→S}{out:List β→τ}{g:α→List β}{s0:List β}{b:Nat}{fu:Nat}(hl:xs.length≤1048576)(hf:Big fu)
    (hb:∀ x∈xs,(g x).length≤b)
    (step:∀ (i:Nat) x (s:List β),xs[i]? = some x→s.length≤s0.length+b*i→body (mk i s)=some (.next (mk (w64 (i+1)) (s++g x))))(q:∀ s,body (mk xs.length s)=some (.brk (out s))):
    iter body fu (mk 0 s0)=some (.inl (out (s0++xs.flatMap g))):=by
  obtain⟨o,h1,h2⟩:=zf (body:=body) (fun i s=>s=mk i (s0++(xs.take i).flatMap g)∧((xs.take i).flatMap g).length≤b*i) xs.length (fun o=>o=.inl (out (s0++xs.flatMap g))) (by
    rintro i s hi ⟨rfl,G⟩
    obtain⟨x,hx⟩:=z1j hi
    have e:(xs.take (i+1)).flatMap g=(xs.take i).flatMap g++g x:=by rw[List.take_add_one,hx,List.flatMap_append];simp
    refine .inl ⟨_,step i x _ hx (by rw[List.length_append];omega),?_,?_⟩
    · rw[zb (by omega) (by omega),e,List.append_assoc];rfl
    · rw[e,List.length_append,Nat.mul_succ];have:=hb x (List.mem_of_getElem? hx);omega) (by
    rintro s ⟨rfl,G⟩
    rw[List.take_length]
    exact .inr ⟨_,q _,rfl⟩) (fu:=fu) (i:=0) (s:=mk 0 s0) (Nat.zero_le _) (by omega) (by simp)
  rw[h1,h2]
theorem zxR {A:LA}(hN:NetOk A){l:L9}{a:D.Qe}(ha:a∈A):(agC l a).length≤16:=by
  unfold agC
  have h1:=hN.Qu a ha
  have h2:=hN.data a ha
  have h3:(a.Qy.flatMap (zp7 l)).length=2*a.Qy.length:=by
    generalize a.Qy=ps
    induction ps with
    | nil=>rfl
    | cons p ps ih=>rw[List.flatMap_cons,List.length_append,ih];simp[zp7];omega
  rw[List.length_append,List.length_append,h3]
  simp only[List.length_cons,List.length_nil]
  omega
end Go.E



namespace Go.E
open Go.RowKit Go.Proofs

variable {fu:Nat}
structure Clo (A:LA) (l:L9):Prop where
  nodup:l.Nodup
  rng:∀ x∈l,0≤x∧x<A.length
  closed:∀ x∈l,∀ a,A[x.toNat]? = some a→∀ p∈a.Qy,p.Qe∈l
theorem Clo.len {A:LA}{l:L9}(h:Clo A l):l.length≤A.length:=zhV h.nodup h.rng
theorem zkT {A:LA}{s:Int}(hN:NetOk A)(h0:0≤s)(h1:s<A.length):Clo A (z2y (nxN A) A.length s) where
  nodup:=zeP hN.graph h0 h1
  rng x hx:=z8a hN.graph h0 h1 hx
  closed x hx a ha p hp:=by
    rw[zhR hN.graph h0 h1] at hx ⊢
    exact .step hx (by rw[zrc ha];exact List.mem_map.2 ⟨p,hp,rfl⟩)
theorem zg1 {l:L9}{ps:LF}:∀ x∈ps,(zp7 l x).length≤2:=fun x _=>by simp[zp7]
theorem zuZ {A:LA}(hN:NetOk A){l:L9}{x:Int}:(agX A l x).length≤16:=by
  unfold agX
  cases h:A[x.toNat]? with
  | some a=>exact zxR hN (List.mem_of_getElem? h)
  | none=>simp
theorem zot {A:LA}{s:Int}(hf:Big fu)(hN:NetOk A)(h0:0≤s)(h1:s<A.length):
    z80 fu ⟨A⟩ s=some (zF A s):=by
  have hn:=hN.len
  have hC:=zkT hN h0 h1
  have q:=hC.len
  unfold z80 zF
  rw[zfL hf hN h0 h1,bsm]
  generalize z2y (nxN A) A.length s=l at hC q ⊢
  have h:=zdU (xs:=l) (body:=z6H fu ⟨A⟩ (l,zjZ A.length l)) (mk:=fun k st=>(k,st)) (out:=fun st=>st) (g:=agX A l) (s0:=[]) (b:=16) (fu:=fu) (by omega) hf (fun x _=>zuZ hN) (by
    rintro k x st hx b0
    have a0:=(List.getElem?_eq_some_iff.1 hx).1
    have X:=List.mem_of_getElem? hx
    have hr:=hC.rng x X
    obtain⟨a,a1,a2⟩:=zgU (xs:=A) hr.1 hr.2
    have am:=List.mem_of_getElem? a1
    have f0:=hN.Qu a am
    have e0:=hN.data a am
    simp only[List.length_nil,Nat.zero_add] at b0
    unfold z6H
    dsimp only
    rw[if_pos (by simpa using a0),za hx,bsm,a2,bsm,if_pos (by simp;omega),if_pos (by simp;omega)]
    have hi:=zdU (xs:=a.Qy) (body:=z6G fu (l,zjZ A.length l) a) (mk:=fun k st=>(k,st)) (out:=fun st=>st) (g:=zp7 l) (s0:=st++[a.Qi,a.QC,a.Value,(a.Data.length:Int)]++a.Data) (b:=2) (fu:=fu) (by omega) hf zg1 (by
      rintro i p c0 hp o
      have Y:=(List.getElem?_eq_some_iff.1 hp).1
      have O:=List.mem_of_getElem? hp
      have G:=zkA hN hr.1 hr.2 a1 O
      have Z:=hC.closed x X a a1 p O
      have H:=zpO (l:=l) G.1 G.2
      rw[if_pos Z] at H
      rw[List.length_append,List.length_append] at o
      simp only[List.length_cons,List.length_nil] at o
      unfold z6G
      dsimp only
      rw[if_pos (by simpa using Y),za hp,bsm,zsS G.1 H,bsm,bsm,if_pos (by simp;omega)]
      rfl) (by
      intro c0
      unfold z6G
      rw[if_neg (by simp)])
    try dsimp only at hi
    rw[hi,bsm,z8]
    unfold zaU
    dsimp only
    rw[zx7 a1]
    unfold agC
    simp only[List.append_assoc]) (by
    intro st
    unfold z6H
    rw[if_neg (by simp)])
  try dsimp only at h
  rw[h,bsm,z8]
  rfl
def Placed (M:List (Int×Int))(l:L9)(k:Nat):Prop:=∀ x,(mget M x)=if x∈l.take k then some ((l.idxOf x:Nat):Int) else none
theorem zr5 {M:List (Int×Int)}{l:L9}{k:Nat}{x:Int}(hn:l.Nodup)(h:Placed M l k)(hx:l[k]? = some x):Placed (mput M x k) l (k+1):=by
  have hk:=(List.getElem?_eq_some_iff.1 hx).1
  have hi:l.idxOf x=k:=by
    obtain⟨h1,rfl⟩:=List.getElem?_eq_some_iff.1 hx
    exact hn.idxOf_getElem k h1
  intro y
  rw[zdh,List.take_add_one,hx,h y]
  by_cases hxy:x=y
  · subst hxy
    rw[if_pos rfl,if_pos (by simp),hi]
  · rw[if_neg hxy]
    have:(y∈l.take k++(some x).toList)↔y∈l.take k:=by simp[Ne.symm hxy]
    simp only[this]
theorem zno {l:L9}(hf:Big fu)(hn:l.Nodup)(hl:l.length≤100000){τ ρ:Type}{body:Int×List (Int×Int)→Option (Rd (Int×List (Int×Int)) (List (Int×Int)) ρ)}
    (hb:∀ (k:Nat) M,body ((k:Int),M)=(if(decide ((k:Int)<(l.length:Int)))=true then((idx l (k:Int)).bind fun x=>some (.next (w64 (k+1),mput M x k))) else some (.brk M))):
    ∃ M,iter body fu (0,[])=some (.inl M)∧Placed M l l.length:=by
  obtain⟨o,e1,M,rfl,hM⟩:=zf (body:=body) (fun i st=>∃ M,st=((i:Int),M)∧Placed M l i) l.length (fun o=>∃ M,o=.inl M∧Placed M l l.length) (by
    rintro i st hi ⟨M,rfl,hM⟩
    obtain⟨x,hx⟩:=z1j hi
    refine .inl ⟨(w64 ((i:Int)+1),mput M x i),?_,mput M x i,by rw[zb (by omega) (by omega)];rfl,zr5 hn hM hx⟩
    rw[hb,if_pos (by simpa using hi),za hx,bsm]) (by
    rintro st ⟨M,rfl,hM⟩
    exact .inr ⟨M,by rw[hb,if_neg (by simp)],M,rfl,hM⟩) (fu:=fu) (i:=0) (s:=(0,[])) (Nat.zero_le _) (by omega) ⟨[],rfl,fun x=>by simp[mget]⟩
  exact⟨M,e1,hM⟩
theorem znn {M:List (Int×Int)}{l:L9}{x:Int}(h:Placed M l l.length)(hx:x∈l):(mget M x).getD 0=((l.idxOf x:Nat):Int):=by
  rw[h x,List.take_length,if_pos hx];rfl
theorem zou {A:LA}{l:L9}(hf:Big fu)(hN:NetOk A)(hC:Clo A l):
    z8R fu ⟨A⟩ l=some (zwO A l):=by
  have hn:=hN.len
  have Y:=hC.len
  unfold z8R
  obtain⟨M,e1,hM⟩:=zno (τ:=Unit) (body:=zau fu l) hf hC.nodup (by omega) (fun k M=>rfl)
  rw[e1,bsm,z8]
  unfold zat
  have h:=zdU (xs:=l) (body:=z68 fu ⟨A⟩ l M) (mk:=fun k st=>(st,k)) (out:=fun st=>st) (g:=agX A l) (s0:=[]) (b:=16) (fu:=fu) (by omega) hf (fun x _=>zuZ hN) (by
    rintro k x st hx Z
    have X:=(List.getElem?_eq_some_iff.1 hx).1
    have G:=List.mem_of_getElem? hx
    have hr:=hC.rng x G
    obtain⟨a,a1,a2⟩:=zgU (xs:=A) hr.1 hr.2
    have am:=List.mem_of_getElem? a1
    have c0:=hN.Qu a am
    have b0:=hN.data a am
    simp only[List.length_nil,Nat.zero_add] at Z
    unfold z68
    dsimp only
    rw[if_pos (by simpa using X),za hx,bsm,a2,bsm,if_pos (by simp;omega),if_pos (by simp;omega)]
    have hi:=zdU (xs:=a.Qy) (body:=z67 fu M a) (mk:=fun k st=>(k,st)) (out:=fun st=>st) (g:=zp7 l) (s0:=st++[a.Qi,a.QC,a.Value,(a.Data.length:Int)]++a.Data) (b:=2) (fu:=fu) (by omega) hf zg1 (by
      rintro i p a0 hp o
      have H:=(List.getElem?_eq_some_iff.1 hp).1
      have q:=List.mem_of_getElem? hp
      have e0:=zkA hN hr.1 hr.2 a1 q
      have O:=hC.closed x G a a1 p q
      rw[List.length_append,List.length_append] at o
      simp only[List.length_cons,List.length_nil] at o
      unfold z67
      dsimp only
      rw[if_pos (by simpa using H),za hp,bsm,znn hM O,if_pos (by simp;omega)]
      rfl) (by
      intro a0
      unfold z67
      rw[if_neg (by simp)])
    try dsimp only at hi
    rw[hi,bsm,z8]
    unfold zas
    dsimp only
    rw[zx7 a1]
    unfold agC
    simp only[List.append_assoc]) (by
    intro st
    unfold z68
    rw[if_neg (by simp)])
  try dsimp only at h
  rw[h,bsm,z8]
  rfl

theorem zqr {xs ys:L9}{i:Nat}{a b:Int}(ha:xs[i]? = some a)(hb:ys[i]? = some b):zd4 (xs.drop i) (ys.drop i)=if zkb a b≠0 then zkb a b else zd4 (xs.drop (i+1)) (ys.drop (i+1)):=by
  obtain⟨h1,rfl⟩:=List.getElem?_eq_some_iff.1 ha
  obtain⟨h2,rfl⟩:=List.getElem?_eq_some_iff.1 hb
  rw[List.drop_eq_getElem_cons h1,List.drop_eq_getElem_cons h2]
  rfl
theorem zuK (a:Int):zkb a a=0:=by unfold zkb;rw[if_neg (by omega),if_neg (by omega)]
theorem zqq {xs ys:L9}{i:Nat}(h:xs.length≤i):zd4 (xs.drop i) (ys.drop i)=if i<ys.length then -1 else 0:=by
  rw[List.drop_eq_nil_of_le h]
  cases hy:ys.drop i with
  | nil=>
    have:ys.length≤i:=by simpa using hy
    rw[if_neg (by omega)];rfl
  | cons y t=>
    have:i<ys.length:=by
      rcases Nat.lt_or_ge i ys.length with h | h
      · exact h
      · rw[List.drop_eq_nil_of_le h] at hy;cases hy
    rw[if_pos this];rfl
theorem zqp {xs ys:L9}{i:Nat}(h:i<xs.length)(h2:ys.length≤i):zd4 (xs.drop i) (ys.drop i)=1:=by
  rw[List.drop_eq_nil_of_le h2,List.drop_eq_getElem_cons h];rfl
theorem znB {xs ys:L9}(hf:Big fu)(hl:xs.length≤1000000):z7Z fu xs ys=some (decide (zd4 xs ys<0)):=by
  unfold z7Z
  obtain⟨o,e1,e2⟩:=zf (body:=z6F fu xs ys) (fun i st=>st=(i:Int)∧i≤ys.length∧zd4 xs ys=zd4 (xs.drop i) (ys.drop i)) xs.length (fun o=>aft o (z6E fu xs ys)=some (decide (zd4 xs ys<0))) (by
    rintro i st hi ⟨rfl,q,hc⟩
    unfold z6F z4y
    rw[if_pos (by simpa using hi)]
    by_cases hy:i<ys.length
    · obtain⟨a,ha⟩:=z1j hi
      obtain⟨b,hb⟩:=z1j hy
      rw[if_pos (by simpa using hy),za ha,bsm,za hb,bsm]
      rw[zqr ha hb] at hc
      by_cases hab:a=b
      · subst hab
        refine .inl ⟨(w64 (i+1)),by rw[if_neg (by simp)],by rw[zb (by omega) (by omega)];rfl,by omega,?_⟩
        rw[hc,if_neg (by rw[zuK];simp)]
      · refine .inr (.inl ⟨_,by rw[if_pos (by simpa using hab),bsm,bsm],?_⟩)
        show some (decide (a<b))=_
        have G:zkb a b≠0:=fun h=>hab (zps h)
        rw[hc,if_pos G]
        congr 1
        unfold zkb
        by_cases h:a<b
        · rw[if_pos h,dct h];rfl
        · rw[if_neg h,if_pos (by omega),decide_eq_false h];rfl
    · refine .inr (.inr ⟨(),by rw[if_neg (by simpa using hy)],?_⟩)
      rw[z8,hc,zqp hi (by omega)]
      unfold z6E
      rw[decide_eq_false (by omega)];rfl) (by
    rintro st ⟨rfl,q,hc⟩
    refine .inr ⟨(),?_,?_⟩
    · unfold z6F z4y
      rw[if_neg (by simp),if_neg (by simp)]
    · rw[z8,hc,zqq (Nat.le_refl _)]
      unfold z6E
      by_cases h:xs.length<ys.length
      · rw[if_pos h,dct (by omega)];rfl
      · rw[if_neg h,decide_eq_false (by omega)];rfl) (fu:=fu) (i:=0) (s:=0) (Nat.zero_le _) (by omega) ⟨rfl,Nat.zero_le _,rfl⟩
  rw[e1,bsm,e2]
theorem zqs {a b:Int}:z3k fu a b=some (zkb a b):=by
  unfold z3k z7a zkb
  rw[bsm,bsm,if_neg (by simp),if_neg (by simp)]
  by_cases h:a<b
  · rw[if_pos (by simpa using h),if_pos h]
  · rw[if_neg (by simpa using h),if_neg h]
    by_cases h2:a>b
    · rw[if_pos (by simpa using h2),if_pos h2]
    · rw[if_neg (by simpa using h2),if_neg h2]
theorem zqo {xs ys:L9}(hf:Big fu)(hl:xs.length≤1000000):z16 fu xs ys=some (zd4 xs ys):=by
  unfold z16
  obtain⟨o,e1,e2⟩:=zf (body:=z1h fu xs ys) (fun i st=>st=(i:Int)∧i≤ys.length∧zd4 xs ys=zd4 (xs.drop i) (ys.drop i)) xs.length (fun o=>aft o (z1L fu xs ys)=some (zd4 xs ys)) (by
    rintro i st hi ⟨rfl,q,hc⟩
    unfold z1h
    obtain⟨a,ha⟩:=z1j hi
    rw[if_pos (by simpa using hi),za ha,bsm]
    by_cases hy:i<ys.length
    · obtain⟨b,hb⟩:=z1j hy
      rw[if_neg (by simp;omega),za hb,bsm,zqs,bsm]
      rw[zqr ha hb] at hc
      by_cases hab:zkb a b=0
      · rw[if_neg (by simpa using hab)]
        refine .inl ⟨(w64 (i+1)),rfl,by rw[zb (by omega) (by omega)];rfl,by omega,?_⟩
        rw[hc,if_neg (by simpa using hab)]
      · rw[if_pos (by simpa using hab)]
        refine .inr (.inl ⟨_,rfl,?_⟩)
        rw[hc,if_pos hab];rfl
    · rw[if_pos (by simp;omega)]
      refine .inr (.inl ⟨_,rfl,?_⟩)
      rw[hc,zqp hi (by omega)];rfl) (by
    rintro st ⟨rfl,q,hc⟩
    refine .inr ⟨(),?_,?_⟩
    · unfold z1h
      rw[if_neg (by simp)]
    · rw[z8,hc,zqq (Nat.le_refl _)]
      unfold z1L
      by_cases h:xs.length<ys.length
      · rw[if_pos h,if_pos (by simpa using h)]
      · rw[if_neg h,if_neg (by simpa using h)]) (fu:=fu) (i:=0) (s:=0) (Nat.zero_le _) (by omega) ⟨rfl,Nat.zero_le _,rfl⟩
  rw[e1,bsm,e2]
end Go.E




namespace Go.E
open Go.RowKit Go.Proofs


theorem zsQ {fuel0:Nat}{rest:L9}:∀ {k fu:Nat}{a b:L9}{y:Int},a.length=k→k<fu→a.length+b.length+rest.length<1000000→(a++b).Pairwise (·≤·)→(∀ x∈b,y≤x)→
    ∃ q:L9,iter (z1q fuel0) fu ((k:Int),a++y::(b++rest))=some (.inl (q++rest))∧q.Pairwise (·≤·)∧q.Perm (a++y::b)
  | k,0,a,b,y,_,h,_,_,_=>absurd h (Nat.not_lt_zero _)
  | 0,fu+1,a,b,y,ha,hf,hl,hs,hy=>by
    obtain rfl:a=[]:=List.length_eq_zero_iff.1 ha
    refine⟨y::b,?_,List.pairwise_cons.2 ⟨hy,hs⟩,List.Perm.refl _⟩
    have e:z1q fuel0 (((0:Nat):Int),[]++y::(b++rest))=some (.brk (y::b++rest)):=by
      unfold z1q z2n
      rw[if_neg (by simp),if_neg (by simp)]
      rfl
    simp only[iter,e]
  | k+1,fu+1,a,b,y,ha,hf,hl,hs,hy=>by
    obtain⟨a',z,rfl⟩:∃ a' z,a=a'++[z]:=⟨a.dropLast,a.getLast (by intro h;subst h;cases ha),(List.dropLast_concat_getLast _).symm⟩
    simp only[List.length_append,List.length_cons,List.length_nil] at ha hl
    have hk:a'.length=k:=by omega
    have hw:w64 (((k+1:Nat):Int) - 1)=(k:Int):=by rw[zb (by omega) (by omega)];omega
    have h1:(a'++[z]++y::(b++rest))[k]? = some z:=by rw[List.append_assoc,List.getElem?_append_right (by omega),hk,Nat.sub_self];rfl
    have h2:(a'++[z]++y::(b++rest))[k+1]? = some y:=by rw[List.getElem?_append_right (by simp;omega)];simp[hk]
    have o:k+1<(a'++[z]++y::(b++rest)).length:=by simp;omega
    by_cases hzy:z>y
    · have e:z1q fuel0 (((k+1:Nat):Int),a'++[z]++y::(b++rest))=some (.next ((k:Int),a'++y::((z::b)++rest))):=by
        unfold z1q z2n
        dsimp only
        rw[hw,if_pos (by simp),za h1,bsm,za h2,bsm,if_pos (by simpa using hzy),bsm,bsm,if_pos (by simp only[decide_eq_true_eq];omega),if_pos (by simp only[decide_eq_true_eq,List.length_set];omega)]
        congr 3
        rw[Int.toNat_natCast,Int.toNat_natCast]
        have e1:(a'++[z]++y::(b++rest)).set (k+1) z=a'++[z]++z::(b++rest):=by
          rw[List.set_append_right _ _ (by simp;omega)];simp[hk]
        rw[e1,List.append_assoc,List.set_append_right _ _ (by omega),hk,Nat.sub_self]
        rfl
      obtain⟨q,q1,q2,q3⟩:=zsQ (fuel0:=fuel0) (rest:=rest) (k:=k) (fu:=fu) (a:=a') (b:=z::b) (y:=y) hk (by omega) (by simp only[List.length_cons];omega) (by simpa using hs) (fun x hx=>by
        rcases List.mem_cons.1 hx with rfl | hx
        · omega
        · exact hy x hx)
      refine⟨q,by simp only[iter,e];exact q1,q2,q3.trans ?_⟩
      rw[List.append_assoc]
      exact List.Perm.append_left _ (List.Perm.swap _ _ _)
    · have e:z1q fuel0 (((k+1:Nat):Int),a'++[z]++y::(b++rest))=some (.brk (a'++[z]++y::(b++rest))):=by
        unfold z1q z2n
        dsimp only
        rw[hw,if_pos (by simp),za h1,bsm,za h2,bsm,if_neg (by simpa using hzy)]
      refine⟨a'++[z]++y::b,by simp only[iter,e];simp,?_,List.Perm.refl _⟩
      rw[List.append_assoc,List.pairwise_append] at hs
      obtain⟨s1,s2,s3⟩:=hs
      have s2':=List.pairwise_cons.1 s2
      refine List.pairwise_append.2 ⟨List.pairwise_append.2 ⟨s1,by simp,fun x hx w hw=>s3 x hx w (by simp at hw;subst hw;exact List.mem_cons_self)⟩,List.pairwise_cons.2 ⟨hy,s2'.2⟩,fun x hx w hw=>?_⟩
      have G:x≤z:=by
        rcases List.mem_append.1 hx with h | h
        · exact s3 x h z (by simp)
        · simp at h;omega
      rcases List.mem_cons.1 hw with rfl | hw
      · omega
      · have:=s2'.1 w (by simpa using hw);omega
theorem zqU {fu:Nat}{xs:L9}(hf:Big fu)(hl:xs.length≤100000):z7J fu xs=some (z6z xs):=by
  unfold z7J z3m
  rw[if_pos (by simp;omega),bsm,List.nil_append]
  obtain⟨o,e1,rfl⟩:=zf (body:=z4V fu xs) (fun i st=>∃ out:L9,st=((i:Int),out)∧1≤i∧out.Perm xs∧(out.take i).Pairwise (·≤·)) (max 1 xs.length) (fun o=>o=.inl (z6z xs)) (by
    rintro i _ hi ⟨out,rfl,h1,hp,hs⟩
    have X:i<xs.length:=by omega
    have H:=hp.length_eq
    obtain⟨y,hy⟩:=z1j (xs:=out) (i:=i) (by omega)
    have G:out=out.take i++y::([]++out.drop (i+1)):=by
      obtain⟨Y,rfl⟩:=List.getElem?_eq_some_iff.1 hy
      rw[List.nil_append,← List.drop_eq_getElem_cons Y,List.take_append_drop]
    have O:(out.take i).length=i:=by rw[List.length_take];omega
    obtain⟨q,q1,q2,q3⟩:=zsQ (fuel0:=fu) (rest:=out.drop (i+1)) (k:=i) (fu:=fu) (a:=out.take i) (b:=[]) (y:=y) O (by omega) (by simp;omega) (by simpa using hs) (fun x hx=>by cases hx)
    rw[← G] at q1
    have Z:q.length=i+1:=by rw[q3.length_eq,List.length_append,O];rfl
    refine .inl ⟨(w64 (i+1),q++out.drop (i+1)),?_,q++out.drop (i+1),by rw[zb (by omega) (by omega)];rfl,by omega,?_,?_⟩
    · unfold z4V z9A
      dsimp only
      rw[if_pos (by simpa using X),q1,bsm,z8]
    · refine(q3.append_right _).trans (List.Perm.trans ?_ hp)
      rw[List.append_assoc]
      exact List.Perm.of_eq G.symm
    · rw[List.take_append_of_le_length (by omega),List.take_of_length_le (by omega)]
      exact q2) (by
    rintro _ ⟨out,rfl,h1,hp,hs⟩
    have H:=hp.length_eq
    rw[List.take_of_length_le (by omega)] at hs
    refine .inr ⟨out,?_,by rw[zqV hp hs]⟩
    unfold z4V
    rw[if_neg (by simp;omega)]) (fu:=fu) (i:=1) (s:=(1,xs)) (by omega) (by omega) ⟨xs,rfl,Nat.le_refl _,List.Perm.refl _,by
      cases xs with
      | nil=>simp
      | cons x xs=>simp⟩
  rw[e1,bsm,z8]
  rfl


def zh5 (nx:Int→L9)(n:Nat)(hs:L9):LJ:=(List.range n).map fun x:Nat=>hs.any fun h=>decide ((x:Int)∈z2y nx n h)
theorem zuF {nx:Int→L9}{n:Nat}{hs:L9}{i:Nat}(hi:i<n):(zh5 nx n hs)[i]? = some (hs.any fun h=>decide ((i:Int)∈z2y nx n h)):=by
  unfold zh5
  rw[List.getElem?_map,List.getElem?_range hi];rfl
theorem zqk {nx:Int→L9}{n:Nat}{hs:L9}:(zh5 nx n hs).length=n:=by simp[zh5]
theorem zpX {fu n:Nat}{l:L9}{d:LJ}(hf:Big fu)(hl:l.length≤100000)(hr:∀ x∈l,0≤x∧x<n)(hd:d.length=n){ρ:Type}{body:Int×LJ→Option (Rd (Int×LJ) LJ ρ)}
    (hb:∀ (k:Nat) d,body ((k:Int),d)=(if(decide ((k:Int)<(l.length:Int)))=true then((idx l (k:Int)).bind fun x=>(if decide (0≤x∧x.toNat<d.length)=true then some (.next (w64 (k+1),d.set x.toNat true)) else none)) else some (.brk d))):
    iter body fu (0,d)=some (.inl ((List.range n).map fun i:Nat=>(d.getD i false) || decide ((i:Int)∈l))):=by
  obtain⟨o,e1,rfl⟩:=zf (body:=body) (fun k st=>st=((k:Int),(List.range n).map fun i:Nat=>(d.getD i false) || decide ((i:Int)∈l.take k))) l.length (fun o=>o=.inl ((List.range n).map fun i:Nat=>(d.getD i false) || decide ((i:Int)∈l))) (by
    rintro k st hk rfl
    obtain⟨x,hx⟩:=z1j hk
    have G:=hr x (List.mem_of_getElem? hx)
    refine .inl ⟨(w64 ((k:Int)+1),((List.range n).map fun i:Nat=>(d.getD i false) || decide ((i:Int)∈l.take k)).set x.toNat true),?_,?_⟩
    · rw[hb,if_pos (by simpa using hk),za hx,bsm,if_pos (by simp;omega)]
    · rw[zb (by omega) (by omega)]
      congr 1
      apply List.ext_getElem?
      intro i
      rcases Nat.lt_or_ge i n with h | h
      · by_cases hi:x.toNat=i
        · rw[hi,List.getElem?_set_self (by simpa using h),List.getElem?_map,List.getElem?_range h]
          obtain rfl:x=(i:Int):=by omega
          rw[List.take_add_one,hx];simp
        · rw[List.getElem?_set_ne hi,List.getElem?_map,List.getElem?_map,List.getElem?_range h]
          have q:(i:Int)≠x:=by omega
          rw[List.take_add_one,hx];simp[q]
      · rw[List.getElem?_eq_none (by simpa using h),List.getElem?_eq_none (by simpa using h)]) (by
    rintro st rfl
    rw[List.take_length]
    exact .inr ⟨_,by rw[hb,if_neg (by simp)],rfl⟩) (fu:=fu) (i:=0) (s:=(0,d)) (Nat.zero_le _) (by omega) (by
      congr 1
      apply List.ext_getElem?
      intro i
      rcases Nat.lt_or_ge i n with h | h
      · rw[List.getElem?_map,List.getElem?_range h,Option.map_some,List.getD_eq_getElem?_getD,List.getElem?_eq_getElem (by omega)];simp
      · rw[List.getElem?_eq_none (by omega),List.getElem?_eq_none (by simpa using h)])
  exact e1
theorem zom {nx:Int→L9}{n:Nat}{hs:L9}{h:Int}:((List.range n).map fun i:Nat=>((zh5 nx n hs).getD i false) || decide ((i:Int)∈z2y nx n h))=zh5 nx n (hs++[h]):=by
  unfold zh5
  apply List.map_congr_left
  intro i hi
  have hi:=List.mem_range.1 hi
  rw[List.getD_eq_getElem?_getD,List.getElem?_map,List.getElem?_range hi,List.any_append]
  simp
theorem zmi {nx:Int→L9}{n i:Nat}:hdN nx n (i+1)=if((hdN nx n i).any fun h=>decide ((i:Int)∈z2y nx n h))=true then hdN nx n i else hdN nx n i++[(i:Int)]:=by
  rw[hdN]
  by_cases h:∃ h∈hdN nx n i,(i:Int)∈z2y nx n h
  · rw[if_pos h,if_pos (by simpa using h)]
  · rw[if_neg h,if_neg (by simpa using h)]
theorem zkz {nx:Int→L9}{n:Nat}{hs:L9}{i:Int}:(hs++[i]).map (z8o nx n)=hs.map (z8o nx n)++[z6z (z2y nx n i)]:=by rw[List.map_append];rfl
theorem zr7 {fu:Nat}{A:LA}(hf:Big fu)(hN:NetOk A):z8y fu ⟨A⟩=some (z6A (nxN A) A.length A.length):=by
  have hn:=hN.len
  unfold z8y
  rw[if_pos (by simp;omega)]
  obtain⟨o,e1,rfl⟩:=zf (body:=z5A fu ⟨A⟩) (fun i st=>st=((i:Int),zh5 (nxN A) A.length (hdN (nxN A) A.length i),z6A (nxN A) A.length i)) A.length (fun o=>o=.inl (z6A (nxN A) A.length A.length)) (by
    rintro i st hi rfl
    have G:=znH (nx:=nxN A) (n:=A.length) (i:=i)
    unfold z5A
    dsimp only
    rw[if_pos (by simpa using hi),za (zuF hi),bsm]
    by_cases hd:((hdN (nxN A) A.length i).any fun h=>decide ((i:Int)∈z2y (nxN A) A.length h))=true
    · rw[if_pos hd]
      refine .inl ⟨_,rfl,?_⟩
      rw[zb (by omega) (by omega)]
      unfold z6A
      rw[zmi,if_pos hd];rfl
    · rw[if_neg hd,zfL hf hN (by omega) (by omega),bsm]
      have q:=zeQ hN.graph (show(0:Int)≤i by omega) (by omega)
      have hm:=zpX (n:=A.length) (l:=z2y (nxN A) A.length i) (d:=zh5 (nxN A) A.length (hdN (nxN A) A.length i)) (body:=za9 fu (z2y (nxN A) A.length i,zjZ A.length (z2y (nxN A) A.length i))) hf (by omega) (fun x hx=>z8a hN.graph (by omega) (by omega) hx) zqk (fun k d=>rfl)
      rw[zom] at hm
      rw[hm,bsm,z8]
      unfold za8 z5z
      dsimp only
      rw[zqU hf (by omega),bsm,if_pos (by unfold z6A;simp;omega)]
      refine .inl ⟨_,rfl,?_⟩
      rw[zb (by omega) (by omega)]
      unfold z6A
      rw[zmi,if_neg hd,zkz];rfl) (by
    rintro st rfl
    refine .inr ⟨_,?_,rfl⟩
    unfold z5A
    rw[if_neg (by simp)]) (fu:=fu) (i:=0) (s:=(0,List.replicate ((A.length:Nat):Int).toNat false,[])) (Nat.zero_le _) (by omega) (by
      congr 2
      unfold zh5 hdN
      rw[Int.toNat_natCast]
      apply List.ext_getElem?
      intro i
      rcases Nat.lt_or_ge i A.length with h | h
      · rw[List.getElem?_replicate,if_pos h,List.getElem?_map,List.getElem?_range h];rfl
      · rw[List.getElem?_eq_none (by simpa using h),List.getElem?_eq_none (by simpa using h)])
  rw[e1,bsm,z8]
  rfl
theorem zr8 {fu:Nat}{A:LA}(hf:Big fu)(hN:NetOk A):z3B fu ⟨A⟩=some (z6A (nxN A) A.length A.length):=by
  have hn:=hN.len
  unfold z3B
  rw[if_pos (by simp;omega)]
  obtain⟨o,e1,rfl⟩:=zf (body:=z2t fu ⟨A⟩) (fun i st=>st=(z6A (nxN A) A.length i,(i:Int),zh5 (nxN A) A.length (hdN (nxN A) A.length i))) A.length (fun o=>o=.inl (z6A (nxN A) A.length A.length)) (by
    rintro i st hi rfl
    have G:=znH (nx:=nxN A) (n:=A.length) (i:=i)
    unfold z2t
    dsimp only
    rw[if_pos (by simpa using hi),za (zuF hi),bsm]
    by_cases hd:((hdN (nxN A) A.length i).any fun h=>decide ((i:Int)∈z2y (nxN A) A.length h))=true
    · rw[if_pos hd]
      refine .inl ⟨_,rfl,?_⟩
      try dsimp only
      rw[zb (by omega) (by omega)]
      unfold z6A
      rw[zmi,if_pos hd];rfl
    · rw[if_neg hd,zfM hf hN (by omega) (by omega),bsm]
      have q:=zeQ hN.graph (show(0:Int)≤i by omega) (by omega)
      have hm:=zpX (n:=A.length) (l:=z2y (nxN A) A.length i) (d:=zh5 (nxN A) A.length (hdN (nxN A) A.length i)) (body:=z78 fu (z2y (nxN A) A.length i)) hf (by omega) (fun x hx=>z8a hN.graph (by omega) (by omega) hx) zqk (fun k d=>rfl)
      rw[zom] at hm
      rw[hm,bsm,z8]
      unfold z75 z2s z3n
      dsimp only
      rw[if_pos (by omega),bsm,if_pos (by unfold z6A;simp;omega)]
      refine .inl ⟨_,rfl,?_⟩
      try dsimp only
      rw[zb (by omega) (by omega)]
      unfold z6A
      rw[zmi,if_neg hd,zkz];rfl) (by
    rintro st rfl
    refine .inr ⟨_,?_,rfl⟩
    unfold z2t
    rw[if_neg (by simp)]) (fu:=fu) (i:=0) (s:=([],0,List.replicate ((A.length:Nat):Int).toNat false)) (Nat.zero_le _) (by omega) (by
      congr 2
      unfold zh5 hdN
      rw[Int.toNat_natCast]
      apply List.ext_getElem?
      intro i
      rcases Nat.lt_or_ge i A.length with h | h
      · rw[List.getElem?_replicate,if_pos h,List.getElem?_map,List.getElem?_range h];rfl
      · rw[List.getElem?_eq_none (by simpa using h),List.getElem?_eq_none (by simpa using h)])
  rw[e1,bsm,z8]
  rfl
end Go.E



namespace Go.E
open Go.RowKit Go.Proofs Go.Sort

section
variable {A:LA}
theorem zi8 {code:Int→L9}{x:Int}:∀ {xs:L9}{b:Int},zhP code b (xs++[x])=if zd4 (code x) (code (zhP code b xs))<0 then x else zhP code b xs
  | [],b=>rfl
  | y::ys,b=>by
    rw[List.cons_append]
    unfold zhP
    split
    · exact zi8
    · exact zi8
theorem zi7 {s:Int}(hN:NetOk A)(h0:0≤s)(h1:s<A.length):(zF A s).length≤9600:=by
  have hl:=(zkT hN h0 h1).len
  have hn:=hN.len
  unfold zF zwO
  have key:∀ l:L9,(l.flatMap (agX A (z2y (nxN A) A.length s))).length≤16*l.length:=by
    intro l
    induction l with
    | nil=>simp
    | cons x xs ih=>
      rw[List.flatMap_cons,List.length_append,List.length_cons]
      have:=zuZ hN (l:=z2y (nxN A) A.length s) (x:=x)
      omega
  have:=key (z2y (nxN A) A.length s)
  omega
theorem zm5 {h x:Int}(hN:NetOk A)(hm:h∈hdN (nxN A) A.length A.length)(hx:x∈z8o (nxN A) A.length h):0≤x∧x<A.length:=by
  have r:=zaR hm
  exact z8a hN.graph r.1 r.2 (zpQ.1 hx)
theorem zwV {h:Int}(hN:NetOk A)(hm:h∈hdN (nxN A) A.length A.length)(k:Nat):0≤zhP (zF A) h (((z8o (nxN A) A.length h).drop 1).take k)∧zhP (zF A) h (((z8o (nxN A) A.length h).drop 1).take k)<A.length:=by
  rcases zmG (code:=zF A) (xs:=((z8o (nxN A) A.length h).drop 1).take k) (b:=h) with e | e
  · rw[e];exact zaR hm
  · exact zm5 hN hm (List.mem_of_mem_drop (List.mem_of_mem_take e))
theorem zpR {h:Int}(hN:NetOk A)(hm:h∈hdN (nxN A) A.length A.length):(z8o (nxN A) A.length h).length≤600:=by
  have r:=zaR hm
  have:=zeQ hN.graph r.1 r.2
  have hn:=hN.len
  unfold z8o
  rw[zp0];omega
theorem zn7 {xs:L9}{i:Nat}{x:Int}(h:xs[i+1]? = some x):(xs.drop 1).take (i+1)=(xs.drop 1).take i++[x]:=by
  rw[List.take_add_one,List.getElem?_drop,Nat.add_comm 1 i,h];rfl
theorem zri {fu:Nat}{h:Int}(hf:Big fu)(hN:NetOk A)(hm:h∈hdN (nxN A) A.length A.length):
    z20 fu ⟨A⟩ (z8o (nxN A) A.length h)=some (zpE (nxN A) A.length (zF A) h):=by
  have H:=ziQ hN.graph hm
  have e0:=zpR hN hm
  have c0:=(List.getElem?_eq_some_iff.1 H).1
  unfold z20
  obtain⟨o,e1,rfl⟩:=zf (body:=z19 fu ⟨A⟩ (z8o (nxN A) A.length h))
    (fun i st=>(i=0∧st=(0,[],[],0))∨∃ j,i=j+1∧st=(((j+1:Nat):Int),z2y (nxN A) A.length (zhP (zF A) h (((z8o (nxN A) A.length h).drop 1).take j)),zF A (zhP (zF A) h (((z8o (nxN A) A.length h).drop 1).take j)),h))
    (z8o (nxN A) A.length h).length (fun o=>o=.inl (z2y (nxN A) A.length (zbv (nxN A) A.length (zF A) h),zF A (zbv (nxN A) A.length (zF A) h),h)) (by
    intro i st hi O
    obtain⟨x,hx⟩:=z1j hi
    have q:=zm5 hN hm (List.mem_of_getElem? hx)
    have hC:=zkT hN q.1 q.2
    have a0:zwO A (z2y (nxN A) A.length x)=zF A x:=rfl
    have Y:(z2y (nxN A) A.length x).isEmpty=false:=by
      have:=z8r hN.graph q.1 q.2
      cases h2:z2y (nxN A) A.length x with
      | nil=>rw[h2] at this;cases this
      | cons a b=>rfl
    have G:idx (z8o (nxN A) A.length h) 0=some h:=za (i:=0) H
    rcases O with⟨rfl,rfl⟩ | ⟨j,rfl,rfl⟩
    · refine .inl ⟨(w64 (0+1),z2y (nxN A) A.length h,zF A h,h),?_,.inr ⟨0,rfl,by rw[zb (by omega) (by omega)];rfl⟩⟩
      rw[H] at hx
      cases hx
      unfold z19
      dsimp only
      rw[if_pos (by simp;omega),G,bsm,zfM hf hN q.1 q.2,bsm,zou hf hN hC,bsm,if_pos (by rfl)]
      unfold z18 z17
      rw[if_pos rfl,G,bsm,if_pos (by rw[Y];rfl)]
      rfl
    · have X:=zwV hN hm j
      have Z:(z2y (nxN A) A.length (zhP (zF A) h (((z8o (nxN A) A.length h).drop 1).take j))).isEmpty=false:=by
        have:=z8r hN.graph X.1 X.2
        cases h2:z2y (nxN A) A.length (zhP (zF A) h (((z8o (nxN A) A.length h).drop 1).take j)) with
        | nil=>rw[h2] at this;cases this
        | cons a b=>rfl
      have b0:=zi7 hN q.1 q.2
      refine .inl ⟨(w64 (((j+1:Nat):Int)+1),z2y (nxN A) A.length (zhP (zF A) h (((z8o (nxN A) A.length h).drop 1).take (j+1))),zF A (zhP (zF A) h (((z8o (nxN A) A.length h).drop 1).take (j+1))),h),?_,.inr ⟨j+1,rfl,by rw[zb (by omega) (by omega)];rfl⟩⟩
      unfold z19
      dsimp only
      rw[if_pos (by simp;omega),za hx,bsm,zfM hf hN q.1 q.2,bsm,zou hf hN hC,bsm,a0,if_neg (by rw[Z];simp),zqo hf (by omega),bsm]
      unfold z18 z17
      dsimp only
      rw[zn7 hx,zi8]
      by_cases hlt:zd4 (zF A x) (zF A (zhP (zF A) h (((z8o (nxN A) A.length h).drop 1).take j)))<0
      · rw[if_pos (by simpa using hlt),if_pos hlt,G,bsm,if_pos (by rw[Y];rfl)]
      · rw[if_neg (by simpa using hlt),if_neg hlt]) (by
    intro st O
    rcases O with⟨h0,_⟩ | ⟨j,hj,rfl⟩
    · omega
    · refine .inr ⟨_,?_,rfl⟩
      unfold z19
      dsimp only
      rw[if_neg (by simp;omega)]
      unfold zbv
      rw[List.take_of_length_le (by simp;omega)]) (fu:=fu) (i:=0) (s:=(0,[],[],0)) (Nat.zero_le _) (by omega) (.inl ⟨rfl,rfl⟩)
  rw[e1,bsm,z8]
  rfl
theorem zr9 (hN:NetOk A):(z6A (nxN A) A.length A.length).drop 1=((hdN (nxN A) A.length A.length).drop 1).map (z8o (nxN A) A.length):=by
  unfold z6A
  rw[List.map_drop]
theorem znp (hN:NetOk A):1≤(z6A (nxN A) A.length A.length).length∧(z6A (nxN A) A.length A.length).length≤600:=by
  unfold z6A
  rw[List.length_map]
  have h1:=zmk (nx:=nxN A) hN.one
  have h2:=znH (nx:=nxN A) (n:=A.length) (i:=A.length)
  have hn:=hN.len
  constructor
  · rw[h1];simp
  · omega
theorem zeo {d:Int}(hN:NetOk A)(hm:d∈hdN (nxN A) A.length A.length):(zpE (nxN A) A.length (zF A) d).code.length≤9600∧(zpE (nxN A) A.length (zF A) d).QS.length≤600∧(zpE (nxN A) A.length (zF A) d).QS.isEmpty=false:=by
  have r:=zaR hm
  have rb:=z8a hN.graph r.1 r.2 (zf2 (code:=zF A) hN.graph hm)
  have hl:=zeQ hN.graph rb.1 rb.2
  have hn:=hN.len
  refine⟨zi7 hN rb.1 rb.2,by unfold zpE;dsimp only;omega,?_⟩
  unfold zpE
  dsimp only
  have:=z8r hN.graph rb.1 rb.2
  cases h2:z2y (nxN A) A.length (zbv (nxN A) A.length (zF A) d) with
  | nil=>rw[h2] at this;cases this
  | cons a b=>rfl
theorem zxG {fu:Nat}{a b:Int}(hf:Big fu):zbi fu [a,b]=some (if a≠0 then a else b):=by
  obtain⟨n,rfl⟩:∃ n,fu=n+3:=⟨fu - 3,by omega⟩
  have e0:z2M (n+3) [a,b] 0=if a≠0 then some (.ret a) else some (.next 1):=by
    unfold z2M
    rw[if_pos (by simp),show idx [a,b] 0=some a from rfl,bsm]
    by_cases h:a=0<;>simp[h]
    rw[zb (by omega) (by omega)]
  have e1:z2M (n+3) [a,b] 1=if b≠0 then some (.ret b) else some (.next 2):=by
    unfold z2M
    rw[if_pos (by simp),show idx [a,b] 1=some b from rfl,bsm]
    by_cases h:b=0<;>simp[h]
    rfl
  have e2:z2M (n+3) [a,b] 2=some (.brk ()):=by
    unfold z2M
    rw[if_neg (by simp)]
  unfold zbi
  generalize hB:z2M (n+3) [a,b]=B at *
  by_cases ha:a=0
  · rw[if_neg (by simpa using ha)] at e0 ⊢
    by_cases hb:b=0
    · rw[if_neg (by simpa using hb)] at e1
      simp only[iter,e0,e1,e2,bsm,aft]
      unfold zck
      rw[hb]
    · rw[if_pos hb] at e1
      simp only[iter,e0,e1,bsm,aft]
  · rw[if_pos ha] at e0 ⊢
    simp only[iter,e0,bsm,aft]
theorem zxO {fu:Nat}{x y:QB}(hf:Big fu)(hl:x.code.length≤1000000):z1A fu x y=some (cfT x y):=by
  unfold z1A
  rw[zqo hf hl,bsm,zqs,bsm,zxG hf,bsm]
  rfl
theorem zfY {x:QB}(h:x∈z6c (nxN A) A.length (zF A)):∃ d,d∈hdN (nxN A) A.length A.length∧x=zpE (nxN A) A.length (zF A) d:=by
  obtain⟨d,hd,rfl⟩:=List.mem_map.1 h
  exact⟨d,List.mem_of_mem_drop hd,rfl⟩
theorem zpM (hN:NetOk A):(z6c (nxN A) A.length (zF A)).length≤600:=by
  unfold z6c
  have h2:=znH (nx:=nxN A) (n:=A.length) (i:=A.length)
  have hn:=hN.len
  rw[List.length_map,List.length_drop]
  omega
theorem zrb {fu:Nat}(hf:Big fu)(hN:NetOk A):z21 fu ⟨A⟩=some (zcB (nxN A) A.length (zF A)):=by
  have hn:=hN.len
  have h1:=hN.one
  have Y:=znp hN
  have q:=zpM hN
  have a0:=zeQ hN.graph (show(0:Int)≤0 by omega) (by omega)
  unfold z21
  rw[zfM hf hN (by omega) (by omega),bsm,zr8 hf hN,bsm,if_pos (by simp;omega)]
  have hD:((z6A (nxN A) A.length A.length).take (z6A (nxN A) A.length A.length).length).drop (1:Int).toNat=((hdN (nxN A) A.length A.length).drop 1).map (z8o (nxN A) A.length):=by
    rw[List.take_length]
    exact zr9 hN
  obtain⟨o,e1,rfl⟩:=zf (body:=z1C fu ⟨A⟩ (z6A (nxN A) A.length A.length)) (fun i st=>st=((((hdN (nxN A) A.length A.length).drop 1).take i).map (zpE (nxN A) A.length (zF A)),(i:Int))) ((hdN (nxN A) A.length A.length).drop 1).length (fun o=>o=.inl (z6c (nxN A) A.length (zF A))) (by
    rintro i st hi rfl
    obtain⟨d,hd⟩:=z1j hi
    have O:=List.mem_of_mem_drop (List.mem_of_getElem? hd)
    refine .inl ⟨_,?_,rfl⟩
    unfold z1C
    dsimp only
    rw[hD,if_pos (by rw[List.length_map];simpa using hi),za (x:=z8o (nxN A) A.length d) (by rw[List.getElem?_map,hd];rfl),bsm,zri hf hN O,bsm,if_pos (by
      unfold z6c at q
      rw[List.length_map] at q
      simp only[List.length_map,List.length_take,List.length_singleton,decide_eq_true_eq]
      omega),zb (by omega) (by unfold z6c at q;rw[List.length_map] at q;omega),List.take_add_one,hd,List.map_append]
    rfl) (by
    rintro st rfl
    refine .inr ⟨_,?_,rfl⟩
    unfold z1C
    dsimp only
    rw[hD,if_neg (by rw[List.length_map];simp),List.take_length]
    rfl) (fu:=fu) (i:=0) (s:=([],0)) (Nat.zero_le _) (by unfold z6c at q;rw[List.length_map] at q;omega) rfl
  rw[e1,bsm,z8]
  unfold z4u zv
  rw[if_pos ⟨by omega,zy2 zkv,fun x hx y hy=>by
    obtain⟨d,hd,rfl⟩:=zfY hx
    exact zxO hf (by have:=(zeo hN hd).1;omega)⟩,bsm]
  have G:(zjX (z6c (nxN A) A.length (zF A))).length=(z6c (nxN A) A.length (zF A)).length:=z9H.length_eq
  have h:=zdU (xs:=zjX (z6c (nxN A) A.length (zF A))) (body:=z1B fu (z6c (nxN A) A.length (zF A)) (zjX (z6c (nxN A) A.length (zF A)))) (mk:=fun k st=>(k,st)) (out:=fun st=>st) (g:=fun t=>t.QS) (s0:=z2y (nxN A) A.length 0) (b:=600) (fu:=fu) (by omega) hf (fun t ht=>by
    rw[z9H.mem_iff] at ht
    obtain⟨d,hd,rfl⟩:=zfY ht
    exact(zeo hN hd).2.1) (by
    intro i t st hx Z
    have X:=(List.getElem?_eq_some_iff.1 hx).1
    have H:=List.mem_of_getElem? hx
    rw[z9H.mem_iff] at H
    obtain⟨d,hd,rfl⟩:=zfY H
    obtain⟨r1,r2,r3⟩:=zeo hN hd
    unfold z1B
    dsimp only
    rw[if_pos (by rw[← G];simpa using X),za hx,bsm,if_pos (by rw[r3];rfl),if_pos (by simp only[decide_eq_true_eq];omega)]) (by
    intro st
    unfold z1B
    dsimp only
    rw[G,if_neg (by simp)])
  have hs:(z6c (nxN A) A.length (zF A)).mergeSort (fun x y=>!(ltOf cfT) y x)=zjX (z6c (nxN A) A.length (zF A)):=rfl
  try dsimp only at h
  rw[hs,h,bsm,z8]
  rfl
end
end Go.E



