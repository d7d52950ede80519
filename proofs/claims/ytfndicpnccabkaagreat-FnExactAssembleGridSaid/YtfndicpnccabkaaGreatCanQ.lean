/- Traversals of graphs, told by plain lists. Conditions: each lemma names its own. -/
import Derived.Test.YtfndicpnccabkaaGreatRounds
import Derived.Test.YtfndicpnccabkaaGreatSortT
import Derived.Test.YtfndicpnccabkaaGreatFI
namespace Go.E
open Go.RowKit Go.Proofs
set_option linter.unusedSimpArgs false
set_option linter.unusedVariables false


def vis (l:List Int):List Int→List Int
  | []=>l
  | y::ys=>if y∈l then vis l ys else vis (l++[y]) ys
theorem zey:∀ {ys l:List Int},∃ m,vis l ys=l++m∧∀ x∈m,x∈ys
  | [],l=>⟨[],by simp [vis],by simp⟩
  | y::ys,l=>by
    unfold vis
    by_cases h:y∈l
    · rw [if_pos h]
      obtain⟨m,h1,h2⟩:=zey (ys:=ys) (l:=l)
      exact⟨m,h1,fun x hx=>List.mem_cons_of_mem _ (h2 x hx)⟩
    · rw [if_neg h]
      obtain⟨m,h1,h2⟩:=zey (ys:=ys) (l:=l++[y])
      refine⟨y::m,by rw [h1];simp,fun x hx=>?_⟩
      rcases List.mem_cons.1 hx with rfl | hx
      · exact List.mem_cons_self
      · exact List.mem_cons_of_mem _ (h2 x hx)
theorem zcP:∀ {ys l:List Int},l.Nodup→(vis l ys).Nodup
  | [],l,h=>h
  | y::ys,l,h=>by
    unfold vis
    by_cases hy:y∈l
    · rw [if_pos hy];exact zcP h
    · rw [if_neg hy]
      refine zcP (List.nodup_append.2 ⟨h,by simp,?_⟩)
      intro a ha b hb
      rw [List.mem_singleton] at hb
      subst hb
      rintro rfl
      exact hy ha
theorem zgF {ys l:List Int}{x:Int}(h:x∈l):x∈vis l ys:=by
  obtain⟨m,h1,_⟩:=zey (ys:=ys) (l:=l)
  rw [h1];exact List.mem_append_left _ h
theorem zgG:∀ {ys l:List Int}{x:Int},x∈ys→x∈vis l ys
  | y::ys,l,x,h=>by
    unfold vis
    rcases List.mem_cons.1 h with rfl | h
    · by_cases hy:x∈l
      · rw [if_pos hy];exact zgF hy
      · rw [if_neg hy];exact zgF (by simp)
    · by_cases hy:y∈l
      · rw [if_pos hy];exact zgG h
      · rw [if_neg hy];exact zgG h

def trv (nx:Int→List Int):Nat→Nat→List Int→List Int
  | 0,_,l=>l
  | f+1,k,l=>match l[k]? with
    | some x=>trv nx f (k+1) (vis l (nx x))
    | none=>l
def travN (nx:Int→List Int) (n:Nat) (s:Int):List Int:=trv nx (n+1) 0 [s]
inductive Reach (nx:Int→List Int):Int→Int→Prop
  | refl {a:Int}:Reach nx a a
  | step {a b c:Int}:Reach nx a b→c∈nx b→Reach nx a c
theorem Reach.trans {nx:Int→List Int}{a b c:Int}(h1:Reach nx a b) (h2:Reach nx b c):Reach nx a c:=by
  induction h2 with
  | refl=>exact h1
  | step _ h ih=>exact .step ih h

structure Graph (nx:Int→List Int) (n:Nat):Prop where
  rng:∀ x:Int,0≤x→x<(n:Int)→∀ y∈nx x,0≤y∧y<(n:Int)
  back:∀ x:Int,0≤x→x<(n:Int)→∀ y∈nx x,x∈nx y
theorem Reach.rng {nx:Int→List Int}{n:Nat}(hG:Graph nx n){a b:Int}(h:Reach nx a b) (h0:0≤a) (h1:a<n):0≤b∧b<n:=by
  induction h with
  | refl=>exact⟨h0,h1⟩
  | step _ h ih=>exact hG.rng _ ih.1 ih.2 _ h
theorem Reach.symm {nx:Int→List Int}{n:Nat}(hG:Graph nx n){a b:Int}(h:Reach nx a b) (h0:0≤a) (h1:a<n):Reach nx b a:=by
  induction h with
  | refl=>exact .refl
  | step hab h ih=>
    have hr:=hab.rng hG h0 h1
    exact(Reach.step .refl (hG.back _ hr.1 hr.2 _ h)).trans ih
theorem zcA {n:Nat}:∀ {l:List Int},l.Nodup→(∀ x∈l,0≤x∧x<n)→l.length≤n:=by
  induction n with
  | zero=>
    intro l _ h
    cases l with
    | nil=>simp
    | cons x xs=>have:=h x List.mem_cons_self;omega
  | succ n ih=>
    intro l hn h
    have h1:(l.erase (n:Int)).Nodup:=hn.erase _
    have h2:=ih h1 (fun x hx=>by
      have a:=(hn.mem_erase_iff).1 hx
      have b:=h x a.2
      have c:=a.1
      omega)
    have h3:l.length≤(l.erase (n:Int)).length+1:=by rw [List.length_erase];split<;>omega
    omega

structure TrvI (nx:Int→List Int) (n:Nat) (s:Int) (k:Nat) (l:List Int):Prop where
  nodup:l.Nodup
  rng:∀ x∈l,0≤x∧x<n
  head:l[0]? = some s
  reach:∀ x∈l,Reach nx s x
  closed:∀ i x,i<k→l[i]? = some x→∀ y∈nx x,y∈l
theorem TrvI.begin {nx:Int→List Int}{n:Nat}{s:Int}(h0:0≤s) (h1:s<n):TrvI nx n s 0 [s] where
  nodup:=by simp
  rng x hx:=by rw [List.mem_singleton] at hx;subst hx;exact⟨h0,h1⟩
  head:=rfl
  reach x hx:=by rw [List.mem_singleton] at hx;subst hx;exact .refl
  closed i x hi:=absurd hi (Nat.not_lt_zero _)
theorem TrvI.len {nx:Int→List Int}{n:Nat}{s:Int}{k:Nat}{l:List Int}(h:TrvI nx n s k l):l.length≤n:=zcA h.nodup h.rng
theorem TrvI.next {nx:Int→List Int}{n:Nat}{s:Int}{k:Nat}{l:List Int}{x:Int}(hG:Graph nx n) (h:TrvI nx n s k l) (hx:l[k]? = some x):TrvI nx n s (k+1) (vis l (nx x)):=by
  have hxm:=List.mem_of_getElem? hx
  have hxr:=h.rng x hxm
  obtain⟨m,e1,e2⟩:=zey (ys:=nx x) (l:=l)
  refine⟨zcP h.nodup,fun y hy=>?_,?_,fun y hy=>?_,fun i y hi hy z hz=>?_⟩
  · rw [e1] at hy
    rcases List.mem_append.1 hy with hy | hy
    · exact h.rng y hy
    · exact hG.rng x hxr.1 hxr.2 y (e2 y hy)
  · rw [e1,List.getElem?_append_left (List.getElem?_eq_some_iff.1 h.head).1]
    exact h.head
  · rw [e1] at hy
    rcases List.mem_append.1 hy with hy | hy
    · exact h.reach y hy
    · exact .step (h.reach x hxm) (e2 y hy)
  · have hk:=(List.getElem?_eq_some_iff.1 hx).1
    rw [e1,List.getElem?_append_left (by omega)] at hy
    by_cases hik:i<k
    · exact zgF (h.closed i y hik hy z hz)
    · obtain rfl:i=k:=by omega
      rw [hx] at hy;cases hy
      exact zgG hz
theorem TrvI.fin {nx:Int→List Int}{n:Nat}{s:Int}(hG:Graph nx n):∀ {f k:Nat}{l:List Int},n+1≤f+k→TrvI nx n s k l→∃ k',TrvI nx n s k' (trv nx f k l)∧(trv nx f k l).length≤k'
  | 0,k,l,hf,h=>⟨k,h,by unfold trv;have:=h.len;omega⟩
  | f+1,k,l,hf,h=>by
    unfold trv
    cases hx:l[k]? with
    | some x=>exact TrvI.fin hG (by omega) (h.next hG hx)
    | none=>exact⟨k,h,by simpa using hx⟩
theorem zgQ {nx:Int→List Int}{n:Nat}{s:Int}(hG:Graph nx n) (h0:0≤s) (h1:s<n):∃ k',TrvI nx n s k' (travN nx n s)∧(travN nx n s).length≤k':=
  TrvI.fin hG (by omega) (TrvI.begin h0 h1)
theorem zcy {nx:Int→List Int}{n:Nat}{s x:Int}(hG:Graph nx n) (h0:0≤s) (h1:s<n):x∈travN nx n s↔Reach nx s x:=by
  obtain⟨k,h,hk⟩:=zgQ hG h0 h1
  refine⟨h.reach x,fun hr=>?_⟩
  induction hr with
  | refl=>exact List.mem_of_getElem? h.head
  | step _ hc ih=>
    obtain⟨i,hi⟩:=List.getElem?_of_mem ih
    exact h.closed i _ (by have:=(List.getElem?_eq_some_iff.1 hi).1;omega) hi _ hc
theorem zat {nx:Int→List Int}{n:Nat}{s:Int}(hG:Graph nx n) (h0:0≤s) (h1:s<n):(travN nx n s).Nodup:=by
  obtain⟨k,h,hk⟩:=zgQ hG h0 h1
  exact h.nodup
theorem z5X {nx:Int→List Int}{n:Nat}{s x:Int}(hG:Graph nx n) (h0:0≤s) (h1:s<n) (hx:x∈travN nx n s):0≤x∧x<n:=by
  obtain⟨k,h,hk⟩:=zgQ hG h0 h1
  exact h.rng x hx
theorem zau {nx:Int→List Int}{n:Nat}{s:Int}(hG:Graph nx n) (h0:0≤s) (h1:s<n):(travN nx n s).length≤n:=zcA (zat hG h0 h1) (fun x hx=>z5X hG h0 h1 hx)
theorem z6c {nx:Int→List Int}{n:Nat}{s:Int}(hG:Graph nx n) (h0:0≤s) (h1:s<n):s∈travN nx n s:=(zcy hG h0 h1).2 .refl

theorem z9X {nx:Int→List Int}{n:Nat}{a b x y:Int}(hG:Graph nx n) (ha:0≤a∧a<n) (hb:0≤b∧b<n) (h1:x∈travN nx n a) (h2:x∈travN nx n b) (hy:y∈travN nx n a):y∈travN nx n b:=by
  rw [zcy hG ha.1 ha.2] at h1 hy
  rw [zcy hG hb.1 hb.2] at h2 ⊢
  exact(h2.trans (h1.symm hG ha.1 ha.2)).trans hy



theorem z9Q {l:List Int}{y:Int}(h:y ∉ l) (x:Int):(l++[y]).idxOf x=if x∈l then l.idxOf x else if x=y then l.length else l.length+1:=by
  rw [List.idxOf_append]
  by_cases hx:x∈l
  · rw [if_pos hx,if_pos hx]
  · rw [if_neg hx,if_neg hx]
    by_cases hxy:x=y
    · subst hxy;simp
    · rw [if_neg hxy,List.idxOf_cons,show(y == x)=false by simpa using Ne.symm hxy];simp;omega

theorem growLoop {S τ ρ:Type}{nx:Int→List Int}{n:Nat}{s0:Int}{body:S→Option (Rd S τ ρ)}(J:Nat→List Int→S→Prop) (Q:List Int→τ→Prop)
    (hG:Graph nx n)
    (step:∀ k l x s,TrvI nx n s0 k l→l[k]? = some x→J k l s→∃ s',body s=some (.next s')∧J (k+1) (vis l (nx x)) s')
    (last:∀ k l s,TrvI nx n s0 k l→l.length≤k→J k l s→∃ t,body s=some (.brk t)∧Q l t):
    ∀ {f k l s fuel},n+1≤f+k→f<fuel→TrvI nx n s0 k l→J k l s→∃ t,iter body fuel s=some (.inl t)∧Q (trv nx f k l) t
  | 0,k,l,s,0,_,hfu,_,_=>absurd hfu (Nat.not_lt_zero _)
  | 0,k,l,s,fuel+1,hf,hfu,hT,hJ=>by
    obtain⟨t,e1,e2⟩:=last k l s hT (by have:=hT.len;omega) hJ
    exact⟨t,by simp only [iter,e1],by unfold trv;exact e2⟩
  | f+1,k,l,s,0,_,hfu,_,_=>absurd hfu (Nat.not_lt_zero _)
  | f+1,k,l,s,fuel+1,hf,hfu,hT,hJ=>by
    unfold trv
    cases hx:l[k]? with
    | some x=>
      obtain⟨s',e1,e2⟩:=step k l x s hT hx hJ
      obtain⟨t,e3,e4⟩:=growLoop J Q hG step last (f:=f) (k:=k+1) (l:=vis l (nx x)) (s:=s') (fuel:=fuel) (by omega) (by omega) (hT.next hG hx) e2
      exact⟨t,by simp only [iter,e1];exact e3,e4⟩
    | none=>
      obtain⟨t,e1,e2⟩:=last k l s hT (by simpa using hx) hJ
      exact⟨t,by simp only [iter,e1],e2⟩

theorem visLoop {α S τ ρ:Type}{xs:List α}{ag:α→Int}{body:S→Option (Rd S τ ρ)}(J:Nat→List Int→S→Prop) (Q:List Int→τ→Prop)
    (step:∀ i x l s,xs[i]? = some x→J i l s→∃ s',body s=some (.next s')∧J (i+1) (if ag x∈l then l else l++[ag x]) s')
    (last:∀ l s,J xs.length l s→∃ t,body s=some (.brk t)∧Q l t):
    ∀ {ys:List α}{i:Nat}{l:List Int}{s:S}{fuel:Nat},i+ys.length=xs.length→(∀ j,ys[j]? = xs[i+j]?)→ys.length<fuel→J i l s→∃ t,iter body fuel s=some (.inl t)∧Q (vis l (ys.map ag)) t
  | ys,i,l,s,0,_,_,hfu,_=>absurd hfu (Nat.not_lt_zero _)
  | [],i,l,s,fuel+1,hi,_,hfu,hJ=>by
    simp only [List.length_nil,Nat.add_zero] at hi
    subst hi
    obtain⟨t,e1,e2⟩:=last l s hJ
    exact⟨t,by simp only [iter,e1],by simpa [vis] using e2⟩
  | y::ys,i,l,s,fuel+1,hi,hat,hfu,hJ=>by
    simp only [List.length_cons] at hi hfu
    have hx:xs[i]? = some y:=by have:=hat 0;simpa using this.symm
    obtain⟨s',e1,e2⟩:=step i y l s hx hJ
    obtain⟨t,e3,e4⟩:=visLoop J Q step last (ys:=ys) (i:=i+1) (fuel:=fuel) (by omega) (fun j=>by have:=hat (j+1);rw [show i+1+j=i+(j+1) by omega];simpa using this) (by omega) e2
    refine⟨t,by simp only [iter,e1];exact e3,?_⟩
    rw [List.map_cons]
    unfold vis
    by_cases h:ag y∈l
    · rw [if_pos h];rw [if_pos h] at e4;exact e4
    · rw [if_neg h];rw [if_neg h] at e4;exact e4
end Go.E


namespace Go.E
open Go.RowKit Go.Proofs
set_option linter.unusedSimpArgs false
set_option linter.unusedVariables false


theorem zdg {α:Type}{le:α→α→Prop}{l m:List α}(hp:l.Perm m) (hl:l.Pairwise le) (hm:m.Pairwise le) (ha:∀ a∈l,∀ b∈l,le a b→le b a→a=b):l=m:=by
  exact hp.eq_of_pairwise (fun a b h1 h2 h3 h4=>ha a h1 b (hp.mem_iff.2 h2) h3 h4) hl hm
theorem za0 {xs:List Int}:(sortedI xs).Perm xs:=List.mergeSort_perm _ _
theorem zcb {xs:List Int}:(sortedI xs).Pairwise (·≤·):=by
  have:=List.pairwise_mergeSort (le:=fun(x y:Int)=>decide (x≤y)) (by intro a b c;simp;omega) (by intro a b;simp;omega) xs
  exact this.imp fun {a b} h=>by simpa using h
theorem zis {xs ys:List Int}(hp:ys.Perm xs) (hs:ys.Pairwise (·≤·)):ys=sortedI xs:=
  zdg (le:=(·≤·)) (hp.trans za0.symm) hs zcb (fun a _ b _ h1 h2=>by omega)
theorem z9H {xs:List Int}{x:Int}:x∈sortedI xs↔x∈xs:=za0.mem_iff
theorem zgU {xs:List Int}:(sortedI xs).length=xs.length:=za0.length_eq
theorem zfB {xs:List Int}{h:Int}(hm:h∈xs) (hl:∀ x∈xs,h≤x):(sortedI xs)[0]? = some h:=by
  cases hs:sortedI xs with
  | nil=>rw [← z9H (xs:=xs),hs] at hm;cases hm
  | cons y ys=>
    have h1:y∈xs:=by rw [← z9H (xs:=xs),hs];exact List.mem_cons_self
    have h2:=hl y h1
    have h3:=zcb (xs:=xs)
    rw [hs] at h3
    have h4:h∈y::ys:=by rw [← hs];exact z9H.2 hm
    rcases List.mem_cons.1 h4 with rfl | h4
    · rfl
    · have:=(List.pairwise_cons.1 h3).1 h h4
      rw [show y=h by omega];rfl


section
variable {nx:Int→List Int}{n:Nat}

def hdN (nx:Int→List Int) (n:Nat):Nat→List Int
  | 0=>[]
  | i+1=>if ∃ h∈hdN nx n i,(i:Int)∈travN nx n h then hdN nx n i else hdN nx n i++[(i:Int)]
theorem z7Y:∀ {i:Nat}{h:Int},h∈hdN nx n i→0≤h∧h<i
  | 0,h,hm=>by simp [hdN] at hm
  | i+1,h,hm=>by
    unfold hdN at hm
    split at hm
    · have:=z7Y hm;omega
    · rcases List.mem_append.1 hm with hm | hm
      · have:=z7Y hm;omega
      · rw [List.mem_singleton] at hm;omega
theorem zc1:∀ {i:Nat},(hdN nx n i).Pairwise (· < ·)
  | 0=>by simp [hdN]
  | i+1=>by
    unfold hdN
    split
    · exact zc1
    · refine List.pairwise_append.2 ⟨zc1,by simp,fun a ha b hb=>?_⟩
      rw [List.mem_singleton] at hb
      have:=z7Y ha
      omega
theorem zeW (hG:Graph nx n):∀ {i:Nat},i≤n→∀ x:Int,0≤x→x<i→∃ h∈hdN nx n i,x∈travN nx n h
  | 0,_,x,h0,h1=>by omega
  | i+1,hi,x,h0,h1=>by
    unfold hdN
    by_cases hx:x<i
    · obtain⟨h,a,b⟩:=zeW hG (by omega) x h0 hx
      split
      · exact⟨h,a,b⟩
      · exact⟨h,List.mem_append_left _ a,b⟩
    · obtain rfl:x=i:=by omega
      split
      · assumption
      · exact⟨i,by simp,z6c hG (by omega) (by omega)⟩

theorem zbr (hG:Graph nx n):∀ {i:Nat},i≤n→∀ h∈hdN nx n i,∀ x∈travN nx n h,h≤x
  | 0,_,h,hm=>by simp [hdN] at hm
  | i+1,hi,h,hm=>by
    unfold hdN at hm
    split at hm
    · exact zbr hG (by omega) h hm
    · rename_i hno
      rcases List.mem_append.1 hm with hm | hm
      · exact zbr hG (by omega) h hm
      · rw [List.mem_singleton] at hm
        subst hm
        intro x hx
        rcases Int.lt_or_le x i with hxi | hxi
        · exfalso
          have hr:=z5X hG (by omega) (by omega) hx
          obtain⟨h',a,b⟩:=zeW hG (show i≤n by omega) x hr.1 hxi
          have hr':=z7Y a
          exact hno ⟨h',a,z9X hG (by omega) (by omega) hx b (z6c hG (by omega) (by omega))⟩
        · exact hxi
theorem zjY (hG:Graph nx n){h h' x:Int}(hm:h∈hdN nx n n) (hm':h'∈hdN nx n n) (hx:x∈travN nx n h) (hx':x∈travN nx n h'):h=h':=by
  have r:=z7Y hm
  have r':=z7Y hm'
  have a:=zbr hG (Nat.le_refl n) h hm h' (z9X hG r' r hx' hx (z6c hG r'.1 r'.2))
  have b:=zbr hG (Nat.le_refl n) h' hm' h (z9X hG r r' hx hx' (z6c hG r.1 r.2))
  omega
theorem zjX:∀ {i:Nat},1≤i→(hdN nx n i)[0]? = some 0
  | 1,_=>by simp [hdN]
  | i+2,_=>by
    have h:=zjX (i:=i+1) (by omega)
    unfold hdN
    split
    · exact h
    · rw [List.getElem?_append_left (List.getElem?_eq_some_iff.1 h).1];exact h
theorem zeX (h:1≤n):hdN nx n n=0::(hdN nx n n).drop 1:=by
  have h0:=zjX (nx:=nx) (n:=n) h
  cases hh:hdN nx n n with
  | nil=>rw [hh] at h0;cases h0
  | cons a l=>rw [hh] at h0;cases h0;rfl
theorem zg4:∀ {i:Nat},(hdN nx n i).length≤i
  | 0=>by simp [hdN]
  | i+1=>by
    have:=zg4 (i:=i)
    unfold hdN
    split
    · omega
    · rw [List.length_append,List.length_singleton];omega
def partN (nx:Int→List Int) (n:Nat) (h:Int):List Int:=sortedI (travN nx n h)
def partsN (nx:Int→List Int) (n:Nat) (i:Nat):List (List Int):=(hdN nx n i).map (partN nx n)
theorem zdh (hG:Graph nx n){h:Int}(hm:h∈hdN nx n n):(partN nx n h)[0]? = some h:=by
  have r:=z7Y hm
  exact zfB (z6c hG r.1 r.2) (zbr hG (Nat.le_refl n) h hm)
theorem zhu {h x:Int}:x∈partN nx n h↔x∈travN nx n h:=z9H


variable {code:Int→List Int}
def bstN (code:Int→List Int) (b:Int):List Int→Int
  | []=>b
  | x::xs=>if cmpL (code x) (code b)<0 then bstN code x xs else bstN code b xs
theorem zfe:∀ {xs:List Int}{b:Int},bstN code b xs=b∨bstN code b xs∈xs
  | [],b=>.inl rfl
  | x::xs,b=>by
    unfold bstN
    split
    · rcases zfe (xs:=xs) (b:=x) with h | h
      · exact .inr (by rw [h];exact List.mem_cons_self)
      · exact .inr (List.mem_cons_of_mem _ h)
    · rcases zfe (xs:=xs) (b:=b) with h | h
      · exact .inl h
      · exact .inr (List.mem_cons_of_mem _ h)
def bestN (nx:Int→List Int) (n:Nat) (code:Int→List Int) (h:Int):Int:=bstN code h ((partN nx n h).drop 1)
theorem zaD (hG:Graph nx n){h:Int}(hm:h∈hdN nx n n):bestN nx n code h∈travN nx n h:=by
  have r:=z7Y hm
  unfold bestN
  rcases zfe (code:=code) (xs:=(partN nx n h).drop 1) (b:=h) with e | e
  · rw [e];exact z6c hG r.1 r.2
  · exact zhu.1 (List.mem_of_mem_drop e)
def traN (nx:Int→List Int) (n:Nat) (code:Int→List Int) (h:Int):D.traversal:=⟨travN nx n (bestN nx n code h),code (bestN nx n code h),h⟩
def restN (nx:Int→List Int) (n:Nat) (code:Int→List Int):List D.traversal:=((hdN nx n n).drop 1).map (traN nx n code)
def sortT (ts:List D.traversal):List D.traversal:=ts.mergeSort fun x y=>!(ltOf cfT y x)
def orderN (nx:Int→List Int) (n:Nat) (code:Int→List Int):List Int:=travN nx n 0++(sortT (restN nx n code)).flatMap fun t=>t.list_
end
end Go.E


namespace Go.E
open Go.RowKit Go.Proofs
set_option linter.unusedSimpArgs false
set_option linter.unusedVariables false

theorem zhc {a b:Int}(h:cmpI a b=0):a=b:=by
  unfold cmpI at h
  split at h
  · omega
  · split at h<;>omega
theorem zox {a b:Int}(h:a<b):cmpI a b = -1:=by unfold cmpI;rw [if_pos h]
theorem zgT {α:Type}[DecidableEq α]:∀ {l m:List α},l.Nodup→(∀ x∈l,x∈m)→l.length≤m.length
  | [],m,_,_=>Nat.zero_le _
  | x::l,m,hn,h=>by
    have hx:=h x List.mem_cons_self
    rw [List.nodup_cons] at hn
    have h2:=zgT (l:=l) (m:=m.erase x) hn.2 (fun y hy=>(List.mem_erase_of_ne (show y≠x from fun e=>hn.1 (e ▸ hy))).2 (h y (List.mem_cons_of_mem _ hy)))
    rw [List.length_erase_of_mem hx] at h2
    have:=List.length_pos_of_mem hx
    rw [List.length_cons]
    omega

def argN (cs:List (List Int)) (used:List Bool):Nat→Int
  | 0=>-1
  | i+1=>if used[i]? = some false∧(argN cs used i<0∨cmpL (cs.getD i []) (cs.getD (argN cs used i).toNat [])<0) then(i:Int) else argN cs used i
def Less (cs:List (List Int)) (a b:Nat):Prop:=cmpL (cs.getD a []) (cs.getD b [])<0∨(cmpL (cs.getD a []) (cs.getD b [])=0∧a<b)
theorem zow {a b c:List Int}(h1:cmpL a b<0) (h2:cmpL b c≤0):cmpL a c<0:=by
  have h3:=zfd a b c (by omega) h2
  rcases Int.lt_or_eq_of_le h3 with h | h
  · exact h
  · have h4:=zbz a c
    have h5:=zfd b c a h2 (by omega)
    have h6:=zbz a b
    omega
theorem zmK {cs:List (List Int)}{used:List Bool}:∀ {i:Nat},(argN cs used i = -1∧∀ j<i,used[j]?≠some false)∨
    (∃ p:Nat,argN cs used i=p∧p<i∧used[p]? = some false∧∀ j<i,used[j]? = some false→j≠p→Less cs p j)
  | 0=>.inl ⟨rfl,fun j hj=>absurd hj (Nat.not_lt_zero _)⟩
  | i+1=>by
    unfold argN
    rcases zmK (cs:=cs) (used:=used) (i:=i) with⟨h1,h2⟩ | ⟨p,h1,h2,h3,h4⟩
    · rw [h1]
      by_cases hu:used[i]? = some false
      · rw [if_pos ⟨hu,.inl (by omega)⟩]
        refine .inr ⟨i,rfl,by omega,hu,fun j hj hu' hne=>absurd hu' (h2 j (by omega))⟩
      · rw [if_neg (fun h=>hu h.1)]
        refine .inl ⟨rfl,fun j hj=>?_⟩
        by_cases hji:j<i
        · exact h2 j hji
        · obtain rfl:j=i:=by omega
          exact hu
    · rw [h1,Int.toNat_natCast]
      by_cases hc:used[i]? = some false∧((p:Int)<0∨cmpL (cs.getD i []) (cs.getD p [])<0)
      · rw [if_pos hc]
        have hlt:cmpL (cs.getD i []) (cs.getD p [])<0:=hc.2.elim (fun h=>absurd h (by omega)) id
        refine .inr ⟨i,rfl,by omega,hc.1,fun j hj hu hne=>?_⟩
        by_cases hjp:j=p
        · subst hjp;exact .inl hlt
        · have:=h4 j (by omega) hu hjp
          exact .inl (zow hlt (by rcases this with h | h<;>omega))
      · rw [if_neg hc]
        refine .inr ⟨p,rfl,by omega,h3,fun j hj hu hne=>?_⟩
        by_cases hji:j<i
        · exact h4 j hji hu hne
        · obtain rfl:j=i:=by omega
          have h5:¬ cmpL (cs.getD j []) (cs.getD p [])<0:=fun h=>hc ⟨hu,.inr h⟩
          have h6:=zbz (cs.getD p []) (cs.getD j [])
          unfold Less
          omega

structure Chosen (cs:List (List Int)) (us:List Bool) (js:List Nat):Prop where
  len:us.length=cs.length
  rng:∀ j∈js,j<cs.length
  nodup:js.Nodup
  used:∀ j,j<cs.length→(us[j]? = some true↔j∈js)
  pair:js.Pairwise (Less cs)
  rest:∀ a∈js,∀ b:Nat,us[b]? = some false→Less cs a b
theorem Chosen.begin {cs:List (List Int)}:Chosen cs (List.replicate cs.length false) [] where
  len:=by simp
  rng j h:=by cases h
  nodup:=List.nodup_nil
  used j hj:=by simp [hj]
  pair:=List.Pairwise.nil
  rest a h:=by cases h
theorem Chosen.more {cs:List (List Int)}{used:List Bool}{js:List Nat}(h:Chosen cs used js) (hl:js.length<cs.length):
    ∃ p:Nat,argN cs used cs.length=p∧p<cs.length∧Chosen cs (used.set p true) (js++[p]):=by
  rcases zmK (cs:=cs) (used:=used) (i:=cs.length) with⟨h1,h2⟩ | ⟨p,h1,h2,h3,h4⟩
  · exfalso
    have hall:∀ j,j<cs.length→j∈js:=fun j hj=>by
      rw [← h.used j hj]
      have hjl:j<used.length:=by rw [h.len];exact hj
      cases hb:used[j]'hjl with
      | true=>rw [List.getElem?_eq_getElem hjl,hb]
      | false=>exact absurd (by rw [List.getElem?_eq_getElem hjl,hb]) (h2 j hj)
    have:=zgT List.nodup_range (fun j hj=>hall j (List.mem_range.1 hj))
    simp at this
    omega
  · refine⟨p,h1,h2,?_⟩
    have hpn:p ∉ js:=fun hp=>by
      have:=(h.used p h2).2 hp
      rw [h3] at this;cases this
    have hset:∀ j,(used.set p true)[j]? = some false→used[j]? = some false∧j≠p:=fun j hj=>by
      by_cases hjp:p=j
      · subst hjp
        rw [List.getElem?_set_self (by rw [h.len];exact h2)] at hj
        cases hj
      · rw [List.getElem?_set_ne hjp] at hj
        exact⟨hj,fun e=>hjp e.symm⟩
    refine⟨by simp [h.len],fun j hj=>?_,?_,fun j hj=>?_,?_,fun a ha b hb=>?_⟩
    · rcases List.mem_append.1 hj with hj | hj
      · exact h.rng j hj
      · rw [List.mem_singleton] at hj;omega
    · refine List.nodup_append.2 ⟨h.nodup,by simp,fun a ha b hb=>?_⟩
      rw [List.mem_singleton] at hb
      subst hb
      rintro rfl
      exact hpn ha
    · by_cases hjp:p=j
      · subst hjp
        rw [List.getElem?_set_self (by rw [h.len];exact h2)]
        simp
      · rw [List.getElem?_set_ne hjp,h.used j hj,List.mem_append,List.mem_singleton]
        constructor
        · exact .inl
        · rintro(h | h)
          · exact h
          · exact absurd h.symm hjp
    · refine List.pairwise_append.2 ⟨h.pair,by simp,fun a ha b hb=>?_⟩
      rw [List.mem_singleton] at hb
      subst hb
      exact h.rest a ha _ h3
    · obtain⟨o,q⟩:=hset b hb
      rcases List.mem_append.1 ha with ha | ha
      · exact h.rest a ha b o
      · rw [List.mem_singleton] at ha
        subst ha
        have hbl:=(List.getElem?_eq_some_iff.1 o).1
        exact h4 b (by rw [← h.len];exact hbl) o q

theorem z7e {ts:List D.traversal}:(sortT ts).Perm ts:=List.mergeSort_perm _ _
theorem zit {ts:List D.traversal}:(sortT ts).Pairwise fun x y=>cfT x y≤0:=by
  have h:=List.pairwise_mergeSort (le:=fun x y=>!(ltOf cfT y x)) (by
    intro a b c h1 h2
    simp only [ltOf,Bool.not_eq_true',decide_eq_false_iff_not] at *
    have:=z8A.le a b c (by have:=z8A.neg a b;omega) (by have:=z8A.neg b c;omega)
    have:=z8A.neg a c
    omega) (by
    intro a b
    have:=z8A.neg a b
    simp only [ltOf,Bool.or_eq_true,Bool.not_eq_true',decide_eq_false_iff_not]
    omega) ts
  refine h.imp fun {a b} h=>?_
  simp only [ltOf,Bool.not_eq_true',decide_eq_false_iff_not] at h
  have:=z8A.neg a b
  omega
theorem zjt {α:Type}{d:α}{xs:List α}:(List.range xs.length).map (fun j=>xs.getD j d)=xs:=by
  apply List.ext_getElem?
  intro i
  rw [List.getElem?_map]
  rcases Nat.lt_or_ge i xs.length with h | h
  · rw [List.getElem?_range h,Option.map_some,List.getD_eq_getElem?_getD,List.getElem?_eq_getElem h];rfl
  · rw [List.getElem?_eq_none (by simpa using h),List.getElem?_eq_none h];rfl
def d0:D.traversal:=⟨[],[],0⟩

theorem Chosen.done {R:List D.traversal}{used:List Bool}{js:List Nat}(h:Chosen (R.map D.traversal.code) used js) (hl:js.length=R.length) (hR:(R.map D.traversal.least).Pairwise (· < ·)):
    js.map (fun j=>R.getD j d0)=sortT R:=by
  have hrn:∀ j∈js,j<R.length:=fun j hj=>by have:=h.rng j hj;simpa using this
  have hp:js.Perm (List.range R.length):=by
    rw [List.perm_ext_iff_of_nodup h.nodup List.nodup_range]
    intro j
    rw [List.mem_range]
    refine⟨hrn j,fun hj=>?_⟩
    by_cases hm:j∈js
    · exact hm
    · have:=zgT (l:=j::js) (m:=List.range R.length) (List.nodup_cons.2 ⟨hm,h.nodup⟩) (fun i hi=>by
        rcases List.mem_cons.1 hi with rfl | hi
        · exact List.mem_range.2 hj
        · exact List.mem_range.2 (hrn i hi))
      simp [hl] at this
      omega
  have hp2:(js.map fun j=>R.getD j d0).Perm R:=by
    have:=hp.map (fun j=>R.getD j d0)
    rwa [zjt] at this
  have hle:∀ {a b:Nat},a<b→b<R.length→(R.getD a d0).least<(R.getD b d0).least:=fun {a b} hab hb=>by
    have:=List.pairwise_iff_getElem.1 hR a b (by simp;omega) (by simpa using hb) hab
    simp only [List.getElem_map] at this
    rw [List.getD_eq_getElem?_getD,List.getD_eq_getElem?_getD,List.getElem?_eq_getElem hb,List.getElem?_eq_getElem (by omega)]
    exact this
  have hcode:∀ {a:Nat},a<R.length→(R.map D.traversal.code).getD a []=(R.getD a d0).code:=fun {a} ha=>by
    rw [List.getD_eq_getElem?_getD,List.getD_eq_getElem?_getD,List.getElem?_map,List.getElem?_eq_getElem ha];rfl
  refine zdg (le:=fun x y=>cfT x y≤0) (hp2.trans z7e.symm) ?_ zit ?_
  · rw [List.pairwise_map]
    refine h.pair.imp_of_mem fun {a b} ha hb hab=>?_
    unfold Less at hab
    rw [hcode (hrn a ha),hcode (hrn b hb)] at hab
    unfold cfT
    rcases hab with h1 | ⟨h1,h2⟩
    · rw [if_pos (by omega)];omega
    · rw [if_neg (by omega),zox (hle h2 (hrn b hb))];omega
  · intro x hx y hy h1 h2
    have h3:=z8A.neg x y
    have h4:cfT x y=0:=by omega
    have h5:cmpI x.least y.least=0:=by
      unfold cfT at h4
      split at h4
      · rename_i h;exact absurd h4 h
      · exact h4
    have h6:=zhc h5
    obtain⟨a,ha,rfl⟩:=List.mem_map.1 hx
    obtain⟨b,hb,rfl⟩:=List.mem_map.1 hy
    rcases Nat.lt_trichotomy a b with h | h | h
    · have:=hle h (hrn b hb);omega
    · rw [h]
    · have:=hle h (hrn a ha);omega

theorem noTie {R:List D.traversal}(hR:(R.map D.traversal.least).Pairwise (· < ·)):R.Pairwise fun x y=>¬ (ltOf cfT x y=false∧ltOf cfT y x=false):=by
  rw [List.pairwise_map] at hR
  refine hR.imp fun {a b} hab h=>?_
  simp only [ltOf,decide_eq_false_iff_not] at h
  have h3:=z8A.neg a b
  have h4:cfT a b=0:=by omega
  unfold cfT at h4
  split at h4
  · rename_i h;exact h h4
  · have:=zhc h4;omega
theorem zej {nx:Int→List Int}{n:Nat}{code:Int→List Int}:((restN nx n code).map D.traversal.least).Pairwise (· < ·):=by
  unfold restN
  rw [List.map_map]
  have e:(fun h:Int=>h)=(D.traversal.least ∘ traN nx n code):=rfl
  rw [← e,List.map_id']
  exact(zc1).sublist (List.drop_sublist _ _)

theorem zfS {nx:Int→List Int}{n:Nat}{code:Int→List Int}(hG:Graph nx n) (hn:1≤n){x:Int}:x∈orderN nx n code↔0≤x∧x<n:=by
  unfold orderN
  have hc:=zeX (nx:=nx) hn
  constructor
  · intro h
    rcases List.mem_append.1 h with h | h
    · exact z5X hG (by omega) (by omega) h
    · obtain⟨t,ht,hx⟩:=List.mem_flatMap.1 h
      rw [z7e.mem_iff] at ht
      obtain⟨d,hd,rfl⟩:=List.mem_map.1 ht
      have hdm:=List.mem_of_mem_drop hd
      have r:=z7Y hdm
      have rb:=z5X hG r.1 r.2 (zaD (code:=code) hG hdm)
      exact z5X hG rb.1 rb.2 hx
  · rintro⟨h0,h1⟩
    obtain⟨d,hd,hx⟩:=zeW hG (Nat.le_refl n) x h0 h1
    rw [hc] at hd
    rcases List.mem_cons.1 hd with rfl | hd
    · exact List.mem_append_left _ hx
    · refine List.mem_append_right _ (List.mem_flatMap.2 ⟨traN nx n code d,?_,?_⟩)
      · rw [z7e.mem_iff]
        exact List.mem_map.2 ⟨d,hd,rfl⟩
      · have hdm:d∈hdN nx n n:=by rw [hc];exact List.mem_cons_of_mem _ hd
        have r:=z7Y hdm
        have hb:=zaD (code:=code) hG hdm
        have rb:=z5X hG r.1 r.2 hb
        exact z9X hG r rb hb (z6c hG rb.1 rb.2) hx
theorem zdi {nx:Int→List Int}{n:Nat}{code:Int→List Int}(hG:Graph nx n) (hn:1≤n):(orderN nx n code).Nodup:=by
  unfold orderN
  have hc:=zeX (nx:=nx) hn
  have hdr:∀ {d:Int},d∈(hdN nx n n).drop 1→d∈hdN nx n n∧d≠0:=fun {d} hd=>by
    refine⟨List.mem_of_mem_drop hd,fun e=>?_⟩
    have:=zc1 (nx:=nx) (n:=n) (i:=n)
    rw [hc] at this
    have:=(List.pairwise_cons.1 this).1 d hd
    omega
  have hin:∀ {d x:Int},d∈hdN nx n n→x∈travN nx n (bestN nx n code d)→x∈travN nx n d:=fun {d x} hd hx=>by
    have r:=z7Y hd
    have hb:=zaD (code:=code) hG hd
    have rb:=z5X hG r.1 r.2 hb
    exact z9X hG rb r (z6c hG rb.1 rb.2) hb hx
  have h0m:(0:Int)∈hdN nx n n:=by rw [hc];exact List.mem_cons_self
  refine List.nodup_append.2 ⟨zat hG (by omega) (by omega),?_,fun a ha b hb=>?_⟩
  · have hp:((sortT (restN nx n code)).flatMap fun t=>t.list_).Perm ((restN nx n code).flatMap fun t=>t.list_):=z7e.flatMap_right _
    refine hp.symm.nodup ?_
    unfold restN
    rw [List.flatMap_map]
    unfold List.Nodup
    rw [List.pairwise_flatMap]
    constructor
    · intro d hd
      have hdm:=(hdr hd).1
      have r:=z7Y hdm
      have rb:=z5X hG r.1 r.2 (zaD (code:=code) hG hdm)
      exact zat hG rb.1 rb.2
    · have hpr:((hdN nx n n).drop 1).Pairwise (· < ·):=(zc1).sublist (List.drop_sublist _ _)
      refine hpr.imp_of_mem fun {a b} ha hb hab x hx y hy he=>?_
      subst he
      have:=zjY hG (hdr ha).1 (hdr hb).1 (hin (hdr ha).1 hx) (hin (hdr hb).1 hy)
      omega
  · obtain⟨t,ht,hx⟩:=List.mem_flatMap.1 hb
    rw [z7e.mem_iff] at ht
    obtain⟨d,hd,rfl⟩:=List.mem_map.1 ht
    rintro rfl
    exact(hdr hd).2 (zjY hG h0m (hdr hd).1 ha (hin (hdr hd).1 hx)).symm
theorem zjz {nx:Int→List Int}{n:Nat}{code:Int→List Int}(hG:Graph nx n) (hn:1≤n):(orderN nx n code).length=n:=by
  have hp:(orderN nx n code).Perm ((List.range n).map fun i:Nat=>(i:Int)):=by
    rw [List.perm_ext_iff_of_nodup (zdi hG hn) (by
      unfold List.Nodup
      rw [List.pairwise_map]
      exact(List.nodup_range (n:=n)).imp fun {a b} h e=>h (by exact_mod_cast e))]
    intro x
    rw [zfS hG hn,List.mem_map]
    constructor
    · rintro⟨h0,h1⟩
      exact⟨x.toNat,List.mem_range.2 (by omega),by omega⟩
    · rintro⟨i,hi,rfl⟩
      have:=List.mem_range.1 hi
      omega
  have:=hp.length_eq
  simpa using this
end Go.E


namespace Go.E
open Go.RowKit Go.Proofs
set_option linter.unusedSimpArgs false
set_option linter.unusedVariables false

def nxN (A:List D.Agent) (x:Int):List Int:=match A[x.toNat]? with
  | some a=>a.Ports.map fun p=>p.Agent
  | none=>[]
structure NetOk (A:List D.Agent):Prop where
  graph:Graph (nxN A) A.length
  one:1≤A.length
  len:A.length≤600
  ports:∀ a∈A,a.Ports.length≤4
  data:∀ a∈A,a.Data.length≤4
theorem ziH {A:List D.Agent}{x:Int}{a:D.Agent}(h:A[x.toNat]? = some a):nxN A x=a.Ports.map fun p=>p.Agent:=by unfold nxN;rw [h]
theorem zc0 {α:Type}{xs:List α}{i:Int}(h0:0≤i) (h:i<xs.length):∃ x,xs[i.toNat]? = some x∧idx xs i=some x:=by
  obtain⟨x,hx⟩:=z1r (xs:=xs) (i:=i.toNat) (by omega)
  exact⟨x,hx,by unfold idx;rw [if_pos h0,hx]⟩
theorem zjV {α:Type}{xs:List α}{i:Int}{x:α}(h0:0≤i) (h:xs[i.toNat]? = some x):idx xs i=some x:=by unfold idx;rw [if_pos h0,h]
theorem zep {A:List D.Agent}(hN:NetOk A){x:Int}{a:D.Agent}{p:D.Port}(h0:0≤x) (h1:x<A.length) (ha:A[x.toNat]? = some a) (hp:p∈a.Ports):0≤p.Agent∧p.Agent<A.length:=
  hN.graph.rng x h0 h1 _ (by rw [ziH ha];exact List.mem_map.2 ⟨p,hp,rfl⟩)


def posL (n:Nat) (l:List Int):List Int:=(List.range n).map fun i:Nat=>if(i:Int)∈l then((l.idxOf (i:Int):Nat):Int) else -1
theorem zeL {n:Nat}{l:List Int}:(posL n l).length=n:=by simp [posL]
theorem zhs {n:Nat}{l:List Int}{x:Int}(h0:0≤x) (h1:x<n):(posL n l)[x.toNat]? = some (if x∈l then((l.idxOf x:Nat):Int) else -1):=by
  unfold posL
  rw [List.getElem?_map,List.getElem?_range (by omega),Option.map_some,show((x.toNat:Nat):Int)=x by omega]
theorem zjv {n:Nat}{l:List Int}{y:Int}(h0:0≤y) (h1:y<n) (hy:y ∉ l):(posL n l).set y.toNat (l.length:Int)=posL n (l++[y]):=by
  apply List.ext_getElem?
  intro i
  rcases Nat.lt_or_ge i n with h | h
  · have e:=zhs (n:=n) (l:=l++[y]) (x:=(i:Int)) (by omega) (by omega)
    have e':=zhs (n:=n) (l:=l) (x:=(i:Int)) (by omega) (by omega)
    rw [Int.toNat_natCast] at e e'
    rw [e]
    by_cases hi:y.toNat=i
    · rw [hi,List.getElem?_set_self (by rw [zeL];exact h)]
      obtain rfl:y=(i:Int):=by omega
      rw [if_pos (by simp),z9Q hy,if_neg hy,if_pos rfl]
    · have hne:(i:Int)≠y:=by omega
      rw [List.getElem?_set_ne hi,e',z9Q hy]
      by_cases hm:(i:Int)∈l
      · rw [if_pos hm,if_pos (by simp [hm]),if_pos hm]
      · rw [if_neg hm,if_neg (by simp [hm,hne])]
  · rw [List.getElem?_eq_none (by simp [zeL];omega),List.getElem?_eq_none (by simp [zeL];omega)]
structure Met (n:Nat) (l:List Int):Prop where
  nodup:l.Nodup
  rng:∀ x∈l,0≤x∧x<n
theorem Met.len {n:Nat}{l:List Int}(h:Met n l):l.length≤n:=zcA h.nodup h.rng
theorem Met.add {n:Nat}{l:List Int}{y:Int}(h:Met n l) (hy:0≤y∧y<n):Met n (if y∈l then l else l++[y]):=by
  split
  · exact h
  · rename_i hn
    refine⟨List.nodup_append.2 ⟨h.nodup,by simp,fun a ha b hb=>?_⟩,fun x hx=>?_⟩
    · rw [List.mem_singleton] at hb;subst hb;rintro rfl;exact hn ha
    · rcases List.mem_append.1 hx with hx | hx
      · exact h.rng x hx
      · rw [List.mem_singleton] at hx;subst hx;exact hy
theorem zb4 {fuel:Nat}{A:List D.Agent}{s:Int}(hf:18446744073709551616≤fuel) (hN:NetOk A) (h0:0≤s) (h1:s<A.length):
    z1o fuel ⟨A⟩ s=some (travN (nxN A) A.length s,posL A.length (travN (nxN A) A.length s)):=by
  have hn:=hN.len
  unfold z1o
  obtain⟨o,e1,rfl⟩:=zc (body:=z2B fuel ⟨A⟩) (fun i st=>st=((i:Int),List.replicate i (-1))) A.length (fun o=>o=.inl (List.replicate A.length (-1))) (by
    rintro i st hi rfl
    refine .inl ⟨(w64 (i+1),List.replicate i (-1)++[-1]),?_,?_⟩
    · unfold z2B
      dsimp only
      rw [if_pos (by simpa using hi),if_pos (by simp;omega)]
    · rw [z7 (by omega) (by omega),List.replicate_succ'];rfl) (by
    rintro st rfl
    refine .inr ⟨_,?_,rfl⟩
    unfold z2B
    rw [if_neg (by simp)]) (fuel:=fuel) (i:=0) (s:=(0,[])) (Nat.zero_le _) (by omega) rfl
  rw [e1,Option.bind_some,z6]
  unfold z6e
  rw [if_pos (by simp;omega)]
  have hp0:(List.replicate A.length (-1)).set s.toNat 0=posL A.length [s]:=by
    have h:=zjv (n:=A.length) (l:=[]) (y:=s) h0 h1 (by simp)
    have e:posL A.length []=List.replicate A.length (-1):=by
      unfold posL
      apply List.ext_getElem?
      intro i
      rcases Nat.lt_or_ge i A.length with h | h
      · rw [List.getElem?_map,List.getElem?_range h,List.getElem?_replicate,if_pos h];simp
      · rw [List.getElem?_eq_none (by simpa using h),List.getElem?_eq_none (by simpa using h)]
    rw [e] at h
    exact h
  rw [hp0]
  obtain⟨t,e2,rfl⟩:=growLoop (nx:=nxN A) (n:=A.length) (s0:=s) (body:=z2A fuel ⟨A⟩) (fun k l st=>st=((k:Int),posL A.length l,l)) (fun l t=>t=(posL A.length l,l)) hN.graph (by
    rintro k l x st hT hx rfl
    have hr:=hT.rng x (List.mem_of_getElem? hx)
    have hkl:=(List.getElem?_eq_some_iff.1 hx).1
    have hln:=hT.len
    obtain⟨a,a1,a2⟩:=zc0 (xs:=A) hr.1 hr.2
    have hpl:=hN.ports a (List.mem_of_getElem? a1)
    obtain⟨t,e3,rfl⟩:=visLoop (xs:=a.Ports) (ag:=fun p=>p.Agent) (body:=z2z fuel a) (fun i l st=>st=((i:Int),posL A.length l,l)∧Met A.length l) (fun l t=>t=(posL A.length l,l)) (by
      rintro i p l st hp ⟨rfl,hM⟩
      have hil:=(List.getElem?_eq_some_iff.1 hp).1
      have hpr:=zep hN hr.1 hr.2 a1 (List.mem_of_getElem? hp)
      have hl:=hM.len
      have hpa:=zhs (l:=l) hpr.1 hpr.2
      refine⟨(w64 (i+1),posL A.length (if p.Agent∈l then l else l++[p.Agent]),(if p.Agent∈l then l else l++[p.Agent])),?_,by rw [z7 (by omega) (by omega)];rfl,hM.add hpr⟩
      unfold z2z z2y
      dsimp only
      rw [if_pos (by simpa using hil),z8 hp,Option.bind_some,zjV hpr.1 hpa,Option.bind_some]
      by_cases hm:p.Agent∈l
      · rw [if_pos hm,if_neg (by simp),if_pos hm]
      · rw [if_neg hm,if_pos (by simp),if_neg hm,if_pos (by simp only [zeL,decide_eq_true_eq];omega),if_pos (by simp;omega),zjv hpr.1 hpr.2 hm]) (by
      rintro l st ⟨rfl,hM⟩
      refine⟨_,?_,rfl⟩
      unfold z2z
      rw [if_neg (by simp)]) (ys:=a.Ports) (i:=0) (l:=l) (s:=(0,posL A.length l,l)) (fuel:=fuel) (by simp) (by simp) (by omega) ⟨rfl,hT.nodup,hT.rng⟩
    refine⟨(w64 (k+1),posL A.length (vis l (nxN A x)),vis l (nxN A x)),?_,by rw [z7 (by omega) (by omega)];rfl⟩
    unfold z2A z6d
    dsimp only
    rw [if_pos (by simpa using hkl),z8 hx,Option.bind_some,a2,Option.bind_some,e3,Option.bind_some,z6,ziH a1]) (by
    rintro k l st hT hlk rfl
    refine⟨_,?_,rfl⟩
    unfold z2A
    rw [if_neg (by simp;omega)]) (f:=A.length+1) (k:=0) (l:=[s]) (s:=(0,posL A.length [s],[s])) (fuel:=fuel) (by omega) (by omega) (TrvI.begin h0 h1) rfl
  rw [e2,Option.bind_some,z6]
  rfl
def Seen (M:List (Int × Bool)) (l:List Int):Prop:=∀ x,(mget M x).getD false=decide (x∈l)
theorem zhp {M:List (Int × Bool)}{l:List Int}{y:Int}(h:Seen M l):Seen (mput M y true) (l++[y]):=by
  intro x
  rw [z9v]
  by_cases hxy:y=x
  · subst hxy;simp
  · rw [if_neg hxy,h x]
    simp [Ne.symm hxy]
theorem zb5 {fuel:Nat}{A:List D.Agent}{s:Int}(hf:18446744073709551616≤fuel) (hN:NetOk A) (h0:0≤s) (h1:s<A.length):
    z1N fuel ⟨A⟩ s=some (travN (nxN A) A.length s):=by
  have hn:=hN.len
  unfold z1N
  obtain⟨t,e2,rfl⟩:=growLoop (nx:=nxN A) (n:=A.length) (s0:=s) (body:=z2i fuel ⟨A⟩) (fun k l st=>∃ M,st=((k:Int),M,l)∧Seen M l) (fun l t=>t=l) hN.graph (by
    rintro k l x st hT hx ⟨M,rfl,hM⟩
    have hr:=hT.rng x (List.mem_of_getElem? hx)
    have hkl:=(List.getElem?_eq_some_iff.1 hx).1
    have hln:=hT.len
    obtain⟨a,a1,a2⟩:=zc0 (xs:=A) hr.1 hr.2
    have hpl:=hN.ports a (List.mem_of_getElem? a1)
    obtain⟨t,e3,M2,rfl,hM2⟩:=visLoop (xs:=a.Ports) (ag:=fun p=>p.Agent) (body:=z2h fuel a) (fun i l st=>(∃ M,st=((i:Int),M,l)∧Seen M l)∧Met A.length l) (fun l t=>∃ M,t=(M,l)∧Seen M l) (by
      rintro i p l st hp ⟨⟨M,rfl,hS⟩,hM⟩
      have hil:=(List.getElem?_eq_some_iff.1 hp).1
      have hpr:=zep hN hr.1 hr.2 a1 (List.mem_of_getElem? hp)
      have hl:=hM.len
      have hadd:=hM.add hpr
      unfold z2h z2g
      dsimp only
      rw [if_pos (by simpa using hil),z8 hp,Option.bind_some,hS p.Agent]
      by_cases hm:p.Agent∈l
      · rw [if_pos hm] at hadd ⊢
        exact⟨(w64 (i+1),M,l),by rw [if_neg (by simp [hm])],⟨M,by rw [z7 (by omega) (by omega)];rfl,hS⟩,hadd⟩
      · rw [if_neg hm] at hadd ⊢
        exact⟨(w64 (i+1),mput M p.Agent true,l++[p.Agent]),by rw [if_pos (by simp [hm]),if_pos (by simp;omega)],⟨_,by rw [z7 (by omega) (by omega)];rfl,zhp hS⟩,hadd⟩) (by
      rintro l st ⟨⟨M,rfl,hS⟩,hM⟩
      refine⟨_,?_,M,rfl,hS⟩
      unfold z2h
      rw [if_neg (by simp)]) (ys:=a.Ports) (i:=0) (l:=l) (s:=(0,M,l)) (fuel:=fuel) (by simp) (by simp) (by omega) ⟨⟨M,rfl,hM⟩,hT.nodup,hT.rng⟩
    refine⟨(w64 (k+1),M2,vis l (nxN A x)),?_,M2,by rw [z7 (by omega) (by omega)];rfl,by rw [ziH a1];exact hM2⟩
    unfold z2i z5T
    dsimp only
    rw [if_pos (by simpa using hkl),z8 hx,Option.bind_some,a2,Option.bind_some,e3,Option.bind_some,z6,ziH a1]) (by
    rintro k l st hT hlk ⟨M,rfl,hM⟩
    refine⟨_,?_,rfl⟩
    unfold z2i
    rw [if_neg (by simp;omega)]) (f:=A.length+1) (k:=0) (l:=[s]) (s:=(0,mput [] s true,[s])) (fuel:=fuel) (by omega) (by omega) (TrvI.begin h0 h1) ⟨_,rfl,zhp (l:=[]) (fun x=>by simp [mget])⟩
  rw [e2,Option.bind_some,z6]
  rfl


def portC (l:List Int) (p:D.Port):List Int:=[((l.idxOf p.Agent:Nat):Int),p.Slot]
def agC (l:List Int) (a:D.Agent):List Int:=[a.Kind,a.Level,a.Value,(a.Data.length:Int)]++a.Data++a.Ports.flatMap (portC l)
def agX (A:List D.Agent) (l:List Int) (x:Int):List Int:=match A[x.toNat]? with
  | some a=>agC l a
  | none=>[]
theorem zof {A:List D.Agent}{l:List Int}{x:Int}{a:D.Agent}(h:A[x.toNat]? = some a):agX A l x=agC l a:=by unfold agX;rw [h]
def codeL (A:List D.Agent) (l:List Int):List Int:=l.flatMap (agX A l)
def codeN (A:List D.Agent) (x:Int):List Int:=codeL A (travN (nxN A) A.length x)

theorem appdLoop {α S τ ρ β:Type}{xs:List α}{body:S→Option (Rd S τ ρ)}{mk:Int→List β→S}{out:List β→τ}{g:α→List β}{s0:List β}{b:Nat}{fuel:Nat}(hl:xs.length≤1048576) (hf:18446744073709551616≤fuel)
    (hb:∀ x∈xs,(g x).length≤b)
    (step:∀ (i:Nat) x (s:List β),xs[i]? = some x→s.length≤s0.length+b*i→body (mk i s)=some (.next (mk (w64 (i+1)) (s++g x)))) (last:∀ s,body (mk xs.length s)=some (.brk (out s))):
    iter body fuel (mk 0 s0)=some (.inl (out (s0++xs.flatMap g))):=by
  obtain⟨o,h1,h2⟩:=zc (body:=body) (fun i s=>s=mk i (s0++(xs.take i).flatMap g)∧((xs.take i).flatMap g).length≤b*i) xs.length (fun o=>o=.inl (out (s0++xs.flatMap g))) (by
    rintro i s hi ⟨rfl,hle⟩
    obtain⟨x,hx⟩:=z1r hi
    have e:(xs.take (i+1)).flatMap g=(xs.take i).flatMap g++g x:=by rw [List.take_add_one,hx,List.flatMap_append];simp
    refine .inl ⟨_,step i x _ hx (by rw [List.length_append];omega),?_,?_⟩
    · rw [z7 (by omega) (by omega),e,List.append_assoc];rfl
    · rw [e,List.length_append,Nat.mul_succ];have:=hb x (List.mem_of_getElem? hx);omega) (by
    rintro s ⟨rfl,hle⟩
    rw [List.take_length]
    exact .inr ⟨_,last _,rfl⟩) (fuel:=fuel) (i:=0) (s:=mk 0 s0) (Nat.zero_le _) (by omega) (by simp)
  rw [h1,h2]
theorem zoN {A:List D.Agent}(hN:NetOk A){l:List Int}{a:D.Agent}(ha:a∈A):(agC l a).length≤16:=by
  unfold agC
  have h1:=hN.ports a ha
  have h2:=hN.data a ha
  have h3:(a.Ports.flatMap (portC l)).length=2*a.Ports.length:=by
    generalize a.Ports=ps
    induction ps with
    | nil=>rfl
    | cons p ps ih=>rw [List.flatMap_cons,List.length_append,ih];simp [portC];omega
  rw [List.length_append,List.length_append,h3]
  simp only [List.length_cons,List.length_nil]
  omega
end Go.E


namespace Go.E
open Go.RowKit Go.Proofs
set_option linter.unusedSimpArgs false
set_option linter.unusedVariables false

structure Clo (A:List D.Agent) (l:List Int):Prop where
  nodup:l.Nodup
  rng:∀ x∈l,0≤x∧x<A.length
  closed:∀ x∈l,∀ a,A[x.toNat]? = some a→∀ p∈a.Ports,p.Agent∈l
theorem Clo.len {A:List D.Agent}{l:List Int}(h:Clo A l):l.length≤A.length:=zcA h.nodup h.rng
theorem zeB {A:List D.Agent}{s:Int}(hN:NetOk A) (h0:0≤s) (h1:s<A.length):Clo A (travN (nxN A) A.length s) where
  nodup:=zat hN.graph h0 h1
  rng x hx:=z5X hN.graph h0 h1 hx
  closed x hx a ha p hp:=by
    rw [zcy hN.graph h0 h1] at hx ⊢
    exact .step hx (by rw [ziH ha];exact List.mem_map.2 ⟨p,hp,rfl⟩)
theorem zbi {l:List Int}{ps:List D.Port}:∀ x∈ps,(portC l x).length≤2:=fun x _=>by simp [portC]
theorem zmN {A:List D.Agent}(hN:NetOk A){l:List Int}{x:Int}:(agX A l x).length≤16:=by
  unfold agX
  cases h:A[x.toNat]? with
  | some a=>exact zoN hN (List.mem_of_getElem? h)
  | none=>simp
theorem zgy {fuel:Nat}{A:List D.Agent}{s:Int}(hf:18446744073709551616≤fuel) (hN:NetOk A) (h0:0≤s) (h1:s<A.length):
    z5N fuel ⟨A⟩ s=some (codeN A s):=by
  have hn:=hN.len
  have hC:=zeB hN h0 h1
  have hlen:=hC.len
  unfold z5N codeN
  rw [zb4 hf hN h0 h1,Option.bind_some]
  generalize travN (nxN A) A.length s=l at hC hlen ⊢
  have h:=appdLoop (xs:=l) (body:=z4W fuel ⟨A⟩ (l,posL A.length l)) (mk:=fun k st=>(k,st)) (out:=fun st=>st) (g:=agX A l) (s0:=[]) (b:=16) (fuel:=fuel) (by omega) hf (fun x _=>zmN hN) (by
    rintro k x st hx hst
    have hkl:=(List.getElem?_eq_some_iff.1 hx).1
    have hxm:=List.mem_of_getElem? hx
    have hr:=hC.rng x hxm
    obtain⟨a,a1,a2⟩:=zc0 (xs:=A) hr.1 hr.2
    have am:=List.mem_of_getElem? a1
    have hpl:=hN.ports a am
    have hdl:=hN.data a am
    simp only [List.length_nil,Nat.zero_add] at hst
    unfold z4W
    dsimp only
    rw [if_pos (by simpa using hkl),z8 hx,Option.bind_some,a2,Option.bind_some,if_pos (by simp;omega),if_pos (by simp;omega)]
    have hi:=appdLoop (xs:=a.Ports) (body:=z4V fuel (l,posL A.length l) a) (mk:=fun k st=>(k,st)) (out:=fun st=>st) (g:=portC l) (s0:=st++[a.Kind,a.Level,a.Value,(a.Data.length:Int)]++a.Data) (b:=2) (fuel:=fuel) (by omega) hf zbi (by
      rintro i p st2 hp hst2
      have hil:=(List.getElem?_eq_some_iff.1 hp).1
      have hpm:=List.mem_of_getElem? hp
      have hpr:=zep hN hr.1 hr.2 a1 hpm
      have hin:=hC.closed x hxm a a1 p hpm
      have hpa:=zhs (l:=l) hpr.1 hpr.2
      rw [if_pos hin] at hpa
      rw [List.length_append,List.length_append] at hst2
      simp only [List.length_cons,List.length_nil] at hst2
      unfold z4V
      dsimp only
      rw [if_pos (by simpa using hil),z8 hp,Option.bind_some,zjV hpr.1 hpa,Option.bind_some,Option.bind_some,if_pos (by simp;omega)]
      rfl) (by
      intro st2
      unfold z4V
      rw [if_neg (by simp)])
    try dsimp only at hi
    rw [hi,Option.bind_some,z6]
    unfold z80
    dsimp only
    rw [zof a1]
    unfold agC
    simp only [List.append_assoc]) (by
    intro st
    unfold z4W
    rw [if_neg (by simp)])
  try dsimp only at h
  rw [h,Option.bind_some,z6]
  rfl
def Placed (M:List (Int × Int)) (l:List Int) (k:Nat):Prop:=∀ x,(mget M x)=if x∈l.take k then some ((l.idxOf x:Nat):Int) else none
theorem ziA {M:List (Int × Int)}{l:List Int}{k:Nat}{x:Int}(hn:l.Nodup) (h:Placed M l k) (hx:l[k]? = some x):Placed (mput M x k) l (k+1):=by
  have hk:=(List.getElem?_eq_some_iff.1 hx).1
  have hi:l.idxOf x=k:=by
    obtain⟨h1,rfl⟩:=List.getElem?_eq_some_iff.1 hx
    exact hn.idxOf_getElem k h1
  intro y
  rw [z9v,List.take_add_one,hx,h y]
  by_cases hxy:x=y
  · subst hxy
    rw [if_pos rfl,if_pos (by simp),hi]
  · rw [if_neg hxy]
    have:(y∈l.take k++(some x).toList)↔y∈l.take k:=by simp [Ne.symm hxy]
    simp only [this]
theorem zfQ {fuel:Nat}{l:List Int}(hf:18446744073709551616≤fuel) (hn:l.Nodup) (hl:l.length≤100000){τ ρ:Type}{body:Int × List (Int × Int)→Option (Rd (Int × List (Int × Int)) (List (Int × Int)) ρ)}
    (hb:∀ (k:Nat) M,body ((k:Int),M)=(if(decide ((k:Int)<(l.length:Int)))=true then((idx l (k:Int)).bind fun x=>some (.next (w64 (k+1),mput M x k))) else some (.brk M))):
    ∃ M,iter body fuel (0,[])=some (.inl M)∧Placed M l l.length:=by
  obtain⟨o,e1,M,rfl,hM⟩:=zc (body:=body) (fun i st=>∃ M,st=((i:Int),M)∧Placed M l i) l.length (fun o=>∃ M,o=.inl M∧Placed M l l.length) (by
    rintro i st hi ⟨M,rfl,hM⟩
    obtain⟨x,hx⟩:=z1r hi
    refine .inl ⟨(w64 ((i:Int)+1),mput M x i),?_,mput M x i,by rw [z7 (by omega) (by omega)];rfl,ziA hn hM hx⟩
    rw [hb,if_pos (by simpa using hi),z8 hx,Option.bind_some]) (by
    rintro st ⟨M,rfl,hM⟩
    exact .inr ⟨M,by rw [hb,if_neg (by simp)],M,rfl,hM⟩) (fuel:=fuel) (i:=0) (s:=(0,[])) (Nat.zero_le _) (by omega) ⟨[],rfl,fun x=>by simp [mget]⟩
  exact⟨M,e1,hM⟩
theorem zfP {M:List (Int × Int)}{l:List Int}{x:Int}(h:Placed M l l.length) (hx:x∈l):(mget M x).getD 0=((l.idxOf x:Nat):Int):=by
  rw [h x,List.take_length,if_pos hx];rfl
theorem zgz {fuel:Nat}{A:List D.Agent}{l:List Int}(hf:18446744073709551616≤fuel) (hN:NetOk A) (hC:Clo A l):
    z6y fuel ⟨A⟩ l=some (codeL A l):=by
  have hn:=hN.len
  have hlen:=hC.len
  unfold z6y
  obtain⟨M,e1,hM⟩:=zfQ (τ:=Unit) (body:=z7M fuel l) hf hC.nodup (by omega) (fun k M=>rfl)
  rw [e1,Option.bind_some,z6]
  unfold z7L
  have h:=appdLoop (xs:=l) (body:=z4A fuel ⟨A⟩ l M) (mk:=fun k st=>(st,k)) (out:=fun st=>st) (g:=agX A l) (s0:=[]) (b:=16) (fuel:=fuel) (by omega) hf (fun x _=>zmN hN) (by
    rintro k x st hx hst
    have hkl:=(List.getElem?_eq_some_iff.1 hx).1
    have hxm:=List.mem_of_getElem? hx
    have hr:=hC.rng x hxm
    obtain⟨a,a1,a2⟩:=zc0 (xs:=A) hr.1 hr.2
    have am:=List.mem_of_getElem? a1
    have hpl:=hN.ports a am
    have hdl:=hN.data a am
    simp only [List.length_nil,Nat.zero_add] at hst
    unfold z4A
    dsimp only
    rw [if_pos (by simpa using hkl),z8 hx,Option.bind_some,a2,Option.bind_some,if_pos (by simp;omega),if_pos (by simp;omega)]
    have hi:=appdLoop (xs:=a.Ports) (body:=z4z fuel M a) (mk:=fun k st=>(k,st)) (out:=fun st=>st) (g:=portC l) (s0:=st++[a.Kind,a.Level,a.Value,(a.Data.length:Int)]++a.Data) (b:=2) (fuel:=fuel) (by omega) hf zbi (by
      rintro i p st2 hp hst2
      have hil:=(List.getElem?_eq_some_iff.1 hp).1
      have hpm:=List.mem_of_getElem? hp
      have hpr:=zep hN hr.1 hr.2 a1 hpm
      have hin:=hC.closed x hxm a a1 p hpm
      rw [List.length_append,List.length_append] at hst2
      simp only [List.length_cons,List.length_nil] at hst2
      unfold z4z
      dsimp only
      rw [if_pos (by simpa using hil),z8 hp,Option.bind_some,zfP hM hin,if_pos (by simp;omega)]
      rfl) (by
      intro st2
      unfold z4z
      rw [if_neg (by simp)])
    try dsimp only at hi
    rw [hi,Option.bind_some,z6]
    unfold z7K
    dsimp only
    rw [zof a1]
    unfold agC
    simp only [List.append_assoc]) (by
    intro st
    unfold z4A
    rw [if_neg (by simp)])
  try dsimp only at h
  rw [h,Option.bind_some,z6]
  rfl

theorem zi1 {xs ys:List Int}{i:Nat}{a b:Int}(ha:xs[i]? = some a) (hb:ys[i]? = some b):cmpL (xs.drop i) (ys.drop i)=if cmpI a b≠0 then cmpI a b else cmpL (xs.drop (i+1)) (ys.drop (i+1)):=by
  obtain⟨h1,rfl⟩:=List.getElem?_eq_some_iff.1 ha
  obtain⟨h2,rfl⟩:=List.getElem?_eq_some_iff.1 hb
  rw [List.drop_eq_getElem_cons h1,List.drop_eq_getElem_cons h2]
  rfl
theorem zmC (a:Int):cmpI a a=0:=by unfold cmpI;rw [if_neg (by omega),if_neg (by omega)]
theorem zi0 {xs ys:List Int}{i:Nat}(h:xs.length≤i):cmpL (xs.drop i) (ys.drop i)=if i<ys.length then -1 else 0:=by
  rw [List.drop_eq_nil_of_le h]
  cases hy:ys.drop i with
  | nil=>
    have:ys.length≤i:=by simpa using hy
    rw [if_neg (by omega)];rfl
  | cons y t=>
    have:i<ys.length:=by
      rcases Nat.lt_or_ge i ys.length with h | h
      · exact h
      · rw [List.drop_eq_nil_of_le h] at hy;cases hy
    rw [if_pos this];rfl
theorem zhZ {xs ys:List Int}{i:Nat}(h:i<xs.length) (h2:ys.length≤i):cmpL (xs.drop i) (ys.drop i)=1:=by
  rw [List.drop_eq_nil_of_le h2,List.drop_eq_getElem_cons h];rfl
theorem zfZ {fuel:Nat}{xs ys:List Int}(hf:18446744073709551616≤fuel) (hl:xs.length≤1000000):z5M fuel xs ys=some (decide (cmpL xs ys<0)):=by
  unfold z5M
  obtain⟨o,e1,e2⟩:=zc (body:=z4U fuel xs ys) (fun i st=>st=(i:Int)∧i≤ys.length∧cmpL xs ys=cmpL (xs.drop i) (ys.drop i)) xs.length (fun o=>aft o (z4T fuel xs ys)=some (decide (cmpL xs ys<0))) (by
    rintro i st hi ⟨rfl,hiy,hc⟩
    unfold z4U z3q
    rw [if_pos (by simpa using hi)]
    by_cases hy:i<ys.length
    · obtain⟨a,ha⟩:=z1r hi
      obtain⟨b,hb⟩:=z1r hy
      rw [if_pos (by simpa using hy),z8 ha,Option.bind_some,z8 hb,Option.bind_some]
      rw [zi1 ha hb] at hc
      by_cases hab:a=b
      · subst hab
        refine .inl ⟨(w64 (i+1)),by rw [if_neg (by simp)],by rw [z7 (by omega) (by omega)];rfl,by omega,?_⟩
        rw [hc,if_neg (by rw [zmC];simp)]
      · refine .inr (.inl ⟨_,by rw [if_pos (by simpa using hab),Option.bind_some,Option.bind_some],?_⟩)
        show some (decide (a<b))=_
        have hne:cmpI a b≠0:=fun h=>hab (zhc h)
        rw [hc,if_pos hne]
        congr 1
        unfold cmpI
        by_cases h:a<b
        · rw [if_pos h,decide_eq_true h];rfl
        · rw [if_neg h,if_pos (by omega),decide_eq_false h];rfl
    · refine .inr (.inr ⟨(),by rw [if_neg (by simpa using hy)],?_⟩)
      rw [z6,hc,zhZ hi (by omega)]
      unfold z4T
      rw [decide_eq_false (by omega)];rfl) (by
    rintro st ⟨rfl,hiy,hc⟩
    refine .inr ⟨(),?_,?_⟩
    · unfold z4U z3q
      rw [if_neg (by simp),if_neg (by simp)]
    · rw [z6,hc,zi0 (Nat.le_refl _)]
      unfold z4T
      by_cases h:xs.length<ys.length
      · rw [if_pos h,decide_eq_true (by omega)];rfl
      · rw [if_neg h,decide_eq_false (by omega)];rfl) (fuel:=fuel) (i:=0) (s:=0) (Nat.zero_le _) (by omega) ⟨rfl,Nat.zero_le _,rfl⟩
  rw [e1,Option.bind_some,e2]
theorem zi2 {fuel:Nat}{a b:Int}:z2s fuel a b=some (cmpI a b):=by
  unfold z2s z5o cmpI
  rw [Option.bind_some,Option.bind_some,if_neg (by simp),if_neg (by simp)]
  by_cases h:a<b
  · rw [if_pos (by simpa using h),if_pos h]
  · rw [if_neg (by simpa using h),if_neg h]
    by_cases h2:a>b
    · rw [if_pos (by simpa using h2),if_pos h2]
    · rw [if_neg (by simpa using h2),if_neg h2]
theorem zhY {fuel:Nat}{xs ys:List Int}(hf:18446744073709551616≤fuel) (hl:xs.length≤1000000):zK fuel xs ys=some (cmpL xs ys):=by
  unfold zK
  obtain⟨o,e1,e2⟩:=zc (body:=zR fuel xs ys) (fun i st=>st=(i:Int)∧i≤ys.length∧cmpL xs ys=cmpL (xs.drop i) (ys.drop i)) xs.length (fun o=>aft o (z1h fuel xs ys)=some (cmpL xs ys)) (by
    rintro i st hi ⟨rfl,hiy,hc⟩
    unfold zR
    obtain⟨a,ha⟩:=z1r hi
    rw [if_pos (by simpa using hi),z8 ha,Option.bind_some]
    by_cases hy:i<ys.length
    · obtain⟨b,hb⟩:=z1r hy
      rw [if_neg (by simp;omega),z8 hb,Option.bind_some,zi2,Option.bind_some]
      rw [zi1 ha hb] at hc
      by_cases hab:cmpI a b=0
      · rw [if_neg (by simpa using hab)]
        refine .inl ⟨(w64 (i+1)),rfl,by rw [z7 (by omega) (by omega)];rfl,by omega,?_⟩
        rw [hc,if_neg (by simpa using hab)]
      · rw [if_pos (by simpa using hab)]
        refine .inr (.inl ⟨_,rfl,?_⟩)
        rw [hc,if_pos hab];rfl
    · rw [if_pos (by simp;omega)]
      refine .inr (.inl ⟨_,rfl,?_⟩)
      rw [hc,zhZ hi (by omega)];rfl) (by
    rintro st ⟨rfl,hiy,hc⟩
    refine .inr ⟨(),?_,?_⟩
    · unfold zR
      rw [if_neg (by simp)]
    · rw [z6,hc,zi0 (Nat.le_refl _)]
      unfold z1h
      by_cases h:xs.length<ys.length
      · rw [if_pos h,if_pos (by simpa using h)]
      · rw [if_neg h,if_neg (by simpa using h)]) (fuel:=fuel) (i:=0) (s:=0) (Nat.zero_le _) (by omega) ⟨rfl,Nat.zero_le _,rfl⟩
  rw [e1,Option.bind_some,e2]
end Go.E


namespace Go.E
open Go.RowKit Go.Proofs
set_option linter.unusedSimpArgs false
set_option linter.unusedVariables false


theorem zjU {fuel0:Nat}{rest:List Int}:∀ {k fuel:Nat}{a b:List Int}{y:Int},a.length=k→k<fuel→a.length+b.length+rest.length<1000000→(a++b).Pairwise (·≤·)→(∀ x∈b,y≤x)→
    ∃ q:List Int,iter (z10 fuel0) fuel ((k:Int),a++y::(b++rest))=some (.inl (q++rest))∧q.Pairwise (·≤·)∧q.Perm (a++y::b)
  | k,0,a,b,y,_,h,_,_,_=>absurd h (Nat.not_lt_zero _)
  | 0,fuel+1,a,b,y,ha,hf,hl,hs,hy=>by
    obtain rfl:a=[]:=List.length_eq_zero_iff.1 ha
    refine⟨y::b,?_,List.pairwise_cons.2 ⟨hy,hs⟩,List.Perm.refl _⟩
    have e:z10 fuel0 (((0:Nat):Int),[]++y::(b++rest))=some (.brk (y::b++rest)):=by
      unfold z10 z1M
      rw [if_neg (by simp),if_neg (by simp)]
      rfl
    simp only [iter,e]
  | k+1,fuel+1,a,b,y,ha,hf,hl,hs,hy=>by
    obtain⟨a',z,rfl⟩:∃ a' z,a=a'++[z]:=⟨a.dropLast,a.getLast (by intro h;subst h;cases ha),(List.dropLast_concat_getLast _).symm⟩
    simp only [List.length_append,List.length_cons,List.length_nil] at ha hl
    have hk:a'.length=k:=by omega
    have hw:w64 (((k+1:Nat):Int) - 1)=(k:Int):=by rw [z7 (by omega) (by omega)];omega
    have h1:(a'++[z]++y::(b++rest))[k]? = some z:=by rw [List.append_assoc,List.getElem?_append_right (by omega),hk,Nat.sub_self];rfl
    have h2:(a'++[z]++y::(b++rest))[k+1]? = some y:=by rw [List.getElem?_append_right (by simp;omega)];simp [hk]
    have hlen:k+1<(a'++[z]++y::(b++rest)).length:=by simp;omega
    by_cases hzy:z>y
    · have e:z10 fuel0 (((k+1:Nat):Int),a'++[z]++y::(b++rest))=some (.next ((k:Int),a'++y::((z::b)++rest))):=by
        unfold z10 z1M
        dsimp only
        rw [hw,if_pos (by simp),z8 h1,Option.bind_some,z8 h2,Option.bind_some,if_pos (by simpa using hzy),Option.bind_some,Option.bind_some,if_pos (by simp only [decide_eq_true_eq];omega),if_pos (by simp only [decide_eq_true_eq,List.length_set];omega)]
        congr 3
        rw [Int.toNat_natCast,Int.toNat_natCast]
        have e1:(a'++[z]++y::(b++rest)).set (k+1) z=a'++[z]++z::(b++rest):=by
          rw [List.set_append_right _ _ (by simp;omega)];simp [hk]
        rw [e1,List.append_assoc,List.set_append_right _ _ (by omega),hk,Nat.sub_self]
        rfl
      obtain⟨q,q1,q2,q3⟩:=zjU (fuel0:=fuel0) (rest:=rest) (k:=k) (fuel:=fuel) (a:=a') (b:=z::b) (y:=y) hk (by omega) (by simp only [List.length_cons];omega) (by simpa using hs) (fun x hx=>by
        rcases List.mem_cons.1 hx with rfl | hx
        · omega
        · exact hy x hx)
      refine⟨q,by simp only [iter,e];exact q1,q2,q3.trans ?_⟩
      rw [List.append_assoc]
      exact List.Perm.append_left _ (List.Perm.swap _ _ _)
    · have e:z10 fuel0 (((k+1:Nat):Int),a'++[z]++y::(b++rest))=some (.brk (a'++[z]++y::(b++rest))):=by
        unfold z10 z1M
        dsimp only
        rw [hw,if_pos (by simp),z8 h1,Option.bind_some,z8 h2,Option.bind_some,if_neg (by simpa using hzy)]
      refine⟨a'++[z]++y::b,by simp only [iter,e];simp,?_,List.Perm.refl _⟩
      rw [List.append_assoc,List.pairwise_append] at hs
      obtain⟨s1,s2,s3⟩:=hs
      have s2':=List.pairwise_cons.1 s2
      refine List.pairwise_append.2 ⟨List.pairwise_append.2 ⟨s1,by simp,fun x hx w hw=>s3 x hx w (by simp at hw;subst hw;exact List.mem_cons_self)⟩,List.pairwise_cons.2 ⟨hy,s2'.2⟩,fun x hx w hw=>?_⟩
      have hxz:x≤z:=by
        rcases List.mem_append.1 hx with h | h
        · exact s3 x h z (by simp)
        · simp at h;omega
      rcases List.mem_cons.1 hw with rfl | hw
      · omega
      · have:=s2'.1 w (by simpa using hw);omega
theorem zir {fuel:Nat}{xs:List Int}(hf:18446744073709551616≤fuel) (hl:xs.length≤100000):z5D fuel xs=some (sortedI xs):=by
  unfold z5D z2t
  rw [if_pos (by simp;omega),Option.bind_some,List.nil_append]
  obtain⟨o,e1,rfl⟩:=zc (body:=z3F fuel xs) (fun i st=>∃ out:List Int,st=((i:Int),out)∧1≤i∧out.Perm xs∧(out.take i).Pairwise (·≤·)) (max 1 xs.length) (fun o=>o=.inl (sortedI xs)) (by
    rintro i _ hi ⟨out,rfl,h1,hp,hs⟩
    have hil:i<xs.length:=by omega
    have hlen:=hp.length_eq
    obtain⟨y,hy⟩:=z1r (xs:=out) (i:=i) (by omega)
    have hsplit:out=out.take i++y::([]++out.drop (i+1)):=by
      obtain⟨hlt,rfl⟩:=List.getElem?_eq_some_iff.1 hy
      rw [List.nil_append,← List.drop_eq_getElem_cons hlt,List.take_append_drop]
    have htl:(out.take i).length=i:=by rw [List.length_take];omega
    obtain⟨q,q1,q2,q3⟩:=zjU (fuel0:=fuel) (rest:=out.drop (i+1)) (k:=i) (fuel:=fuel) (a:=out.take i) (b:=[]) (y:=y) htl (by omega) (by simp;omega) (by simpa using hs) (fun x hx=>by cases hx)
    rw [← hsplit] at q1
    have hql:q.length=i+1:=by rw [q3.length_eq,List.length_append,htl];rfl
    refine .inl ⟨(w64 (i+1),q++out.drop (i+1)),?_,q++out.drop (i+1),by rw [z7 (by omega) (by omega)];rfl,by omega,?_,?_⟩
    · unfold z3F z7a
      dsimp only
      rw [if_pos (by simpa using hil),q1,Option.bind_some,z6]
    · refine(q3.append_right _).trans (List.Perm.trans ?_ hp)
      rw [List.append_assoc]
      exact List.Perm.of_eq hsplit.symm
    · rw [List.take_append_of_le_length (by omega),List.take_of_length_le (by omega)]
      exact q2) (by
    rintro _ ⟨out,rfl,h1,hp,hs⟩
    have hlen:=hp.length_eq
    rw [List.take_of_length_le (by omega)] at hs
    refine .inr ⟨out,?_,by rw [zis hp hs]⟩
    unfold z3F
    rw [if_neg (by simp;omega)]) (fuel:=fuel) (i:=1) (s:=(1,xs)) (by omega) (by omega) ⟨xs,rfl,Nat.le_refl _,List.Perm.refl _,by
      cases xs with
      | nil=>simp
      | cons x xs=>simp⟩
  rw [e1,Option.bind_some,z6]
  rfl


def doneL (nx:Int→List Int) (n:Nat) (hs:List Int):List Bool:=(List.range n).map fun x:Nat=>hs.any fun h=>decide ((x:Int)∈travN nx n h)
theorem zmx {nx:Int→List Int}{n:Nat}{hs:List Int}{i:Nat}(hi:i<n):(doneL nx n hs)[i]? = some (hs.any fun h=>decide ((i:Int)∈travN nx n h)):=by
  unfold doneL
  rw [List.getElem?_map,List.getElem?_range hi];rfl
theorem zhV {nx:Int→List Int}{n:Nat}{hs:List Int}:(doneL nx n hs).length=n:=by simp [doneL]
theorem zhy {fuel n:Nat}{l:List Int}{d:List Bool}(hf:18446744073709551616≤fuel) (hl:l.length≤100000) (hr:∀ x∈l,0≤x∧x<n) (hd:d.length=n){ρ:Type}{body:Int × List Bool→Option (Rd (Int × List Bool) (List Bool) ρ)}
    (hb:∀ (k:Nat) d,body ((k:Int),d)=(if(decide ((k:Int)<(l.length:Int)))=true then((idx l (k:Int)).bind fun x=>(if decide (0≤x∧x.toNat<d.length)=true then some (.next (w64 (k+1),d.set x.toNat true)) else none)) else some (.brk d))):
    iter body fuel (0,d)=some (.inl ((List.range n).map fun i:Nat=>(d.getD i false) || decide ((i:Int)∈l))):=by
  obtain⟨o,e1,rfl⟩:=zc (body:=body) (fun k st=>st=((k:Int),(List.range n).map fun i:Nat=>(d.getD i false) || decide ((i:Int)∈l.take k))) l.length (fun o=>o=.inl ((List.range n).map fun i:Nat=>(d.getD i false) || decide ((i:Int)∈l))) (by
    rintro k st hk rfl
    obtain⟨x,hx⟩:=z1r hk
    have hxr:=hr x (List.mem_of_getElem? hx)
    refine .inl ⟨(w64 ((k:Int)+1),((List.range n).map fun i:Nat=>(d.getD i false) || decide ((i:Int)∈l.take k)).set x.toNat true),?_,?_⟩
    · rw [hb,if_pos (by simpa using hk),z8 hx,Option.bind_some,if_pos (by simp;omega)]
    · rw [z7 (by omega) (by omega)]
      congr 1
      apply List.ext_getElem?
      intro i
      rcases Nat.lt_or_ge i n with h | h
      · by_cases hi:x.toNat=i
        · rw [hi,List.getElem?_set_self (by simpa using h),List.getElem?_map,List.getElem?_range h]
          obtain rfl:x=(i:Int):=by omega
          rw [List.take_add_one,hx];simp
        · rw [List.getElem?_set_ne hi,List.getElem?_map,List.getElem?_map,List.getElem?_range h]
          have hne:(i:Int)≠x:=by omega
          rw [List.take_add_one,hx];simp [hne]
      · rw [List.getElem?_eq_none (by simpa using h),List.getElem?_eq_none (by simpa using h)]) (by
    rintro st rfl
    rw [List.take_length]
    exact .inr ⟨_,by rw [hb,if_neg (by simp)],rfl⟩) (fuel:=fuel) (i:=0) (s:=(0,d)) (Nat.zero_le _) (by omega) (by
      congr 1
      apply List.ext_getElem?
      intro i
      rcases Nat.lt_or_ge i n with h | h
      · rw [List.getElem?_map,List.getElem?_range h,Option.map_some,List.getD_eq_getElem?_getD,List.getElem?_eq_getElem (by omega)];simp
      · rw [List.getElem?_eq_none (by omega),List.getElem?_eq_none (by simpa using h)])
  exact e1
theorem zgt {nx:Int→List Int}{n:Nat}{hs:List Int}{h:Int}:((List.range n).map fun i:Nat=>((doneL nx n hs).getD i false) || decide ((i:Int)∈travN nx n h))=doneL nx n (hs++[h]):=by
  unfold doneL
  apply List.map_congr_left
  intro i hi
  have hi:=List.mem_range.1 hi
  rw [List.getD_eq_getElem?_getD,List.getElem?_map,List.getElem?_range hi,List.any_append]
  simp
theorem zeV {nx:Int→List Int}{n i:Nat}:hdN nx n (i+1)=if((hdN nx n i).any fun h=>decide ((i:Int)∈travN nx n h))=true then hdN nx n i else hdN nx n i++[(i:Int)]:=by
  rw [hdN]
  by_cases h:∃ h∈hdN nx n i,(i:Int)∈travN nx n h
  · rw [if_pos h,if_pos (by simpa using h)]
  · rw [if_neg h,if_neg (by simpa using h)]
theorem zeo {nx:Int→List Int}{n:Nat}{hs:List Int}{i:Int}:(hs++[i]).map (partN nx n)=hs.map (partN nx n)++[sortedI (travN nx n i)]:=by rw [List.map_append];rfl
theorem ziC {fuel:Nat}{A:List D.Agent}(hf:18446744073709551616≤fuel) (hN:NetOk A):z6f fuel ⟨A⟩=some (partsN (nxN A) A.length A.length):=by
  have hn:=hN.len
  unfold z6f
  rw [if_pos (by simp;omega)]
  obtain⟨o,e1,rfl⟩:=zc (body:=z47 fuel ⟨A⟩) (fun i st=>st=((i:Int),doneL (nxN A) A.length (hdN (nxN A) A.length i),partsN (nxN A) A.length i)) A.length (fun o=>o=.inl (partsN (nxN A) A.length A.length)) (by
    rintro i st hi rfl
    have hhl:=zg4 (nx:=nxN A) (n:=A.length) (i:=i)
    unfold z47
    dsimp only
    rw [if_pos (by simpa using hi),z8 (zmx hi),Option.bind_some]
    by_cases hd:((hdN (nxN A) A.length i).any fun h=>decide ((i:Int)∈travN (nxN A) A.length h))=true
    · rw [if_pos hd]
      refine .inl ⟨_,rfl,?_⟩
      rw [z7 (by omega) (by omega)]
      unfold partsN
      rw [zeV,if_pos hd];rfl
    · rw [if_neg hd,zb4 hf hN (by omega) (by omega),Option.bind_some]
      have hlen:=zau hN.graph (show(0:Int)≤i by omega) (by omega)
      have hm:=zhy (n:=A.length) (l:=travN (nxN A) A.length i) (d:=doneL (nxN A) A.length (hdN (nxN A) A.length i)) (body:=z7t fuel (travN (nxN A) A.length i,posL A.length (travN (nxN A) A.length i))) hf (by omega) (fun x hx=>z5X hN.graph (by omega) (by omega) hx) zhV (fun k d=>rfl)
      rw [zgt] at hm
      rw [hm,Option.bind_some,z6]
      unfold z7s z43
      dsimp only
      rw [zir hf (by omega),Option.bind_some,if_pos (by unfold partsN;simp;omega)]
      refine .inl ⟨_,rfl,?_⟩
      rw [z7 (by omega) (by omega)]
      unfold partsN
      rw [zeV,if_neg hd,zeo];rfl) (by
    rintro st rfl
    refine .inr ⟨_,?_,rfl⟩
    unfold z47
    rw [if_neg (by simp)]) (fuel:=fuel) (i:=0) (s:=(0,List.replicate ((A.length:Nat):Int).toNat false,[])) (Nat.zero_le _) (by omega) (by
      congr 2
      unfold doneL hdN
      rw [Int.toNat_natCast]
      apply List.ext_getElem?
      intro i
      rcases Nat.lt_or_ge i A.length with h | h
      · rw [List.getElem?_replicate,if_pos h,List.getElem?_map,List.getElem?_range h];rfl
      · rw [List.getElem?_eq_none (by simpa using h),List.getElem?_eq_none (by simpa using h)])
  rw [e1,Option.bind_some,z6]
  rfl
theorem ziD {fuel:Nat}{A:List D.Agent}(hf:18446744073709551616≤fuel) (hN:NetOk A):z2H fuel ⟨A⟩=some (partsN (nxN A) A.length A.length):=by
  have hn:=hN.len
  unfold z2H
  rw [if_pos (by simp;omega)]
  obtain⟨o,e1,rfl⟩:=zc (body:=z1R fuel ⟨A⟩) (fun i st=>st=(partsN (nxN A) A.length i,(i:Int),doneL (nxN A) A.length (hdN (nxN A) A.length i))) A.length (fun o=>o=.inl (partsN (nxN A) A.length A.length)) (by
    rintro i st hi rfl
    have hhl:=zg4 (nx:=nxN A) (n:=A.length) (i:=i)
    unfold z1R
    dsimp only
    rw [if_pos (by simpa using hi),z8 (zmx hi),Option.bind_some]
    by_cases hd:((hdN (nxN A) A.length i).any fun h=>decide ((i:Int)∈travN (nxN A) A.length h))=true
    · rw [if_pos hd]
      refine .inl ⟨_,rfl,?_⟩
      try dsimp only
      rw [z7 (by omega) (by omega)]
      unfold partsN
      rw [zeV,if_pos hd];rfl
    · rw [if_neg hd,zb5 hf hN (by omega) (by omega),Option.bind_some]
      have hlen:=zau hN.graph (show(0:Int)≤i by omega) (by omega)
      have hm:=zhy (n:=A.length) (l:=travN (nxN A) A.length i) (d:=doneL (nxN A) A.length (hdN (nxN A) A.length i)) (body:=z5m fuel (travN (nxN A) A.length i)) hf (by omega) (fun x hx=>z5X hN.graph (by omega) (by omega) hx) zhV (fun k d=>rfl)
      rw [zgt] at hm
      rw [hm,Option.bind_some,z6]
      unfold z5k z1Q z2u
      dsimp only
      rw [if_pos (by omega),Option.bind_some,if_pos (by unfold partsN;simp;omega)]
      refine .inl ⟨_,rfl,?_⟩
      try dsimp only
      rw [z7 (by omega) (by omega)]
      unfold partsN
      rw [zeV,if_neg hd,zeo];rfl) (by
    rintro st rfl
    refine .inr ⟨_,?_,rfl⟩
    unfold z1R
    rw [if_neg (by simp)]) (fuel:=fuel) (i:=0) (s:=([],0,List.replicate ((A.length:Nat):Int).toNat false)) (Nat.zero_le _) (by omega) (by
      congr 2
      unfold doneL hdN
      rw [Int.toNat_natCast]
      apply List.ext_getElem?
      intro i
      rcases Nat.lt_or_ge i A.length with h | h
      · rw [List.getElem?_replicate,if_pos h,List.getElem?_map,List.getElem?_range h];rfl
      · rw [List.getElem?_eq_none (by simpa using h),List.getElem?_eq_none (by simpa using h)])
  rw [e1,Option.bind_some,z6]
  rfl
end Go.E


namespace Go.E
open Go.RowKit Go.Proofs Go.Sort
set_option linter.unusedSimpArgs false
set_option linter.unusedVariables false

section
variable {A:List D.Agent}
theorem zcM {code:Int→List Int}{x:Int}:∀ {xs:List Int}{b:Int},bstN code b (xs++[x])=if cmpL (code x) (code (bstN code b xs))<0 then x else bstN code b xs
  | [],b=>rfl
  | y::ys,b=>by
    rw [List.cons_append]
    unfold bstN
    split
    · exact zcM
    · exact zcM
theorem zcL {s:Int}(hN:NetOk A) (h0:0≤s) (h1:s<A.length):(codeN A s).length≤9600:=by
  have hl:=(zeB hN h0 h1).len
  have hn:=hN.len
  unfold codeN codeL
  have key:∀ l:List Int,(l.flatMap (agX A (travN (nxN A) A.length s))).length≤16*l.length:=by
    intro l
    induction l with
    | nil=>simp
    | cons x xs ih=>
      rw [List.flatMap_cons,List.length_append,List.length_cons]
      have:=zmN hN (l:=travN (nxN A) A.length s) (x:=x)
      omega
  have:=key (travN (nxN A) A.length s)
  omega
theorem zeM {h x:Int}(hN:NetOk A) (hm:h∈hdN (nxN A) A.length A.length) (hx:x∈partN (nxN A) A.length h):0≤x∧x<A.length:=by
  have r:=z7Y hm
  exact z5X hN.graph r.1 r.2 (zhu.1 hx)
theorem zo6 {h:Int}(hN:NetOk A) (hm:h∈hdN (nxN A) A.length A.length) (k:Nat):0≤bstN (codeN A) h (((partN (nxN A) A.length h).drop 1).take k)∧bstN (codeN A) h (((partN (nxN A) A.length h).drop 1).take k)<A.length:=by
  rcases zfe (code:=codeN A) (xs:=((partN (nxN A) A.length h).drop 1).take k) (b:=h) with e | e
  · rw [e];exact z7Y hm
  · exact zeM hN hm (List.mem_of_mem_drop (List.mem_of_mem_take e))
theorem zhv {h:Int}(hN:NetOk A) (hm:h∈hdN (nxN A) A.length A.length):(partN (nxN A) A.length h).length≤600:=by
  have r:=z7Y hm
  have:=zau hN.graph r.1 r.2
  have hn:=hN.len
  unfold partN
  rw [zgU];omega
theorem zfz {xs:List Int}{i:Nat}{x:Int}(h:xs[i+1]? = some x):(xs.drop 1).take (i+1)=(xs.drop 1).take i++[x]:=by
  rw [List.take_add_one,List.getElem?_drop,Nat.add_comm 1 i,h];rfl
theorem ziN {fuel:Nat}{h:Int}(hf:18446744073709551616≤fuel) (hN:NetOk A) (hm:h∈hdN (nxN A) A.length A.length):
    z1w fuel ⟨A⟩ (partN (nxN A) A.length h)=some (traN (nxN A) A.length (codeN A) h):=by
  have hph:=zdh hN.graph hm
  have hpl:=zhv hN hm
  have hp1:=(List.getElem?_eq_some_iff.1 hph).1
  unfold z1w
  obtain⟨o,e1,rfl⟩:=zc (body:=zN fuel ⟨A⟩ (partN (nxN A) A.length h))
    (fun i st=>(i=0∧st=(0,[],[],0))∨∃ j,i=j+1∧st=(((j+1:Nat):Int),travN (nxN A) A.length (bstN (codeN A) h (((partN (nxN A) A.length h).drop 1).take j)),codeN A (bstN (codeN A) h (((partN (nxN A) A.length h).drop 1).take j)),h))
    (partN (nxN A) A.length h).length (fun o=>o=.inl (travN (nxN A) A.length (bestN (nxN A) A.length (codeN A) h),codeN A (bestN (nxN A) A.length (codeN A) h),h)) (by
    intro i st hi hst
    obtain⟨x,hx⟩:=z1r hi
    have hxr:=zeM hN hm (List.mem_of_getElem? hx)
    have hC:=zeB hN hxr.1 hxr.2
    have hce:codeL A (travN (nxN A) A.length x)=codeN A x:=rfl
    have hne:(travN (nxN A) A.length x).isEmpty=false:=by
      have:=z6c hN.graph hxr.1 hxr.2
      cases h2:travN (nxN A) A.length x with
      | nil=>rw [h2] at this;cases this
      | cons a b=>rfl
    have hph':idx (partN (nxN A) A.length h) 0=some h:=z8 (i:=0) hph
    rcases hst with⟨rfl,rfl⟩ | ⟨j,rfl,rfl⟩
    · refine .inl ⟨(w64 (0+1),travN (nxN A) A.length h,codeN A h,h),?_,.inr ⟨0,rfl,by rw [z7 (by omega) (by omega)];rfl⟩⟩
      rw [hph] at hx
      cases hx
      unfold zN
      dsimp only
      rw [if_pos (by simp;omega),hph',Option.bind_some,zb5 hf hN hxr.1 hxr.2,Option.bind_some,zgz hf hN hC,Option.bind_some,if_pos (by rfl)]
      unfold zM zL
      rw [if_pos rfl,hph',Option.bind_some,if_pos (by rw [hne];rfl)]
      rfl
    · have hbr:=zo6 hN hm j
      have hbe:(travN (nxN A) A.length (bstN (codeN A) h (((partN (nxN A) A.length h).drop 1).take j))).isEmpty=false:=by
        have:=z6c hN.graph hbr.1 hbr.2
        cases h2:travN (nxN A) A.length (bstN (codeN A) h (((partN (nxN A) A.length h).drop 1).take j)) with
        | nil=>rw [h2] at this;cases this
        | cons a b=>rfl
      have hcl:=zcL hN hxr.1 hxr.2
      refine .inl ⟨(w64 (((j+1:Nat):Int)+1),travN (nxN A) A.length (bstN (codeN A) h (((partN (nxN A) A.length h).drop 1).take (j+1))),codeN A (bstN (codeN A) h (((partN (nxN A) A.length h).drop 1).take (j+1))),h),?_,.inr ⟨j+1,rfl,by rw [z7 (by omega) (by omega)];rfl⟩⟩
      unfold zN
      dsimp only
      rw [if_pos (by simp;omega),z8 hx,Option.bind_some,zb5 hf hN hxr.1 hxr.2,Option.bind_some,zgz hf hN hC,Option.bind_some,hce,if_neg (by rw [hbe];simp),zhY hf (by omega),Option.bind_some]
      unfold zM zL
      dsimp only
      rw [zfz hx,zcM]
      by_cases hlt:cmpL (codeN A x) (codeN A (bstN (codeN A) h (((partN (nxN A) A.length h).drop 1).take j)))<0
      · rw [if_pos (by simpa using hlt),if_pos hlt,hph',Option.bind_some,if_pos (by rw [hne];rfl)]
      · rw [if_neg (by simpa using hlt),if_neg hlt]) (by
    intro st hst
    rcases hst with⟨h0,_⟩ | ⟨j,hj,rfl⟩
    · omega
    · refine .inr ⟨_,?_,rfl⟩
      unfold zN
      dsimp only
      rw [if_neg (by simp;omega)]
      unfold bestN
      rw [List.take_of_length_le (by simp;omega)]) (fuel:=fuel) (i:=0) (s:=(0,[],[],0)) (Nat.zero_le _) (by omega) (.inl ⟨rfl,rfl⟩)
  rw [e1,Option.bind_some,z6]
  rfl
theorem ziE (hN:NetOk A):(partsN (nxN A) A.length A.length).drop 1=((hdN (nxN A) A.length A.length).drop 1).map (partN (nxN A) A.length):=by
  unfold partsN
  rw [List.map_drop]
theorem zfR (hN:NetOk A):1≤(partsN (nxN A) A.length A.length).length∧(partsN (nxN A) A.length A.length).length≤600:=by
  unfold partsN
  rw [List.length_map]
  have h1:=zeX (nx:=nxN A) hN.one
  have h2:=zg4 (nx:=nxN A) (n:=A.length) (i:=A.length)
  have hn:=hN.len
  constructor
  · rw [h1];simp
  · omega
theorem za5 {d:Int}(hN:NetOk A) (hm:d∈hdN (nxN A) A.length A.length):(traN (nxN A) A.length (codeN A) d).code.length≤9600∧(traN (nxN A) A.length (codeN A) d).list_.length≤600∧(traN (nxN A) A.length (codeN A) d).list_.isEmpty=false:=by
  have r:=z7Y hm
  have rb:=z5X hN.graph r.1 r.2 (zaD (code:=codeN A) hN.graph hm)
  have hl:=zau hN.graph rb.1 rb.2
  have hn:=hN.len
  refine⟨zcL hN rb.1 rb.2,by unfold traN;dsimp only;omega,?_⟩
  unfold traN
  dsimp only
  have:=z6c hN.graph rb.1 rb.2
  cases h2:travN (nxN A) A.length (bestN (nxN A) A.length (codeN A) d) with
  | nil=>rw [h2] at this;cases this
  | cons a b=>rfl
theorem zoF {fuel:Nat}{a b:Int}(hf:18446744073709551616≤fuel):z8h fuel [a,b]=some (if a≠0 then a else b):=by
  obtain⟨n,rfl⟩:∃ n,fuel=n+3:=⟨fuel - 3,by omega⟩
  have e0:z20 (n+3) [a,b] 0=if a≠0 then some (.ret a) else some (.next 1):=by
    unfold z20
    rw [if_pos (by simp),show idx [a,b] 0=some a from rfl,Option.bind_some]
    by_cases h:a=0<;>simp [h]
    rw [z7 (by omega) (by omega)]
  have e1:z20 (n+3) [a,b] 1=if b≠0 then some (.ret b) else some (.next 2):=by
    unfold z20
    rw [if_pos (by simp),show idx [a,b] 1=some b from rfl,Option.bind_some]
    by_cases h:b=0<;>simp [h]
    rfl
  have e2:z20 (n+3) [a,b] 2=some (.brk ()):=by
    unfold z20
    rw [if_neg (by simp)]
  unfold z8h
  generalize hB:z20 (n+3) [a,b]=B at *
  by_cases ha:a=0
  · rw [if_neg (by simpa using ha)] at e0 ⊢
    by_cases hb:b=0
    · rw [if_neg (by simpa using hb)] at e1
      simp only [iter,e0,e1,e2,Option.bind_some,aft]
      unfold z8S
      rw [hb]
    · rw [if_pos hb] at e1
      simp only [iter,e0,e1,Option.bind_some,aft]
  · rw [if_pos ha] at e0 ⊢
    simp only [iter,e0,Option.bind_some,aft]
theorem zoL {fuel:Nat}{x y:D.traversal}(hf:18446744073709551616≤fuel) (hl:x.code.length≤1000000):z15 fuel x y=some (cfT x y):=by
  unfold z15
  rw [zhY hf hl,Option.bind_some,zi2,Option.bind_some,zoF hf,Option.bind_some]
  rfl
theorem zbg {x:D.traversal}(h:x∈restN (nxN A) A.length (codeN A)):∃ d,d∈hdN (nxN A) A.length A.length∧x=traN (nxN A) A.length (codeN A) d:=by
  obtain⟨d,hd,rfl⟩:=List.mem_map.1 h
  exact⟨d,List.mem_of_mem_drop hd,rfl⟩
theorem zhr (hN:NetOk A):(restN (nxN A) A.length (codeN A)).length≤600:=by
  unfold restN
  have h2:=zg4 (nx:=nxN A) (n:=A.length) (i:=A.length)
  have hn:=hN.len
  rw [List.length_map,List.length_drop]
  omega
theorem ziG {fuel:Nat}(hf:18446744073709551616≤fuel) (hN:NetOk A):z1x fuel ⟨A⟩=some (orderN (nxN A) A.length (codeN A)):=by
  have hn:=hN.len
  have h1:=hN.one
  have hpl:=zfR hN
  have hrl:=zhr hN
  have ht0:=zau hN.graph (show(0:Int)≤0 by omega) (by omega)
  unfold z1x
  rw [zb5 hf hN (by omega) (by omega),Option.bind_some,ziD hf hN,Option.bind_some,if_pos (by simp;omega)]
  have hD:((partsN (nxN A) A.length A.length).take (partsN (nxN A) A.length A.length).length).drop (1:Int).toNat=((hdN (nxN A) A.length A.length).drop 1).map (partN (nxN A) A.length):=by
    rw [List.take_length]
    exact ziE hN
  obtain⟨o,e1,rfl⟩:=zc (body:=z17 fuel ⟨A⟩ (partsN (nxN A) A.length A.length)) (fun i st=>st=((((hdN (nxN A) A.length A.length).drop 1).take i).map (traN (nxN A) A.length (codeN A)),(i:Int))) ((hdN (nxN A) A.length A.length).drop 1).length (fun o=>o=.inl (restN (nxN A) A.length (codeN A))) (by
    rintro i st hi rfl
    obtain⟨d,hd⟩:=z1r hi
    have hdm:=List.mem_of_mem_drop (List.mem_of_getElem? hd)
    refine .inl ⟨_,?_,rfl⟩
    unfold z17
    dsimp only
    rw [hD,if_pos (by rw [List.length_map];simpa using hi),z8 (x:=partN (nxN A) A.length d) (by rw [List.getElem?_map,hd];rfl),Option.bind_some,ziN hf hN hdm,Option.bind_some,if_pos (by
      unfold restN at hrl
      rw [List.length_map] at hrl
      simp only [List.length_map,List.length_take,List.length_singleton,decide_eq_true_eq]
      omega),z7 (by omega) (by unfold restN at hrl;rw [List.length_map] at hrl;omega),List.take_add_one,hd,List.map_append]
    rfl) (by
    rintro st rfl
    refine .inr ⟨_,?_,rfl⟩
    unfold z17
    dsimp only
    rw [hD,if_neg (by rw [List.length_map];simp),List.take_length]
    rfl) (fuel:=fuel) (i:=0) (s:=([],0)) (Nat.zero_le _) (by unfold restN at hrl;rw [List.length_map] at hrl;omega) rfl
  rw [e1,Option.bind_some,z6]
  unfold z3n zk
  rw [if_pos ⟨by omega,noTie zej,fun x hx y hy=>by
    obtain⟨d,hd,rfl⟩:=zbg hx
    exact zoL hf (by have:=(za5 hN hd).1;omega)⟩,Option.bind_some]
  have hsl:(sortT (restN (nxN A) A.length (codeN A))).length=(restN (nxN A) A.length (codeN A)).length:=z7e.length_eq
  have h:=appdLoop (xs:=sortT (restN (nxN A) A.length (codeN A))) (body:=z16 fuel (restN (nxN A) A.length (codeN A)) (sortT (restN (nxN A) A.length (codeN A)))) (mk:=fun k st=>(k,st)) (out:=fun st=>st) (g:=fun t=>t.list_) (s0:=travN (nxN A) A.length 0) (b:=600) (fuel:=fuel) (by omega) hf (fun t ht=>by
    rw [z7e.mem_iff] at ht
    obtain⟨d,hd,rfl⟩:=zbg ht
    exact(za5 hN hd).2.1) (by
    intro i t st hx hst
    have hil:=(List.getElem?_eq_some_iff.1 hx).1
    have htm:=List.mem_of_getElem? hx
    rw [z7e.mem_iff] at htm
    obtain⟨d,hd,rfl⟩:=zbg htm
    obtain⟨r1,r2,r3⟩:=za5 hN hd
    unfold z16
    dsimp only
    rw [if_pos (by rw [← hsl];simpa using hil),z8 hx,Option.bind_some,if_pos (by rw [r3];rfl),if_pos (by simp only [decide_eq_true_eq];omega)]) (by
    intro st
    unfold z16
    dsimp only
    rw [hsl,if_neg (by simp)])
  have hs:(restN (nxN A) A.length (codeN A)).mergeSort (fun x y=>!(ltOf cfT) y x)=sortT (restN (nxN A) A.length (codeN A)):=rfl
  try dsimp only at h
  rw [hs,h,Option.bind_some,z6]
  rfl
end
end Go.E


