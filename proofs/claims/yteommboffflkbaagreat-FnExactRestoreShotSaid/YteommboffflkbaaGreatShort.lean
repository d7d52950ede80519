/- Plain laws about the models: loops that count, sizes, copies, comparisons. Conditions: each lemma names its own. -/
import Derived.Test.YteommboffflkbaaGreatRow
namespace Go.E
set_option linter.unusedVariables false
set_option linter.unusedSimpArgs false

theorem zf {n:Int}(h0:-9223372036854775808≤n) (h1:n≤9223372036854775807):w64 n=n:=zqr ⟨h0,h1⟩


theorem z1A {σ τ ρ:Type}{body:σ→Option (Rd σ τ ρ)}(I:Nat→σ→Prop) (n:Nat) (Q:τ ⊕ ρ→Prop)
    (step:∀ i s,i<n→I i s→(∃ s',body s=some (.next s')∧I (i+1) s')∨(∃ r,body s=some (.ret r)∧Q (.inr r))∨∃ t,body s=some (.brk t)∧Q (.inl t))
    (last:∀ s,I n s→(∃ r,body s=some (.ret r)∧Q (.inr r))∨∃ t,body s=some (.brk t)∧Q (.inl t)):
    ∀ {fu i s},i≤n→n - i<fu→I i s→∃ o,iter body fu s=some o∧Q o
  | 0,i,s,_,hf,_=>by omega
  | fu+1,i,s,hi,hf,hI=>by
    have done:((∃ r,body s=some (.ret r)∧Q (.inr r))∨∃ t,body s=some (.brk t)∧Q (.inl t))→∃ o,iter body (fu+1) s=some o∧Q o:=by
      rintro(⟨r,h1,h2⟩ | ⟨t,h1,h2⟩)
      · exact⟨_,by simp only [iter,h1],h2⟩
      · exact⟨_,by simp only [iter,h1],h2⟩
    rcases Nat.lt_or_ge i n with h | h
    · rcases step i s h hI with⟨s',h1,h2⟩ | h1
      · obtain⟨o,h3,h4⟩:=z1A I n Q step last (fu:=fu) (i:=i+1) h (by omega) h2
        exact⟨o,by simp only [iter,h1];exact h3,h4⟩
      · exact done h1
    · obtain rfl:i=n:=by omega
      exact done (last s hI)

def sumL {α:Type}(f:α→Nat):List α→Nat
  | []=>0
  | x::xs=>f x+sumL f xs


def szL {α:Type}(f:α→Nat) (xs:List α):Nat:=xs.length+sumL f xs

theorem zhp {α:Type}{f:α→Nat}{x:α}:∀ {xs:List α},x∈xs→f x≤sumL f xs
  | y::xs,h=>by
    rcases List.mem_cons.1 h with rfl | h
    · exact Nat.le_add_right _ _
    · exact Nat.le_trans (zhp h) (Nat.le_add_left _ _)

theorem zch {α:Type}{f:α→Nat}:∀ {xs ys:List α},sumL f (xs++ys)=sumL f xs+sumL f ys
  | [],ys=>by simp [sumL]
  | x::xs,ys=>by simp only [List.cons_append,sumL,zch (xs:=xs),Nat.add_assoc]

theorem zdR {α:Type}{f:α→Nat}{xs:List α}{i:Nat}{x:α}(h:xs[i]? = some x):sumL f (xs.take (i+1))=sumL f (xs.take i)+f x:=by
  rw [List.take_add_one,h,zch]
  simp [sumL]

theorem z2C {α:Type}{f:α→Nat}{xs:List α}{n:Nat}(h:szL f xs≤n):xs.length≤n:=by unfold szL at h;omega
theorem z2G {α:Type}{f:α→Nat}{xs:List α}{n:Nat}(h:szL f xs≤n){x:α}(hx:x∈xs):f x≤n:=by
  have:=zhp (f:=f) hx
  unfold szL at h;omega
theorem zda {α:Type}{f:α→Nat}(hf:∀ x,f x=0):∀ (xs:List α),szL f xs=xs.length
  | []=>rfl
  | x::xs=>by
    have:=zda hf xs
    unfold szL at this ⊢
    simp only [sumL,hf,List.length_cons]
    omega

theorem zd {α:Type}{xs:List α}{i:Nat}{x:α}(h:xs[i]? = some x):idx xs (i:Int)=some x:=by
  unfold idx
  simp [h]

theorem z5i {α:Type}{xs:List α}{i:Nat}(h:i<xs.length):∃ x,xs[i]? = some x:=⟨_,List.getElem?_eq_getElem h⟩
theorem lt_t {a b:Int}(h:a<b):(decide (a<b)=true)=True:=by simp [h]
theorem lt_f {a b:Int}(h:¬ a<b):(decide (a<b)=true)=False:=by simp [h]


def SzOk (n:Nat) (l:Int) (o:Option Int):Prop:=∃ r,o=some r∧(r<0∨0≤r∧r+(n:Int)=l)

theorem SzOk.fail {n:Nat}{l:Int}:SzOk n l (some (-1)):=⟨_,rfl,.inl (by decide)⟩
theorem SzOk.same {l:Int}(h:0≤l):SzOk 0 l (some l):=⟨_,rfl,.inr ⟨h,by omega⟩⟩

theorem SzOk.bind {n m k:Nat}{l:Int}{o:Option Int}{f:Int→Option Int}(h:SzOk n l o) (hk:k=n+m) (g:∀ r,0≤r→r≤l→SzOk m r (f r)):
    SzOk k l (o.bind fun r=>if decide (r<0)=true then some (-1) else f r):=by
  obtain⟨r,rfl,h⟩:=h
  subst hk
  show SzOk _ _ (if decide (r<0)=true then some (-1) else f r)
  rcases h with h | ⟨h1,h2⟩
  · simp only [lt_t h,if_true];exact SzOk.fail
  · simp only [lt_f (show ¬ r<0 by omega),if_false]
    obtain⟨s,h3,h4⟩:=g r h1 (by omega)
    exact⟨s,h3,h4.imp id fun⟨h5,h6⟩=>⟨h5,by omega⟩⟩

theorem SzOk.sub {n m k:Nat}{l:Int}{f:Int→Option Int}(h0:0≤l) (h1:l≤1048576) (hn:n≤maxLen) (hk:k=n+m) (g:∀ r,0≤r→r≤l→SzOk m r (f r)):
    SzOk k l (if decide (w64 (l - (n:Int))<0)=true then some (-1) else f (w64 (l - (n:Int)))):=by
  have hm:maxLen=9223372036854775807:=rfl
  rw [zf (show -9223372036854775808≤l - (n:Int) by omega) (by omega)]
  subst hk
  by_cases h:l - (n:Int)<0
  · simp only [lt_t h,if_true];exact SzOk.fail
  · simp only [lt_f h,if_false]
    obtain⟨s,h3,h4⟩:=g _ (show 0≤l - (n:Int) by omega) (by omega)
    exact⟨s,h3,h4.imp id fun⟨h5,h6⟩=>⟨h5,by omega⟩⟩

theorem SzOk.sub2 {n m k:Nat}{l z:Int}{e:Option Int}(h0:0≤l) (h1:l≤1048576) (hn:n≤maxLen) (hk:k=n+m) (hz:w64 (l - (n:Int))=z) (g:0≤z→z≤l→SzOk m z e):
    SzOk k l (if decide (z<0)=true then some (-1) else e):=by
  have hm:maxLen=9223372036854775807:=rfl
  rw [zf (show -9223372036854775808≤l - (n:Int) by omega) (by omega)] at hz
  subst hk
  by_cases h:z<0
  · simp only [lt_t h,if_true];exact SzOk.fail
  · simp only [lt_f h,if_false]
    obtain⟨s,h3,h4⟩:=g (by omega) (by omega)
    exact⟨s,h3,h4.imp id fun⟨h5,h6⟩=>⟨h5,by omega⟩⟩


theorem SzOk.loop {α:Type}{f:α→Nat}{xs:List α}{body:Int × Int→Option (Rd (Int × Int) Int Int)}{j:Int→Option Int}{l:Int}{fu:Nat}(hl:xs.length≤maxLen) (hf:Big fu) (h0:0≤l) (h1:l≤1048576) (hj:∀ t,j t=some t)
    (step:∀ (i:Nat) (x:α) (l:Int),xs[i]? = some x→0≤l→l≤1048576→body (l,i)=some (.ret (-1))∨∃ r,body (l,i)=some (.next (r,w64 (i+1)))∧0≤r∧r+(f x:Int)=l)
    (last:∀ l,body (l,xs.length)=some (.brk l)):SzOk (sumL f xs) l ((iter body fu (l,0)).bind fun o=>aft o j):=by
  have hm:maxLen=9223372036854775807:=rfl
  obtain⟨o,h2,h3⟩:=z1A (body:=body) (fun i s=>s.2=(i:Int)∧0≤s.1∧s.1+(sumL f (xs.take i):Int)=l) xs.length (fun o=>match o with | .inl t=>0≤t∧t+(sumL f xs:Int)=l | .inr r=>r = -1) (by
    rintro i ⟨s,t⟩ hi ⟨h2,h3,h4⟩
    dsimp only at h2 h3 h4
    subst h2
    obtain⟨x,hx⟩:=z5i hi
    rcases step i x s hx h3 (by omega) with h | ⟨r,h5,h6,h7⟩
    · exact .inr (.inl ⟨_,h,rfl⟩)
    · refine .inl ⟨_,h5,?_,h6,?_⟩
      · show w64 _=_
        rw [zf (by omega) (by omega)];simp
      · rw [zdR hx]
        show r+_=l
        omega) (by
    rintro⟨s,t⟩ ⟨h2,h3,h4⟩
    dsimp only at h2 h3 h4
    subst h2
    refine .inr ⟨_,last s,h3,?_⟩
    rwa [List.take_length] at h4) (fu:=fu) (i:=0) (s:=(l,0)) (Nat.zero_le _) (by omega) ⟨rfl,h0,by simp [sumL]⟩
  rw [h2]
  cases o with
  | inl t=>exact⟨t,hj t,.inr h3⟩
  | inr r=>exact⟨r,rfl,.inl (by rw [show r = -1 from h3];decide)⟩


theorem z7L {α:Type}{xs:List α}{z:α}{body:Int × List α→Option (Rd (Int × List α) (List α) (List α))}{j:List α→Option (List α)}{fu:Nat}(hl:xs.length≤1048576) (hf:Big fu) (hj:∀ t,j t=some t)
    (step:∀ (i:Nat) (x:α) (out:List α),xs[i]? = some x→out.length=xs.length→body (i,out)=some (.next (w64 (i+1),out.set i x)))
    (last:∀ out,body (xs.length,out)=some (.brk out)):
    (if decide (0≤(xs.length:Int)∧(xs.length:Int)≤4294967296)=true then((iter body fu (0,List.replicate (xs.length:Int).toNat z)).bind fun o=>aft o j) else none)=some xs:=by
  rw [if_pos (by simp;omega)]
  obtain⟨o,h2,h3⟩:=z1A (body:=body) (fun i s=>s.1=(i:Int)∧s.2.length=xs.length∧s.2.take i=xs.take i) xs.length (fun o=>o=.inl xs) (by
    rintro i ⟨s,t⟩ hi ⟨h2,h3,h4⟩
    dsimp only at h2 h3 h4
    subst h2
    obtain⟨x,hx⟩:=z5i hi
    refine .inl ⟨_,step i x t hx h3,?_,by simpa using h3,?_⟩
    · show w64 _=_
      rw [zf (by omega) (by omega)];simp
    · show(t.set i x).take (i+1)=_
      rw [List.take_add_one,List.take_add_one,hx,List.take_set_of_le (Nat.le_refl _),h4,List.getElem?_set_self (by omega)]) (by
    rintro⟨s,t⟩ ⟨h2,h3,h4⟩
    dsimp only at h2 h3 h4
    subst h2
    refine .inr ⟨_,last t,?_⟩
    rw [List.take_length,List.take_of_length_le (by omega)] at h4
    rw [h4]) (fu:=fu) (i:=0) (s:=(0,List.replicate (xs.length:Int).toNat z)) (Nat.zero_le _) (by omega) ⟨rfl,by simp,by simp⟩
  rw [h2,h3]
  exact hj xs


theorem z2s (s:ByteArray):seqb s s=true:=by simp [seqb]


theorem z7S {τ ρ:Type}{n:Nat}{body:Int→Option (Rd Int τ ρ)}{j:τ→Option ρ}{fu:Nat}{t:τ}{b:ρ}(hl:n≤maxLen) (hf:Big fu) (hj:j t=some b)
    (step:∀ (i:Nat),i<n→body i=some (.next (w64 (i+1)))) (last:body n=some (.brk t)):((iter body fu 0).bind fun o=>aft o j)=some b:=by
  have hm:maxLen=9223372036854775807:=rfl
  obtain⟨o,h2,h3⟩:=z1A (body:=body) (fun i s=>s=(i:Int)) n (fun o=>o=.inl t) (by
    rintro i s hi rfl
    exact .inl ⟨_,step i hi,by rw [zf (by omega) (by omega)];simp⟩) (by
    rintro s rfl
    exact .inr ⟨_,last,rfl⟩) (fu:=fu) (i:=0) (s:=0) (Nat.zero_le _) (by omega) rfl
  rw [h2,h3]
  exact hj


end Go.E


namespace Go.E
set_option linter.unusedVariables false
set_option linter.unusedSimpArgs false


theorem eqLoop {α τ ρ:Type}[DecidableEq α] {xs ys:List α}{body:Int→Option (Rd Int τ ρ)}{fu:Nat}{t:τ}{v:ρ}(hl:xs.length≤maxLen) (hf:Big fu) (he:xs.length=ys.length)
    (step:∀ (i:Nat) (a b:α),i<xs.length→xs[i]? = some a→ys[i]? = some b→body i=if a=b then some (.next (w64 (i+1))) else some (.ret v)) (last:body xs.length=some (.brk t)):
    iter body fu 0=some (if xs=ys then .inl t else .inr v):=by
  have hm:maxLen=9223372036854775807:=rfl
  obtain⟨o,h2,h3⟩:=z1A (body:=body) (fun i s=>s=(i:Int)∧xs.take i=ys.take i) xs.length (fun o=>o=if xs=ys then .inl t else .inr v) (by
    rintro i s hi ⟨rfl,h⟩
    obtain⟨a,ha⟩:=z5i hi
    obtain⟨b,hb⟩:=z5i (he ▸ hi:i<ys.length)
    have hs:=step i a b hi ha hb
    by_cases e:a=b
    · rw [if_pos e] at hs
      refine .inl ⟨_,hs,by rw [zf (by omega) (by omega)];simp,?_⟩
      rw [List.take_add_one,List.take_add_one,h,ha,hb,e]
    · rw [if_neg e] at hs
      refine .inr (.inl ⟨_,hs,?_⟩)
      rw [if_neg]
      rintro rfl
      rw [ha] at hb
      exact e (Option.some.inj hb)) (by
    rintro s ⟨rfl,h⟩
    rw [List.take_length,he,List.take_length] at h
    exact .inr ⟨_,last,by rw [if_pos h]⟩) (fu:=fu) (i:=0) (s:=0) (Nat.zero_le _) (by omega) ⟨rfl,by simp⟩
  rw [h2,h3]


theorem eqWhole {α τ:Type}[DecidableEq α] {xs ys:List α}{body:Int→Option (Rd Int τ Bool)}{j:τ→Option Bool}{fu:Nat}{t:τ}(hl:xs.length≤maxLen) (hf:Big fu) (hj:j t=some true)
    (step:∀ (i:Nat) (a b:α),i<xs.length→xs[i]? = some a→ys[i]? = some b→body i=if a=b then some (.next (w64 (i+1))) else some (.ret false)) (last:body xs.length=some (.brk t)):
    (if((xs.length:Int) != (ys.length:Int))=true then some false else((iter body fu 0).bind fun o=>aft o j))=some (decide (xs=ys)):=by
  by_cases he:xs.length=ys.length
  · rw [if_neg (by simp [he]),eqLoop hl hf he step last]
    by_cases h:xs=ys
    · rw [if_pos h,dct h];exact hj
    · rw [if_neg h,decide_eq_false h];rfl
  · rw [if_pos (by simp;omega),decide_eq_false (fun h=>he (by rw [h]))]


theorem askLoop {α τ ρ:Type}{xs:List α}{body:Int→Option (Rd Int τ ρ)}{fu:Nat}{t:τ}{p:α→Bool}{g:Int→ρ}(hl:xs.length≤maxLen) (hf:Big fu)
    (step:∀ (i:Nat) (x:α),i<xs.length→xs[i]? = some x→body i=if p x=true then some (.ret (g i)) else some (.next (w64 (i+1)))) (last:body xs.length=some (.brk t)):
    (xs.any p=false∧iter body fu 0=some (.inl t))∨(xs.any p=true∧∃ i:Nat,i<xs.length∧iter body fu 0=some (.inr (g i))):=by
  have hm:maxLen=9223372036854775807:=rfl
  obtain⟨o,h2,h3⟩:=z1A (body:=body) (fun i s=>s=(i:Int)∧(xs.take i).any p=false) xs.length (fun o=>(xs.any p=false∧o=.inl t)∨(xs.any p=true∧∃ i:Nat,i<xs.length∧o=.inr (g i))) (by
    rintro i s hi ⟨rfl,ha⟩
    obtain⟨x,hx⟩:=z5i hi
    have hs:=step i x hi hx
    cases hp:p x with
    | true=>
      rw [hp,if_pos rfl] at hs
      exact .inr (.inl ⟨_,hs,.inr ⟨List.any_eq_true.2 ⟨x,List.mem_of_getElem? hx,hp⟩,i,hi,rfl⟩⟩)
    | false=>
      rw [hp,if_neg (by simp)] at hs
      refine .inl ⟨_,hs,by rw [zf (by omega) (by omega)];simp,?_⟩
      rw [List.take_add_one,hx,List.any_append,ha]
      simp [hp]) (by
    rintro s ⟨rfl,ha⟩
    rw [List.take_length] at ha
    exact .inr ⟨_,last,.inl ⟨ha,rfl⟩⟩) (fu:=fu) (i:=0) (s:=0) (Nat.zero_le _) (by omega) ⟨rfl,by simp⟩
  rcases h3 with⟨h3,rfl⟩ | ⟨h3,i,hi,rfl⟩
  · exact .inl ⟨h3,h2⟩
  · exact .inr ⟨h3,i,hi,h2⟩


theorem askOne {α τ ρ:Type}{xs:List α}{body:Int→Option (Rd Int τ ρ)}{j:τ→Option ρ}{fu:Nat}{t:τ}{p:α→Bool}{v:ρ}(hl:xs.length≤maxLen) (hf:Big fu)
    (step:∀ (i:Nat) (x:α),i<xs.length→xs[i]? = some x→body i=if p x=true then some (.ret v) else some (.next (w64 (i+1)))) (last:body xs.length=some (.brk t)):
    ((iter body fu 0).bind fun o=>aft o j)=if xs.any p=true then some v else j t:=by
  rcases askLoop (g:=fun _=>v) hl hf step last with⟨h1,h2⟩ | ⟨h1,i,_,h2⟩
  · rw [h2,h1];rfl
  · rw [h2,h1];rfl


theorem askIndex {α τ:Type}{xs:List α}{body:Int→Option (Rd Int τ Int)}{j:τ→Option Int}{fu:Nat}{t:τ}{p:α→Bool}(hl:xs.length≤maxLen) (hf:Big fu) (hj:j t=some (-1))
    (step:∀ (i:Nat) (x:α),i<xs.length→xs[i]? = some x→body i=if p x=true then some (.ret i) else some (.next (w64 (i+1)))) (last:body xs.length=some (.brk t)):
    ∃ r,((iter body fu 0).bind fun o=>aft o j)=some r∧decide (r≥0)=xs.any p:=by
  rcases askLoop (g:=fun i=>i) hl hf step last with⟨h1,h2⟩ | ⟨h1,i,_,h2⟩
  · exact⟨-1,by rw [h2];exact hj,by rw [h1];decide⟩
  · exact⟨i,by rw [h2];rfl,by rw [h1];exact dct (by omega)⟩
end Go.E
namespace Go.E

end Go.E


namespace Go.E
set_option linter.unusedVariables false
set_option linter.unusedSimpArgs false

theorem z8J {a:Int}(h0:-4611686018427387904≤a) (h1:a≤4611686018427387904):w64 (a+1)=a+1:=zf (by omega) (by omega)
def markL {α:Type}(f:α→Int→α) (c:α→Nat):List α→Int→List α
  | [],_=>[]
  | x::xs,k=>f x k::markL f c xs (k+c x)

section
variable {α:Type}{f:α→Int→α}{c:α→Nat}

theorem z24:∀ (xs:List α) (k:Int),(markL f c xs k).length=xs.length
  | [],_=>rfl
  | x::xs,k=>by simp only [markL,List.length_cons,z24 xs]

theorem zcK:∀ (xs ys:List α) (k:Int),markL f c (xs++ys) k=markL f c xs k++markL f c ys (k+(sumL c xs:Nat))
  | [],ys,k=>by simp [markL,sumL]
  | x::xs,ys,k=>by
    simp only [List.cons_append,markL,zcK xs ys,sumL]
    rw [show k+(c x:Int)+(sumL c xs:Nat)=k+((c x+sumL c xs:Nat):Int) by omega]

theorem zps {xs:List α}{k:Int}{i:Nat}{x:α}(h:xs[i]? = some x):(markL f c xs k)[i]? = some (f x (k+(sumL c (xs.take i):Nat))):=by
  have hi:=(List.getElem?_eq_some_iff.1 h).1
  have hs:xs=xs.take i++(x::xs.drop (i+1)):=by
    have h1:=(List.getElem?_eq_some_iff.1 h).2
    rw [← h1,← List.drop_eq_getElem_cons hi,List.take_append_drop]
  conv=>lhs;rw [hs]
  rw [zcK,List.getElem?_append_right (by rw [z24,List.length_take];omega),z24,List.length_take,Nat.min_eq_left (by omega),Nat.sub_self]
  simp [markL]

theorem z8P {ρ:Type}{body:Int × Int × List α→Option (Rd (Int × Int × List α) (Int × List α) ρ)}{xs:List α}{k:Int}{fu:Nat}(hl:xs.length≤4294967296) (hf:Big fu) (h0:0≤k) (h1:k+(sumL c xs:Nat)≤2147483648)
    (step:∀ (i:Nat) (x:α) (ys:List α) (k:Int),i<xs.length→ys.length=xs.length→ys[i]? = some x→x∈xs→0≤k→k+(c x:Nat)≤2147483648→body (k,(i:Int),ys)=some (.next (k+(c x:Nat),w64 ((i:Int)+1),ys.set i (f x k))))
    (last:∀ k ys,body (k,(xs.length:Int),ys)=some (.brk (k,ys))):iter body fu (k,0,xs)=some (.inl (k+(sumL c xs:Nat),markL f c xs k)):=by
  obtain⟨o,h2,h3⟩:=z1A (body:=body) (fun i s=>s.1=k+(sumL c (xs.take i):Nat)∧s.2.1=(i:Int)∧s.2.2=markL f c (xs.take i) k++xs.drop i) xs.length (fun o=>o=.inl (k+(sumL c xs:Nat),markL f c xs k)) (by
    rintro i ⟨s,t,ys⟩ hi ⟨h2,h3,h4⟩
    dsimp only at h2 h3 h4
    subst h2;subst h3;subst h4
    obtain⟨x,hx⟩:=z5i hi
    have hlen:(markL f c (xs.take i) k).length=i:=by rw [z24,List.length_take];omega
    have hdrop:xs.drop i=x::xs.drop (i+1):=by
      have h1:=(List.getElem?_eq_some_iff.1 hx).2
      rw [← h1,← List.drop_eq_getElem_cons hi]
    have hsum:sumL c (xs.take (i+1))=sumL c (xs.take i)+c x:=zdR hx
    have hle:sumL c (xs.take (i+1))≤sumL c xs:=by
      conv=>rhs;rw [← List.take_append_drop (i+1) xs,zch]
      omega
    refine .inl ⟨_,step i x _ _ hi (by rw [List.length_append,hlen,List.length_drop];omega) (by rw [List.getElem?_append_right (by omega),hlen,Nat.sub_self,hdrop];rfl) (List.mem_of_getElem? hx) (by omega) (by omega),?_,?_,?_⟩
    · show _+_=_
      rw [hsum];omega
    · show w64 _=_
      rw [z8J (by omega) (by omega)];simp
    · show List.set _ _ _=_
      rw [hdrop,List.set_append_right _ _ (by omega),hlen,Nat.sub_self,List.set_cons_zero]
      have ht:xs.take (i+1)=xs.take i++[x]:=by rw [List.take_add_one,hx];rfl
      rw [ht,zcK]
      simp [markL]) (by
    rintro⟨s,t,ys⟩ ⟨h2,h3,h4⟩
    dsimp only at h2 h3 h4
    subst h2;subst h3;subst h4
    refine .inr ⟨_,last _ _,?_⟩
    rw [List.take_length,List.drop_length,List.append_nil]) (fu:=fu) (i:=0) (s:=(k,0,xs)) (Nat.zero_le _) (by omega) ⟨by simp [sumL],rfl,by simp [markL]⟩
  rw [h2,h3]

theorem z9T {body:Int × Int→Option (Rd (Int × Int) Int Int)}{xs:List α}{k:Int}{fu:Nat}(hl:xs.length≤4294967296) (hf:Big fu) (h0:0≤k) (h1:k+(sumL c xs:Nat)≤2147483648)
    (step:∀ (i:Nat) (x:α) (k':Int),i<xs.length→(markL f c xs k)[i]? = some (f x k')→x∈xs→0≤k'→k'+(c x:Nat)≤2147483648→body (k',(i:Int))=some (.next (k'+(c x:Nat),w64 ((i:Int)+1))))
    (last:∀ k',body (k',((markL f c xs k).length:Int))=some (.brk k')):iter body fu (k,0)=some (.inl (k+(sumL c xs:Nat))):=by
  obtain⟨o,h2,h3⟩:=z1A (body:=body) (fun i s=>s.1=k+(sumL c (xs.take i):Nat)∧s.2=(i:Int)) xs.length (fun o=>o=.inl (k+(sumL c xs:Nat))) (by
    rintro i ⟨s,t⟩ hi ⟨h2,h3⟩
    dsimp only at h2 h3
    subst h2;subst h3
    obtain⟨x,hx⟩:=z5i hi
    have hsum:sumL c (xs.take (i+1))=sumL c (xs.take i)+c x:=zdR hx
    have hle:sumL c (xs.take (i+1))≤sumL c xs:=by
      conv=>rhs;rw [← List.take_append_drop (i+1) xs,zch]
      omega
    refine .inl ⟨_,step i x _ hi (zps hx) (List.mem_of_getElem? hx) (by omega) (by omega),?_,?_⟩
    · show _+_=_
      rw [hsum];omega
    · show w64 _=_
      rw [z8J (by omega) (by omega)];simp) (by
    rintro⟨s,t⟩ ⟨h2,h3⟩
    dsimp only at h2 h3
    subst h2;subst h3
    refine .inr ⟨_,by have:=last (k+(sumL c (xs.take xs.length):Nat));rw [z24] at this;exact this,?_⟩
    rw [List.take_length]) (fu:=fu) (i:=0) (s:=(k,0)) (Nat.zero_le _) (by omega) ⟨by simp [sumL],rfl⟩
  rw [h2,h3]

theorem zb6 {g:α→Nat}{m:Nat}:∀ {xs:List α},(∀ x,x∈xs→c x≤m*(g x+1))→sumL c xs≤m*szL g xs
  | [],_=>by simp [sumL]
  | x::xs,h=>by
    have h1:=h x (by simp)
    have h2:=zb6 (g:=g) (m:=m) (xs:=xs) fun y hy=>h y (by simp [hy])
    unfold szL at h2 ⊢
    simp only [sumL,List.length_cons]
    have:m*(xs.length+1+(g x+sumL g xs))=m*(g x+1)+m*(xs.length+sumL g xs):=by rw [← Nat.mul_add];congr 1;omega
    omega

end
end Go.E
namespace Go.E
theorem zd3 {α β:Type}{e:Option α}{a:α}{g:α→Option β}(h:e=some a):e.bind g=g a:=by rw [h];rfl
end Go.E


namespace Go.E
open Go.RowKit
set_option linter.unusedVariables false

def D.Qf.wf (x:D.Qf):Prop:=I64 x.Qg∧I64 x.Qj∧I64 x.Qs∧True
def D.Qf.sz (x:D.Qf):Nat:=0
def D.Qn.wf (x:D.Qn):Prop:=True∧True∧D.Qf.wf x.QV∧True
def D.Qn.sz (x:D.Qn):Nat:=0
def D.Qk.wf (x:D.Qk):Prop:=D.Qf.wf x.A∧D.Qf.wf x.B∧True
def D.Qk.sz (x:D.Qk):Nat:=0
def D.Qb.wf (x:D.Qb):Prop:=I64 x.Qj∧I64 x.QL∧I64 x.Value∧WfL I64 x.Data∧WfL D.Qf.wf x.QX∧True
def D.Qb.sz (x:D.Qb):Nat:=x.Data.length+(x.QX.length+(0))
def D.Qe.wf (x:D.Qe):Prop:=I64 x.Qj∧D.Qb.wf x.Qz∧D.Qf.wf x.A∧D.Qf.wf x.B∧True
def D.Qe.sz (x:D.Qe):Nat:=D.Qb.sz x.Qz+(0)
def D.Qp.wf (x:D.Qp):Prop:=WfL D.Qb.wf x.Cells∧WfL D.Qn.wf x.QG∧WfL D.Qk.wf x.Qu∧True
def D.Qp.sz (x:D.Qp):Nat:=szL D.Qb.sz x.Cells+(x.QG.length+(x.Qu.length+(0)))
def D.Qi.wf (x:D.Qi):Prop:=WfL D.Qp.wf x.Qc∧D.Qf.wf x.Qy∧True
def D.Qi.sz (x:D.Qi):Nat:=szL D.Qp.sz x.Qc+(0)
def D.Qa.wf (x:D.Qa):Prop:=D.Qi.wf x.Qi∧WfL (WfL D.Qe.wf) x.Qh∧WfL (WfL I64) x.Qo∧WfL I64 x.QU∧WfL I64 x.QZ∧True
def D.Qa.sz (x:D.Qa):Nat:=D.Qi.sz x.Qi+(szL (fun x=>szL D.Qe.sz x) x.Qh+(szL (fun x=>x.length) x.Qo+(x.QU.length+(x.QZ.length+(0)))))
def D.Qa3.wf (x:D.Qa3):Prop:=I64 x.Qj∧I64 x.A∧I64 x.B∧True
def D.Qa3.sz (x:D.Qa3):Nat:=0
end Go.E


namespace Go.E
open Go.RowKit
set_option linter.unusedVariables false

def D.Qa2.wf (x:D.Qa2):Prop:=D.Qa.wf x.Qa∧I64 x.Qa7∧I64 x.Qa9∧True∧WfL (fun _=>True) x.Qa4∧I64 x.Qa6∧True∧True
def D.Qa2.sz (x:D.Qa2):Nat:=D.Qa.sz x.Qa+(x.Qa4.length+(0))
end Go.E


namespace Go.E
open Go.RowKit
set_option linter.unusedVariables false

def D.Qq.wf (x:D.Qq):Prop:=WfL (fun _=>True) x.QC∧WfL D.Qp.wf x.Qc∧WfL (WfL I64) x.Qo∧WfL (fun _=>True) x.Qt∧WfL (WfL D.Qe.wf) x.QK∧True
def D.Qq.sz (x:D.Qq):Nat:=x.QC.length+(szL D.Qp.sz x.Qc+(szL (fun x=>x.length) x.Qo+(x.Qt.length+(szL (fun x=>szL D.Qe.sz x) x.QK+(0)))))
def D.Qx.wf (x:D.Qx):Prop:=D.Qa.wf x.Qa∧D.Qq.wf x.Qq∧True
def D.Qx.sz (x:D.Qx):Nat:=D.Qa.sz x.Qa+(D.Qq.sz x.Qq+(0))
end Go.E


namespace Go.E
open Go.RowKit
set_option linter.unusedVariables false
set_option linter.unusedSimpArgs false

def marksM:List Nat→Nat→Nat
  | [],m=>m
  | i::r,m=>marksM r (m ||| 2 ^ i)
theorem zir {sk:List (List Nat × Nat)}{full:Nat}:∀ {l:List Nat}{m m':Nat},freeAllM sk full l m=some m'→marksM l m=m'
  | [],m,m',h=>by simpa [freeAllM,marksM] using h
  | i::r,m,m',h=>by
    unfold freeAllM at h
    split at h
    · exact zir (l:=r) h
    · cases h


variable {P:Program}{n:Nat}{Q:Post}{F:Fr}{w:World}{ops rest:List Oper}{o:Oper}{T:TT}{wm fu:Nat}{sk:List (List Nat × Nat)}{w0 W W9:World}

def Fr.pick (F:Fr):List Nat→Option Fr
  | []=>some []
  | i::r=>match F.get i,F.pick r with
    | some v,some G=>some ((i,v)::G)
    | _,_=>none
def Fr.keys:Fr→List Nat
  | []=>[]
  | (i,_)::r=>i::Fr.keys r
theorem Fr.pick_has {F:Fr}:∀ {l:List Nat}{G:Fr},F.pick l=some G→F.Has G
  | [],G,h=>by simp only [Fr.pick,Option.some.injEq] at h;subst h;trivial
  | i::r,G,h=>by
    unfold Fr.pick at h
    split at h
    · rename_i v G' hv hG
      simp only [Option.some.injEq] at h;subst h
      exact⟨hv,Fr.pick_has hG⟩
    · cases h
theorem wk {c:Code}(l:List Nat){G:Fr}(h:WP P n c Q G w) (hs:F.pick l=some G:=by exact rfl):WP P n c Q F w:=WP.weak G (Fr.pick_has hs) h
theorem dw {k m:Nat}(l:List Nat){G:Fr}(h:DM P n ops Q W9 w0 wm fu k m G w) (hs:F.pick l=some G:=by exact rfl):DM P n ops Q W9 w0 wm fu k m F w:=DM.weak G (Fr.pick_has hs) h
theorem ct {c:Code}{τ:Type}(J:τ→Fr→World→Prop) (hk:∀ t F w,J t F w→Q .normal F w) (h:WP P n c (Q.after (fun F w=>∃ t G,J t G w∧F.pick G.keys=some G)) F w):WP P n c Q F w:=
  WP.cut J hk (h.mono fun e F w q=>by cases e<;>first | exact(let ⟨t,G,h1,h2⟩:=q;⟨t,G,Fr.pick_has h2,h1⟩) | exact q)
theorem it {c:Code}{σ τ ρ:Type}(J:σ→Fr→World→Prop){body:σ→Option (Rd σ τ ρ)}{k:Nat}{s:σ}{out:τ ⊕ ρ}(hm:iter body k s=some out) (h0:J s F w)
    (round:∀ s F w k o,J s F w→body s=some o→(match o with | .next s'=>Go.E.iter body k s'=some out | .brk t=>out=.inl t | .ret r=>out=.inr r)→
      WP P n c (Q.after (fun F' w'=>∃ s' G,o=.next s'∧J s' G w'∧F'.pick G.keys=some G)) F w):WP P n (.loop c) Q F w:=
  WP.iter J body hm h0 fun s F w k o h1 h2 h3=>(round s F w k o h1 h2 h3).mono fun e F w q=>by cases e<;>first | exact(let ⟨s',G,h1,h2,h4⟩:=q;⟨s',G,Fr.pick_has h4,h1,h2⟩) | exact q
theorem ci {α:Type}{c:Operand}{x y:Code}{b:Bool}{A B:Option α}{r:α}(hm:(if b=true then A else B)=some r) (h1:A=some r→WP P n x Q F w) (h2:B=some r→WP P n y Q F w) (hc:F.ev c=some (.bool b):=by exact rfl):WP P n (.cond c x y) Q F w:=
  WP.cond b hc (fun h=>h1 (by rw [if_pos h] at hm;exact hm)) (fun h=>h2 (by rw [if_neg (zqx h)] at hm;exact hm))
theorem rb {α:Type}(i:Nat){b:Bool}{A B:Option α}{r:α}(hm:(if b=true then A else B)=some r) (h1:A=some r→RW P n ops Q rest ((i,.bool true)::F) w) (h2:B=some r→RW P n ops Q rest ((i,.bool false)::F) w) (hg:F.get i=some (.bool b):=by exact rfl):RW P n ops Q rest F w:=by
  cases b
  · exact RW.know i hg rfl (h2 hm)
  · exact RW.know i hg rfl (h1 hm)
theorem db {α:Type}{k m:Nat}(i:Nat){b:Bool}{A B:Option α}{r:α}(hm:(if b=true then A else B)=some r) (h1:A=some r→DM P n ops Q W9 w0 wm fu k m ((i,.bool true)::F) w) (h2:B=some r→DM P n ops Q W9 w0 wm fu k m ((i,.bool false)::F) w) (hg:F.get i=some (.bool b):=by exact rfl):DM P n ops Q W9 w0 wm fu k m F w:=by
  cases b
  · exact DM.know i hg rfl (h2 hm)
  · exact DM.know i hg rfl (h1 hm)
theorem zq4 {m:Int}{b:Nat}(h:0≤m∧m≤4294967296) (hb:Nat.ble b 65536=true):m*(b:Int)≤281474976710656:=by
  have h1:b≤65536:=by simpa using hb
  have h2:m*(b:Int)≤4294967296*65536:=Int.mul_le_mul h.2 (by omega) (by omega) (by omega)
  omega
theorem bS {α β:Type}{x:Option α}{f:α→Option β}{b:β}(h:x.bind f=some b):∃ a,x=some a∧f a=some b:=zoN h
abbrev sl {α:Type}(A:Option Addr) (x:List α) (k:Nat):Value:=.slice A x.length k
abbrev ow {α:Type}(T:Ty (List α)) (A:Option Addr) (x:List α) (k:Nat):Res:=Own T [.slice A x.length k] x
theorem iS {α:Type}{b:Bool}{A:Option α}{r:α}(hm:(if b=true then A else none)=some r):b=true∧A=some r:=by
  cases b
  · cases hm
  · exact⟨rfl,hm⟩

theorem sq  {x y:Code}(h:WP P n x (Q.after (WP P n y Q)) F w) :WP P n (.seq x y) Q F w:=fun a ha=>
  wp_seq (wp_mono (h a ha) fun e a' w' ⟨F',hf,q⟩=>by cases e<;>first | exact q a' hf | exact⟨F',hf,q⟩)

theorem sp  (h:Q .normal F w) :WP P n .skip Q F w:=fun _ ha=>wp_skip ⟨F,ha,h⟩

theorem rt  (h:Q .ret F w) :WP P n .ret Q F w:=fun _ ha=>wp_ret ⟨F,ha,h⟩

theorem xt  {id:Nat}(h:Q (.exit id) F w) :WP P n (.exit id) Q F w:=fun _ ha=>wp_exit ⟨F,ha,h⟩

theorem bk  {id:Nat}{c:Code}(h:WP P n c (Q.block id) F w) :WP P n (.block id c) Q F w:=fun a ha=>
  wp_block (wp_mono (h a ha) fun e a' w' ⟨F',hf,q⟩=>by
    cases e with
    | exit i=>
      simp only [Exit.inBlock]
      by_cases hi:i=id
      · subst hi;have hb:Nat.beq i i=true:=by simp
        simp only [Post.block,hb] at q;rw [if_pos rfl];exact⟨F',hf,q⟩
      · have:Nat.beq i id=false:=by rw [Bool.eq_false_iff];intro hb;exact hi (Nat.eq_of_beq_eq_true hb)
        simp only [Post.block,this] at q
        rw [if_neg hi];exact⟨F',hf,q⟩
    | _=>exact⟨F',hf,q⟩)

theorem cd  {c:Operand}{x y:Code}(b:Bool) (ht:b=true→WP P n x Q F w) (hf:b=false→WP P n y Q F w) (hc:F.ev c=some (.bool b):=by exact rfl):WP P n (.cond c x y) Q F w:=WP.cond b hc ht hf

theorem q1 {v:Value}{t:Nat}{x:Operand}{i:TI}{p q:Addr}{cs:List Value}(hat:At w p cs) (off:Nat) (ht:TTok P T:=by exact ttok) (ho:o.op=.load t x:=by exact rfl) (hi:T.get t=some i:=by exact rfl) (hag:i.agg=false:=by exact rfl) (hx:F.ev x=some (.pointer (some q)):=by exact rfl) (hq:q=p.add off:=by exact rfl) (hv:nthv cs off=some v:=by exact rfl):Quiet P n F w o v:=Quiet.load1 ht ho hi hag hx hat off hq hv

theorem qN  {t:Nat}{x:Operand}{i:TI}{q:Addr}{cs:List Value}(hat:At w q cs) (ht:TTok P T:=by exact ttok) (ho:o.op=.load t x:=by exact rfl) (hi:T.get t=some i:=by exact rfl) (hag:i.agg=true:=by exact rfl) (hx:F.ev x=some (.pointer (some q)):=by exact rfl) (hl:cs.length=i.size:=by exact rfl):Quiet P n F w o (.agg ⟨cs⟩):=Quiet.loadN ht ho hi hag hx hat hl

theorem rg  {id:Nat}(h:RW P n ops Q ops F w) :WP P n (.region id ops.toArray false) Q F w:=fun a ha=>wp_region_lit (h a ha)

theorem rn  (h:Q .normal F w) :RW P n ops Q [] F w:=fun _ ha=>wpList_nil ⟨F,ha,h⟩

theorem qt  {v:Value}(hq:Quiet P n F w o v){d:Nat}(h:RW P n ops Q rest ((d,v)::F) w) (hg:guardOf ops F o=some true:=by exact rfl) (hd:o.dst=some d:=by exact rfl) (hn:Nat.blt d n=true:=by exact rfl):RW P n ops Q (o::rest) F w:=RW.quiet hg hq hd hn h

theorem rr  (k:Nat){rest':List Oper}{F':Fr}(h:RW P n ops Q rest' F' w) (ht:TTok P T:=by exact ttok) (hr:pvs T n ops k rest F=some (rest',F'):=by exact rfl):RW P n ops Q rest F w:=by
  induction k generalizing rest F with
  | zero=>simp only [pvs,Option.some.injEq,Prod.mk.injEq] at hr;obtain⟨rfl,rfl⟩:=hr;exact h
  | succ k ih=>
    cases rest with
    | nil=>simp only [pvs,Option.some.injEq,Prod.mk.injEq] at hr;obtain⟨rfl,rfl⟩:=hr;exact h
    | cons o rest=>
      unfold pvs at hr
      split at hr
      · rename_i d hg hd
        split at hr
        · rename_i v hn hv
          exact RW.ok hg (fun a ha=>zie ht hv ha w) hd hn (ih hr)
        · cases hr
      · rename_i hg hd
        split at hr
        · rename_i v hv
          exact RW.ok0 hg (fun a ha=>zie ht hv ha w) hd (ih hr)
        · cases hr
      · rename_i d hg hd
        split at hr
        · rename_i hn;exact RW.skip hg hd hn (ih hr)
        · cases hr
      · rename_i hg hd;exact RW.skip0 hg hd (ih hr)
      · cases hr


theorem nw  {Rs:List Res}(hS:St W w Rs){cs:List Value}{e:TypeId}{d:Nat}(h:∀ g w',Ext w w'→St W w' (Box g cs e::Rs)→RW P n ops Q rest ((d,.pointer (some ⟨g,0,none⟩))::F) w') (ht:TTok P T:=by exact ttok) (hg:guardOf ops F o=some true:=by exact rfl) (hc:newOf T F o.op=some (cs,e):=by exact rfl) (hd:o.dst=some d:=by exact rfl) (hn:Nat.blt d n=true:=by exact rfl):RW P n ops Q (o::rest) F w:=
  RW.ok hg (fun _ ha=>zif ht hc ha) hd hn (h _ _ (Ext.alloc _ _) (hS.new cs e))



theorem ca  {f:FuncId}{vs:List Value}(hen:Enters P f){R:Value→World→Prop}(hf:Calls P f ⟨vs⟩ w (Ret R)) (h:∀ v w',R v w'→RW P n ops Q rest (F.putO o.dst v) w') (hg:guardOf ops F o=some true:=by exact rfl) (hc:callOf F o.op=some (f,vs):=by exact rfl) (hn:dstOk n o.dst=true:=by exact rfl):RW P n ops Q (o::rest) F w:=fun a ha=>
  wpList_step fun K hK=>by
    rw [if_pos (zL hg ha)]
    unfold Oper.wp
    rw [zez hen hc ha,Oper.upon_enter]
    refine hf.mono fun e w' he=>?_
    cases e with
    | returned v=>exact hK _ _ (h v w' he _ (ha.putO hn v))
    | panicked _=>exact he.elim
    | outgrown=>exact he.elim
theorem so  {A B:List Res}{g:Nat}{cs cs':List Value}{e:TypeId}(hS:St W w (A++Box g cs e::B)){t:Nat}{x y:Operand}{i:TI}{q:Addr}(off:Nat){v:Value}(h:∀ w',St W w' (A++Box g cs' e::B)→RW P n ops Q rest F w') (ht:TTok P T:=by exact ttok) (hg:guardOf ops F o=some true:=by exact rfl) (ho:o.op=.store t x y:=by exact rfl) (hd:o.dst=none:=by exact rfl) (hi:T.get t=some i:=by exact rfl) (hx:F.ev x=some (.pointer (some q)):=by exact rfl) (hq:q=⟨g,off,none⟩:=by exact rfl) (hy:F.ev y=some v:=by exact rfl) (hl:Nat.beq (cellsV v).length i.size=true:=by exact rfl) (h1:oneCells (cellsV v)=true:=by exact rfl) (hs:setAt cs off (cellsV v)=some cs':=by exact rfl):RW P n ops Q (o::rest) F w:=by
  obtain⟨G,⟨hG,hh⟩,_,hlo⟩:=hS.sep.pick.head
  obtain⟨w',r1,r2,r3,r4,r5,r6,r7⟩:=z3P (P:=P) g off e (cellsV v) 0 w cs cs' h1 hh (by simpa using hs)
  have hge:W.heap.size≤g:=hlo g (by rw [hG];simp)
  refine RW.unit (w':=w') hg (fun a ha=>?_) hd (h w' (St.back ⟨⟨r5.trans hS.ext.os,r6.trans hS.ext.tape,r7.trans hS.ext.output,by rw [r4];exact hS.le,fun k hk=>?_⟩,?_⟩))
  · unfold execOp
    rw [ho]
    have hsz:v.cells.size=i.size:=by
      rw [← Array.length_toList,z7M];exact Nat.eq_of_beq_eq_true hl
    simp [ha.ev hx,ha.ev hy,Instr.storeAt,Instr.sureAddr,storeVar,ht.sizeOf hi,hsz,z7M,hq,r1]
  · rw [r3 k (by omega)];exact hS.ext.block k hk
  · refine hS.sep.pick.upd hS.le fun G' hG' _ _=>?_
    obtain⟨e1,_⟩:=hG'
    exact⟨[g],⟨rfl,r2⟩,by simp,fun b hb=>.inl (by rw [e1];exact hb),fun b hb hn=>r3 b (by rintro rfl;exact hn (by rw [e1];simp))⟩
theorem into  {f:FuncId}{fn:Func}{c:Code}{vs:List Value}{R:Value→World→Prop}(hf:P.funcs[f]? = some fn) (n:Nat) (rs:List ResultVar) (h:WP P n c (RetP P rs R) (startFr 0 vs) w) (hb:fn.body=some c:=by exact rfl) (hn:fn.ntmps=n:=by exact rfl) (hl:Nat.ble vs.length n=true:=by exact rfl) (hr:fn.results.toList=rs:=by exact rfl):Calls P f ⟨vs⟩ w (Ret R):=by
  refine calls_of_wp hf hb (wp_mono (h _ ?_) ?_)
  · have hl':vs.length≤n:=by simpa using hl
    refine⟨rfl,by simp [hn];omega,fun i v hv=>?_⟩
    obtain⟨_,h2⟩:=zfF vs 0 i v hv
    simp only [Nat.sub_zero] at h2
    have hi:=(List.getElem?_eq_some_iff.1 h2).1
    rw [Array.getElem?_append_left (by simpa using hi)]
    simpa using h2
  · rintro e a w' ⟨F,ha,hq⟩
    cases e with
    | normal=>obtain⟨us,h1,h2⟩:=hq;exact⟨ha.1,_,zfO ha hr h1,h2⟩
    | ret=>obtain⟨us,h1,h2⟩:=hq;exact⟨ha.1,_,zfO ha hr h1,h2⟩
    | exit i=>exact hq.elim
    | goto l=>exact hq.elim
    | panic c=>exact hq.elim
    | outgrown=>exact hq.elim
theorem l1  {t:Nat}{x:Operand}{i:TI}{p q:Addr}{cs:List Value}(hat:At w p cs) (off:Nat){v:Value}{d:Nat}(h:RW P n ops Q rest ((d,v)::F) w) (ht:TTok P T:=by exact ttok) (hg:guardOf ops F o=some true:=by exact rfl) (ho:o.op=.load t x:=by exact rfl) (hi:T.get t=some i:=by exact rfl) (hag:i.agg=false:=by exact rfl) (hx:F.ev x=some (.pointer (some q)):=by exact rfl) (hq:q=p.add off:=by exact rfl) (hv:nthv cs off=some v:=by exact rfl) (hd:o.dst=some d:=by exact rfl) (hn:Nat.blt d n=true:=by exact rfl):RW P n ops Q (o::rest) F w:=RW.quiet hg (Quiet.load1 ht ho hi hag hx hat off hq hv) hd hn h

theorem lN  {t:Nat}{x:Operand}{i:TI}{q:Addr}{cs:List Value}(hat:At w q cs){d:Nat}(h:RW P n ops Q rest ((d,.agg ⟨cs⟩)::F) w) (ht:TTok P T:=by exact ttok) (hg:guardOf ops F o=some true:=by exact rfl) (ho:o.op=.load t x:=by exact rfl) (hi:T.get t=some i:=by exact rfl) (hag:i.agg=true:=by exact rfl) (hx:F.ev x=some (.pointer (some q)):=by exact rfl) (hl:Nat.beq cs.length i.size=true:=by exact rfl) (hd:o.dst=some d:=by exact rfl) (hn:Nat.blt d n=true:=by exact rfl):RW P n ops Q (o::rest) F w:=RW.quiet hg (Quiet.loadN ht ho hi hag hx hat (Nat.eq_of_beq_eq_true hl)) hd hn h

theorem ix  {α:Type}{U:Ty α}{w1:World}(he:Ext w1 w){t e:Nat}{x ix:Operand}{i j:TI}{A:Option Addr}{len c:Nat}{xs:List α}{k:IntKind}{m:Int}{e':Nat}(hr:(tSl e' U).ro w1 [.slice A len c] xs){a:α}(G:idx xs m=some a){d:Nat}(h:∀ q es,At w1 q es→U.ro w1 es a→RW P n ops Q rest ((d,.pointer (some q))::F) w) (ht:TTok P T:=by exact ttok) (hg:guardOf ops F o=some true:=by exact rfl) (ho:o.op=.indexAddr t x ix:=by exact rfl) (hi:T.get t=some i:=by exact rfl) (hd:i.d=.slice e:=by exact rfl) (hj:T.get e=some j:=by exact rfl) (hs:U.size=j.size:=by exact rfl) (hpos:0<U.size:=by decide) (hx:F.ev x=some (.slice A len c):=by exact rfl) (hm:F.ev ix=some (.int k m):=by exact rfl) (hd':o.dst=some d:=by exact rfl) (hn:Nat.blt d n=true:=by exact rfl):RW P n ops Q (o::rest) F w:=RW.idx ht he hg ho hi hd hj hs hpos hx hm hr (zi G).1 (zi G).2 hd' hn h

theorem dn  {id:Nat}(wm:Nat) (hm:P.follows .mixedOrders=true) (k:Nat) (sk:List (List Nat × Nat)) (hv:Ext W9 w) (h:(skOf ops=sk∧ops.length=k)→DM P n ops Q W9 w wm k k 0 F { w with drawn:=w.drawn+1 }) (hk:Nat.beq ops.length k=true:=by kernel_rfl) (hs:Region.noSelect ops.toArray=true:=by kernel_rfl) (hsk:skOf ops=sk:=by kernel_rfl):WP P n (.region id ops.toArray true) Q F w:=
  WP.drawn hm k (by simpa using hk) hs hv (h ⟨hsk,by simpa using hk⟩ _ (Lst.start k))

theorem dd {k m:Nat}(hsk:skOf ops=sk∧ops.length=k) (h:Q .normal F w) (hr:readyM sk k m=[]:=by kernel_rfl):DM P n ops Q W9 w0 wm fu k m F w:=fun _ hl=>DW.done (by rw [zfQ hsk.1 hsk.2 hl];exact hr) h

theorem dV {k m:Nat}{v:Value}(hsk:skOf ops=sk∧ops.length=k) (i:Nat){m':Nat}(hi:nthv ops i=some o) (hq:Quiet P n F W9 o v){d:Nat}(h:DM P n ops Q W9 w0 wm fu k m' ((d,v)::F) w) (hm:m ||| 2 ^ i=m':=by exact rfl) (hwi:wm.testBit i=false:=by kernel_rfl) (hf:freeM sk (2 ^ k - 1) m i=true:=by kernel_rfl) (hg:guardOf ops F o=some true:=by exact rfl) (hd:o.dst=some d:=by exact rfl) (hn:Nat.blt d n=true:=by exact rfl):DM P n ops Q W9 w0 wm (fu+1) k m F w:=DM.quietV hsk i _ hm hwi hi hf hg hq hd hn h

theorem dr {k m:Nat}(fu:Nat) (hsk:skOf ops=sk∧ops.length=k) (l:List Nat){F':Fr}(h:DM P n ops Q W9 w0 wm fu k (marksM l m) F' w) (ht:TTok P T:=by exact ttok) (hwl:l.all (fun i=>!wm.testBit i)=true:=by kernel_rfl) (hl:(freeAllM sk (2 ^ k - 1) l m).isSome=true:=by kernel_rfl) (hr:pvsD T n ops l F=some F':=by exact rfl):DM P n ops Q W9 w0 wm (fu+l.length) k m F w:=by
  obtain⟨m',hl'⟩:=Option.isSome_iff_exists.1 hl
  have e:=zir hl'
  subst e
  exact DM.run ht hsk l _ hwl hl' hr h

theorem o1 {k m:Nat}(hsk:skOf ops=sk∧ops.length=k) (i:Nat) (h:LM P n ops Q W9 w0 wm fu k m i F w) (hr:readyM sk k m=[i]:=by kernel_rfl):DM P n ops Q W9 w0 wm (fu+1) k m F w:=
  DM.loud hsk [i] hr (by simp) (by rintro j hj;simp only [List.mem_singleton] at hj;subst hj;exact h)

theorem mc {k m:Nat}(hsk:skOf ops=sk∧ops.length=k){i:Nat}{m':Nat}{f:FuncId}{vs:List Value}(hen:Enters P f){R:Value→World→Prop}(hf:Calls P f ⟨vs⟩ w (Ret R)) (h:∀ v w',R v w'→Ext w w'∧DM P n ops Q W9 w0 wm fu k m' (F.putO o.dst v) w') (hm:m ||| 2 ^ i=m':=by exact rfl) (hwi:wm.testBit i=false:=by kernel_rfl) (hi:nthv ops i=some o:=by exact rfl) (hg:guardOf ops F o=some true:=by exact rfl) (hc:callOf F o.op=some (f,vs):=by exact rfl) (hn:dstOk n o.dst=true:=by exact rfl):LM P n ops Q W9 w0 wm fu k m i F w:=fun _ hl=>
  LW.call hwi hi hg hc hn hen hf fun v w' hR=>⟨(h v w' hR).1,(h v w' hR).2 _ (hl.set (zc0 hsk.2 hi) hm)⟩

theorem mw {k m:Nat}(hsk:skOf ops=sk∧ops.length=k){Rs:List Res}(hS:St W w Rs){i:Nat}{m':Nat}{cs:List Value}{e:TypeId}{d:Nat}(h:∀ g w',Ext w w'→St W w' (Box g cs e::Rs)→DM P n ops Q W9 w0 wm fu k m' ((d,.pointer (some ⟨g,0,none⟩))::F) w') (ht:TTok P T:=by exact ttok) (hm:m ||| 2 ^ i=m':=by exact rfl) (hwi:wm.testBit i=false:=by kernel_rfl) (hi:nthv ops i=some o:=by exact rfl) (hg:guardOf ops F o=some true:=by exact rfl) (hc:newOf T F o.op=some (cs,e):=by exact rfl) (hd:o.dst=some d:=by exact rfl) (hn:Nat.blt d n=true:=by exact rfl):LM P n ops Q W9 w0 wm fu k m i F w:=fun _ hl=>
  LW.new ht hS hwi hi hg hc hd hn fun g w' h1 h2=>h g w' h1 h2 _ (hl.set (zc0 hsk.2 hi) hm)

theorem dl {k m:Nat}(hsk:skOf ops=sk∧ops.length=k) (i:Nat){m':Nat}{t:Nat}{x:Operand}{j:TI}{p q:Addr}{cs:List Value}(hat:At w0 p cs) (off:Nat){v:Value}{d:Nat}(h:DM P n ops Q W9 w0 wm fu k m' ((d,v)::F) w) (ht:TTok P T:=by exact ttok) (hm:m ||| 2 ^ i=m':=by exact rfl) (hwi:wm.testBit i=false:=by kernel_rfl) (hwo:wrOk sk wm k i=true:=by kernel_rfl) (hnw:Nat.beq (m &&& wm) 0=true:=by kernel_rfl) (hi:nthv ops i=some o:=by exact rfl) (hf:freeM sk (2 ^ k - 1) m i=true:=by kernel_rfl) (hg:guardOf ops F o=some true:=by exact rfl) (ho:o.op=.load t x:=by exact rfl) (hj:T.get t=some j:=by exact rfl) (hag:j.agg=false:=by exact rfl) (hx:F.ev x=some (.pointer (some q)):=by exact rfl) (hq:q=p.add off:=by exact rfl) (hv:nthv cs off=some v:=by exact rfl) (hd:o.dst=some d:=by exact rfl) (hn:Nat.blt d n=true:=by exact rfl):DM P n ops Q W9 w0 wm (fu+1) k m F w:=DM.quiet hsk i m' hm hwi hwo hnw hi hf hg (Quiet.load1 ht ho hj hag hx hat off hq hv) hd hn h

theorem dL {k m:Nat}(hsk:skOf ops=sk∧ops.length=k) (i:Nat){m':Nat}{t:Nat}{x:Operand}{j:TI}{q:Addr}{cs:List Value}(hat:At w0 q cs){d:Nat}(h:DM P n ops Q W9 w0 wm fu k m' ((d,.agg ⟨cs⟩)::F) w) (ht:TTok P T:=by exact ttok) (hm:m ||| 2 ^ i=m':=by exact rfl) (hwi:wm.testBit i=false:=by kernel_rfl) (hwo:wrOk sk wm k i=true:=by kernel_rfl) (hnw:Nat.beq (m &&& wm) 0=true:=by kernel_rfl) (hi:nthv ops i=some o:=by exact rfl) (hf:freeM sk (2 ^ k - 1) m i=true:=by kernel_rfl) (hg:guardOf ops F o=some true:=by exact rfl) (ho:o.op=.load t x:=by exact rfl) (hj:T.get t=some j:=by exact rfl) (hag:j.agg=true:=by exact rfl) (hx:F.ev x=some (.pointer (some q)):=by exact rfl) (hl:Nat.beq cs.length j.size=true:=by exact rfl) (hd:o.dst=some d:=by exact rfl) (hn:Nat.blt d n=true:=by exact rfl):DM P n ops Q W9 w0 wm (fu+1) k m F w:=DM.quiet hsk i m' hm hwi hwo hnw hi hf hg (Quiet.loadN ht ho hj hag hx hat (Nat.eq_of_beq_eq_true hl)) hd hn h

theorem dx {k m:Nat}{α:Type}{U:Ty α}{w1:World}(he:Ext w1 w0) (hsk:skOf ops=sk∧ops.length=k) (i:Nat){m':Nat}{t e:Nat}{x ix:Operand}{j j':TI}{A:Option Addr}{len c:Nat}{xs:List α}{kk:IntKind}{mm:Int}{e':Nat}(hr:(tSl e' U).ro w1 [.slice A len c] xs){a:α}(G:idx xs mm=some a){d:Nat}(h:∀ q es,At w1 q es→U.ro w1 es a→DM P n ops Q W9 w0 wm fu k m' ((d,.pointer (some q))::F) w) (ht:TTok P T:=by exact ttok) (hm':m ||| 2 ^ i=m':=by exact rfl) (hwi:wm.testBit i=false:=by kernel_rfl) (hwo:wrOk sk wm k i=true:=by kernel_rfl) (hnw:Nat.beq (m &&& wm) 0=true:=by kernel_rfl) (hi:nthv ops i=some o:=by exact rfl) (hf:freeM sk (2 ^ k - 1) m i=true:=by kernel_rfl) (hg:guardOf ops F o=some true:=by exact rfl) (ho:o.op=.indexAddr t x ix:=by exact rfl) (hj:T.get t=some j:=by exact rfl) (hd:j.d=.slice e:=by exact rfl) (hj':T.get e=some j':=by exact rfl) (hs:U.size=j'.size:=by exact rfl) (hpos:0<U.size:=by decide) (hx:F.ev x=some (.slice A len c):=by exact rfl) (hm:F.ev ix=some (.int kk mm):=by exact rfl) (hd':o.dst=some d:=by exact rfl) (hn:Nat.blt d n=true:=by exact rfl):DM P n ops Q W9 w0 wm (fu+1) k m F w:=DM.idx ht he hsk i _ hm' hwi hwo hnw hi hf hg ho hj hd hj' hs hpos hx hm hr (zi G).1 (zi G).2 hd' hn h

theorem dv {k m:Nat}{α:Type}{U:Ty α}{w1:World}(he:Ext w1 W9) (hsk:skOf ops=sk∧ops.length=k) (i:Nat){m':Nat}{t e:Nat}{x ix:Operand}{j j':TI}{A:Option Addr}{len c:Nat}{xs:List α}{kk:IntKind}{mm:Int}{e':Nat}(hr:(tSl e' U).ro w1 [.slice A len c] xs){a:α}(G:idx xs mm=some a){d:Nat}(h:∀ q es,At w1 q es→U.ro w1 es a→DM P n ops Q W9 w0 wm fu k m' ((d,.pointer (some q))::F) w) (ht:TTok P T:=by exact ttok) (hm':m ||| 2 ^ i=m':=by exact rfl) (hwi:wm.testBit i=false:=by kernel_rfl) (hi:nthv ops i=some o:=by exact rfl) (hf:freeM sk (2 ^ k - 1) m i=true:=by kernel_rfl) (hg:guardOf ops F o=some true:=by exact rfl) (ho:o.op=.indexAddr t x ix:=by exact rfl) (hj:T.get t=some j:=by exact rfl) (hd:j.d=.slice e:=by exact rfl) (hj':T.get e=some j':=by exact rfl) (hs:U.size=j'.size:=by exact rfl) (hpos:0<U.size:=by decide) (hx:F.ev x=some (.slice A len c):=by exact rfl) (hm:F.ev ix=some (.int kk mm):=by exact rfl) (hd':o.dst=some d:=by exact rfl) (hn:Nat.blt d n=true:=by exact rfl):DM P n ops Q W9 w0 wm (fu+1) k m F w:=DM.idxV ht he hsk i _ hm' hwi hi hf hg ho hj hd hj' hs hpos hx hm hr (zi G).1 (zi G).2 hd' hn h

theorem mS  {α:Type}{U:Ty α}{Rs:List Res}(z:α) (hS:St W w Rs){t e:Nat}{l c:Operand}{i j:TI}{k1 k2:IntKind}{m:Int}(hz9:0≤m∧m≤4294967296){zz9:List Value}(hz:∀ w',U.own w' zz9 z []){d:Nat}(h:∀ A k w',Ext w w'→St W w' (Own (tSl e U) [.slice A (List.replicate m.toNat z).length k] (List.replicate m.toNat z)::Rs)→RW P n ops Q rest ((d,.slice A (List.replicate m.toNat z).length k)::F) w') (ht:TTok P T:=by exact ttok) (hg:guardOf ops F o=some true:=by exact rfl) (ho:o.op=.makeSlice t l c:=by exact rfl) (hi:T.get t=some i:=by exact rfl) (hd:i.d=.slice e:=by exact rfl) (hj:T.get e=some j:=by exact rfl) (hs:U.size=j.size:=by exact rfl) (hl:F.ev l=some (.int k1 m):=by exact rfl) (hc:F.ev c=some (.int k2 m):=by exact rfl) (q:Nat.ble j.bytes 65536=true:=by exact rfl) (hzz9:j.zero=zz9:=by exact rfl) (hd':o.dst=some d:=by exact rfl) (hn:Nat.blt d n=true:=by exact rfl):RW P n ops Q (o::rest) F w:=RW.make ht z hS hg ho hi hd hj hs hl hc hz9.1 (zq4 hz9 q) (by have:=hz9.2;simp only [maxLen];omega) (by intro v;rw [hzz9];exact hz v) hd' hn h

theorem qb  {t:Nat}{ps:List (Nat × Operand)}{i:TI}{gs:List (Nat × Nat × Bool × Nat)}{vs:List (Nat × Value)}{cs:List Value}(ht:TTok P T:=by exact ttok) (ho:o.op=.build t ⟨ps⟩:=by exact rfl) (hi:T.get t=some i:=by exact rfl) (hd:i.d=.struct gs:=by exact rfl) (hv:partsOf F ps=some vs:=by exact rfl) (hc:fillV gs i.zero vs=some cs:=by exact rfl):Quiet P n F w o (.agg ⟨cs⟩):=by
  intro a w' ha _
  obtain⟨it,hit,_,_,z,hz,hzc⟩:=ht.info hi
  obtain⟨d,h1,h2,_⟩:=ht.desc hi
  rw [hd] at h2
  cases d<;>simp only [descOk,Bool.false_eq_true] at h2
  rename_i fs _
  obtain⟨places,hp1,hp2⟩:=zik h2
  have hpos:∀ (j:Nat) g,gs[j]? = some g→g.2.1≠0:=fun j g hg=>by
    obtain⟨_,_,_,_,_,h,_⟩:=ht.field hi hd hg
    exact h
  have hfill:=zhF (place:=(places.toArray[·]?)) (fun j g hg=>by simpa using hp2 j g hg) hpos vs i.zero cs hc
  have hb:P.built t vs=some ⟨cs⟩:=by
    unfold Program.built
    simp only [hit,h1,hz,hp1]
    rw [show z.cells=⟨i.zero⟩ from by rw [← hzc]]
    exact hfill
  unfold execOp
  rw [ho]
  have:=run_build (P:=P) w' t ⟨vs⟩ ⟨cs⟩ hb
  have he:(#[]++(⟨ps⟩:Array (Nat × Operand))).map (fun(p:Nat × Operand)=>(p.1,a.eval p.2))=⟨vs⟩:=by
    simp [zbY ha hv]
  simp only [Array.empty_append] at he
  simp [show Array.map (fun x:Nat × Operand=>(x.fst,a.eval x.snd)) ⟨ps⟩=⟨vs⟩ from he,this]

theorem n0  {α:Type}{U:Ty α}{Rs:List Res}{t e:Nat}{i j:TI}(hS:St W w Rs){d:Nat}(h:∀ A k w',Ext w w'→St W w' (Own (tSl e U) [.slice A ([]:List α).length k] []::Rs)→RW P n ops Q rest ((d,.slice A ([]:List α).length k)::F) w') (ht:TTok P T:=by exact ttok) (hg:guardOf ops F o=some true:=by exact rfl) (ho:o.op=.buildSlice t 0 #[]:=by exact rfl) (hi:T.get t=some i:=by exact rfl) (hd:i.d=.slice e:=by exact rfl) (hj:T.get e=some j:=by exact rfl) (hd':o.dst=some d:=by exact rfl) (hn:Nat.blt d n=true:=by exact rfl):RW P n ops Q (o::rest) F w:=by
  obtain⟨jj,hjj,_⟩:=ht.info hj
  refine RW.ok (v:=.slice (some ⟨w.heap.size,0,none⟩) 0 0) hg (fun a ha=>?_) hd' hn (h (some ⟨w.heap.size,0,none⟩) 0 _ (Ext.alloc w (.cells #[] e)) ?_)
  · unfold execOp
    rw [ho]
    simp [zcF w (ht.slice hi hd) hjj]
  · have h1:=(hS.flatEls (U:=U) (els:=[]) (ys:=[]) ⟨rfl,rfl⟩).new [] e
    exact St.boxSl (ys:=([]:List α)) h1 (Nat.zero_le _)


theorem ap  {α:Type}{U:Ty α}(hfl:Flat U){B:List Res}{e:Nat}{A:Option Addr}{k:Nat}{xs ys:List α}(hS:St W w (Own (tSl e U) [.slice A xs.length k] xs::B)){t:Nat}{s x:Operand}{i j:TI}{A2:Option Addr}{k2:Nat}{e':Nat}(hr:(tSl e' U).ro w [.slice A2 ys.length k2] ys) (q:decide ((xs.length:Int)+ys.length≤4294967296)=true){d:Nat}(h:∀ A' k' w',St W w' (Own (tSl e U) [.slice A' (xs++ys).length k'] (xs++ys)::B)→RW P n ops Q rest ((d,.slice A' (xs++ys).length k')::F) w') (ht:TTok P T:=by exact ttok) (hg:guardOf ops F o=some true:=by exact rfl) (ho:o.op=.call { callee:=.builtin .append,args:=#[s,x],argTypes:=#[t,t] }:=by exact rfl) (hi:T.get t=some i:=by exact rfl) (hd:i.d=.slice e:=by exact rfl) (hj:T.get e=some j:=by exact rfl) (hs:U.size=j.size:=by exact rfl) (hpos:0<U.size:=by decide) (hx:F.ev s=some (.slice A xs.length k):=by exact rfl) (hy:F.ev x=some (.slice A2 ys.length k2):=by exact rfl) (hb:j.bytes≤32768:=by decide) (hd':o.dst=some d:=by exact rfl) (hn:Nat.blt d n=true:=by exact rfl):RW P n ops Q (o::rest) F w:=RW.appendRo ht hfl hS hg ho hi hd hj hs hpos hx hy hr (of_decide_eq_true q) hb hd' hn h

theorem qNilEq  {t u e:Nat}{x y:Operand}{i:TI}{A:Option Addr}{l c:Nat}(ht:TTok P T:=by exact ttok) (ho:o.op=.binOp .eql t x y u:=by exact rfl) (hi:T.get t=some i:=by exact rfl) (hd:i.d=.slice e:=by exact rfl) (hx:F.ev x=some (.slice A l c):=by exact rfl) (hy:F.ev y=some (.slice none 0 0):=by exact rfl):Quiet P n F w o (.bool A.isNone):=by
  intro a w' ha _
  unfold execOp
  rw [ho]
  have hg:(eqGuard .eql t x y (.slice A l c) (.slice none 0 0)).run P w'=.ok () w':=by unfold eqGuard;simp
  simp [ha.ev hx,ha.ev hy,hg,zmo w' A l c (ht.slice hi hd)]

theorem ns  {α:Type}{U:Ty α}{Rs:List Res}{t e m:Nat}{ps:List (Nat × Operand)}{vs:List (Nat × Value)}{els:List Value}{ys:List α}{i j:TI}(hS:St W w (OwnEls U els ys::Rs)){d:Nat}(h:∀ A k w',Ext w w'→St W w' (Own (tSl e U) [.slice A ys.length k] ys::Rs)→RW P n ops Q rest ((d,.slice A ys.length k)::F) w') (ht:TTok P T:=by exact ttok) (hg:guardOf ops F o=some true:=by exact rfl) (ho:o.op=.buildSlice t m ⟨ps⟩:=by exact rfl) (hi:T.get t=some i:=by exact rfl) (hd:i.d=.slice e:=by exact rfl) (hj:T.get e=some j:=by exact rfl) (hv:partsOf F ps=some vs:=by exact rfl) (hf:fillV (slots j.size 0 m) (chunks m j.zero) vs=some els:=by exact rfl) (hm:ys.length=m:=by exact rfl) (hpos:Nat.ble 1 (m*j.size)=true:=by exact rfl) (hsm:Nat.ble (m*j.size) 16777216=true:=by exact rfl) (hd':o.dst=some d:=by exact rfl) (hn:Nat.blt d n=true:=by exact rfl):RW P n ops Q (o::rest) F w:=by
  obtain⟨jj,hjj,hsz,_,zz,hzz,hzc⟩:=ht.info hj
  have h1:1≤m*j.size:=by simpa using hpos
  have h2:m*j.size≤16777216:=by simpa using hsm
  have hzl:j.zero.length=j.size:=by
    have:=ht.zlen hj
    exact this
  have hcells:(Array.range (m*jj.size)).map (zz.cells[· % zz.cells.size]!)=⟨chunks m j.zero⟩:=by
    have:=zba j.zero m
    rw [hzl] at this
    rw [hsz,show zz.cells=⟨j.zero⟩ from by rw [← hzc]]
    have h5:madeCells ⟨j.zero⟩ (m*j.size)=⟨chunks m j.zero⟩:=by rw [← this]
    exact h5
  have hfill:=zhF (place:=fun i=>some (i*jj.size,jj.size)) (gs:=slots j.size 0 m) (fun a g hg=>by rw [zdZ _ _ _ _ _ hg,hsz];simp) (fun a g hg=>by
    rw [zdZ _ _ _ _ _ hg]
    intro h0
    have:j.size=0:=h0
    rw [this] at h1;omega) vs _ els hf
  have hr:=run_buildSlice (P:=P) w t e m ⟨vs⟩ ⟨els⟩ jj zz (ht.slice hi hd) hjj hzz (by rw [hsz];omega) (by rw [hsz];omega) (by rw [hcells];exact hfill)
  subst hm
  refine RW.ok (v:=.slice (some ⟨w.heap.size,0,none⟩) ys.length ys.length) hg (fun a ha=>?_) hd' hn (h (some ⟨w.heap.size,0,none⟩) ys.length _ (Ext.alloc w (.cells ⟨els⟩ e)) ?_)
  · unfold execOp
    rw [ho]
    have he:(⟨ps⟩:Array (Nat × Operand)).map (fun(p:Nat × Operand)=>(p.1,a.eval p.2))=⟨vs⟩:=by
      simp [zbY ha hv]
    simp [show Array.map (fun x:Nat × Operand=>(x.fst,a.eval x.snd)) ⟨ps⟩=⟨vs⟩ from he,hr]
  · have q:1≤j.size:=by
      rcases Nat.eq_zero_or_pos j.size with h0 | h0
      · rw [h0] at h1;omega
      · exact h0
    exact St.boxSl (hS.new els e) (by
      have:ys.length*1≤ys.length*j.size:=Nat.mul_le_mul_left _ q
      unfold maxLen;omega)


theorem ao  {α:Type}{U:Ty α}{B:List Res}{e e':Nat}{A A2:Option Addr}{k k2:Nat}{xs ys:List α}(hS:St W w (Own (tSl e' U) [.slice A2 ys.length k2] ys::Own (tSl e U) [.slice A xs.length k] xs::B)){t:Nat}{s x:Operand}{i j:TI}(q:decide ((xs.length:Int)+ys.length≤4294967296)=true){d:Nat}(h:∀ A' k' w',St W w' (Own (tSl e U) [.slice A' (xs++ys).length k'] (xs++ys)::B)→RW P n ops Q rest ((d,.slice A' (xs++ys).length k')::F) w') (ht:TTok P T:=by exact ttok) (hg:guardOf ops F o=some true:=by exact rfl) (ho:o.op=.call { callee:=.builtin .append,args:=#[s,x],argTypes:=#[t,t] }:=by exact rfl) (hi:T.get t=some i:=by exact rfl) (hd:i.d=.slice e:=by exact rfl) (hj:T.get e=some j:=by exact rfl) (hs:U.size=j.size:=by exact rfl) (hpos:0<U.size:=by decide) (hx:F.ev s=some (.slice A xs.length k):=by exact rfl) (hy:F.ev x=some (.slice A2 ys.length k2):=by exact rfl) (hb:j.bytes≤32768:=by decide) (hd':o.dst=some d:=by exact rfl) (hn:Nat.blt d n=true:=by exact rfl):RW P n ops Q (o::rest) F w:=RW.appendOwn ht hS hg ho hi hd hj hs hpos hx hy (of_decide_eq_true q) hb hd' hn h

theorem fo  {α:Type}{U:Ty α}{B:List Res}{e:Nat}{A:Option Addr}{k ln:Nat}{xs:List α}{a:α}(hS:St W w (Own (tSl e U) [.slice A ln k] xs::B)){t e':Nat}{x ix:Operand}{i j:TI}{kd:IntKind}{m:Int}(G:idx xs m=some a){d:Nat}(h:∀ q es,ElAt U A m.toNat q→St W w (Hole U e (.slice A ln k) xs m.toNat es::Own U es a::B)→RW P n ops Q rest ((d,.pointer (some q))::F) w) (ht:TTok P T:=by exact ttok) (hg:guardOf ops F o=some true:=by exact rfl) (ho:o.op=.indexAddr t x ix:=by exact rfl) (hi:T.get t=some i:=by exact rfl) (hd:i.d=.slice e':=by exact rfl) (hj:T.get e'=some j:=by exact rfl) (hs:U.size=j.size:=by exact rfl) (hx:F.ev x=some (.slice A ln k):=by exact rfl) (hm:F.ev ix=some (.int kd m):=by exact rfl) (hd':o.dst=some d:=by exact rfl) (hn:Nat.blt d n=true:=by exact rfl):RW P n ops Q (o::rest) F w:=RW.focus ht hS hg ho hi hd hj hs hx hm (zi G).1 (zi G).2 hd' hn h

theorem ia  {α:Type}{U:Ty α}{B:List Res}{e:Nat}{A:Option Addr}{k ln:Nat}{xs:List α}{es:List Value}{m:Int}(hS:St W w (Hole U e (.slice A ln k) xs m.toNat es::B)){t e':Nat}{x ix:Operand}{i j:TI}{kd:IntKind}(h0:0≤m){d:Nat}(h:∀ q,ElAt U A m.toNat q→RW P n ops Q rest ((d,.pointer (some q))::F) w) (ht:TTok P T:=by exact ttok) (hg:guardOf ops F o=some true:=by exact rfl) (ho:o.op=.indexAddr t x ix:=by exact rfl) (hi:T.get t=some i:=by exact rfl) (hd:i.d=.slice e':=by exact rfl) (hj:T.get e'=some j:=by exact rfl) (hs:U.size=j.size:=by exact rfl) (hx:F.ev x=some (.slice A ln k):=by exact rfl) (hm:F.ev ix=some (.int kd m):=by exact rfl) (hd':o.dst=some d:=by exact rfl) (hn:Nat.blt d n=true:=by exact rfl):RW P n ops Q (o::rest) F w:=by
  obtain⟨hl,hlt,hA⟩:=hS.hole_len
  exact RW.idxHole ht (U:=U) hA hg ho hi hd hj hs hx hm h0 (by omega) hd' hn h

theorem sh  {α:Type}{U:Ty α}{e:Nat}{A:Option Addr}{k m ln:Nat}{xs:List α}{es es':List Value}{B:List Res}(hS:St W w (Hole U e (.slice A ln k) xs m es::B)){q:Addr}(hq:ElAt U A m q){t:Nat}{x y:Operand}{i:TI}{q':Addr}(off:Nat){v:Value}(h:∀ w',St W w' (Hole U e (.slice A ln k) xs m es'::B)→RW P n ops Q rest F w') (ht:TTok P T:=by exact ttok) (hg:guardOf ops F o=some true:=by exact rfl) (ho:o.op=.store t x y:=by exact rfl) (hd:o.dst=none:=by exact rfl) (hi:T.get t=some i:=by exact rfl) (hx:F.ev x=some (.pointer (some q')):=by exact rfl) (hq':q'=q.add off:=by exact rfl) (hy:F.ev y=some v:=by exact rfl) (hl:Nat.beq (cellsV v).length i.size=true:=by exact rfl) (h1:oneCells (cellsV v)=true:=by exact rfl) (hs:setAt es off (cellsV v)=some es':=by exact rfl):RW P n ops Q (o::rest) F w:=by
  obtain⟨hn,_,_⟩:=hS.hole_len
  subst hn
  exact RW.storeHole ht hS hq hg ho hd hi hx off hq' hy hl h1 hs h

theorem io  {α:Type}{U:Ty α}{B:List Res}{e:Nat}{A:Option Addr}{k ln:Nat}{xs:List α}(hS:St W w (Own (tSl e U) [.slice A ln k] xs::B)){t e':Nat}{x ix:Operand}{i j:TI}{kd:IntKind}{m:Int}(h0:0≤m) (hlt:m.toNat<xs.length){d:Nat}(h:∀ q,(∃ g,A=some ⟨g,0,none⟩∧q=⟨g,m.toNat*U.size,none⟩)→RW P n ops Q rest ((d,.pointer (some q))::F) w) (ht:TTok P T:=by exact ttok) (hg:guardOf ops F o=some true:=by exact rfl) (ho:o.op=.indexAddr t x ix:=by exact rfl) (hi:T.get t=some i:=by exact rfl) (hd:i.d=.slice e':=by exact rfl) (hj:T.get e'=some j:=by exact rfl) (hs:U.size=j.size:=by exact rfl) (hx:F.ev x=some (.slice A ln k):=by exact rfl) (hm:F.ev ix=some (.int kd m):=by exact rfl) (hd':o.dst=some d:=by exact rfl) (hn:Nat.blt d n=true:=by exact rfl):RW P n ops Q (o::rest) F w:=by
  have hl:=hS.lenEq
  subst hl
  exact RW.idxOwn ht hS hg ho hi hd hj hs hx hm h0 hlt hd' hn h

theorem se  {α:Type}{U:Ty α}{B:List Res}{e:Nat}{A:Option Addr}{k ln:Nat}{xs:List α}{y:α}{es':List Value}(hS:St W w (Own (tSl e U) [.slice A ln k] xs::Own U es' y::B)){t:Nat}{x yv:Operand}{j:TI}{q:Addr}{m:Nat}(hlt:m<xs.length) (hq:∃ g,A=some ⟨g,0,none⟩∧q=⟨g,m*U.size,none⟩){v:Value}(h:∀ w',St W w' (Own (tSl e U) [.slice A ln k] (xs.set m y)::B)→RW P n ops Q rest F w') (ht:TTok P T:=by exact ttok) (hg:guardOf ops F o=some true:=by exact rfl) (ho:o.op=.store t x yv:=by exact rfl) (hd:o.dst=none:=by exact rfl) (hj:T.get t=some j:=by exact rfl) (hs:U.size=j.size:=by exact rfl) (hx:F.ev x=some (.pointer (some q)):=by exact rfl) (hy:F.ev yv=some v:=by exact rfl) (hc:cellsV v=es':=by exact rfl):RW P n ops Q (o::rest) F w:=by
  have hl:=hS.lenEq
  subst hl
  refine RW.storeEl ht hS hg ho hd hj hs hx hlt hq hy hc fun w' h'=>h w' ?_
  rwa [List.length_set] at h'
theorem qBuildK  {t:Nat}{ps:List (Nat × Operand)}{vs:List (Nat × Value)}{cs:List Value}(ho:o.op=.build t ⟨ps⟩:=by exact rfl) (hv:partsOf F ps=some vs:=by exact rfl) (hb:P.built t vs=some ⟨cs⟩:=by kernel_rfl):Quiet P n F w o (.agg ⟨cs⟩):=by
  intro a w' ha _
  unfold execOp
  rw [ho]
  have:=run_build (P:=P) w' t ⟨vs⟩ ⟨cs⟩ hb
  have he:(⟨ps⟩:Array (Nat × Operand)).map (fun(p:Nat × Operand)=>(p.1,a.eval p.2))=⟨vs⟩:=by
    simp [zbY ha hv]
  simp [show Array.map (fun x:Nat × Operand=>(x.fst,a.eval x.snd)) ⟨ps⟩=⟨vs⟩ from he,this]

theorem qRem  {t u:Nat}{x y:Operand}{k:IntKind}{a b:Int}(h:b≠0) (ho:o.op=.binOp .rem t x y u:=by exact rfl) (hx:F.ev x=some (.int k a):=by exact rfl) (hy:F.ev y=some (.int k b):=by exact rfl):Quiet P n F w o (.int k (a.tmod b)):=by
  intro c w' hc _
  unfold execOp
  rw [ho]
  have hg:(eqGuard .rem t x y (.int k a) (.int k b)).run P w'=.ok () w':=by unfold eqGuard;simp
  simp [hc.ev hx,hc.ev hy,hg,zmm k a b h t w']

theorem qQuo  {t u:Nat}{x y:Operand}{k:IntKind}{a b:Int}(h:b≠0) (ho:o.op=.binOp .quo t x y u:=by exact rfl) (hx:F.ev x=some (.int k a):=by exact rfl) (hy:F.ev y=some (.int k b):=by exact rfl):Quiet P n F w o (.int k (k.wrap (a.tdiv b))):=by
  intro c w' hc _
  unfold execOp
  rw [ho]
  have hg:(eqGuard .quo t x y (.int k a) (.int k b)).run P w'=.ok () w':=by unfold eqGuard;simp
  simp [hc.ev hx,hc.ev hy,hg,zmn k a b h t w']

theorem dp  {k m:Nat}{v:Value}(hsk:skOf ops=sk∧ops.length=k) (i:Nat){m':Nat}(hi:nthv ops i=some o) (hq:∀ w,Quiet P n F w o v){d:Nat}(h:DM P n ops Q W9 w0 wm fu k m' ((d,v)::F) w) (hm:m ||| 2 ^ i=m':=by exact rfl) (hwi:wm.testBit i=false:=by kernel_rfl) (hf:freeM sk (2 ^ k - 1) m i=true:=by kernel_rfl) (hg:guardOf ops F o=some true:=by exact rfl) (hd:o.dst=some d:=by exact rfl) (hn:Nat.blt d n=true:=by exact rfl):DM P n ops Q W9 w0 wm (fu+1) k m F w:=DM.quietP hsk i _ hm hwi hi hf hg hq hd hn h

theorem mW  {k m:Nat}(hsk:skOf ops=sk∧ops.length=k){i:Nat}{m':Nat}{f:FuncId}{vs:List Value}(hen:Enters P f){R:Value→World→Prop}(hf:Calls P f ⟨vs⟩ w (Ret R)) (h:∀ v w',R v w'→Ext W9 w'∧DM P n ops Q W9 w0 wm fu k m' (F.putO o.dst v) w') (hm:m ||| 2 ^ i=m':=by exact rfl) (hwi:wm.testBit i=true:=by kernel_rfl) (hi:nthv ops i=some o:=by exact rfl) (hg:guardOf ops F o=some true:=by exact rfl) (hc:callOf F o.op=some (f,vs):=by exact rfl) (hn:dstOk n o.dst=true:=by exact rfl):LM P n ops Q W9 w0 wm fu k m i F w:=fun _ hl=>
  LW.callW hwi (by rw [hl.1];exact zc0 hsk.2 hi) hi hg hc hn hen hf fun v w' hR=>⟨(h v w' hR).1,(h v w' hR).2 _ (hl.set (zc0 hsk.2 hi) hm)⟩

theorem mk  {α:Type}{U:Ty α}{Rs:List Res}(z:α) (hS:St W w Rs){kk mm ii:Nat}(hsk:skOf ops=sk∧ops.length=kk){m':Nat}{t e:Nat}{l c:Operand}{i j:TI}{k1 k2:IntKind}{m:Int}(hz9:0≤m∧m≤4294967296){zz9:List Value}(hz:∀ w',U.own w' zz9 z []){d:Nat}(h:∀ A k w',Ext w w'→St W w' (Own (tSl e U) [.slice A (List.replicate m.toNat z).length k] (List.replicate m.toNat z)::Rs)→DM P n ops Q W w0 wm fu kk m' ((d,.slice A (List.replicate m.toNat z).length k)::F) w') (ht:TTok P T:=by exact ttok) (hm':mm ||| 2 ^ ii=m':=by exact rfl) (hwi:wm.testBit ii=false:=by kernel_rfl) (hni:nthv ops ii=some o:=by exact rfl) (hg:guardOf ops F o=some true:=by exact rfl) (ho:o.op=.makeSlice t l c:=by exact rfl) (hi:T.get t=some i:=by exact rfl) (hd:i.d=.slice e:=by exact rfl) (hj:T.get e=some j:=by exact rfl) (hs:U.size=j.size:=by exact rfl) (hl:F.ev l=some (.int k1 m):=by exact rfl) (hc:F.ev c=some (.int k2 m):=by exact rfl) (q:Nat.ble j.bytes 65536=true:=by exact rfl) (hzz9:j.zero=zz9:=by exact rfl) (hd':o.dst=some d:=by exact rfl) (hn:Nat.blt d n=true:=by exact rfl):LM P n ops Q W w0 wm fu kk mm ii F w:=LM.make ht z hS hsk _ hm' hwi hni hg ho hi hd hj hs hl hc hz9.1 (zq4 hz9 q) (by have:=hz9.2;simp only [maxLen];omega) (by intro v;rw [hzz9];exact hz v) hd' hn h

theorem m0  {α:Type}{U:Ty α}{Rs:List Res}{t e:Nat}{i j:TI}(hS:St W w Rs){kk mm ii:Nat}(hsk:skOf ops=sk∧ops.length=kk){m':Nat}{d:Nat}(h:∀ A k w',Ext w w'→St W w' (Own (tSl e U) [.slice A ([]:List α).length k] []::Rs)→DM P n ops Q W w0 wm fu kk m' ((d,.slice A ([]:List α).length k)::F) w') (ht:TTok P T:=by exact ttok) (hm':mm ||| 2 ^ ii=m':=by exact rfl) (hwi:wm.testBit ii=false:=by kernel_rfl) (hni:nthv ops ii=some o:=by exact rfl) (hg:guardOf ops F o=some true:=by exact rfl) (ho:o.op=.buildSlice t 0 #[]:=by exact rfl) (hi:T.get t=some i:=by exact rfl) (hd:i.d=.slice e:=by exact rfl) (hj:T.get e=some j:=by exact rfl) (hd':o.dst=some d:=by exact rfl) (hn:Nat.blt d n=true:=by exact rfl):LM P n ops Q W w0 wm fu kk mm ii F w:=by
  obtain⟨jj,hjj,_⟩:=ht.info hj
  refine LM.okD hsk m' hm' hwi hni hg (v:=.slice (some ⟨w.heap.size,0,none⟩) 0 0) (fun a ha=>?_) hd' hn (Ext.alloc w (.cells #[] e)) (h (some ⟨w.heap.size,0,none⟩) 0 _ (Ext.alloc w (.cells #[] e)) ?_)
  · unfold execOp
    rw [ho]
    simp [zcF w (ht.slice hi hd) hjj]
  · have h1:=(hS.flatEls (U:=U) (els:=[]) (ys:=[]) ⟨rfl,rfl⟩).new [] e
    exact St.boxSl (ys:=([]:List α)) h1 (Nat.zero_le _)

theorem mn  {α:Type}{U:Ty α}{Rs:List Res}{t e m:Nat}{ps:List (Nat × Operand)}{vs:List (Nat × Value)}{els:List Value}{ys:List α}{i j:TI}(hS:St W w (OwnEls U els ys::Rs)){kk mm ii:Nat}(hsk:skOf ops=sk∧ops.length=kk){m':Nat}{d:Nat}(h:∀ A k w',Ext w w'→St W w' (Own (tSl e U) [.slice A ys.length k] ys::Rs)→DM P n ops Q W w0 wm fu kk m' ((d,.slice A ys.length k)::F) w') (ht:TTok P T:=by exact ttok) (hm':mm ||| 2 ^ ii=m':=by exact rfl) (hwi:wm.testBit ii=false:=by kernel_rfl) (hni:nthv ops ii=some o:=by exact rfl) (hg:guardOf ops F o=some true:=by exact rfl) (ho:o.op=.buildSlice t m ⟨ps⟩:=by exact rfl) (hi:T.get t=some i:=by exact rfl) (hd:i.d=.slice e:=by exact rfl) (hj:T.get e=some j:=by exact rfl) (hv:partsOf F ps=some vs:=by exact rfl) (hf:fillV (slots j.size 0 m) (chunks m j.zero) vs=some els:=by exact rfl) (hm:ys.length=m:=by exact rfl) (hpos:Nat.ble 1 (m*j.size)=true:=by exact rfl) (hsm:Nat.ble (m*j.size) 16777216=true:=by exact rfl) (hd':o.dst=some d:=by exact rfl) (hn:Nat.blt d n=true:=by exact rfl):LM P n ops Q W w0 wm fu kk mm ii F w:=by
  obtain⟨jj,hjj,hsz,_,zz,hzz,hzc⟩:=ht.info hj
  have h1:1≤m*j.size:=by simpa using hpos
  have h2:m*j.size≤16777216:=by simpa using hsm
  have hzl:j.zero.length=j.size:=by
    have:=ht.zlen hj
    exact this
  have hcells:(Array.range (m*jj.size)).map (zz.cells[· % zz.cells.size]!)=⟨chunks m j.zero⟩:=by
    have:=zba j.zero m
    rw [hzl] at this
    rw [hsz,show zz.cells=⟨j.zero⟩ from by rw [← hzc]]
    have h5:madeCells ⟨j.zero⟩ (m*j.size)=⟨chunks m j.zero⟩:=by rw [← this]
    exact h5
  have hfill:=zhF (place:=fun i=>some (i*jj.size,jj.size)) (gs:=slots j.size 0 m) (fun a g hg=>by rw [zdZ _ _ _ _ _ hg,hsz];simp) (fun a g hg=>by
    rw [zdZ _ _ _ _ _ hg]
    intro h0
    have:j.size=0:=h0
    rw [this] at h1;omega) vs _ els hf
  have hr:=run_buildSlice (P:=P) w t e m ⟨vs⟩ ⟨els⟩ jj zz (ht.slice hi hd) hjj hzz (by rw [hsz];omega) (by rw [hsz];omega) (by rw [hcells];exact hfill)
  subst hm
  refine LM.okD hsk m' hm' hwi hni hg (v:=.slice (some ⟨w.heap.size,0,none⟩) ys.length ys.length) (fun a ha=>?_) hd' hn (Ext.alloc w (.cells ⟨els⟩ e)) (h (some ⟨w.heap.size,0,none⟩) ys.length _ (Ext.alloc w (.cells ⟨els⟩ e)) ?_)
  · unfold execOp
    rw [ho]
    have he:(⟨ps⟩:Array (Nat × Operand)).map (fun(p:Nat × Operand)=>(p.1,a.eval p.2))=⟨vs⟩:=by
      simp [zbY ha hv]
    simp [show Array.map (fun x:Nat × Operand=>(x.fst,a.eval x.snd)) ⟨ps⟩=⟨vs⟩ from he,hr]
  · have q:1≤j.size:=by
      rcases Nat.eq_zero_or_pos j.size with h0 | h0
      · rw [h0] at h1;omega
      · exact h0
    exact St.boxSl (hS.new els e) (by
      have:ys.length*1≤ys.length*j.size:=Nat.mul_le_mul_left _ q
      unfold maxLen;omega)

theorem mp  {α:Type}{U:Ty α}(hfl:Flat U){B:List Res}{e:Nat}{A:Option Addr}{k:Nat}{xs ys:List α}(hS:St W w (Own (tSl e U) [.slice A xs.length k] xs::B)){kk mm ii:Nat}(hsk:skOf ops=sk∧ops.length=kk){m':Nat}{t:Nat}{s x:Operand}{i j:TI}{A2:Option Addr}{k2:Nat}{e':Nat}(hr:(tSl e' U).ro w [.slice A2 ys.length k2] ys) (q:decide ((xs.length:Int)+ys.length≤4294967296)=true){d:Nat}(h:∀ A' k' w',St W w' (Own (tSl e U) [.slice A' (xs++ys).length k'] (xs++ys)::B)→DM P n ops Q W w0 wm fu kk m' ((d,.slice A' (xs++ys).length k')::F) w') (ht:TTok P T:=by exact ttok) (hm':mm ||| 2 ^ ii=m':=by exact rfl) (hwi:wm.testBit ii=true:=by kernel_rfl) (hni:nthv ops ii=some o:=by exact rfl) (hg:guardOf ops F o=some true:=by exact rfl) (ho:o.op=.call { callee:=.builtin .append,args:=#[s,x],argTypes:=#[t,t] }:=by exact rfl) (hi:T.get t=some i:=by exact rfl) (hd:i.d=.slice e:=by exact rfl) (hj:T.get e=some j:=by exact rfl) (hs:U.size=j.size:=by exact rfl) (hpos:0<U.size:=by decide) (hx:F.ev s=some (.slice A xs.length k):=by exact rfl) (hy:F.ev x=some (.slice A2 ys.length k2):=by exact rfl) (hb:j.bytes≤32768:=by decide) (hd':o.dst=some d:=by exact rfl) (hn:Nat.blt d n=true:=by exact rfl):LM P n ops Q W w0 wm fu kk mm ii F w:=LM.appendRo ht hfl hS hsk _ hm' hwi hni hg ho hi hd hj hs hpos hx hy hr (of_decide_eq_true q) hb hd' hn h

theorem mo  {α:Type}{U:Ty α}{B:List Res}{e e':Nat}{A A2:Option Addr}{k k2:Nat}{xs ys:List α}(hS:St W w (Own (tSl e' U) [.slice A2 ys.length k2] ys::Own (tSl e U) [.slice A xs.length k] xs::B)){kk mm ii:Nat}(hsk:skOf ops=sk∧ops.length=kk){m':Nat}{t:Nat}{s x:Operand}{i j:TI}(q:decide ((xs.length:Int)+ys.length≤4294967296)=true){d:Nat}(h:∀ A' k' w',St W w' (Own (tSl e U) [.slice A' (xs++ys).length k'] (xs++ys)::B)→DM P n ops Q W w0 wm fu kk m' ((d,.slice A' (xs++ys).length k')::F) w') (ht:TTok P T:=by exact ttok) (hm':mm ||| 2 ^ ii=m':=by exact rfl) (hwi:wm.testBit ii=true:=by kernel_rfl) (hni:nthv ops ii=some o:=by exact rfl) (hg:guardOf ops F o=some true:=by exact rfl) (ho:o.op=.call { callee:=.builtin .append,args:=#[s,x],argTypes:=#[t,t] }:=by exact rfl) (hi:T.get t=some i:=by exact rfl) (hd:i.d=.slice e:=by exact rfl) (hj:T.get e=some j:=by exact rfl) (hs:U.size=j.size:=by exact rfl) (hpos:0<U.size:=by decide) (hx:F.ev s=some (.slice A xs.length k):=by exact rfl) (hy:F.ev x=some (.slice A2 ys.length k2):=by exact rfl) (hb:j.bytes≤32768:=by decide) (hd':o.dst=some d:=by exact rfl) (hn:Nat.blt d n=true:=by exact rfl):LM P n ops Q W w0 wm fu kk mm ii F w:=LM.appendOwn ht hS hsk _ hm' hwi hni hg ho hi hd hj hs hpos hx hy (of_decide_eq_true q) hb hd' hn h

theorem ms  {A B:List Res}{g:Nat}{cs cs':List Value}{e:TypeId}(hS:St W w (A++Box g cs e::B)){kk mm ii:Nat}(hsk:skOf ops=sk∧ops.length=kk){m':Nat}{t:Nat}{x y:Operand}{i:TI}{q:Addr}(off:Nat){v:Value}(h:∀ w',St W w' (A++Box g cs' e::B)→DM P n ops Q W w0 wm fu kk m' F w') (ht:TTok P T:=by exact ttok) (hm':mm ||| 2 ^ ii=m':=by exact rfl) (hwi:wm.testBit ii=true:=by kernel_rfl) (hni:nthv ops ii=some o:=by exact rfl) (hg:guardOf ops F o=some true:=by exact rfl) (ho:o.op=.store t x y:=by exact rfl) (hd:o.dst=none:=by exact rfl) (hi:T.get t=some i:=by exact rfl) (hx:F.ev x=some (.pointer (some q)):=by exact rfl) (hq:q=⟨g,off,none⟩:=by exact rfl) (hy:F.ev y=some v:=by exact rfl) (hl:Nat.beq (cellsV v).length i.size=true:=by exact rfl) (h1:oneCells (cellsV v)=true:=by exact rfl) (hs:setAt cs off (cellsV v)=some cs':=by exact rfl):LM P n ops Q W w0 wm fu kk mm ii F w:=by
  obtain⟨G,⟨hG,hh⟩,_,hlo⟩:=hS.sep.pick.head
  obtain⟨w',r1,r2,r3,r4,r5,r6,r7⟩:=z3P (P:=P) g off e (cellsV v) 0 w cs cs' h1 hh (by simpa using hs)
  have hge:W.heap.size≤g:=hlo g (by rw [hG];simp)
  have hS':St W w' (A++Box g cs' e::B):=by
    refine St.back ⟨⟨r5.trans hS.ext.os,r6.trans hS.ext.tape,r7.trans hS.ext.output,by rw [r4];exact hS.le,fun k hk=>?_⟩,?_⟩
    · rw [r3 k (by omega)];exact hS.ext.block k hk
    · refine hS.sep.pick.upd hS.le fun G' hG' _ _=>?_
      obtain⟨e1,_⟩:=hG'
      exact⟨[g],⟨rfl,r2⟩,by simp,fun b hb=>.inl (by rw [e1];exact hb),fun b hb hn=>r3 b (by rintro rfl;exact hn (by rw [e1];simp))⟩
  refine LM.unitW hsk m' hm' hwi hni hg (w':=w') (fun a ha=>?_) hd hS'.ext (h w' hS')
  unfold execOp
  rw [ho]
  have hsz:v.cells.size=i.size:=by
    rw [← Array.length_toList,z7M];exact Nat.eq_of_beq_eq_true hl
  simp [ha.ev hx,ha.ev hy,Instr.storeAt,Instr.sureAddr,storeVar,ht.sizeOf hi,hsz,z7M,hq,r1]

theorem da  {kk mm:Nat}(hsk:skOf ops=sk∧ops.length=kk) (rs:List Nat) (hne:rs≠[]) (h:∀ i,i∈rs→LM P n ops Q W9 w0 wm fu kk mm i F w) (hr:readyM sk kk mm=rs:=by kernel_rfl):DM P n ops Q W9 w0 wm (fu+1) kk mm F w:=DM.loud hsk rs hr hne h
theorem rMakeMap {κ α:Type}[DecidableEq κ] {t:Nat}{Rs:List Res}(ek:κ→Value) (ev:α→Value) (hS:St W w Rs){d:Nat}(h:∀ g w',Ext w w'→St W w' (Own (tMp ek ev) [.map (some g)] ([]:List (κ × α))::Rs)→RW P n ops Q rest ((d,.map (some g))::F) w') (hg:guardOf ops F o=some true:=by exact rfl) (ho:o.op=.makeMap t none:=by exact rfl) (hd:o.dst=some d:=by exact rfl) (hn:Nat.blt d n=true:=by exact rfl):RW P n ops Q (o::rest) F w:=
  RW.ok hg (v:=.map (some w.heap.size)) (fun a ha=>by
    unfold execOp
    rw [ho]
    simp [run_makeMap]) hd hn (h _ _ (Ext.alloc _ _) (hS.newMap ek ev))

theorem lMapEntry {κ α:Type}[DecidableEq κ] {t k e:Nat}{ek:κ→Value}{ev:α→Value}{z:α}(hok:MapOk P t k e ek ev z){B:List Res}{g:Nat}{m:List (κ × α)}(hS:St W w (Own (tMp ek ev) [.map (some g)] m::B)){kq mm ii:Nat}(hsk:skOf ops=sk∧ops.length=kq){m':Nat}{x ix:Operand}{kk:κ}{d:Nat}(h:∀ c w',St W w' (MpO ek ev g (mput m kk ((mget m kk).getD z)) kk c::B)→DM P n ops Q W w0 wm fu kq m' ((d,.tuple ⟨[ev ((mget m kk).getD z),.int .i64 c]⟩)::F) w') (hm':mm ||| 2 ^ ii=m':=by exact rfl) (hwi:wm.testBit ii=true:=by kernel_rfl) (hni:nthv ops ii=some o:=by exact rfl) (hg:guardOf ops F o=some true:=by exact rfl) (ho:o.op=.mapEntry t x ix:=by exact rfl) (hx:F.ev x=some (.map (some g)):=by exact rfl) (hk:F.ev ix=some (ek kk):=by exact rfl) (hd:o.dst=some d:=by exact rfl) (hn:Nat.blt d n=true:=by exact rfl):LM P n ops Q W w0 wm fu kq mm ii F w:=by
  obtain⟨w',c,h1,h2⟩:=hok.run_entry hS kk
  refine LM.okWD hsk m' hm' hwi hni hg (v:=.tuple ⟨[ev ((mget m kk).getD z),.int .i64 c]⟩) (w':=w') (fun a ha=>?_) hd hn h2.ext (h c w' h2)
  unfold execOp
  rw [ho]
  simp [ha.ev hx,ha.ev hk,h1]

theorem lEntryStore {κ α:Type}[DecidableEq κ] {t:Nat}{ek:κ→Value}{ev:α→Value}{B:List Res}{g:Nat}{m:List (κ × α)}{kk:κ}{c:Int}{v0:α}(hS:St W w (MpO ek ev g (mput m kk v0) kk c::B)){kq mm ii:Nat}(hsk:skOf ops=sk∧ops.length=kq){m':Nat}{x st y:Operand}{v:α}(h:∀ w',St W w' (Own (tMp ek ev) [.map (some g)] (mput m kk v)::B)→DM P n ops Q W w0 wm fu kq m' F w') (hm':mm ||| 2 ^ ii=m':=by exact rfl) (hwi:wm.testBit ii=true:=by kernel_rfl) (hni:nthv ops ii=some o:=by exact rfl) (hg:guardOf ops F o=some true:=by exact rfl) (ho:o.op=.entryStore t x st y:=by exact rfl) (hd:o.dst=none:=by exact rfl) (hx:F.ev x=some (.map (some g)):=by exact rfl) (hc:F.ev st=some (.int .i64 c):=by exact rfl) (hv:F.ev y=some (ev v):=by exact rfl):LM P n ops Q W w0 wm fu kq mm ii F w:=by
  obtain⟨w',h1,h2⟩:=zdq (P:=P) hS t v
  rw [zio] at h2
  refine LM.unitW hsk m' hm' hwi hni hg (w':=w') (fun a ha=>?_) hd h2.ext (h w' h2)
  unfold execOp
  rw [ho]
  simp [ha.ev hx,ha.ev hc,ha.ev hv,h1]
theorem mq  {kk mm:Nat}(hsk:skOf ops=sk∧ops.length=kk){v:Value}{ii:Nat}{m':Nat}(hni:nthv ops ii=some o) (hq:Quiet P n F w o v){d:Nat}(h:DM P n ops Q W9 w0 wm fu kk m' ((d,v)::F) w) (hm':mm ||| 2 ^ ii=m':=by exact rfl) (hwi:wm.testBit ii=false:=by kernel_rfl) (hg:guardOf ops F o=some true:=by exact rfl) (hd:o.dst=some d:=by exact rfl) (hn:Nat.blt d n=true:=by exact rfl):LM P n ops Q W9 w0 wm fu kk mm ii F w:=LM.quietL hsk _ hm' hwi hni hg hq hd hn h

theorem mx  {kk mm:Nat}{α:Type}{U:Ty α}{w1:World}(he:Ext w1 w) (hsk:skOf ops=sk∧ops.length=kk){ii:Nat}{m':Nat}{t e:Nat}{x ix:Operand}{i j:TI}{A:Option Addr}{len c:Nat}{xs:List α}{k:IntKind}{m:Int}{e':Nat}(hr:(tSl e' U).ro w1 [.slice A len c] xs){a:α}(G:idx xs m=some a){d:Nat}(h:∀ q es,At w1 q es→U.ro w1 es a→DM P n ops Q W9 w0 wm fu kk m' ((d,.pointer (some q))::F) w) (ht:TTok P T:=by exact ttok) (hm':mm ||| 2 ^ ii=m':=by exact rfl) (hwi:wm.testBit ii=false:=by kernel_rfl) (hni:nthv ops ii=some o:=by exact rfl) (hg:guardOf ops F o=some true:=by exact rfl) (ho:o.op=.indexAddr t x ix:=by exact rfl) (hi:T.get t=some i:=by exact rfl) (hd:i.d=.slice e:=by exact rfl) (hj:T.get e=some j:=by exact rfl) (hs:U.size=j.size:=by exact rfl) (hpos:0<U.size:=by decide) (hx:F.ev x=some (.slice A len c):=by exact rfl) (hm:F.ev ix=some (.int k m):=by exact rfl) (hd':o.dst=some d:=by exact rfl) (hn:Nat.blt d n=true:=by exact rfl):LM P n ops Q W9 w0 wm fu kk mm ii F w:=LM.idxL ht he hsk _ hm' hwi hni hg ho hi hd hj hs hpos hx hm hr (zi G).1 (zi G).2 hd' hn h

theorem df {w1:World}{kk mm:Nat}{α:Type}{U:Ty α}{B:List Res}{e:Nat}{A:Option Addr}{k ln:Nat}{xs:List α}{a:α}(hS:St W w1 (Own (tSl e U) [.slice A ln k] xs::B)) (hsk:skOf ops=sk∧ops.length=kk) (ii:Nat){m':Nat}{t e':Nat}{x ix:Operand}{i j:TI}{kd:IntKind}{m:Int}(G:idx xs m=some a){d:Nat}(h:∀ q es,ElAt U A m.toNat q→St W w1 (Hole U e (.slice A ln k) xs m.toNat es::Own U es a::B)→DM P n ops Q W w0 wm fu kk m' ((d,.pointer (some q))::F) w) (ht:TTok P T:=by exact ttok) (hmm:mm ||| 2 ^ ii=m':=by exact rfl) (hwi:wm.testBit ii=false:=by kernel_rfl) (hni:nthv ops ii=some o:=by exact rfl) (hf:freeM sk (2 ^ kk - 1) mm ii=true:=by kernel_rfl) (hg:guardOf ops F o=some true:=by exact rfl) (ho:o.op=.indexAddr t x ix:=by exact rfl) (hi:T.get t=some i:=by exact rfl) (hd:i.d=.slice e':=by exact rfl) (hj:T.get e'=some j:=by exact rfl) (hs:U.size=j.size:=by exact rfl) (hx:F.ev x=some (.slice A ln k):=by exact rfl) (hm:F.ev ix=some (.int kd m):=by exact rfl) (hd':o.dst=some d:=by exact rfl) (hn:Nat.blt d n=true:=by exact rfl):DM P n ops Q W w0 wm (fu+1) kk mm F w:=DM.focus ht hS hsk ii _ hmm hwi hni hf hg ho hi hd hj hs hx hm (zi G).1 (zi G).2 hd' hn h

theorem dg {w1:World}{kk mm:Nat}{α:Type}{U:Ty α}{B:List Res}{e:Nat}{A:Option Addr}{k ln:Nat}{xs:List α}{es:List Value}{m:Int}(hS:St W w1 (Hole U e (.slice A ln k) xs m.toNat es::B)) (hsk:skOf ops=sk∧ops.length=kk) (ii:Nat){m':Nat}{t e':Nat}{x ix:Operand}{i j:TI}{kd:IntKind}(h0:0≤m){d:Nat}(h:∀ q,ElAt U A m.toNat q→DM P n ops Q W w0 wm fu kk m' ((d,.pointer (some q))::F) w) (ht:TTok P T:=by exact ttok) (hmm:mm ||| 2 ^ ii=m':=by exact rfl) (hwi:wm.testBit ii=false:=by kernel_rfl) (hni:nthv ops ii=some o:=by exact rfl) (hf:freeM sk (2 ^ kk - 1) mm ii=true:=by kernel_rfl) (hg:guardOf ops F o=some true:=by exact rfl) (ho:o.op=.indexAddr t x ix:=by exact rfl) (hi:T.get t=some i:=by exact rfl) (hd:i.d=.slice e':=by exact rfl) (hj:T.get e'=some j:=by exact rfl) (hs:U.size=j.size:=by exact rfl) (hx:F.ev x=some (.slice A ln k):=by exact rfl) (hm:F.ev ix=some (.int kd m):=by exact rfl) (hd':o.dst=some d:=by exact rfl) (hn:Nat.blt d n=true:=by exact rfl):DM P n ops Q W w0 wm (fu+1) kk mm F w:=by
  obtain⟨hl,hlt,hA⟩:=hS.hole_len
  exact DM.idxHole ht (U:=U) hA hsk ii m' hmm hwi hni hf hg ho hi hd hj hs hx hm h0 (by omega) hd' hn h

theorem do9 {w1:World}{kk mm:Nat}{α:Type}{U:Ty α}{B:List Res}{e:Nat}{A:Option Addr}{k ln:Nat}{xs:List α}(hS:St W w1 (Own (tSl e U) [.slice A ln k] xs::B)) (hsk:skOf ops=sk∧ops.length=kk) (ii:Nat){m':Nat}{t e':Nat}{x ix:Operand}{i j:TI}{kd:IntKind}{m:Int}(h0:0≤m) (hlt:m.toNat<xs.length){d:Nat}(h:∀ q,(∃ g,A=some ⟨g,0,none⟩∧q=⟨g,m.toNat*U.size,none⟩)→DM P n ops Q W w0 wm fu kk m' ((d,.pointer (some q))::F) w) (ht:TTok P T:=by exact ttok) (hmm:mm ||| 2 ^ ii=m':=by exact rfl) (hwi:wm.testBit ii=false:=by kernel_rfl) (hni:nthv ops ii=some o:=by exact rfl) (hf:freeM sk (2 ^ kk - 1) mm ii=true:=by kernel_rfl) (hg:guardOf ops F o=some true:=by exact rfl) (ho:o.op=.indexAddr t x ix:=by exact rfl) (hi:T.get t=some i:=by exact rfl) (hd:i.d=.slice e':=by exact rfl) (hj:T.get e'=some j:=by exact rfl) (hs:U.size=j.size:=by exact rfl) (hx:F.ev x=some (.slice A ln k):=by exact rfl) (hm:F.ev ix=some (.int kd m):=by exact rfl) (hd':o.dst=some d:=by exact rfl) (hn:Nat.blt d n=true:=by exact rfl):DM P n ops Q W w0 wm (fu+1) kk mm F w:=by
  have hl:=hS.lenEq
  exact DM.idxHole ht (U:=U) (hS.ownAddr hlt) hsk ii m' hmm hwi hni hf hg ho hi hd hj hs hx hm h0 (by omega) hd' hn h


theorem me {kk mm:Nat}{α:Type}{U:Ty α}{B:List Res}{e:Nat}{A:Option Addr}{k ln:Nat}{xs:List α}{y:α}{es':List Value}(hS:St W w (Own (tSl e U) [.slice A ln k] xs::Own U es' y::B)) (hsk:skOf ops=sk∧ops.length=kk){ii:Nat}{m':Nat}{t:Nat}{x yv:Operand}{j:TI}{q:Addr}{m:Nat}(hlt:m<xs.length) (hq:∃ g,A=some ⟨g,0,none⟩∧q=⟨g,m*U.size,none⟩){v:Value}(h:∀ w',St W w' (Own (tSl e U) [.slice A ln k] (xs.set m y)::B)→DM P n ops Q W w0 wm fu kk m' F w') (ht:TTok P T:=by exact ttok) (hm':mm ||| 2 ^ ii=m':=by exact rfl) (hwi:wm.testBit ii=true:=by kernel_rfl) (hni:nthv ops ii=some o:=by exact rfl) (hg:guardOf ops F o=some true:=by exact rfl) (ho:o.op=.store t x yv:=by exact rfl) (hd:o.dst=none:=by exact rfl) (hj:T.get t=some j:=by exact rfl) (hs:U.size=j.size:=by exact rfl) (hx:F.ev x=some (.pointer (some q)):=by exact rfl) (hy:F.ev yv=some v:=by exact rfl) (hc:cellsV v=es':=by exact rfl):LM P n ops Q W w0 wm fu kk mm ii F w:=by
  have hl:=hS.lenEq
  subst hl
  obtain⟨w',h1,h2⟩:=zfN (P:=P) ht hS hlt hq hj hs
  have h3:St W w' (Own (tSl e U) [.slice A xs.length k] (xs.set m y)::B):=by simpa using h2
  refine LM.unitW hsk m' hm' hwi hni hg (w':=w') (fun a ha=>?_) hd h3.ext (h w' h3)
  unfold execOp
  rw [ho]
  simp [ha.ev hx,ha.ev hy,Instr.storeAt,Instr.sureAddr,h1 v hc]

theorem mh {kk mm:Nat}{α:Type}{U:Ty α}{e:Nat}{A:Option Addr}{k m ln:Nat}{xs:List α}{es es':List Value}{B:List Res}(hS:St W w (Hole U e (.slice A ln k) xs m es::B)){q:Addr}(hq:ElAt U A m q) (hsk:skOf ops=sk∧ops.length=kk){ii:Nat}{m':Nat}{t:Nat}{x y:Operand}{i:TI}{q':Addr}(off:Nat){v:Value}(h:∀ w',St W w' (Hole U e (.slice A ln k) xs m es'::B)→DM P n ops Q W w0 wm fu kk m' F w') (ht:TTok P T:=by exact ttok) (hm':mm ||| 2 ^ ii=m':=by exact rfl) (hwi:wm.testBit ii=true:=by kernel_rfl) (hni:nthv ops ii=some o:=by exact rfl) (hg:guardOf ops F o=some true:=by exact rfl) (ho:o.op=.store t x y:=by exact rfl) (hd:o.dst=none:=by exact rfl) (hi:T.get t=some i:=by exact rfl) (hx:F.ev x=some (.pointer (some q')):=by exact rfl) (hq':q'=q.add off:=by exact rfl) (hy:F.ev y=some v:=by exact rfl) (hl:Nat.beq (cellsV v).length i.size=true:=by exact rfl) (h1:oneCells (cellsV v)=true:=by exact rfl) (hs:setAt es off (cellsV v)=some es':=by exact rfl):LM P n ops Q W w0 wm fu kk mm ii F w:=by
  obtain⟨hn,_,_⟩:=hS.hole_len
  subst hn
  obtain⟨w',r1,r2⟩:=zhu (P:=P) ht hS hq hi off hq' hl h1 hs
  refine LM.unitW hsk m' hm' hwi hni hg (w':=w') (fun a ha=>?_) hd r2.ext (h w' r2)
  unfold execOp
  rw [ho]
  simp [ha.ev hx,ha.ev hy,Instr.storeAt,Instr.sureAddr,r1]


theorem kn  (i:Nat){v u:Value}(hg:F.get i=some v) (e:v=u) (h:RW P n ops Q rest ((i,u)::F) w) :RW P n ops Q rest F w:=RW.know i hg e h

theorem ra  {a:Tmp}{t:Nat}{q:Addr}{i:TI}{cs:List Value}(hat:At w q cs) (ht:TTok P T:=by exact ttok) (h:F.get a=some (.pointer (some q)):=by exact rfl) (hi:T.get t=some i:=by exact rfl) (hag:i.agg=true:=by exact rfl) (hl:Nat.beq cs.length i.size=true:=by exact rfl):ResIs P F w (.cell a t) (.agg ⟨cs⟩):=.cell h (by
  have hr:=run_loadCells_list (P:=P) w q cs fun j u hu=>hat j u hu
  rw [Nat.eq_of_beq_eq_true hl] at hr
  simp [loadVar,ht.isAgg hi,ht.sizeOf hi,hag,hr])

theorem r1  {a:Tmp}{t:Nat}{q:Addr}(h:F.get a=some (.pointer (some q))){i:TI}{c:Value}(hat:At w q [c]) (ht:TTok P T:=by exact ttok) (hi:T.get t=some i:=by exact rfl) (hag:i.agg=false:=by exact rfl):ResIs P F w (.cell a t) c:=.cell h (by
  have hc:w.cell? q=some c:=by have:=hat 0 c rfl;simpa [Addr.add] using this
  simp [loadVar,ht.isAgg hi,hag,run_load,hc])

end Go.E


