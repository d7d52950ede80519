/- Both sides follow the chains of statements. Conditions: each port stands in one half statement, each variable in two. -/
import Derived.Test.YtfndicpnccabkaaGreatPathP
import Derived.Test.YtfndicpnccabkaaGreatFQ
import Derived.Test.YtfndicpnccabkaaGreatFP
namespace Go.E
open Go.RowKit Go.Proofs
set_option linter.unusedSimpArgs false
set_option linter.unusedVariables false

section
variable {S:List Key}

theorem zhk (hC:Chain S){h:Nat}(hl:h<S.length) (hk:(keyAt S (par h)).1=2) (hne:oth S (par h)≠h):
    ∃ a b:Nat,halfs S (keyAt S (par h))=[((a / 2:Nat):Int),((b / 2:Nat):Int)]∧(if a / 2=h / 2 then b / 2 else a / 2)=oth S (par h) / 2:=by
  have hpl:=zbj hC.even hl
  obtain⟨a,b,e,hab,hor⟩:=hC.pair hpl hk
  have ho:oth S (par h)=if par h=a then b else a:=by unfold oth;rw [e]
  refine⟨a,b,by unfold halfs;rw [e];rfl,?_⟩
  rcases hor with h1 | h1
  · rw [ho,if_pos h1,if_pos (by rw [← h1];exact zhw)]
  · have h2:par h≠a:=fun e=>hab (e.symm.trans h1)
    rw [if_neg h2] at ho
    rw [ho,if_neg]
    intro e2
    have e3:a / 2=b / 2:=by rw [e2,← h1];exact zhw.symm
    have:=zn8 e3 hab
    rw [← h1,z9k] at this
    rw [ho] at hne
    exact hne this
theorem zh6 {fuel0:Nat}{L:D.l27Links}{ks0:List Key}(hn:ks0.Nodup) (hE:EndsX ks0 L.ends S) (hP:PairsX ks0 L.pairs S) (hC:Chain S) (hport:∀ (y:Nat) key,ks0[y]? = some key→(y<L.ports.length↔key.1≠2)){n h g:Nat}(hp:Path S n h g):
    ∀ {fuel x:Nat},n<fuel→h<S.length→ks0[x]? = some (keyAt S h)→∃ y:Nat,iter (z1d fuel0 L) fuel ((x:Int),((h / 2:Nat):Int))=some (.inr (y:Int))∧ks0[y]? = some (keyAt S g):=by

  have other:∀ {h x:Nat},h<S.length→ks0[x]? = some (keyAt S h)→∃ x2:Nat,ks0[x2]? = some (keyAt S (par h))∧∀ r:Int × Int,r=((x:Int),((h / 2:Nat):Int))→z1d fuel0 L r=zZ fuel0 L r (x2:Int):=by
    intro h x hl hx
    obtain⟨q1,q2⟩:=hP
    obtain⟨x',y',a,b,e1,e2,e3,e4,e5⟩:=q2 (h / 2) (by omega)
    have key:∀ r:Int × Int,r=((x:Int),((h / 2:Nat):Int))→z1d fuel0 L r=if x'=x then zZ fuel0 L r (y':Int) else zZ fuel0 L r (x':Int):=by
      rintro r rfl
      unfold z1d
      dsimp only
      rw [z8 e1,Option.bind_some,show idx [(x':Int),(y':Int)] 0=some (x':Int) from rfl,Option.bind_some,show idx [(x':Int),(y':Int)] 1=some (y':Int) from rfl,Option.bind_some,Option.bind_some]
      by_cases hxx:x'=x
      · rw [if_pos (by simp [hxx]),if_pos hxx]
      · rw [if_neg (by simp;omega),if_neg hxx]
    by_cases hev:h % 2=0
    · have hh:2*(h / 2)=h:=by omega
      have hpar:par h=2*(h / 2)+1:=by unfold par;rw [if_pos hev];omega
      rw [hh] at e4
      rw [z9a e4] at hx
      have:x'=x:=zcB hn e2 hx
      refine⟨y',by rw [hpar,z9a e5];exact e3,fun r hr=>?_⟩
      rw [key r hr,if_pos this]
    · have hh:2*(h / 2)+1=h:=by omega
      have hpar:par h=2*(h / 2):=by unfold par;rw [if_neg hev];omega
      rw [hh] at e5
      rw [z9a e5] at hx
      have hy:y'=x:=zcB hn e3 hx
      by_cases hxx:x'=x
      · refine⟨y',by rw [hpar,z9a e4,hy,← hxx];exact e2,fun r hr=>?_⟩
        rw [key r hr,if_pos hxx]
      · refine⟨x',by rw [hpar,z9a e4];exact e2,fun r hr=>?_⟩
        rw [key r hr,if_neg hxx]
  induction hp with
  | @stop h hs=>
    intro fuel x hf hl hx
    obtain⟨fuel,rfl⟩:∃ f,fuel=f+1:=⟨fuel - 1,by omega⟩
    obtain⟨x2,h1,h2⟩:=other hl hx
    have e:z1d fuel0 L ((x:Int),((h / 2:Nat):Int))=some (.ret (x2:Int)):=by
      rw [h2 _ rfl]
      unfold zZ
      rw [if_pos (by have:=(hport _ _ h1).2 hs;simpa using this)]
    exact⟨x2,by simp only [iter,e],h1⟩
  | @more n h g hm hne hp ih=>
    intro fuel x hf hl hx
    obtain⟨fuel,rfl⟩:∃ f,fuel=f+1:=⟨fuel - 1,by omega⟩
    obtain⟨x2,h1,h2⟩:=other hl hx
    obtain⟨o1,o2,o3,o4⟩:=z9u hC (zbj hC.even hl) hm
    obtain⟨a,b,v1,v2⟩:=zhk hC hl hm hne
    have hend:=hE _ _ h1
    rw [v1] at hend
    have e:z1d fuel0 L ((x:Int),((h / 2:Nat):Int))=some (.next ((x2:Int),((oth S (par h) / 2:Nat):Int))):=by
      rw [h2 _ rfl]
      unfold zZ
      dsimp only
      rw [if_neg (by have:=(hport _ _ h1);simp only [decide_eq_true_eq];intro hc;exact(this.1 (by omega)) hm),z8 hend,Option.bind_some,show idx [((a / 2:Nat):Int),((b / 2:Nat):Int)] 0=some ((a / 2:Nat):Int) from rfl,Option.bind_some,show idx [((a / 2:Nat):Int),((b / 2:Nat):Int)] 1=some ((b / 2:Nat):Int) from rfl,Option.bind_some,Option.bind_some]
      unfold z3A
      by_cases hab:a / 2=h / 2
      · rw [if_pos (by rw [hab];simp)]
        rw [if_pos hab] at v2
        rw [v2]
      · rw [if_neg (by simp only [beq_iff_eq];omega)]
        rw [if_neg hab] at v2
        rw [v2]
    obtain⟨y,y1,y2⟩:=ih (fuel:=fuel) (x:=x2) (by omega) o1 (by rw [o3];exact h1)
    exact⟨y,by simp only [iter,e];exact y1,y2⟩
theorem zh5 {fuel:Nat}{L:D.l27Links}{ks0:List Key}(hf:18446744073709551616≤fuel) (hn:ks0.Nodup) (hE:EndsX ks0 L.ends S) (hP:PairsX ks0 L.pairs S) (hC:Chain S) (hport:∀ (y:Nat) key,ks0[y]? = some key→(y<L.ports.length↔key.1≠2)) (hl:S.length≤1000000)
    {x:Nat}{k:Key}(hx:ks0[x]? = some k) (hk:k∈S) (ht:k.1≠2):∃ y:Nat,z5B fuel L (x:Int)=some (y:Int)∧ks0[y]? = some (endK S k):=by
  obtain⟨h,n,g,h1,h2,h3,h4,h5,h6⟩:=zbx hC hk ht
  have he:=hE _ _ hx
  unfold halfs at he
  rw [h1] at he
  obtain⟨y,y1,y2⟩:=zh6 (fuel0:=fuel) hn hE hP hC hport h5 (fuel:=fuel) (x:=x) (by omega) h2 (by rw [h3];exact hx)
  refine⟨y,?_,by rw [h6];exact y2⟩
  unfold z5B
  rw [z8 he,Option.bind_some,show idx (List.map (fun h=>((h / 2:Nat):Int)) [h]) 0=some ((h / 2:Nat):Int) from rfl,Option.bind_some,y1,Option.bind_some]
  rfl
end


def flatT (T:List D.statement):List D.thing:=T.flatMap fun st=>[st.a,st.b]
theorem ziR {T:List D.statement}{st:D.statement}:flatT (T++[st])=(flatT T++[st.a])++[st.b]:=by
  unfold flatT
  rw [List.flatMap_append]
  simp
theorem zdD {T:List D.statement}:(flatT T).length=2*T.length:=by
  unfold flatT
  induction T with
  | nil=>rfl
  | cons st T ih=>rw [List.flatMap_cons,List.length_append,ih];simp;omega
theorem znv {T:List D.statement}{i:Nat}{st:D.statement}(h:T[i]? = some st):(flatT T)[2*i]? = some st.a∧(flatT T)[2*i+1]? = some st.b:=by
  induction T generalizing i with
  | nil=>simp at h
  | cons s T ih=>
    have e:flatT (s::T)=s.a::s.b::flatT T:=rfl
    rw [e]
    cases i with
    | zero=>simp only [List.getElem?_cons_zero,Option.some.injEq] at h;subst h;exact⟨rfl,rfl⟩
    | succ i=>
      simp only [List.getElem?_cons_succ] at h
      rw [show 2*(i+1)=2*i+1+1 by omega]
      simp only [List.getElem?_cons_succ]
      exact ih h
def EndsT (M:List (D.thing × List Int)) (F:List D.thing):Prop:=∀ t,(mget M t).getD []=halfs F t
theorem ziP {F:List D.thing}{a t:D.thing}:halfs (F++[a]) t=if a=t then halfs F t++[((F.length / 2:Nat):Int)] else halfs F t:=by
  unfold halfs
  rw [zeN]
  split
  · rw [List.map_append];rfl
  · rfl
theorem zgr {M:List (D.thing × List Int)}{F:List D.thing}{a:D.thing}{n:Int}(h:EndsT M F) (hn:n=((F.length / 2:Nat):Int)):EndsT (mput M a (((mget M a).getD [])++[n])) (F++[a]):=by
  intro t
  rw [z9v,ziP]
  by_cases e:a=t
  · subst e
    rw [if_pos rfl,if_pos rfl,h a,hn];rfl
  · rw [if_neg e,if_neg e,h t]
theorem zhC {F:List D.thing}{t:D.thing}:(halfs F t).length≤F.length:=by
  unfold halfs
  rw [List.length_map]
  unfold occ
  have:=List.length_filter_le (fun h=>decide (F[h]? = some t)) (List.range F.length)
  simpa using this
theorem zfg {fuel:Nat}{T:List D.statement}(hf:18446744073709551616≤fuel) (hl:T.length≤1000000):∃ M,z3Q fuel T=some ⟨T,M⟩∧EndsT M (flatT T):=by
  unfold z3Q
  obtain⟨o,e1,M,rfl,hM⟩:=zc (body:=z2f fuel T) (fun i st=>∃ M,st=((i:Int),M)∧EndsT M (flatT (T.take i))) T.length (fun o=>∃ M,o=.inl M∧EndsT M (flatT T)) (by
    rintro i _ hi ⟨M,rfl,hM⟩
    obtain⟨st,hst⟩:=z1r hi
    have hfl:(flatT (T.take i)).length=2*i:=by rw [zdD,List.length_take];omega
    have h1:=zgr (a:=st.a) (n:=(i:Int)) hM (by rw [hfl];omega)
    have h2:=zgr (a:=st.b) (n:=(i:Int)) h1 (by rw [List.length_append,hfl];simp only [List.length_singleton];omega)
    refine .inl ⟨(w64 ((i:Int)+1),mput (mput M st.a (((mget M st.a).getD [])++[(i:Int)])) st.b (((mget (mput M st.a (((mget M st.a).getD [])++[(i:Int)])) st.b).getD [])++[(i:Int)])),?_,_,by rw [z7 (by omega) (by omega)];rfl,by rw [List.take_add_one,hst];show EndsT _ (flatT (T.take i++[st]));rw [ziR];exact h2⟩
    have b1:=zhC (F:=flatT (T.take i)) (t:=st.a)
    have b2:=zhC (F:=flatT (T.take i)++[st.a]) (t:=st.b)
    rw [List.length_append,hfl,List.length_singleton] at b2
    rw [hfl] at b1
    rw [← hM st.a] at b1
    rw [← h1 st.b] at b2
    unfold z2f
    dsimp only
    rw [if_pos (by simpa using hi),z8 hst,Option.bind_some,if_pos (by simp only [List.length_singleton,decide_eq_true_eq];omega),if_pos (by simp only [List.length_singleton,decide_eq_true_eq];omega)]) (by
    rintro _ ⟨M,rfl,hM⟩
    rw [List.take_length] at hM
    refine .inr ⟨M,?_,M,rfl,hM⟩
    unfold z2f
    rw [if_neg (by simp)]) (fuel:=fuel) (i:=0) (s:=(0,[])) (Nat.zero_le _) (by omega) ⟨[],rfl,fun t=>rfl⟩
  rw [e1,Option.bind_some,z6]
  exact⟨M,rfl,hM⟩

structure Things (S:List Key) (T:List D.statement) (th:Key→D.thing):Prop where
  flat:flatT T=S.map th
  inj:∀ k∈S,∀ k'∈S,th k=th k'→k=k'
  kind:∀ k∈S,((th k).at_.Kind=2↔k.1=2)
section
variable {S:List Key}
abbrev stT (e:Int) (t:D.thing):Int × Int × Int × Int × Int × Bool:=(e,t.at_.Machine,t.at_.Kind,t.at_.Index,t.slot,t.own)
theorem zmV {a b:D.thing}:((((a.at_.Machine:Int) == b.at_.Machine) && (((a.at_.Kind:Int) == b.at_.Kind) && (((a.at_.Index:Int) == b.at_.Index) && true))) && (((a.slot:Int) == b.slot) && ((a.own == b.own) && true)))=decide (a=b):=by
  obtain⟨⟨a1,a2,a3⟩,a4,a5⟩:=a
  obtain⟨⟨b1,b2,b3⟩,b4,b5⟩:=b
  by_cases h1:a1=b1<;>by_cases h2:a2=b2<;>by_cases h3:a3=b3<;>by_cases h4:a4=b4<;>by_cases h5:a5=b5<;>simp [h1,h2,h3,h4,h5]
theorem zhh {fuel0:Nat}{T:List D.statement}{M:List (D.thing × List Int)}{th:Key→D.thing}(hM:EndsT M (flatT T)) (hT:Things S T th) (hC:Chain S){n h g:Nat}(hp:Path S n h g):
    ∀ {fuel:Nat},n<fuel→h<S.length→iter (zA fuel0 ⟨T,M⟩) fuel (stT ((h / 2:Nat):Int) (th (keyAt S h)))=some (.inr (th (keyAt S g))):=by
  have hlen:S.length=2*T.length:=by rw [← zdD (T:=T),hT.flat,List.length_map]
  have other:∀ {h:Nat},h<S.length→zA fuel0 ⟨T,M⟩ (stT ((h / 2:Nat):Int) (th (keyAt S h)))=zy fuel0 ⟨T,M⟩ (stT ((h / 2:Nat):Int) (th (keyAt S h))) ((th (keyAt S (par h))).at_.Machine,(th (keyAt S (par h))).at_.Kind,(th (keyAt S (par h))).at_.Index,(th (keyAt S (par h))).slot,(th (keyAt S (par h))).own):=by
    intro h hl
    obtain⟨st,hst⟩:=z1r (xs:=T) (i:=h / 2) (by omega)
    obtain⟨f1,f2⟩:=znv hst
    rw [hT.flat,List.getElem?_map] at f1 f2
    have g1:=z9y (S:=S) (h:=2*(h / 2)) (by omega)
    have g2:=z9y (S:=S) (h:=2*(h / 2)+1) (by omega)
    rw [g1] at f1
    rw [g2] at f2
    simp only [Option.map_some,Option.some.injEq] at f1 f2
    unfold zA
    dsimp only
    rw [z8 hst,Option.bind_some,zmV,Option.bind_some]
    by_cases hev:h % 2=0
    · have hh:2*(h / 2)=h:=by omega
      have hpar:par h=2*(h / 2)+1:=by unfold par;rw [if_pos hev];omega
      rw [hh] at f1
      rw [if_pos (by rw [f1];simp),hpar,f2]
    · have hh:2*(h / 2)+1=h:=by omega
      have hpar:par h=2*(h / 2):=by unfold par;rw [if_neg hev];omega
      rw [hh] at f2
      by_cases hs:st.a=th (keyAt S h)
      · rw [if_pos (by simpa using hs),hpar,f1,hs,f2]
      · rw [if_neg (by simpa using hs),hpar,f1]
  have hmem:∀ {h:Nat},h<S.length→keyAt S h∈S:=fun hl=>List.mem_of_getElem? (z9y hl)
  induction hp with
  | @stop h hs=>
    intro fuel hf hl
    obtain⟨fuel,rfl⟩:∃ f,fuel=f+1:=⟨fuel - 1,by omega⟩
    have hpl:=zbj hC.even hl
    have e:zA fuel0 ⟨T,M⟩ (stT ((h / 2:Nat):Int) (th (keyAt S h)))=some (.ret (th (keyAt S (par h)))):=by
      rw [other hl]
      unfold zy
      dsimp only
      have hk:=hT.kind _ (hmem hpl)
      rw [if_pos (by simp only [bne_iff_ne,ne_eq];exact fun h=>hs (hk.1 h))]
    simp only [iter,e]
  | @more n h g hm hne hp ih=>
    intro fuel hf hl
    obtain⟨fuel,rfl⟩:∃ f,fuel=f+1:=⟨fuel - 1,by omega⟩
    have hpl:=zbj hC.even hl
    obtain⟨o1,o2,o3,o4⟩:=z9u hC hpl hm
    obtain⟨a,b,v1,v2⟩:=zhk hC hl hm hne
    have hh:(mget M (th (keyAt S (par h)))).getD []=[((a / 2:Nat):Int),((b / 2:Nat):Int)]:=by
      rw [hM,hT.flat,← v1]
      unfold halfs
      rw [zjD (f:=th) (fun x hx e=>hT.inj x hx _ (hmem hpl) e)]
    have e:zA fuel0 ⟨T,M⟩ (stT ((h / 2:Nat):Int) (th (keyAt S h)))=some (.next (stT ((oth S (par h) / 2:Nat):Int) (th (keyAt S (oth S (par h)))))):=by
      rw [other hl]
      unfold zy
      dsimp only
      have hk:=hT.kind _ (hmem hpl)
      rw [if_neg (by simp only [bne_iff_ne,ne_eq,Decidable.not_not];exact hk.2 hm)]
      have eta:(⟨⟨(th (keyAt S (par h))).at_.Machine,(th (keyAt S (par h))).at_.Kind,(th (keyAt S (par h))).at_.Index⟩,(th (keyAt S (par h))).slot,(th (keyAt S (par h))).own⟩:D.thing)=th (keyAt S (par h)):=rfl
      rw [eta,hh,show idx [((a / 2:Nat):Int),((b / 2:Nat):Int)] 0=some ((a / 2:Nat):Int) from rfl,Option.bind_some,show idx [((a / 2:Nat):Int),((b / 2:Nat):Int)] 1=some ((b / 2:Nat):Int) from rfl,Option.bind_some]
      unfold z1k
      dsimp only
      rw [o3]
      by_cases hab:a / 2=h / 2
      · rw [if_pos (by rw [hab];simp)]
        rw [if_pos hab] at v2
        rw [v2]
      · rw [if_neg (by simp only [beq_iff_eq];omega)]
        rw [if_neg hab] at v2
        rw [v2]
    simp only [iter,e]
    exact ih (by omega) o1
theorem zhi {fuel:Nat}{T:List D.statement}{M:List (D.thing × List Int)}{th:Key→D.thing}(hf:18446744073709551616≤fuel) (hM:EndsT M (flatT T)) (hT:Things S T th) (hC:Chain S) (hl:S.length≤1000000){k:Key}(hk:k∈S) (ht:k.1≠2):
    z1Z fuel ⟨T,M⟩ (th k)=some (th (endK S k)):=by
  obtain⟨h,n,g,h1,h2,h3,h4,h5,h6⟩:=zbx hC hk ht
  have hh:(mget M (th k)).getD []=[((h / 2:Nat):Int)]:=by
    rw [hM,hT.flat]
    unfold halfs
    rw [zjD (f:=th) (fun x hx e=>hT.inj x hx _ hk e),h1];rfl
  have hlp:=zhh (fuel0:=fuel) hM hT hC h5 (fuel:=fuel) (by omega) h2
  rw [h3] at hlp
  unfold z1Z
  dsimp only
  rw [hh,show idx [((h / 2:Nat):Int)] 0=some ((h / 2:Nat):Int) from rfl,Option.bind_some,hlp,Option.bind_some,h6]
  rfl
end
end Go.E


