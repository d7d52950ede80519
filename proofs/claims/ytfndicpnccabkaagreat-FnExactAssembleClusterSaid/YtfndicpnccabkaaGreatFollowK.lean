/- Both sides follow the chains of statements. Conditions: each port stands in one half Qc, each variable in two. -/
import Derived.Test.YtfndicpnccabkaaGreatPathP
import Derived.Test.YtfndicpnccabkaaGreatFQ
import Derived.Test.YtfndicpnccabkaaGreatFP
set_option linter.unusedVariables false
set_option linter.unusedSimpArgs false
namespace Go.E
open Go.RowKit Go.Proofs

section
variable {S:List Key}

theorem zpD (hC:Chain S){h:Nat}(hl:h<S.length)(hk:(z2S S (par h)).1=2)(q:oth S (par h)≠h):
  ∃ a b:Nat,halfs S (z2S S (par h))=[((a / 2:Nat):Int),((b / 2:Nat):Int)]∧(if a / 2=h / 2 then b / 2 else a / 2)=oth S (par h) / 2:=by
 have H:=zg3 hC.even hl
 obtain⟨a,b,e,o,G⟩:=hC.pair H hk
 have ho:oth S (par h)=if par h=a then b else a:=by unfold oth;rw[e]
 refine⟨a,b,by unfold halfs;rw[e];rfl,?_⟩
 rcases G with h1 | h1
 ·rw[ho,if_pos h1,if_pos (by rw[← h1];exact zpS)]
 ·have h2:par h≠a:=fun e=>o (e.symm.trans h1)
  rw[if_neg h2] at ho
  rw[ho,if_neg]
  intro e2
  have e3:a / 2=b / 2:=by rw[e2,← h1];exact zpS.symm
  have:=zvx e3 o
  rw[← h1,zcX] at this
  rw[ho] at q
  exact q this
theorem zpk {fuel0:Nat}{L:Qg}{ks0:List Key}(hn:ks0.Nodup)(hE:zv3 ks0 L.ends S)(hP:zjK ks0 L.Qt S)(hC:Chain S)(q:∀ (y:Nat) key,ks0[y]? = some key→(y<L.Qu.length↔key.1≠2)){n h g:Nat}(hp:Path S n h g):
  ∀ {fu x:Nat},n<fu→h<S.length→ks0[x]? = some (z2S S h)→∃ y:Nat,iter (z1F fuel0 L) fu ((x:Int),((h / 2:Nat):Int))=some (.inr (y:Int))∧ks0[y]? = some (z2S S g):=by

 have G:∀ {h x:Nat},h<S.length→ks0[x]? = some (z2S S h)→∃ x2:Nat,ks0[x2]? = some (z2S S (par h))∧∀ r:Int×Int,r=((x:Int),((h / 2:Nat):Int))→z1F fuel0 L r=z1p fuel0 L r (x2:Int):=by
  intro h x hl hx
  obtain⟨q1,q2⟩:=hP
  obtain⟨x',y',a,b,e1,e2,e3,e4,e5⟩:=q2 (h / 2) (by omega)
  have key:∀ r:Int×Int,r=((x:Int),((h / 2:Nat):Int))→z1F fuel0 L r=if x'=x then z1p fuel0 L r (y':Int) else z1p fuel0 L r (x':Int):=by
   rintro r rfl
   unfold z1F
   dsimp only
   rw[za e1,bsm,show idx [(x':Int),(y':Int)] 0=some (x':Int) from rfl,bsm,show idx [(x':Int),(y':Int)] 1=some (y':Int) from rfl,bsm,bsm]
   by_cases hxx:x'=x
   ·rw[if_pos (by simp[hxx]),if_pos hxx]
   ·rw[if_neg (by simp;omega),if_neg hxx]
  by_cases hev:h % 2=0
  ·have hh:2*(h / 2)=h:=by omega
   have o:par h=2*(h / 2)+1:=by unfold par;rw[if_pos hev];omega
   rw[hh] at e4
   rw[zcO e4] at hx
   have:x'=x:=zg7 hn e2 hx
   refine⟨y',by rw[o,zcO e5];exact e3,fun r hr=>?_⟩
   rw[key r hr,if_pos this]
  ·have hh:2*(h / 2)+1=h:=by omega
   have o:par h=2*(h / 2):=by unfold par;rw[if_neg hev];omega
   rw[hh] at e5
   rw[zcO e5] at hx
   have hy:y'=x:=zg7 hn e3 hx
   by_cases hxx:x'=x
   ·refine⟨y',by rw[o,zcO e4,hy,← hxx];exact e2,fun r hr=>?_⟩
    rw[key r hr,if_pos hxx]
   ·refine⟨x',by rw[o,zcO e4];exact e2,fun r hr=>?_⟩
    rw[key r hr,if_neg hxx]
 induction hp with
 | @stop h hs=>
  intro fu x hf hl hx
  obtain⟨fu,rfl⟩:∃ f,fu=f+1:=⟨fu - 1,by omega⟩
  obtain⟨x2,h1,h2⟩:=G hl hx
  have e:z1F fuel0 L ((x:Int),((h / 2:Nat):Int))=some (.ret (x2:Int)):=by
   rw[h2 _ rfl]
   unfold z1p
   rw[if_pos (by have:=(q _ _ h1).2 hs;simpa using this)]
  exact⟨x2,by simp only[iter,e],h1⟩
 | @more n h g hm hne hp ih=>
  intro fu x hf hl hx
  obtain⟨fu,rfl⟩:∃ f,fu=f+1:=⟨fu - 1,by omega⟩
  obtain⟨x2,h1,h2⟩:=G hl hx
  obtain⟨o1,o2,o3,o4⟩:=zdf hC (zg3 hC.even hl) hm
  obtain⟨a,b,v1,v2⟩:=zpD hC hl hm hne
  have H:=hE _ _ h1
  rw[v1] at H
  have e:z1F fuel0 L ((x:Int),((h / 2:Nat):Int))=some (.next ((x2:Int),((oth S (par h) / 2:Nat):Int))):=by
   rw[h2 _ rfl]
   unfold z1p
   dsimp only
   rw[if_neg (by have:=(q _ _ h1);simp only[decide_eq_true_eq];intro hc;exact(this.1 (by omega)) hm),za H,bsm,show idx [((a / 2:Nat):Int),((b / 2:Nat):Int)] 0=some ((a / 2:Nat):Int) from rfl,bsm,show idx [((a / 2:Nat):Int),((b / 2:Nat):Int)] 1=some ((b / 2:Nat):Int) from rfl,bsm,bsm]
   unfold z4Q
   by_cases hab:a / 2=h / 2
   ·rw[if_pos (by rw[hab];simp)]
    rw[if_pos hab] at v2
    rw[v2]
   ·rw[if_neg (by simp only[beq_iff_eq];omega)]
    rw[if_neg hab] at v2
    rw[v2]
  obtain⟨y,y1,y2⟩:=ih (fu:=fu) (x:=x2) (by omega) o1 (by rw[o3];exact h1)
  exact⟨y,by simp only[iter,e];exact y1,y2⟩
theorem zpj {fu:Nat}{L:Qg}{ks0:List Key}(hf:Big fu)(hn:ks0.Nodup)(hE:zv3 ks0 L.ends S)(hP:zjK ks0 L.Qt S)(hC:Chain S)(o:∀ (y:Nat) key,ks0[y]? = some key→(y<L.Qu.length↔key.1≠2))(hl:S.length≤1000000)
  {x:Nat}{k:Key}(hx:ks0[x]? = some k)(hk:k∈S)(ht:k.1≠2):∃ y:Nat,z7H fu L (x:Int)=some (y:Int)∧ks0[y]? = some (zk7 S k):=by
 obtain⟨h,n,g,h1,h2,h3,h4,h5,h6⟩:=zgo hC hk ht
 have he:=hE _ _ hx
 unfold halfs at he
 rw[h1] at he
 obtain⟨y,y1,y2⟩:=zpk (fuel0:=fu) hn hE hP hC o h5 (fu:=fu) (x:=x) (by omega) h2 (by rw[h3];exact hx)
 refine⟨y,?_,by rw[h6];exact y2⟩
 unfold z7H
 rw[za he,bsm,show idx (List.map (fun h=>((h / 2:Nat):Int)) [h]) 0=some ((h / 2:Nat):Int) from rfl,bsm,y1,bsm]
 rfl
end


def z7b (T:LC):LN:=T.flatMap fun st=>[st.a,st.b]
theorem zrp {T:LC}{st:D.Qc}:z7b (T++[st])=(z7b T++[st.a])++[st.b]:=by
 unfold z7b
 rw[List.flatMap_append]
 simp
theorem zjh {T:LC}:(z7b T).length=2*T.length:=by
 unfold z7b
 induction T with
 | nil=>rfl
 | cons st T ih=>rw[List.flatMap_cons,List.length_append,ih];simp;omega
theorem zvY {T:LC}{i:Nat}{st:D.Qc}(h:T[i]? = some st):(z7b T)[2*i]? = some st.a∧(z7b T)[2*i+1]? = some st.b:=by
 induction T generalizing i with
 | nil=>simp at h
 | cons s T ih=>
  have e:z7b (s::T)=s.a::s.b::z7b T:=rfl
  rw[e]
  cases i with
  | zero=>simp only[List.getElem?_cons_zero,Option.some.injEq] at h;subst h;exact⟨rfl,rfl⟩
  | succ i=>
   simp only[List.getElem?_cons_succ] at h
   rw[show 2*(i+1)=2*i+1+1 by omega]
   simp only[List.getElem?_cons_succ]
   exact ih h
def zmM (M:List (QH×L9))(F:LN):Prop:=∀ t,(mget M t).getD []=halfs F t
theorem zrm {F:LN}{a t:QH}:halfs (F++[a]) t=if a=t then halfs F t++[((F.length / 2:Nat):Int)] else halfs F t:=by
 unfold halfs
 rw[zm9]
 split
 ·rw[List.map_append];rfl
 ·rfl
theorem zoj {M:List (QH×L9)}{F:LN}{a:QH}{n:Int}(h:zmM M F)(hn:n=((F.length / 2:Nat):Int)):zmM (mput M a (((mget M a).getD [])++[n])) (F++[a]):=by
 intro t
 rw[zdh,zrm]
 by_cases e:a=t
 ·subst e
  rw[if_pos rfl,if_pos rfl,h a,hn];rfl
 ·rw[if_neg e,if_neg e,h t]
theorem zq3 {F:LN}{t:QH}:(halfs F t).length≤F.length:=by
 unfold halfs
 rw[List.length_map]
 unfold occ
 have:=List.length_filter_le (fun h=>decide (F[h]? = some t)) (List.range F.length)
 simpa using this
theorem zmJ {fu:Nat}{T:LC}(hf:Big fu)(hl:T.length≤1000000):∃ M,z58 fu T=some ⟨T,M⟩∧zmM M (z7b T):=by
 unfold z58
 obtain⟨o,e1,M,rfl,hM⟩:=zf (body:=z30 fu T) (fun i st=>∃ M,st=((i:Int),M)∧zmM M (z7b (T.take i))) T.length (fun o=>∃ M,o=.inl M∧zmM M (z7b T)) (by
  rintro i _ hi ⟨M,rfl,hM⟩
  obtain⟨st,G⟩:=z1j hi
  have q:(z7b (T.take i)).length=2*i:=by rw[zjh,List.length_take];omega
  have h1:=zoj (a:=st.a) (n:=(i:Int)) hM (by rw[q];omega)
  have h2:=zoj (a:=st.b) (n:=(i:Int)) h1 (by rw[List.length_append,q];simp only[List.length_singleton];omega)
  refine .inl ⟨(w64 ((i:Int)+1),mput (mput M st.a (((mget M st.a).getD [])++[(i:Int)])) st.b (((mget (mput M st.a (((mget M st.a).getD [])++[(i:Int)])) st.b).getD [])++[(i:Int)])),?_,_,by rw[zb (by omega) (by omega)];rfl,by rw[List.take_add_one,G];show zmM _ (z7b (T.take i++[st]));rw[zrp];exact h2⟩
  have b1:=zq3 (F:=z7b (T.take i)) (t:=st.a)
  have b2:=zq3 (F:=z7b (T.take i)++[st.a]) (t:=st.b)
  rw[List.length_append,q,List.length_singleton] at b2
  rw[q] at b1
  rw[← hM st.a] at b1
  rw[← h1 st.b] at b2
  unfold z30
  dsimp only
  rw[if_pos (by simpa using hi),za G,bsm,if_pos (by simp only[List.length_singleton,decide_eq_true_eq];omega),if_pos (by simp only[List.length_singleton,decide_eq_true_eq];omega)]) (by
  rintro _ ⟨M,rfl,hM⟩
  rw[List.take_length] at hM
  refine .inr ⟨M,?_,M,rfl,hM⟩
  unfold z30
  rw[if_neg (by simp)]) (fu:=fu) (i:=0) (s:=(0,[])) (Nat.zero_le _) (by omega) ⟨[],rfl,fun t=>rfl⟩
 rw[e1,bsm,z8]
 exact⟨M,rfl,hM⟩

structure Things (S:List Key) (T:LC) (th:Key→QH):Prop where
 flat:z7b T=S.map th
 inj:∀ k∈S,∀ k'∈S,th k=th k'→k=k'
 kind:∀ k∈S,((th k).at_.Qi=2↔k.1=2)
section
variable {S:List Key}
abbrev stT (e:Int)(t:QH):Int×Int×Int×Int×Int×Bool:=(e,t.at_.Qj,t.at_.Qi,t.at_.Qo,t.slot,t.own)
theorem zve {a b:QH}:((((a.at_.Qj:Int) == b.at_.Qj) && (((a.at_.Qi:Int) == b.at_.Qi) && (((a.at_.Qo:Int) == b.at_.Qo) && true))) && (((a.slot:Int) == b.slot) && ((a.own == b.own) && true)))=decide (a=b):=by
 obtain⟨⟨a1,a2,a3⟩,a4,a5⟩:=a
 obtain⟨⟨b1,b2,b3⟩,b4,b5⟩:=b
 by_cases h1:a1=b1<;>by_cases h2:a2=b2<;>by_cases h3:a3=b3<;>by_cases h4:a4=b4<;>by_cases h5:a5=b5<;>simp[h1,h2,h3,h4,h5]
theorem zpA {fuel0:Nat}{T:LC}{M:List (QH×L9)}{th:Key→QH}(hM:zmM M (z7b T))(hT:Things S T th)(hC:Chain S){n h g:Nat}(hp:Path S n h g):
  ∀ {fu:Nat},n<fu→h<S.length→iter (zZ fuel0 ⟨T,M⟩) fu (stT ((h / 2:Nat):Int) (th (z2S S h)))=some (.inr (th (z2S S g))):=by
 have Y:S.length=2*T.length:=by rw[← zjh (T:=T),hT.flat,List.length_map]
 have q:∀ {h:Nat},h<S.length→zZ fuel0 ⟨T,M⟩ (stT ((h / 2:Nat):Int) (th (z2S S h)))=zY fuel0 ⟨T,M⟩ (stT ((h / 2:Nat):Int) (th (z2S S h))) ((th (z2S S (par h))).at_.Qj,(th (z2S S (par h))).at_.Qi,(th (z2S S (par h))).at_.Qo,(th (z2S S (par h))).slot,(th (z2S S (par h))).own):=by
  intro h hl
  obtain⟨st,O⟩:=z1j (xs:=T) (i:=h / 2) (by omega)
  obtain⟨f1,f2⟩:=zvY O
  rw[hT.flat,List.getElem?_map] at f1 f2
  have g1:=zdn (S:=S) (h:=2*(h / 2)) (by omega)
  have g2:=zdn (S:=S) (h:=2*(h / 2)+1) (by omega)
  rw[g1] at f1
  rw[g2] at f2
  simp only[Option.map_some,Option.some.injEq] at f1 f2
  unfold zZ
  dsimp only
  rw[za O,bsm,zve,bsm]
  by_cases hev:h % 2=0
  ·have hh:2*(h / 2)=h:=by omega
   have o:par h=2*(h / 2)+1:=by unfold par;rw[if_pos hev];omega
   rw[hh] at f1
   rw[if_pos (by rw[f1];simp),o,f2]
  ·have hh:2*(h / 2)+1=h:=by omega
   have o:par h=2*(h / 2):=by unfold par;rw[if_neg hev];omega
   rw[hh] at f2
   by_cases hs:st.a=th (z2S S h)
   ·rw[if_pos (by simpa using hs),o,f1,hs,f2]
   ·rw[if_neg (by simpa using hs),o,f1]
 have G:∀ {h:Nat},h<S.length→z2S S h∈S:=fun hl=>List.mem_of_getElem? (zdn hl)
 induction hp with
 | @stop h hs=>
  intro fu hf hl
  obtain⟨fu,rfl⟩:∃ f,fu=f+1:=⟨fu - 1,by omega⟩
  have H:=zg3 hC.even hl
  have e:zZ fuel0 ⟨T,M⟩ (stT ((h / 2:Nat):Int) (th (z2S S h)))=some (.ret (th (z2S S (par h)))):=by
   rw[q hl]
   unfold zY
   dsimp only
   have hk:=hT.kind _ (G H)
   rw[if_pos (by simp only[bne_iff_ne,ne_eq];exact fun h=>hs (hk.1 h))]
  simp only[iter,e]
 | @more n h g hm hne hp ih=>
  intro fu hf hl
  obtain⟨fu,rfl⟩:∃ f,fu=f+1:=⟨fu - 1,by omega⟩
  have H:=zg3 hC.even hl
  obtain⟨o1,o2,o3,o4⟩:=zdf hC H hm
  obtain⟨a,b,v1,v2⟩:=zpD hC hl hm hne
  have hh:(mget M (th (z2S S (par h)))).getD []=[((a / 2:Nat):Int),((b / 2:Nat):Int)]:=by
   rw[hM,hT.flat,← v1]
   unfold halfs
   rw[zsq (f:=th) (fun x hx e=>hT.inj x hx _ (G H) e)]
  have e:zZ fuel0 ⟨T,M⟩ (stT ((h / 2:Nat):Int) (th (z2S S h)))=some (.next (stT ((oth S (par h) / 2:Nat):Int) (th (z2S S (oth S (par h)))))):=by
   rw[q hl]
   unfold zY
   dsimp only
   have hk:=hT.kind _ (G H)
   rw[if_neg (by simp only[bne_iff_ne,ne_eq,Decidable.not_not];exact hk.2 hm)]
   have X:(⟨⟨(th (z2S S (par h))).at_.Qj,(th (z2S S (par h))).at_.Qi,(th (z2S S (par h))).at_.Qo⟩,(th (z2S S (par h))).slot,(th (z2S S (par h))).own⟩:QH)=th (z2S S (par h)):=rfl
   rw[X,hh,show idx [((a / 2:Nat):Int),((b / 2:Nat):Int)] 0=some ((a / 2:Nat):Int) from rfl,bsm,show idx [((a / 2:Nat):Int),((b / 2:Nat):Int)] 1=some ((b / 2:Nat):Int) from rfl,bsm]
   unfold z1Q
   dsimp only
   rw[o3]
   by_cases hab:a / 2=h / 2
   ·rw[if_pos (by rw[hab];simp)]
    rw[if_pos hab] at v2
    rw[v2]
   ·rw[if_neg (by simp only[beq_iff_eq];omega)]
    rw[if_neg hab] at v2
    rw[v2]
  simp only[iter,e]
  exact ih (by omega) o1
theorem zpB {fu:Nat}{T:LC}{M:List (QH×L9)}{th:Key→QH}(hf:Big fu)(hM:zmM M (z7b T))(hT:Things S T th)(hC:Chain S)(hl:S.length≤1000000){k:Key}(hk:k∈S)(ht:k.1≠2):
  z2L fu ⟨T,M⟩ (th k)=some (th (zk7 S k)):=by
 obtain⟨h,n,g,h1,h2,h3,h4,h5,h6⟩:=zgo hC hk ht
 have hh:(mget M (th k)).getD []=[((h / 2:Nat):Int)]:=by
  rw[hM,hT.flat]
  unfold halfs
  rw[zsq (f:=th) (fun x hx e=>hT.inj x hx _ hk e),h1];rfl
 have o:=zpA (fuel0:=fu) hM hT hC h5 (fu:=fu) (by omega) h2
 rw[h3] at o
 unfold z2L
 dsimp only
 rw[hh,show idx [((h / 2:Nat):Int)] 0=some ((h / 2:Nat):Int) from rfl,bsm,o,bsm,h6]
 rfl
end
end Go.E



