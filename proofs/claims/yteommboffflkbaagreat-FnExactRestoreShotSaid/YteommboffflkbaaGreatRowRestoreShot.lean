/- RestoreShot: the statement FnExactRestoreShotSaid (program and reference agree), from the walk and the plain law; the lemmas that it rests on stand ahead of it, each with its own conditions. Conditions of the claim: none. -/
import Derived.Test.YteommboffflkbaaGreatHN
import Derived.Test.YteommboffflkbaaGreatDetOk
import Derived.Test.YteommboffflkbaaGreatHW
import Derived.Test.YteommboffflkbaaGreatSizesW
import Derived.Test.YteommboffflkbaaGreatRounds
import Derived.Test.YteommboffflkbaaGreatRows
import Derived.WalkKit
import Derived.ProofKit
import Derived.OpenShut
import Derived.ShutString
import Derived.ChangeOld
import Derived.Below
import Derived.Carry
namespace Go.E
open Go.RowKit Go.Proofs
set_option linter.unusedSimpArgs false
set_option linter.unusedVariables false

section
variable {fu:Nat}
theorem zjW {xs:List Int}(hl:xs.length≤1048576):z5Q fu xs=some xs:=by unfold z5Q;rw [if_pos (dct (by simp only [List.length_nil];omega))];rfl
theorem zca {xs:List Int}(hl:xs.length≤1048576):zp fu xs=some xs:=by unfold zp;rw [if_pos (dct (by simp only [List.length_nil];omega))];rfl
theorem zgm {xs:List D.Qf}(hl:xs.length≤1048576):zr fu xs=some xs:=by unfold zr;rw [if_pos (dct (by simp only [List.length_nil];omega))];rfl
theorem zm4 {xs:List D.Qn}(hl:xs.length≤1048576):zD fu xs=some xs:=by unfold zD;rw [if_pos (dct (by simp only [List.length_nil];omega))];rfl
theorem zhN {xs:List D.Qk}(hl:xs.length≤1048576):zt fu xs=some xs:=by unfold zt;rw [if_pos (dct (by simp only [List.length_nil];omega))];rfl
theorem zhO {xs:List D.Qe}(hl:xs.length≤1048576):zX fu xs=some xs:=by unfold zX;rw [if_pos (dct (by simp only [List.length_nil];omega))];rfl
theorem zjP {c:D.Qb}(h:c.sz≤1048576):c.Data.length≤1048576∧c.QX.length≤1048576:=by
  unfold D.Qb.sz at h
  omega
theorem zjX {c:D.Qb}(h:c.sz≤1048576):z4M fu c=some c:=by
  obtain⟨h1,h2⟩:=zjP h
  unfold z4M
  rw [zjW h1,bsm,if_pos (dct (by simp only [List.length_nil];omega))]
  rfl
theorem zcL {α:Type}{xs:List α}:xs.map (fun x=>x)=xs:=by simp
theorem zmt {s:D.Qp}(hf:Big fu) (h:s.sz≤1048576):z5P fu s=some s:=by
  obtain⟨h1,h2,h3,h4⟩:=zby h
  unfold z5P
  rw [if_pos (dct (by simp only [List.length_nil];omega)),if_pos (dct (by simp only [List.length_nil];omega))]
  unfold z5O
  have hL:=mapLoop (xs:=s.Cells) (body:=z3B fu s) (g:=fun x=>x) h1 hf (fun i x t hx ht=>by
    have hi:=(List.getElem?_eq_some_iff.1 hx).1
    unfold z3B
    dsimp only
    rw [if_pos (dct (by omega)),zd hx,bsm,zjX (h4 x (List.mem_of_getElem? hx)),bsm,if_pos (dct (by simp only [List.length_cons,List.length_nil];omega))]) (fun t=>by
    unfold z3B
    rw [if_neg (by simp)])
  rw [zcL] at hL
  dsimp only
  rw [hL,bsm,z8]
  rfl
theorem zmv {cs:List (List D.Qe)}(hf:Big fu) (hl:cs.length≤1048576) (hc:∀ ch,ch∈cs→ch.length≤1048576∧∀ p,p∈ch→p.Qz.sz≤1048576):z3A fu cs=some cs:=by
  unfold z3A
  have hL:=mapLoop (xs:=cs) (body:=z2u fu cs) (g:=fun x=>x) hl hf (fun i ch t hx ht=>by
    have hi:=(List.getElem?_eq_some_iff.1 hx).1
    obtain⟨c1,c2⟩:=hc ch (List.mem_of_getElem? hx)
    unfold z2u
    dsimp only
    rw [if_pos (dct (by omega))]
    have hM:=mapLoop (xs:=ch) (body:=z2t fu cs ((i:Int),t)) (g:=fun x=>x) c1 hf (fun k p u hp hu=>by
      have hk:=(List.getElem?_eq_some_iff.1 hp).1
      unfold z2t
      dsimp only
      rw [zd hx,bsm,if_pos (dct (by omega)),bsm,zd hp,bsm,show p.Qz=p.Qz from rfl,zjX (c2 p (List.mem_of_getElem? hp)),bsm,if_pos (dct (by simp only [List.length_cons,List.length_nil];omega))]) (fun u=>by
      unfold z2t
      dsimp only
      rw [zd hx,bsm,if_neg (by simp)])
    rw [zcL] at hM
    rw [hM,bsm,z8]
    unfold z6R
    dsimp only
    rw [if_pos (dct (by simp only [List.length_cons,List.length_nil];omega))]) (fun t=>by
    unfold z2u
    rw [if_neg (by simp)])
  rw [zcL] at hL
  rw [hL,bsm,z8]
  rfl
theorem zmu {cs:List (List Int)}(hf:Big fu) (hl:cs.length≤1048576) (hc:∀ x,x∈cs→x.length≤1048576):z5K fu cs=some cs:=by
  unfold z5K
  have hL:=mapLoop (xs:=cs) (body:=z3z fu cs) (g:=fun x=>x) hl hf (fun i x t hx ht=>by
    have hi:=(List.getElem?_eq_some_iff.1 hx).1
    unfold z3z
    dsimp only
    rw [if_pos (dct (by omega)),zd hx,bsm,zjW (hc x (List.mem_of_getElem? hx)),bsm,if_pos (dct (by simp only [List.length_cons,List.length_nil];omega))]) (fun t=>by
    unfold z3z
    rw [if_neg (by simp)])
  rw [zcL] at hL
  rw [hL,bsm,z8]
  rfl
theorem zhf {s:D.Qp}(hf:Big fu) (h:s.sz≤1048576):z5H fu s=some s:=by
  obtain⟨h1,h2,h3,h4⟩:=zby h
  unfold z5H
  rw [zm4 h2,bsm,zhN h3,bsm]
  unfold z7u
  have hL:=mapLoop (xs:=s.Cells) (body:=z5g fu s) (g:=fun x=>x) h1 hf (fun i x t hx ht=>by
    have hi:=(List.getElem?_eq_some_iff.1 hx).1
    obtain⟨c1,c2⟩:=zjP (h4 x (List.mem_of_getElem? hx))
    unfold z5g
    dsimp only
    rw [if_pos (dct (by omega)),zd hx,bsm,zca c1,bsm,zgm c2,bsm,if_pos (dct (by simp only [List.length_cons,List.length_nil];omega))]) (fun t=>by
    unfold z5g
    rw [if_neg (by simp)])
  rw [zcL] at hL
  dsimp only
  rw [hL,bsm,z8]
  rfl
theorem zoF {g:D.Qi}(hf:Big fu) (h:g.sz≤1048576):z8p fu g=some g:=by
  obtain⟨h1,h2⟩:=zdF h
  unfold z8p
  have hL:=mapLoop (xs:=g.Qc) (body:=z6f fu g) (g:=fun x=>x) h1 hf (fun i x t hx ht=>by
    have hi:=(List.getElem?_eq_some_iff.1 hx).1
    unfold z6f
    dsimp only
    rw [if_pos (dct (by omega)),zd hx,bsm,zhf hf (h2 x (List.mem_of_getElem? hx)),bsm,if_pos (dct (by simp only [List.length_cons,List.length_nil];omega))]) (fun t=>by
    unfold z6f
    rw [if_neg (by simp)])
  rw [zcL] at hL
  rw [hL,bsm,z8]
  rfl
theorem zja {xs:List D.Qe}(hf:Big fu) (hl:xs.length≤1048576) (hp:∀ p,p∈xs→p.Qz.sz≤1048576):z6e fu xs=some xs:=by
  unfold z6e
  rw [zhO hl,bsm]
  obtain⟨o,h1,h2⟩:=z1A (body:=z3M fu xs) (fun i st=>st.1=(i:Int)∧st.2.length=xs.length∧(∀ j,j<i→st.2[j]? = xs[j]?.map fun x=>(true,x))∧∀ j,i≤j→st.2[j]? = xs[j]?.map fun x=>(false,x)) xs.length (fun o=>o=.inl (xs.map fun x=>(true,x))) (by
    rintro i ⟨a,s⟩ hi ⟨rfl,e1,e2,e3⟩
    dsimp only at e1 e2 e3
    obtain⟨x,hx⟩:=z5i hi
    have hs:s[i]? = some (false,x):=by rw [e3 i (Nat.le_refl _),hx];rfl
    obtain⟨c1,c2⟩:=zjP (hp x (List.mem_of_getElem? hx))
    refine .inl ⟨(w64 (i+1),s.set i (true,x)),?_,by dsimp only;rw [zf (by omega) (by omega)];rfl,by simpa using e1,fun j hj=>?_,fun j hj=>?_⟩
    · unfold z3M
      dsimp only
      rw [if_pos (dct (by omega)),zd hs,bsm,zca c1,bsm,bsm,zgm c2,bsm,bsm,if_neg (by simp)]
      unfold z6d
      dsimp only
      rw [Int.toNat_natCast]
    · by_cases h:i=j
      · subst h
        rw [List.getElem?_set_self (by omega),hx];rfl
      · rw [List.getElem?_set_ne h,e2 j (by omega)]
    · rw [List.getElem?_set_ne (by omega),e3 j (by omega)]) (by
    rintro⟨a,s⟩ ⟨rfl,e1,e2,e3⟩
    dsimp only at e1 e2 e3
    refine .inr ⟨s,by unfold z3M;rw [if_neg (by simp)],?_⟩
    have:s=xs.map fun x=>(true,x):=List.ext_getElem? fun j=>by
      rw [List.getElem?_map]
      by_cases h:j<xs.length
      · exact e2 j h
      · rw [List.getElem?_eq_none (by omega),List.getElem?_eq_none (by omega)];rfl
    rw [this]) (fu:=fu) (i:=0) (s:=(0,xs.map fun x=>(false,x))) (by omega) (by omega) ⟨rfl,by simp,fun j hj=>by omega,fun j _=>by simp⟩
  rw [h1,h2,bsm,z8]
  unfold z8o
  rw [if_pos (by simp),List.map_map]
  simp [Function.comp_def]
theorem zhg {cs:List (List D.Qe)}(hf:Big fu) (hl:cs.length≤1048576) (hc:∀ ch,ch∈cs→ch.length≤1048576∧∀ p,p∈ch→p.Qz.sz≤1048576):z3n fu cs=some cs:=by
  unfold z3n
  refine z7L hl hf (fun _=>rfl) ?_ ?_
  · intro i y out hy d
    have hi:=(List.getElem?_eq_some_iff.1 hy).1
    obtain⟨c1,c2⟩:=hc y (List.mem_of_getElem? hy)
    simp only [z5p,zd hy,bsm,lt_t (show(i:Int)<cs.length by omega),if_true,zja hf c1 c2]
    rw [if_pos (by simp;omega)]
    simp
  · intro out
    simp [z5p]
theorem zgi {cs:List (List Int)}(hf:Big fu) (hl:cs.length≤1048576) (hc:∀ x,x∈cs→x.length≤1048576):z4V fu cs=some cs:=by
  unfold z4V
  refine z7L hl hf (fun _=>rfl) ?_ ?_
  · intro i y out hy d
    have hi:=(List.getElem?_eq_some_iff.1 hy).1
    simp only [z6H,zd hy,bsm,lt_t (show(i:Int)<cs.length by omega),if_true,zca (hc y (List.mem_of_getElem? hy))]
    rw [if_pos (by simp;omega)]
    simp
  · intro out
    simp [z6H]
theorem zoG {c:D.Qa}(hf:Big fu) (h:c.sz≤1048576):z6g fu c=some c:=by
  obtain⟨z1,z2,z3,z4,z5,z6,z7⟩:=zdH h
  unfold z6g
  rw [zoF hf z1,bsm,zhg hf z2 z3,bsm,zgi hf z4 z5,bsm,zca z6,bsm,zca z7,bsm]
end


end Go.E


namespace Go.E
open Go.RowKit Go.Proofs
set_option linter.unusedSimpArgs false
set_option linter.unusedVariables false

section
variable {fu:Nat}{w:D.Qx}
def noShard (s:D.Qp):Bool:=decide (s.Cells=[]∧s.QG=[]∧s.Qu=[])
def tkN (w:D.Qx) (i:Nat):Bool:=w.Qq.QC.getD i false
def rcN (w:D.Qx) (i:Nat):Bool:=w.Qq.Qt.getD i false
def svN (w:D.Qx) (i:Nat):List D.Qe:=w.Qq.QK.getD i []
def chN (w:D.Qx) (i:Nat):List D.Qe:=w.Qa.Qh.getD i []
def macN (w:D.Qx) (i:Nat):Bool:=if tkN w i=true then shardN (w.Qq.Qc.getD i ⟨[],[],[]⟩) && numN (w.Qq.Qo.getD i []) 7 else noShard (w.Qq.Qc.getD i ⟨[],[],[]⟩) && decide ((w.Qq.Qo.getD i []).length=0)
def needN (w:D.Qx) (a b i:Nat):Nat:=if tkN w a=true then(if tkN w b=true then oneN (rcN w i) else 1) else 0
def linkN (w:D.Qx) (a b i:Nat):Bool:=
  if a=b then !rcN w i && decide (svN w i=[]) else
  (if tkN w b=true then rcN w i || tkN w a else !rcN w i && decide (svN w i=[])) && (decide (markN (chN w i)=needN w a b i) && decide (markN (svN w i)=0))
structure Wat (w:D.Qx) (n:Nat):Prop where
  n1:1≤n
  n4:n≤4
  t:w.Qq.QC.length=n
  s:w.Qq.Qc.length=n
  c:w.Qq.Qo.length=n
  r:w.Qq.Qt.length=n*n
  v:w.Qq.QK.length=n*n
  h:w.Qa.Qh.length=n*n
structure WatS (w:D.Qx):Prop where
  s:∀ x,x∈w.Qq.Qc→x.sz+1≤1048576
  c:∀ x,x∈w.Qq.Qo→x.length≤1048576
  v:w.Qq.QK.length≤1048576∧∀ ch,ch∈w.Qq.QK→ch.length≤1048576∧∀ p,p∈ch→p.Qz.sz≤1048576
  h:∀ ch,ch∈w.Qa.Qh→ch.length≤1048576
theorem zgK (hs:w.sz≤1048576):w.Qa.sz≤1048576∧WatS w:=by
  unfold D.Qx.sz D.Qq.sz at hs
  have h1:szL D.Qp.sz w.Qq.Qc≤1048576:=by omega
  have h2:szL (fun x:List Int=>x.length) w.Qq.Qo≤1048576:=by omega
  have h3:szL (fun x=>szL D.Qe.sz x) w.Qq.QK≤1048576:=by omega
  have h4:w.Qa.sz≤1048576:=by omega
  refine⟨h4,fun x hx=>by
    have h7:=zhp (f:=D.Qp.sz) hx
    have h8:0<w.Qq.Qc.length:=List.length_pos_of_mem hx
    unfold szL at h1
    omega,fun x hx=>z2G h2 hx,⟨z2C h3,fun ch hc=>?_⟩,fun ch hc=>((zdH h4).2.2.1 ch hc).1⟩
  have h5:=z2G h3 hc
  refine⟨z2C h5,fun p hp=>?_⟩
  have h6:=z2G h5 hp
  unfold D.Qe.sz at h6
  omega
theorem zjM {α:Type}{xs:List α}{i:Nat}{x d:α}(h:xs[i]? = some x):xs.getD i d=x:=by simp [List.getD,h]
theorem zaF {α:Type}{xs:List α}{i:Nat}(d:α) (h:i<xs.length):xs[i]? = some (xs.getD i d):=by
  obtain⟨x,hx⟩:=z5i h
  rw [zjM hx,hx]
theorem zmE {s:D.Qp}(hf:Big fu):z7z fu s ⟨[],[],[]⟩=some (noShard s):=by
  have ne:∀ {α:Type}{xs:List α},xs≠[]→((xs.length:Int) != (([]:List α).length:Int))=true:=fun {α xs} h=>by cases xs with | nil=>exact absurd rfl h | cons x xs=>simp;omega
  obtain⟨f,rfl⟩:∃ f,fu=f+1:=⟨fu - 1,by omega⟩
  unfold z7z noShard
  by_cases h1:s.Cells=[]
  · by_cases h2:s.QG=[]
    · by_cases h3:s.Qu=[]
      · simp [h1,h2,h3,z1C,z9a,z99,z98,z9d,z9c,z9b,iter,aft]
      · rw [if_neg (by simp [h1]),if_neg (by simp [h2]),ne h3]
        simp [h3,z1C]
    · rw [if_neg (by simp [h1]),if_pos (ne h2)]
      simp [h2,z1C]
  · rw [if_pos (ne h1)]
    simp [h1,z1C]
theorem zmF {s:D.Qp}(hf:Big fu):z7K fu s ⟨[],[],[]⟩=some (noShard s):=by
  have ne:∀ {α:Type}{xs:List α},xs≠[]→((xs.length:Int) != (([]:List α).length:Int))=true:=fun {α xs} h=>by cases xs with | nil=>exact absurd rfl h | cons x xs=>simp;omega
  obtain⟨f,rfl⟩:∃ f,fu=f+1:=⟨fu - 1,by omega⟩
  unfold z7K ze z15 zS noShard
  by_cases h1:s.Cells=[]
  · by_cases h2:s.QG=[]
    · by_cases h3:s.Qu=[]
      · simp [h1,h2,h3,za,zb,zU,zV,zE,zF,iter,aft]
      · simp [h1,h2,h3,za,zb,zU,zV,zE,zF,iter,aft]
    · simp [h1,h2,za,zb,iter,aft]
  · simp [h1]
theorem natB {x y:Nat}:((x:Int) == (y:Int))=decide (x=y):=by
  rw [beqD]
  by_cases h:x=y
  · rw [dct h,dct (by omega)]
  · rw [decide_eq_false h,decide_eq_false (by omega)]
theorem zpt {n i:Nat}(hf:Big fu) (hW:Wat w n) (hS:WatS w) (hi:i<n):z6O fu w.Qq (i:Int)=some (macN w i):=by
  have ht:=zaF false (show i<w.Qq.QC.length by rw [hW.t];exact hi)
  have hsh:=zaF (⟨[],[],[]⟩:D.Qp) (show i<w.Qq.Qc.length by rw [hW.s];exact hi)
  have hc:=zaF ([]:List Int) (show i<w.Qq.Qo.length by rw [hW.c];exact hi)
  have z1:=hS.s _ (List.mem_of_getElem? hsh)
  have z2:=hS.c _ (List.mem_of_getElem? hc)
  unfold z6O macN tkN
  simp only [zd ht,zd hsh,zd hc,bsm]
  generalize w.Qq.Qc.getD i ⟨[],[],[]⟩=s at z1 ⊢
  generalize w.Qq.Qo.getD i []=cs at z2 ⊢
  have hp:z4a fu (⟨([s]:List D.Qp),(⟨0,0,0⟩:D.Qf)⟩:D.Qi)=some (shardN s):=by
    rw [zfS hf (by unfold D.Qi.sz szL;simp only [sumL,List.length_cons,List.length_nil];omega)]
    simp [piecesN]
  have hn:=zbA (k:=7) hf z2
  have hn':z1T fu cs 7=some (numN cs 7):=hn
  rw [hp,zmE hf,hn']
  cases w.Qq.QC.getD i false with
  | true=>cases shardN s<;>rfl
  | false=>
    cases noShard s with
    | false=>rfl
    | true=>
      have:((cs.length:Int) == 0)=decide (cs.length=0):=natB (y:=0)
      simp only [bsm,if_true,this]
      rfl
theorem zpu {n i:Nat}(hf:Big fu) (hW:Wat w n) (hS:WatS w) (hi:i<n):z3N fu w.Qq (i:Int)=some (macN w i):=by
  have ht:=zaF false (show i<w.Qq.QC.length by rw [hW.t];exact hi)
  have hsh:=zaF (⟨[],[],[]⟩:D.Qp) (show i<w.Qq.Qc.length by rw [hW.s];exact hi)
  have hc:=zaF ([]:List Int) (show i<w.Qq.Qo.length by rw [hW.c];exact hi)
  have z1:=hS.s _ (List.mem_of_getElem? hsh)
  have z2:=hS.c _ (List.mem_of_getElem? hc)
  unfold z3N macN tkN
  simp only [zd ht,zd hsh,zd hc,bsm]
  generalize w.Qq.Qc.getD i ⟨[],[],[]⟩=s at z1 ⊢
  generalize w.Qq.Qo.getD i []=cs at z2 ⊢
  rw [zgZ hf (by omega),zmF hf,zgg hf z2]
  cases w.Qq.QC.getD i false with
  | true=>cases shardN s<;>rfl
  | false=>
    cases noShard s with
    | false=>rfl
    | true=>
      have:((cs.length:Int) == 0)=decide (cs.length=0):=natB (y:=0)
      simp only [bsm,if_true,this]
      rfl
structure At4 (w:D.Qx) (fu a b i:Nat):Prop where
  ta:idx w.Qq.QC (a:Int)=some (tkN w a)
  tb:idx w.Qq.QC (b:Int)=some (tkN w b)
  r:idx w.Qq.Qt (i:Int)=some (rcN w i)
  v:idx w.Qq.QK (i:Int)=some (svN w i)
  h:idx w.Qa.Qh (i:Int)=some (chN w i)
  vl:(svN w i).length≤1048576
  hl:(chN w i).length≤1048576
  vp:∀ p,p∈svN w i→p.Qz.sz≤1048576
theorem at4 {n a b i:Nat}(hW:Wat w n) (hS:WatS w) (ha:a<n) (hb:b<n) (hi:i<n*n):At4 w fu a b i:=by
  have h1:=zaF ([]:List D.Qe) (show i<w.Qq.QK.length by rw [hW.v];exact hi)
  have h2:=zaF ([]:List D.Qe) (show i<w.Qa.Qh.length by rw [hW.h];exact hi)
  exact⟨zd (zaF false (show a<w.Qq.QC.length by rw [hW.t];exact ha)),zd (zaF false (show b<w.Qq.QC.length by rw [hW.t];exact hb)),zd (zaF false (show i<w.Qq.Qt.length by rw [hW.r];exact hi)),zd h1,zd h2,(hS.v.2 _ (List.mem_of_getElem? h1)).1,hS.h _ (List.mem_of_getElem? h2),(hS.v.2 _ (List.mem_of_getElem? h1)).2⟩
theorem zqv {n a b:Nat}(ha:a<n) (hb:b<n):a*n+b<n*n:=by
  have:(a+1)*n≤n*n:=Nat.mul_le_mul_right n ha
  rw [Nat.add_mul,Nat.one_mul] at this
  omega
theorem zqj {n a b i:Nat}(hf:Big fu) (h:At4 w fu a b i) (he:w64 ((w64 ((a:Int)*(n:Int)))+(b:Int))=(i:Int)):z6v fu w (a:Int) (b:Int) (n:Int) ()=some (decide (a=b) || decide (markN (chN w i)=needN w a b i)):=by
  unfold z6v needN
  rw [natB,he]
  by_cases hab:a=b
  · rw [if_pos (by simpa using hab),dct hab];rfl
  · rw [if_neg (by simpa using hab),decide_eq_false hab,Bool.false_or]
    simp only [h.ta,h.tb,h.r,h.h,zh8 hf h.hl,zji,bsm,natB]
    cases tkN w a with
    | false=>rfl
    | true=>
      cases tkN w b with
      | false=>rfl
      | true=>rfl
theorem zqk {n a b i:Nat}(hf:Big fu) (h:At4 w fu a b i) (he:w64 ((w64 ((a:Int)*(n:Int)))+(b:Int))=(i:Int)) (hib:i % n=b):z2Y fu w (a:Int) (b:Int) (n:Int) ()=some (listN n i (svN w i) && (decide (markN (svN w i)=0) && (decide (a=b) || decide (markN (chN w i)=needN w a b i)))):=by
  have hm:maxLen=9223372036854775807:=rfl
  have hvl:=h.vl
  have no:z21 fu w (a:Int) (b:Int) (n:Int) true=some false:=by unfold z21;rfl
  unfold z2Y listN
  simp only [he,h.v,bsm,zh8 hf h.vl,hib]
  by_cases h1:(svN w i).length≤200
  · rw [if_neg (by simp;omega),dct h1,Bool.true_and]
    by_cases h2:markN (svN w i)=0
    · rw [decide_eq_false (show ¬((markN (svN w i):Nat):Int)>0 by omega),dct h2,Bool.true_and]
      unfold z21
      rw [if_neg (by simp)]
      have hL:=allLoop (xs:=svN w i) (body:=z4i fu w (a:Int) (b:Int) (n:Int)) (p:=fun _ p=>parcelN (b:Int) p) (t:=()) (v:=false) (fu:=fu) (by omega) hf (fun k p hk hp=>by
        unfold z4i
        simp only [he,h.v,bsm]
        rw [if_pos (by simpa using hk),zd hp,bsm,zfU hf (h.vp p (List.mem_of_getElem? hp)),bsm]
        cases parcelN (b:Int) p<;>rfl) (by
        unfold z4i
        simp only [he,h.v,bsm]
        rw [if_neg (by simp)])
      rw [z7d (p:=parcelN (b:Int))] at hL
      rw [hL,bsm]
      cases (svN w i).all (parcelN (b:Int)) with
      | false=>rfl
      | true=>rw [if_pos rfl,z8,zqj hf h he,Bool.true_and]
    · rw [dct (show((markN (svN w i):Nat):Int)>0 by omega),decide_eq_false h2,no,Bool.false_and,Bool.and_false]
  · rw [if_pos (by simp;omega),decide_eq_false h1,no,Bool.false_and,Bool.false_and]
theorem zmN {n a b:Nat}(hf:Big fu) (hW:Wat w n) (hS:WatS w) (ha:a<n) (hb:b<n):z4L fu w (a:Int) (b:Int) (n:Int)=some (linkN w a b (a*n+b) && listN n (a*n+b) (svN w (a*n+b))):=by
  have h4:=hW.n4
  have hi:=zqv ha hb
  have hnn:n*n≤16:=Nat.mul_le_mul h4 h4
  have h:=at4 (fu:=fu) hW hS ha hb hi
  have hib:(a*n+b) % n=b:=by rw [Nat.add_comm,Nat.add_mul_mod_self_right,Nat.mod_eq_of_lt hb]
  have e1:(a:Int)*(n:Int)=((a*n:Nat):Int):=by simp
  have he:w64 ((w64 ((a:Int)*(n:Int)))+(b:Int))=((a*n+b:Nat):Int):=by
    rw [e1,zf (n:=((a*n:Nat):Int)) (by omega) (by omega),zf (by omega) (by omega)]
    omega
  generalize a*n+b=i at h hib he ⊢
  have hj:=zqk hf h he hib
  have hls:svN w i=[]→listN n i (svN w i)=true:=fun h=>by rw [h];simp [listN]
  have hms:svN w i=[]→markN (svN w i)=0:=fun h=>by rw [h];simp [markN,sumL]
  have hlen:((((svN w i).length:Nat):Int)>0)↔¬ svN w i=[]:=by
    cases svN w i with
    | nil=>simp
    | cons x xs=>simp
  have hch:z4L fu w (a:Int) (b:Int) (n:Int)=z2Z fu w (a:Int) (b:Int) (n:Int) (decide (a=b) || !tkN w b):=by
    unfold z4L
    rw [natB,h.tb,bsm]
    by_cases hab:a=b
    · rw [if_pos (by simpa using hab),dct hab];rfl
    · rw [if_neg (by simpa using hab),decide_eq_false hab];rfl
  rw [hch]
  unfold z2Z z4h z4g
  simp only [he,h.r,h.v,h.ta,bsm,hj]
  unfold linkN
  by_cases hab:a=b
  · subst hab
    by_cases hv:svN w i=[]
    · have h5:=hls hv
      have h6:=hms hv
      rw [h5,h6]
      cases rcN w i<;>simp [hv]
    · cases rcN w i<;>simp [hv,hlen]
  · by_cases hv:svN w i=[]
    · have h5:=hls hv
      have h6:=hms hv
      rw [h5,h6]
      cases tkN w b<;>cases rcN w i<;>cases tkN w a<;>simp [hv,hab]
    · cases tkN w b<;>cases rcN w i<;>cases tkN w a<;>simp [hv,hab,hlen,Bool.and_comm,Bool.and_left_comm,Bool.and_assoc]
theorem zmO {a b i:Nat}(hf:Big fu) (h:At4 w fu a b i):z2z fu w (a:Int) (b:Int) (i:Int)=some (linkN w a b i):=by
  have j3:∀ k:Nat,z17 fu w (i:Int) (k:Int)=some (decide (markN (chN w i)=k) && decide (markN (svN w i)=0)):=fun k=>by
    have:(((markN (svN w i):Nat):Int) == 0)=decide (markN (svN w i)=0):=natB (y:=0)
    unfold z17
    rw [h.h,bsm,zh9 hf h.hl,bsm,natB,h.v,bsm,zh9 hf h.vl,bsm,this]
    cases decide (markN (chN w i)=k)<;>rfl
  have j2:zg fu w (a:Int) (b:Int) (i:Int) false=some (decide (markN (chN w i)=needN w a b i) && decide (markN (svN w i)=0)):=by
    unfold zg needN
    simp only [h.ta,h.tb,h.r,zgY,bsm,j3]
    cases tkN w a<;>cases tkN w b<;>rfl
  have j2':zg fu w (a:Int) (b:Int) (i:Int) true=some false:=by unfold zg;rfl
  have hl:((((svN w i).length:Nat):Int) == 0)=decide (svN w i=[]):=by
    cases svN w i with
    | nil=>rfl
    | cons x xs=>simp;omega
  unfold z2z z1S
  simp only [h.r,h.v,h.ta,h.tb,bsm,natB,hl,j2,j2']
  unfold linkN
  by_cases hab:a=b
  · cases rcN w i<;>by_cases hv:svN w i=[]<;>simp [hab,hv]
  · cases tkN w b<;>cases rcN w i<;>cases tkN w a<;>by_cases hv:svN w i=[]<;>simp [hab,hv,j2,j2']

theorem zhR {α:Type}{xs:List α}{p:Nat→Bool}:(xs.zipIdx.all fun x=>p x.2)=true↔∀ i,i<xs.length→p i=true:=by
  rw [z87 (p:=fun i _=>p i)]
  constructor
  · intro h i hi
    obtain⟨x,hx⟩:=z5i hi
    have:=h i x hx
    rwa [Nat.zero_add] at this
  · intro h i x hx
    rw [Nat.zero_add]
    exact h i (List.getElem?_eq_some_iff.1 hx).1
def macsN (w:D.Qx):Bool:=w.Qq.QC.zipIdx.all fun x=>macN w x.2
def linksN (w:D.Qx) (n:Nat):Bool:=w.Qq.Qt.zipIdx.all fun x=>linkN w (x.2 / n) (x.2 % n) x.2
def lensN (w:D.Qx):Bool:=decide (w.Qq.QC.length=w.Qa.Qi.Qc.length∧w.Qq.Qc.length=w.Qa.Qi.Qc.length∧w.Qq.Qo.length=w.Qa.Qi.Qc.length∧w.Qq.Qt.length=w.Qa.Qi.Qc.length*w.Qa.Qi.Qc.length∧w.Qq.QK.length=w.Qa.Qi.Qc.length*w.Qa.Qi.Qc.length)
def watN (w:D.Qx):Bool:=clusN w.Qa && (lensN w && ((chansN w.Qa.Qi.Qc.length w.Qq.QK && w.Qq.QC.any id) && (macsN w && linksN w w.Qa.Qi.Qc.length)))
def bothN (w:D.Qx) (n a b:Nat):Bool:=linkN w a b (a*n+b) && listN n (a*n+b) (svN w (a*n+b))
theorem zoM {n:Nat}(hW:Wat w n):(w.Qq.QC.zipIdx.all fun x=>w.Qq.QC.zipIdx.all fun y=>bothN w n x.2 y.2)=(chansN n w.Qq.QK && linksN w n):=by
  have h1:=hW.n1
  rw [Bool.eq_iff_iff,zhR (p:=fun a=>w.Qq.QC.zipIdx.all fun y=>bothN w n a y.2)]
  unfold chansN linksN
  rw [Bool.and_eq_true,Bool.and_eq_true,z87 (p:=fun i ch=>diagN n i ch),z87 (p:=fun i ch=>listN n i ch),zhR (p:=fun i=>linkN w (i / n) (i % n) i),hW.t,hW.r]
  constructor
  · intro h
    have key:∀ i,i<n*n→linkN w (i / n) (i % n) i=true∧listN n i (svN w i)=true:=fun i hi=>by
      have h2:=h (i / n) (Nat.div_lt_of_lt_mul hi)
      rw [zhR (p:=fun b=>bothN w n (i / n) b),hW.t] at h2
      have h3:=h2 (i % n) (Nat.mod_lt _ h1)
      unfold bothN at h3
      rw [Bool.and_eq_true] at h3
      have e:i / n*n+i % n=i:=by rw [Nat.mul_comm];exact Nat.div_add_mod i n
      rw [e] at h3
      exact h3
    refine⟨⟨fun i ch hc=>?_,fun i ch hc=>?_⟩,fun i hi=>(key i hi).1⟩
    · rw [Nat.zero_add]
      have hi:=(List.getElem?_eq_some_iff.1 hc).1
      rw [hW.v] at hi
      have h2:=(key i hi).1
      have h3:svN w i=ch:=zjM hc
      unfold diagN
      unfold linkN at h2
      by_cases e:i / n=i % n
      · rw [if_pos e,Bool.and_eq_true,decide_eq_true_eq,h3] at h2
        rw [dct h2.2,Bool.or_true]
      · rw [dct e,Bool.true_or]
    · rw [Nat.zero_add]
      have hi:=(List.getElem?_eq_some_iff.1 hc).1
      rw [hW.v] at hi
      have h3:svN w i=ch:=zjM hc
      rw [← h3]
      exact(key i hi).2
  · rintro⟨⟨_,h2⟩,h3⟩ a ha
    rw [zhR (p:=fun b=>bothN w n a b),hW.t]
    intro b hb
    have hi:=zqv ha hb
    have ea:(a*n+b) / n=a:=by rw [Nat.mul_comm,Nat.mul_add_div (by omega),Nat.div_eq_of_lt hb,Nat.add_zero]
    have eb:(a*n+b) % n=b:=by rw [Nat.mul_comm,Nat.mul_add_mod,Nat.mod_eq_of_lt hb]
    have h4:=h3 _ hi
    rw [ea,eb] at h4
    have h5:=h2 (a*n+b) _ (zaF ([]:List D.Qe) (show a*n+b<w.Qq.QK.length by rw [hW.v];exact hi))
    rw [Nat.zero_add] at h5
    unfold bothN
    rw [h4,Bool.true_and]
    exact h5
theorem zhs:w.Qq=w.Qq:=rfl
theorem zmM {n:Nat}(hf:Big fu) (hW:Wat w n) (hS:WatS w) (hn:n=w.Qa.Qi.Qc.length):(macsN w=true∧iter (z3y fu w) fu (false,0)=some (.inl (w.Qq.QC.any id)))∨(macsN w=false∧iter (z3y fu w) fu (false,0)=some (.inr false)):=by
  have h4:=hW.n4
  have ht:=hW.t
  have h:=tryLoop (xs:=w.Qq.QC) (body:=z3y fu w) (fu:=fu) (fun i st=>st=((w.Qq.QC.take i).any id,(i:Int))) (fun i _=>macN w i) (fun t=>t=w.Qq.QC.any id) (fun r=>r=false) (s0:=(false,0)) (by omega) hf (by
    rintro i x _ hx rfl
    have hi:=(List.getElem?_eq_some_iff.1 hx).1
    have hin:i<n:=by omega
    have he:z3y fu w ((w.Qq.QC.take i).any id,(i:Int))=z6M fu w ((w.Qq.QC.take i).any id,(i:Int)) ((w.Qq.QC.take i).any id || x):=by
      unfold z3y
      dsimp only
      rw [if_pos (dct (by omega)),zd hx,bsm]
      cases (w.Qq.QC.take i).any id<;>rfl
    rw [he]
    unfold z6M
    dsimp only
    rw [zhs,zpt hf hW hS hin,bsm]
    cases macN w i with
    | false=>exact⟨fun h=>(by cases h),fun _=>⟨_,rfl,rfl⟩⟩
    | true=>
      refine⟨fun _=>⟨_,rfl,?_⟩,fun h=>by cases h⟩
      rw [zdO hx,List.any_append,zf (by omega) (by omega)]
      simp) (by
    rintro _ rfl
    refine⟨_,?_,rfl⟩
    unfold z3y
    rw [if_neg (by simp;omega),List.take_length]) (by simp)
  rcases h with⟨h1,t,h2,rfl⟩ | ⟨h1,r,h2,rfl⟩
  · exact .inl ⟨h1,h2⟩
  · exact .inr ⟨h1,h2⟩
theorem zkU {n:Nat}(hf:Big fu) (hW:Wat w n) (hS:WatS w) (hn:n=w.Qa.Qi.Qc.length):iter (z6N fu w) fu 0=some (if(chansN n w.Qq.QK && linksN w n)=true then .inl () else .inr false):=by
  have hm:maxLen=9223372036854775807:=rfl
  have h4:=hW.n4
  have ht:=hW.t
  rw [← zoM hW]
  refine allLoop (xs:=w.Qq.QC) (body:=z6N fu w) (p:=fun a _=>w.Qq.QC.zipIdx.all fun y=>bothN w n a y.2) (by omega) hf (fun a _ ha _=>?_) (by unfold z6N;rw [if_neg (by simp;omega)])
  unfold z6N
  rw [if_pos (dct (by omega))]
  have h1:=allLoop (xs:=w.Qq.QC) (body:=z8b fu w (a:Int)) (p:=fun b _=>bothN w n a b) (t:=()) (v:=.ret false) (fu:=fu) (by omega) hf (fun b _ hb _=>by
    unfold z8b
    rw [if_pos (dct (by omega)),← hn,zmN hf hW hS (by omega) (by omega),bsm]
    unfold bothN
    cases (linkN w a b (a*n+b) && listN n (a*n+b) (svN w (a*n+b)))<;>rfl) (by
    unfold z8b
    rw [if_neg (by simp;omega)])
  rw [h1,bsm]
  cases (w.Qq.QC.zipIdx.all fun y=>bothN w n a y.2)<;>rfl
theorem zme (hs:w.sz≤1048576) (h:clusN w.Qa=true) (hl:lensN w=true):Wat w w.Qa.Qi.Qc.length:=by
  obtain⟨hS,hC,hk,hh⟩:=zen (zgK hs).1 h
  unfold lensN at hl
  simp only [decide_eq_true_eq] at hl
  exact⟨by omega,hS.n,hl.1,hl.2.1,hl.2.2.1,hl.2.2.2.1,hl.2.2.2.2,hh⟩
theorem sq64 {n:Nat}(h:n≤4):w64 ((n:Int)*(n:Int))=((n*n:Nat):Int):=by
  have:n*n≤16:=Nat.mul_le_mul h h
  rw [show(n:Int)*(n:Int)=((n*n:Nat):Int) by simp]
  exact zf (by omega) (by omega)
theorem neN {x y:Nat}:((x:Int) != (y:Int))=!decide (x=y):=by rw [bne,natB]
theorem zoV (hf:Big fu) (hs:w.sz≤1048576):zan fu w=some (watN w):=by
  obtain⟨zc,hS⟩:=zgK hs
  have ge:w.Qa=w.Qa:=rfl
  have no:z27 fu w true=some false:=by unfold z27;rfl
  unfold zan watN
  rw [ge,zjd hf zc,bsm]
  cases h:clusN w.Qa with
  | false=>rfl
  | true=>
    obtain⟨hG,hC,hk,hh⟩:=zen zc h
    rw [if_neg (by simp),sq64 hG.n,Bool.true_and]
    simp only [neN,no]
    cases hl:lensN w with
    | false=>
      rw [Bool.false_and]
      unfold lensN at hl
      rw [decide_eq_false_iff_not] at hl
      by_cases e1:w.Qq.QC.length=w.Qa.Qi.Qc.length
      · by_cases e2:w.Qq.Qc.length=w.Qa.Qi.Qc.length
        · by_cases e3:w.Qq.Qo.length=w.Qa.Qi.Qc.length
          · by_cases e4:w.Qq.Qt.length=w.Qa.Qi.Qc.length*w.Qa.Qi.Qc.length
            · have e5:¬ w.Qq.QK.length=w.Qa.Qi.Qc.length*w.Qa.Qi.Qc.length:=fun e=>hl ⟨e1,e2,e3,e4,e⟩
              simp [e1,e2,e3,e4,e5,no]
            · simp [e1,e2,e3,e4]
          · simp [e1,e2,e3]
        · simp [e1,e2]
      · simp [e1]
    | true=>
      have hW:=zme hs h hl
      unfold lensN at hl
      simp only [decide_eq_true_eq] at hl
      obtain⟨e1,e2,e3,e4,e5⟩:=hl
      rw [dct e1,dct e2,dct e3,dct e4,dct e5]
      simp only [Bool.not_true,Bool.false_eq_true,if_false,Bool.true_and]
      unfold z27
      rw [if_neg (by simp)]
      rcases zmM hf hW hS rfl with⟨m1,m2⟩ | ⟨m1,m2⟩
      · rw [m2,bsm,z8]
        unfold zbb
        rw [zkU hf hW hS rfl,bsm,m1,Bool.true_and]
        cases chansN w.Qa.Qi.Qc.length w.Qq.QK<;>cases linksN w w.Qa.Qi.Qc.length<;>cases w.Qq.QC.any id<;>rfl
      · rw [m2,bsm,m1,Bool.false_and,Bool.and_false]
        rfl
theorem zkr {xs:List Bool}(hf:Big fu) (hl:xs.length≤maxLen):zA fu xs true=some (xs.any id):=by
  unfold zA z2v
  obtain⟨r,h1,h2⟩:=askIndex (xs:=xs) (p:=id) (body:=zQ fu xs true) (j:=z2O fu) (t:=()) hl hf rfl (fun i x hi hx=>by
    simp only [zQ,zd hx,lt_t (show(i:Int)<xs.length by omega),if_true,bsm]
    cases x<;>rfl) (by simp [zQ])
  rw [h1,bsm,h2]
theorem zoW (hf:Big fu) (hs:w.sz≤1048576):z5h fu w=some (watN w):=by
  have hm:maxLen=9223372036854775807:=rfl
  obtain⟨zc,hS⟩:=zgK hs
  have ge:w.Qa=w.Qa:=rfl
  have no:∀ t,zG fu w t true=some false:=fun t=>by unfold zG;rfl
  unfold z5h watN
  rw [zje hf zc,bsm]
  cases h:clusN w.Qa with
  | false=>rfl
  | true=>
    obtain⟨hG,hC,hk,hh⟩:=zen zc h
    have hn:=hG.n
    unfold z1i z5r
    dsimp only
    rw [if_neg (by simp),bsm,sq64 hn,zfr hf ⟨by omega,hn⟩ hS.v.1 hS.v.2,bsm]
    simp only [neN,no,Bool.true_and]
    cases hl:lensN w with
    | false=>
      rw [Bool.false_and]
      unfold lensN at hl
      rw [decide_eq_false_iff_not] at hl
      by_cases e1:w.Qq.QC.length=w.Qa.Qi.Qc.length
      · by_cases e2:w.Qq.Qc.length=w.Qa.Qi.Qc.length
        · by_cases e3:w.Qq.Qo.length=w.Qa.Qi.Qc.length
          · by_cases e4:w.Qq.Qt.length=w.Qa.Qi.Qc.length*w.Qa.Qi.Qc.length
            · have e5:¬ w.Qq.QK.length=w.Qa.Qi.Qc.length*w.Qa.Qi.Qc.length:=fun e=>hl ⟨e1,e2,e3,e4,e⟩
              simp [e1,e2,e3,e4,e5]
            · simp [e1,e2,e3,e4]
          · simp [e1,e2,e3]
        · simp [e1,e2]
      · simp [e1]
    | true=>
      have hW:=zme hs h hl
      unfold lensN at hl
      simp only [decide_eq_true_eq] at hl
      obtain⟨e1,e2,e3,e4,e5⟩:=hl
      rw [dct e1,dct e2,dct e3,dct e4,dct e5]
      simp only [Bool.not_true,Bool.false_eq_true,if_false,Bool.true_and]
      cases hv:chansN w.Qa.Qi.Qc.length w.Qq.QK with
      | false=>rfl
      | true=>
        rw [if_neg (by simp),zkr hf (by omega),bsm]
        cases hany:w.Qq.QC.any id with
        | false=>rw [Bool.not_false,no];rfl
        | true=>
          unfold zG
          rw [if_neg (by simp),Bool.true_and,Bool.true_and]
          have hA:=allLoop (xs:=w.Qq.QC) (body:=z3e fu ((w.Qq.QC,w.Qq.Qc,w.Qq.Qo,w.Qq.Qt,w.Qq.QK),(w.Qa.Qi.Qc.length:Int))) (p:=fun i _=>macN w i) (t:=()) (v:=false) (fu:=fu) (by omega) hf (fun i _ hi _=>by
            unfold z3e
            dsimp only
            rw [if_pos (dct (by omega)),zhs,zpu hf hW hS (by omega),bsm]
            cases macN w i<;>rfl) (by
            unfold z3e
            rw [if_neg (by simp;omega)])
          rw [hA,bsm]
          unfold macsN
          cases (w.Qq.QC.zipIdx.all fun x=>macN w x.2) with
          | false=>rfl
          | true=>
            rw [if_pos rfl,z8]
            unfold z7X
            have hnn:w.Qa.Qi.Qc.length*w.Qa.Qi.Qc.length≤16:=Nat.mul_le_mul hn hn
            have hB:=allLoop (xs:=w.Qq.Qt) (body:=z3d fu w ((w.Qq.QC,w.Qq.Qc,w.Qq.Qo,w.Qq.Qt,w.Qq.QK),(w.Qa.Qi.Qc.length:Int))) (p:=fun i _=>linkN w (i / w.Qa.Qi.Qc.length) (i % w.Qa.Qi.Qc.length) i) (t:=()) (v:=false) (fu:=fu) (by omega) hf (fun i _ hi _=>by
              have hi2:i<w.Qa.Qi.Qc.length*w.Qa.Qi.Qc.length:=by omega
              have hdk:((i / w.Qa.Qi.Qc.length:Nat):Int)≤(i:Int):=Int.ofNat_le.2 (Nat.div_le_self _ _)
              have hd0:(0:Int)≤((i / w.Qa.Qi.Qc.length:Nat):Int):=Int.natCast_nonneg _
              have h4:=at4 (fu:=fu) (n:=w.Qa.Qi.Qc.length) (a:=i / w.Qa.Qi.Qc.length) (b:=i % w.Qa.Qi.Qc.length) hW hS (Nat.div_lt_of_lt_mul hi2) (Nat.mod_lt i (Nat.pos_of_ne_zero hk)) hi2
              unfold z3d
              dsimp only
              rw [sq64 hn,if_pos (dct (by omega)),if_pos (dct (by omega)),if_pos (dct (by omega)),zkn,tmodN hk,zf (n:=((i / w.Qa.Qi.Qc.length:Nat):Int)) (by omega) (by omega),zmO hf h4,bsm]
              cases linkN w (i / w.Qa.Qi.Qc.length) (i % w.Qa.Qi.Qc.length) i<;>rfl) (by
              unfold z3d
              dsimp only
              rw [sq64 hn,if_neg (by simp;omega)])
            rw [hB,bsm]
            unfold linksN
            cases (w.Qq.Qt.zipIdx.all fun x=>linkN w (x.2 / w.Qa.Qi.Qc.length) (x.2 % w.Qa.Qi.Qc.length) x.2)<;>rfl
end
end Go.E


namespace Go.E
open Go.RowKit Go.Proofs
set_option linter.unusedSimpArgs false
set_option linter.unusedVariables false

section
variable {fu:Nat}{w:D.Qx}
theorem zoS {xs:List Bool}(hf:Big fu) (hl:xs.length≤maxLen):zA fu xs false=some (!xs.all id):=by
  unfold zA z2v
  obtain⟨r,h1,h2⟩:=askIndex (xs:=xs) (p:=fun x=>!id x) (body:=zQ fu xs false) (j:=z2O fu) (t:=()) hl hf rfl (fun i x hi hx=>by
    simp only [zQ,zd hx,lt_t (show(i:Int)<xs.length by omega),if_true,bsm]
    cases x<;>rfl) (by simp [zQ])
  rw [h1,bsm,h2,zbS]
theorem zoD {w:D.Qx}(hf:Big fu) (h1:w.Qq.QC.length≤maxLen) (h2:w.Qq.Qt.length≤maxLen):z8Q fu w=some (w.Qq.QC.all id && !w.Qq.Qt.any id):=by
  unfold z8Q
  have hA:=allLoop (xs:=w.Qq.QC) (body:=z6Q fu w) (p:=fun _ x=>id x) (t:=()) (v:=false) (fu:=fu) h1 hf (fun i x hi hx=>by
    unfold z6Q
    rw [if_pos (dct (by omega)),zd hx,bsm]
    cases x<;>rfl) (by
    unfold z6Q
    rw [if_neg (by simp)])
  rw [z7d (p:=id)] at hA
  rw [hA,bsm]
  cases w.Qq.QC.all id with
  | false=>rfl
  | true=>
    rw [if_pos rfl,z8]
    unfold zac
    have hB:=allLoop (xs:=w.Qq.Qt) (body:=z6P fu w) (p:=fun _ x=>!id x) (t:=()) (v:=false) (fu:=fu) h2 hf (fun i x hi hx=>by
      unfold z6P
      rw [if_pos (dct (by omega)),zd hx,bsm]
      cases x<;>rfl) (by
      unfold z6P
      rw [if_neg (by simp)])
    rw [z7d (p:=fun x=>!id x)] at hB
    have e:(w.Qq.Qt.all fun x=>!id x)=!w.Qq.Qt.any id:=by
      induction w.Qq.Qt with
      | nil=>rfl
      | cons x xs ih=>simp only [List.all_cons,List.any_cons,ih];cases x<;>rfl
    rw [e] at hB
    rw [hB,bsm]
    cases w.Qq.Qt.any id<;>rfl
theorem zjB (hs:w.sz≤1048576):w.Qq.QC.length≤1048576∧w.Qq.Qc.length≤1048576∧(∀ s,s∈w.Qq.Qc→s.sz≤1048576)∧w.Qq.Qo.length≤1048576∧w.Qq.Qt.length≤1048576∧w.Qq.QK.length≤1048576:=by
  unfold D.Qx.sz D.Qq.sz at hs
  have h1:szL D.Qp.sz w.Qq.Qc≤1048576:=by omega
  have h2:szL (fun x:List Int=>x.length) w.Qq.Qo≤1048576:=by omega
  have h3:szL (fun x=>szL D.Qe.sz x) w.Qq.QK≤1048576:=by omega
  exact⟨by omega,z2C h1,fun s hm=>z2G h1 hm,z2C h2,by omega,z2C h3⟩
theorem zpe (hf:Big fu) (hs:w.sz≤1048576):z6L fu w.Qq=some w.Qq:=by
  obtain⟨z1,z2,z3,z4,z5,z6⟩:=zjB hs
  obtain⟨_,hS⟩:=zgK hs
  unfold z6L
  rw [if_pos (dct (by simp only [List.length_nil];omega)),zmu hf z4 hS.c,bsm,if_pos (dct (by simp only [List.length_nil];omega)),zmv hf hS.v.1 hS.v.2,bsm]
  unfold z6u
  have hL:=mapLoop (xs:=w.Qq.Qc) (body:=z4e fu w.Qq) (g:=fun x=>x) z2 hf (fun i x t hx ht=>by
    have hi:=(List.getElem?_eq_some_iff.1 hx).1
    unfold z4e
    dsimp only
    rw [if_pos (dct (by omega)),zd hx,bsm,zmt hf (z3 x (List.mem_of_getElem? hx)),bsm,if_pos (dct (by simp only [List.length_cons,List.length_nil];omega))]) (fun t=>by
    unfold z4e
    rw [if_neg (by simp)])
  rw [zcL] at hL
  dsimp only
  rw [hL,bsm,z8]
  rfl
theorem zgk {xs:List Bool}(hl:xs.length≤1048576):z1Q fu xs=some xs:=by unfold z1Q;rw [if_pos (dct (by simp only [List.length_nil];omega))];rfl
theorem zpV (hf:Big fu) (hs:w.sz≤1048576):z6c fu w=some w:=by
  obtain⟨z1,z2,z3,z4,z5,z6⟩:=zjB hs
  obtain⟨hc,hS⟩:=zgK hs
  unfold z6c
  rw [zoG hf hc,bsm,zgk z1,bsm,zgi hf z4 hS.c,bsm,zgk z5,bsm,zhg hf hS.v.1 hS.v.2,bsm]
  have hL:=mapLoop (xs:=w.Qq.Qc) (body:=z3L fu w) (g:=fun x=>x) z2 hf (fun i x t hx ht=>by
    have hi:=(List.getElem?_eq_some_iff.1 hx).1
    unfold z3L
    dsimp only
    rw [if_pos (dct (by omega)),zd hx,bsm,zhf hf (z3 x (List.mem_of_getElem? hx)),bsm,if_pos (dct (by simp only [List.length_cons,List.length_nil];omega))]) (fun t=>by
    unfold z3L
    rw [if_neg (by simp)])
  rw [zcL] at hL
  rw [hL,bsm,z8]
  rfl

abbrev TupR:=(List D.Qp) × Int × Int × Int × (List (List D.Qe)) × (List (List Int)) × (List Int) × (List Int)
theorem zmi {n:Nat}{r:D.Qq}{t:TupR}(hf:Big fu) (h1:1≤n) (h4:n≤4) (hr:r.Qc.length=n) (hl:t.2.2.2.2.1.length=n*n){z:List Int}(hz:z.length=n):
    ∃ S:List Int,S.length=n∧iter (z2X fu r t) fu (0,z)=some (.inl S)∧iter (z1K fu (n:Int) t) fu (0,z)=some (.inl S):=by
  have d:n*n≤4*4:=Nat.mul_le_mul h4 h4
  obtain⟨o1,o2,a1,a2,S,hS,rfl,rfl⟩:=zqu (b1:=z2X fu r t) (b2:=z1K fu (n:Int) t) (fun i s1 s2=>s1=s2∧s1.1=(i:Int)∧s1.2.length=n) (n*n)
    (fun o1 o2=>∃ S:List Int,S.length=n∧o1=.inl S∧o2=.inl S) (by
    rintro i ⟨a,s⟩ _ hi ⟨rfl,e1,e2⟩
    dsimp only at e1 e2
    subst e1
    obtain⟨ch,hch⟩:=z5i (xs:=t.2.2.2.2.1) (i:=i) (by omega)
    have hq:i / n<n:=(Nat.div_lt_iff_lt_mul (by omega)).2 hi
    have ed0:(i:Int).tdiv (n:Int)=((i / n:Nat):Int):=(Int.ofNat_tdiv i n).symm
    generalize i / n=q at hq ed0
    obtain⟨x,hx⟩:=z5i (xs:=s) (i:=q) (by omega)
    have ed:w64 ((i:Int).tdiv (n:Int))=(q:Int):=by rw [ed0,zf (by omega) (by omega)]
    have ib:decide (0≤(q:Int)∧(q:Int).toNat<s.length)=true:=dct ⟨by omega,by rw [Int.toNat_natCast];omega⟩
    refine .inl ⟨((i:Int)+1,s.set q (w64 (x+(ch.length:Int)))),_,?_,?_,rfl,by simp,by simp [e2]⟩
    · unfold z2X
      dsimp only
      rw [hr,ed,zd hch,zd hx,bsm,bsm,if_pos (dct (by omega)),if_pos (dct (by omega)),if_pos ib,zf (n:=(i:Int)+1) (by omega) (by omega),Int.toNat_natCast]
    · unfold z1K
      dsimp only
      rw [ed,zd hch,zd hx,bsm,bsm,if_pos (dct (by omega)),if_pos (dct (by omega)),if_pos ib,zf (n:=(i:Int)+1) (by omega) (by omega),Int.toNat_natCast]) (by
    rintro⟨a,s⟩ _ ⟨rfl,e1,e2⟩
    dsimp only at e1 e2
    subst e1
    refine⟨s,s,?_,?_,s,e2,rfl,rfl⟩
    · unfold z2X
      rw [if_neg (by simp;omega)]
    · unfold z1K
      rw [if_neg (by simp;omega)]) (fu:=fu) (i:=0) (s1:=(0,z)) (s2:=(0,z)) (by omega) (by omega) ⟨rfl,rfl,hz⟩
  exact⟨S,hS,a1,a2⟩
end
theorem zf1 {fu:Nat}{x:D.Qx}(hf:Big fu) (_hw:D.Qx.wf x) (hs:x.sz≤1048576):∃ r,z5R fu x=some r∧z47 fu x=some r∧r.1.sz≤1048576:=by
  have z0:(⟨(⟨[],(⟨0,0,0⟩:D.Qf)⟩:D.Qi),[],[],[],[]⟩:D.Qa).sz≤1048576:=by decide
  have hm:maxLen=9223372036854775807:=rfl
  obtain⟨z1,z2,z3,z4,z5,z6⟩:=zjB hs
  unfold z5R z47
  rw [zoV hf hs,zoW hf hs,bsm,bsm]
  cases hw9:watN x with
  | false=>exact⟨_,rfl,rfl,z0⟩
  | true=>
    simp only [Bool.not_true,Bool.false_eq_true,if_false]
    unfold z5q z86
    try dsimp only
    rw [zoD hf (by omega) (by omega),zoS hf (by omega),zkr hf (by omega),bsm,bsm]
    have e0:(if(!!x.Qq.QC.all id)=true then(some (x.Qq.Qt.any id)).bind fun r=>some (!r) else some false)=some (x.Qq.QC.all id && !x.Qq.Qt.any id):=by
      cases x.Qq.QC.all id<;>rfl
    first | rw [e0] | simp only [Bool.not_not,bsm]
    cases hd:(x.Qq.QC.all id && !x.Qq.Qt.any id) with
    | false=>exact⟨_,rfl,rfl,z0⟩
    | true=>
      have hwat:=hw9
      unfold watN at hwat
      simp only [Bool.and_eq_true] at hwat
      obtain⟨hc9,d,-⟩:=hwat
      have hW:=zme hs hc9 d
      have hN:=zqf (zgK hs).1 hc9
      have a1:=hN.sl
      have a2:=hN.gl
      have b1:=hW.n1
      have b4:=hW.n4
      have b5:=hW.s
      have b6:=hW.v
      obtain⟨S,hS,i1,i2⟩:=zmi (r:=x.Qq) (n:=x.Qa.Qi.Qc.length) (t:=(x.Qq.Qc,x.Qa.Qi.Qy.Qg,x.Qa.Qi.Qy.Qj,x.Qa.Qi.Qy.Qs,x.Qq.QK,x.Qq.Qo,List.replicate x.Qa.Qi.Qc.length (0:Int),List.replicate x.Qa.Qi.Qc.length (0:Int))) hf b1 b4 b5 b6 (z:=List.replicate x.Qa.Qi.Qc.length (0:Int)) (by simp)
      have hz:(⟨(⟨x.Qq.Qc,x.Qa.Qi.Qy⟩:D.Qi),x.Qq.QK,x.Qq.Qo,S,List.replicate x.Qa.Qi.Qc.length (0:Int)⟩:D.Qa).sz≤1048576:=by
        unfold D.Qx.sz D.Qq.sz D.Qa.sz at hs
        unfold D.Qa.sz D.Qi.sz
        simp only [List.length_replicate]
        omega
      simp only [bsm,Bool.not_true,Bool.false_eq_true,if_false]
      unfold z8y z1i
      rw [zhs,zpe hf hs,zpV hf hs,bsm,bsm,bsm]
      try dsimp only
      rw [b5,if_pos (dct (by omega)),if_pos (dct (by omega)),if_pos (dct (by omega)),if_pos (dct (by omega)),Int.toNat_natCast]
      unfold z6t z3u
      try dsimp only
      rw [i1,i2,bsm,bsm,z8,z8]
      unfold z8F z6m
      try dsimp only
      rw [bsm]
      try dsimp only
      rw [zjd hf hz,zje hf hz,bsm]
      cases clusN (⟨(⟨x.Qq.Qc,x.Qa.Qi.Qy⟩:D.Qi),x.Qq.QK,x.Qq.Qo,S,List.replicate x.Qa.Qi.Qc.length (0:Int)⟩:D.Qa) with
      | false=>exact⟨_,rfl,rfl,z0⟩
      | true=>exact⟨_,rfl,rfl,hz⟩
theorem lawRestoreShot {x0:D.Qx}(h0:D.Qx.wf x0):∃ fu,z3t fu x0=some true:=by
  obtain⟨fu,hf⟩:∃ n:Nat,18446744073709551616≤n:=⟨_,Nat.le_refl _⟩
  refine⟨fu,?_⟩
  unfold z3t
  obtain⟨r0,e0,s0⟩:=zgy (l:=(1048576:Int)) hf h0 (by decide) (by omega)
  rw [e0,bsm]
  rcases s0 with s0 | ⟨s0,t0⟩
  · rw [if_pos (by simp [s0])]
  rw [if_neg (by simp [s0])]
  have z0:D.Qx.sz x0≤1048576:=by omega
  obtain⟨r,a0,a1,b0⟩:=zf1 hf h0 z0
  have m0:=fun {β:Type}(g:_→Option β)=>zd3 (g:=g) a0
  have m1:=fun {β:Type}(g:_→Option β)=>zd3 (g:=g) a1
  have m2:=fun {β:Type}(g:_→Option β)=>zd3 (g:=g) (zgv hf z0)
  have m3:=fun {β:Type}(g:_→Option β)=>zd3 (g:=g) (zgD hf z0)
  have m4:=fun {β:Type}(g:_→Option β) (k:Int) (h0:0≤k) (h1:k+(ctWatched x0:Nat)≤2147483648)=>zd3 (g:=g) (zf2 hf z0 h0 h1)
  have c0:=zj7 (x:=x0)
  have m5:=fun {β:Type}(g:_→Option β)=>zd3 (g:=g) (zdt hf b0)
  have m6:=fun {β:Type}(g:_→Option β) (k:Int) (h0:0≤k) (h1:k+(ctCluster r.1:Nat)≤2147483648)=>zd3 (g:=g) (zf4 hf b0 h0 h1)
  have m7:=fun {β:Type}(g:_→Option β) (k:Int) (h0:0≤k) (h1:k+(ctCluster r.1:Nat)≤2147483648)=>zd3 (g:=g) (zfa hf b0 h0 h1)
  have d0:=zj9 (x:=r.1)
  simp (disch:=omega) only [↓reduceIte,↓m0,↓m1,↓m2,↓m3,↓m4,↓m5,↓m6,↓m7,lt_f,Bool.not_true,Bool.false_eq_true,bne_self_eq_false,zaZ]
  simp (disch:=omega) only [↓reduceIte,↓z1P,↓m0,↓m1,↓m2,↓m3,↓m4,↓m5,↓m6,↓m7,lt_f,Bool.not_true,Bool.false_eq_true,bne_self_eq_false,zaZ]
  simp (disch:=omega) only [↓reduceIte,↓z1o,↓m0,↓m1,↓m2,↓m3,↓m4,↓m5,↓m6,↓m7,lt_f,Bool.not_true,Bool.false_eq_true,bne_self_eq_false,zaZ]
  simp (disch:=omega) only [↓reduceIte,↓z1O,↓m0,↓m1,↓m2,↓m3,↓m4,↓m5,↓m6,↓m7,lt_f,Bool.not_true,Bool.false_eq_true,bne_self_eq_false,zaZ]

end Go.E


namespace Go.Proofs.YteommboffflkbaaGreat.lawRestoreShot
open Go.ChangeShapes Go.WideShapes Go.ChangeAt Go.RowKit Go.E
set_option linter.unusedVariables false

theorem own:ownKnob Tryz.prog.godebug=none:=by kernel_rfl
theorem laidOut:laidOutB Tryz.prog=true:=by kernel_rfl

set_option maxRecDepth 100000 in
theorem lifted (os:Os) (started:os.Started) (H:Type) (enc:TypeId × Value→H):
    ReturnsInHanded {} Tryz.checked os 14 .any (Rows.fnExactRestoreShotSpec.pre6 enc Tryz.prog Tryz.f14 Rows.fnExactRestoreShotRow.domain false) (Rows.fnExactRestoreShotSpec.post enc Tryz.prog Tryz.f14 false true false false):=by
  refine returnsInHanded_of_change (C:=Tryz.checked) own started (by kernel_rfl) Tryz.func14
    (ChangeSpec.witness6 (enc:=enc) (C:=Tryz.checked) false ⟨#[],#[.agg #[.slice none 0 0,.int .i64 0,.int .i64 0,.int .i64 0,.slice none 0 0,.slice none 0 0,.slice none 0 0,.slice none 0 0,.slice none 0 0,.slice none 0 0,.slice none 0 0,.slice none 0 0,.slice none 0 0]],[]⟩ 12 (by kernel_rfl) (by kernel_rfl) (by kernel_rfl) (by kernel_rfl)) ?_
  intro W base args ds gs before hval0 hW hcnd _
  have hval:∀ (j:Nat) t v,Tryz.f14.params[j]? = some t→args[j]? = some v→Value.okWide Tryz.prog W .any base t v:=hval0
  have hW':=hW
  obtain⟨p,q,hA0,hV,rfl,hfz,hnd⟩:=hW
  have hA:DataW.TrodAll enc Tryz.prog W 0 (fun _=>true) true Tryz.f14.params.toList args.toList ds p:=hA0
  rw [Tryz.params14] at hA hval
  obtain⟨v0,vs0,d0,ds0,p0,q0,hargs,rfl,rfl,h0,r0⟩:=trodAll_cons hA
  obtain⟨rfl,rfl,rfl⟩:=trodAll_nil r0
  obtain rfl:args = #[v0]:=by cases args;simp_all
  obtain⟨rfl,rfl⟩:=trodVars_none hV
  have k0:=h0
  have lt0:∀ x∈p0,x.block<W.heap.size:=by obtain⟨m,hm⟩:=k0;exact DataW.trod_lt m _ _ _ hm
  obtain⟨c0,x0,rfl,g0,w0⟩:=zm8 Tryz.underlying69 zq8 (hval 0 69 v0 rfl rfl) h0
  clear hA0 hval0
  obtain⟨fu,hm⟩:=lawRestoreShot (x0:=x0) w0
  refine(laws_FnExactRestoreShot_ok (Ext.refl _) g0 hm).mono ?_
  intro e W' hq
  obtain⟨v,rfl,rfl,hS⟩:=Ret.out hq
  have bel:Below W.heap.size W W':=hS.ext
  exact⟨_,rfl,_,_,_,[],_,[],hW',trodAll_mk1 (shut_bool Tryz.underlying4 _),(trodAll_cons_mk (Below.trod laidOut (by kernel_rfl) (of_decide_eq_true (by kernel_rfl)) k0 bel lt0) trodAll_mk0),rfl,bel.frame _,fun h=>by cases h⟩

set_option maxRecDepth 100000 in
theorem j1:(Rows.fnExactRestoreShotRow.wf (OpenSpec.ofChange Rows.fnExactRestoreShotSpec))=true:=by kernel_rfl
set_option maxRecDepth 100000 in
theorem j2:(laidOutB Tryz.prog)=true:=by kernel_rfl
set_option maxRecDepth 100000 in
theorem j3:(mapsRowed Tryz.prog)=true:=by kernel_rfl
set_option maxRecDepth 100000 in
theorem j4:(Tryz.f14.params.all (Tryz.prog.readableRec ·))=true:=by kernel_rfl
set_option maxRecDepth 100000 in
theorem j5:(namedTie Tryz.prog Rows.fnExactRestoreShotRow.named Rows.fnExactRestoreShotSpec.vars)=true:=by kernel_rfl
set_option maxRecDepth 100000 in
theorem j6:((Rows.fnExactRestoreShotRow.stops == []))=true:=by kernel_rfl
set_option maxRecDepth 100000 in
theorem j7:((Tryz.prog.stops == []))=true:=by kernel_rfl
set_option maxRecDepth 100000 in
theorem j8:((Rows.fnExactRestoreShotRow.knobs == []))=true:=by kernel_rfl
set_option maxRecDepth 100000 in
theorem j9:((Tryz.prog.stopKnobs == []))=true:=by kernel_rfl
set_option maxRecDepth 100000 in
theorem j10:((Rows.fnExactRestoreShotRow.inPlace == Tryz.prog.inPlace 14))=true:=by kernel_rfl
set_option maxRecDepth 100000 in
theorem j11:((Rows.fnExactRestoreShotRow.unfollowed == Tryz.prog.unfollowed 14))=true:=by kernel_rfl
set_option maxRecDepth 100000 in
theorem j12:((Rows.fnExactRestoreShotRow.recurses == Tryz.prog.recurses 14))=true:=by kernel_rfl
set_option maxRecDepth 100000 in
theorem j13:((Rows.fnExactRestoreShotRow.named == Tryz.prog.varsNamed 14))=true:=by kernel_rfl
set_option maxRecDepth 100000 in
theorem j14:((Rows.fnExactRestoreShotRow.maps == (Tryz.f14.params.toList++Rows.fnExactRestoreShotSpec.plain.varTypes Tryz.prog).any (Tryz.prog.mapsRec ·)))=true:=by kernel_rfl
set_option maxRecDepth 100000 in
theorem j15:((Rows.fnExactRestoreShotRow.ifaces == (Tryz.f14.params.toList++Rows.fnExactRestoreShotSpec.plain.varTypes Tryz.prog).any (Tryz.prog.ifacesRec ·)))=true:=by kernel_rfl
set_option maxRecDepth 100000 in
theorem j16:((Rows.fnExactRestoreShotRow.mapsOut == Tryz.prog.mapsAmong Tryz.f14.resultTypes.toList))=true:=by kernel_rfl
set_option maxRecDepth 100000 in
theorem j17:((Rows.fnExactRestoreShotRow.loops == (Tryz.f14.params.toList++Rows.fnExactRestoreShotSpec.plain.varTypes Tryz.prog).any (Tryz.prog.loopsFrom ·)))=true:=by kernel_rfl
set_option maxRecDepth 100000 in
theorem j18:((Rows.fnExactRestoreShotRow.wideKeys == (Tryz.f14.params.toList++Rows.fnExactRestoreShotSpec.plain.varTypes Tryz.prog++Tryz.f14.resultTypes.toList).any (Tryz.prog.wideKeysFrom ·)))=true:=by kernel_rfl
set_option maxRecDepth 100000 in
theorem j19:(Rows.fnExactRestoreShotSpec.vars.all (Tryz.prog.varReadable ·))=true:=by kernel_rfl
set_option maxRecDepth 100000 in
theorem j20:(Tryz.f14.resultTypes.all (fun t=>Tryz.prog.readableRec t && decide (t<Tryz.prog.types.size)))=true:=by kernel_rfl
set_option maxRecDepth 100000 in
theorem j21:((Rows.fnExactRestoreShotRow.ifacesOut == Tryz.f14.resultTypes.toList.any (Tryz.prog.ifacesRec ·)))=true:=by kernel_rfl
set_option maxRecDepth 100000 in
theorem j22:((Rows.fnExactRestoreShotRow.loopsOut == Tryz.f14.resultTypes.toList.any (Tryz.prog.loopsFrom ·)))=true:=by kernel_rfl
set_option maxRecDepth 100000 in
theorem j23:((Rows.fnExactRestoreShotRow.plainKeys == Tryz.prog.plainKeys))=true:=by kernel_rfl
set_option maxRecDepth 100000 in
theorem j24:(Rows.fnExactRestoreShotRow.shortTexts.isNone)=true:=by kernel_rfl
set_option maxRecDepth 100000 in
theorem j25:(Tryz.prog.stopsHeard)=true:=by kernel_rfl
set_option maxRecDepth 100000 in
theorem j26:(Tryz.prog.mayEnter)=true:=by kernel_rfl
set_option maxRecDepth 100000 in
theorem j27:((Rows.fnExactRestoreShotRow.lifted == Tryz.prog.liftsFinal))=true:=by kernel_rfl
set_option maxRecDepth 100000 in
theorem j28:((Tryz.prog.make == some Rows.fnExactRestoreShotRow.make))=true:=by kernel_rfl
set_option maxRecDepth 100000 in
theorem j29:((Rows.fnExactRestoreShotRow.kinds == (if Rows.fnExactRestoreShotRow.domain.isEmpty then [] else Tryz.f14.params.toList.map fun t=>match Tryz.prog.underlying t with | some (.int k)=>some k | _=>none)))=true:=by kernel_rfl
set_option maxRecDepth 100000 in
theorem j30:((Rows.fnExactRestoreShotRow.pinned == Rows.fnExactRestoreShotRow.pinnedBy))=true:=by kernel_rfl
set_option maxRecDepth 100000 in
theorem j31:((Rows.fnExactRestoreShotRow.veiled == (Tryz.f14.params.toList++Rows.fnExactRestoreShotSpec.plain.varTypes Tryz.prog++Tryz.f14.resultTypes.toList).any (Tryz.prog.veiledRec ·)))=true:=by kernel_rfl
set_option maxRecDepth 100000 in
theorem j32:(Rows.fnExactRestoreShotRow.veiledFits Tryz.prog Tryz.f14.params.toList (Tryz.f14.params.toList++Rows.fnExactRestoreShotSpec.plain.varTypes Tryz.prog++Tryz.f14.resultTypes.toList))=true:=by kernel_rfl
set_option maxRecDepth 100000 in
theorem closed:joinedFacts Tryz.prog 14 Tryz.f14 Rows.fnExactRestoreShotSpec Rows.fnExactRestoreShotRow=true:=by
  unfold joinedFacts
  simp only [Bool.and_eq_true]
  exact⟨⟨⟨⟨⟨⟨⟨⟨⟨⟨⟨⟨⟨⟨⟨⟨⟨⟨⟨⟨⟨⟨⟨⟨⟨⟨⟨⟨⟨⟨⟨j1,j2⟩,j3⟩,j4⟩,j5⟩,j6⟩,j7⟩,j8⟩,j9⟩,j10⟩,j11⟩,j12⟩,j13⟩,j14⟩,j15⟩,j16⟩,j17⟩,j18⟩,j19⟩,j20⟩,j21⟩,j22⟩,j23⟩,j24⟩,j25⟩,j26⟩,j27⟩,j28⟩,j29⟩,j30⟩,j31⟩,j32⟩
set_option maxRecDepth 100000 in
theorem wraps:Tryz.f14.isWrapper Tryz.prog Rows.fnExactRestoreShotRow.wrapper Rows.fnExactRestoreShotRow.mainSum:=by
  unfold Func.isWrapper;first | (rw [if_pos (by decide +kernel)];kernel_rfl) | (rw [if_neg (by decide +kernel)];exact⟨rfl,rfl⟩)
theorem instd:Tryz.f14.isInstance Tryz.prog Rows.fnExactRestoreShotRow.origin Rows.fnExactRestoreShotRow.targs:=of_decide_eq_true (by kernel_rfl)

set_option maxRecDepth 100000 in
theorem over:Rows.fnExactRestoreShotRow.holds Tryz.pinned (OpenSpec.ofChange Rows.fnExactRestoreShotSpec):=
  OpenClaim.holds_of_wide 14 Tryz.f14 rfl rfl rfl rfl rfl rfl rfl ⟨rfl,rfl,rfl,rfl,rfl⟩ rfl rfl rfl rfl rfl (by kernel_rfl) Tryz.func14 closed instd wraps
    (fun os started H enc _=>lifted os started H enc)

theorem proved:Rows.FnExactRestoreShotSaid:=over
#print axioms proved
end Go.Proofs.YteommboffflkbaaGreat.lawRestoreShot

