/- Maps of one's own: made, looked up, written; their data are the lists of their entries. Conditions: none (rules). -/
import Derived.Test.YtfndicpnccabkaaGreatDrawOwn
import Derived.MapKept
import Derived.ChangeMaps4
set_option linter.unusedVariables false
set_option linter.unusedSimpArgs false
namespace Go.E
open Go.RowKit Go.MapKept
set_option linter.unusedSectionVars false


structure KeyOk (P:Program){κ:Type}(kt:Nat) (ek:κ→Value):Prop where
 inj:∀ {a b:κ},ek a=ek b→a=b
 check:∀ (e:Bool) (w:World) (k:κ),(Instr.checkKey e 10000 kt (ek k)).run P w=.ok () w
 find:∀ (w:World) (k:κ) (es:List MapEntry),(∀ e,e∈es→∃ k',e.key=ek k')→
  ((Instr.findKey kt (ek k) es).run P w=.ok none w∧∀ e,e∈es→e.key≠ek k)∨∃ j e,(Instr.findKey kt (ek k) es).run P w=.ok (some (j,e.val)) w∧es[j]? = some e∧e.key=ek k
 stays:∀ (w:World) (k:κ),(Instr.keyThatStays (ek k) (ek k)).run P w=.ok (ek k) w

def ziE:Value→Bool
 | .int _ _ | .bool _ | .string _=>true
 | _=>false

theorem ziF {v:Value}(h:ziE v=true)(n:Nat):Instr.sameBits n v v=true:=by
 cases v<;>simp[ziE] at h<;>cases n<;>simp[Instr.sameBits,bytes_beq]

theorem zvh {cs:List Value}(h:cs.all ziE=true)(n:Nat):Instr.sameBits (n+1) (.agg ⟨cs⟩) (.agg ⟨cs⟩)=true:=by
 simp only[Instr.sameBits,beq_self_eq_true,Bool.true_and]
 rw[List.all_eq_true] at h ⊢
 intro p hp
 have q:p∈cs.zip cs:=hp
 obtain⟨x,y⟩:=p
 have hx:=(List.of_mem_zip q).1
 have G:x=y:=by
  obtain⟨i,hi,he⟩:=List.getElem_of_mem q
  simp at he
  rw[← he.1,← he.2]
 subst G
 exact ziF (h x hx) n

theorem KeyOk.plain {P:Program}{κ:Type}{kt:Nat}{ek:κ→Value}{d:TypeDesc}(hd:P.underlying kt=some d)(hk:∀ k,IsKey d (ek k))(hs:∀ k,ziE (ek k)=true)(hi:∀ {a b:κ},ek a=ek b→a=b):KeyOk P kt ek where
 inj:=hi
 check e w k:=run_checkKey hd (hk k) e 9999
 find w k es hes:=by
  rcases findNow_spec (hk k) es 0 (fun e he=>by obtain⟨k',h⟩:=hes e he;rw[h];exact hk k') with⟨h1,h2⟩ | ⟨j,e0,h1,h2,h3⟩
  ·exact .inl ⟨run_findKey hd h1,h2⟩
  ·exact .inr ⟨j,e0,by simpa using run_findKey (P:=P) (w:=w) hd h1,h2,h3⟩
 stays w k:=by
  unfold Instr.keyThatStays
  rw[ziF (hs k)]
  simp

theorem KeyOk.int {P:Program}{kt:Nat}{q:IntKind}(hd:P.underlying kt=some (.int q)):KeyOk P kt (Value.int q):=
 KeyOk.plain hd (fun k=>rfl) (fun k=>rfl) (fun h=>by simpa using h)
theorem KeyOk.str {P:Program}{kt:Nat}(hd:P.underlying kt=some .string):KeyOk P kt Value.string:=
 KeyOk.plain hd (fun k=>trivial) (fun k=>rfl) (fun h=>by simpa using h)

section
variable {P:Program}{T:TT}

theorem zfU (ht:TTok P T){td:TD}{xs ys:List Value}{b:Bool}(h:zhm td xs ys=some b){t:Nat}{i:TI}(hi:T.get t=some i)(q:i.d=td)(em:Bool)(d:Nat)(w:World){x:Value}(hx:zhD i xs x):
  (Instr.checkKey em (d+1) t x).run P w=.ok () w:=by
 unfold zhm at h
 split at h
 ·have G:i.agg=false:=by unfold TI.agg;rw[q]
  rcases hx with⟨h1,_⟩ | ⟨_,hx⟩
  ·rw[G] at h1;cases h1
  simp only[List.cons.injEq,and_true] at hx
  subst hx
  unfold Instr.checkKey
  simp[Go.underlying,ht.int hi q]
 ·have G:i.agg=false:=by unfold TI.agg;rw[q]
  rcases hx with⟨h1,_⟩ | ⟨_,hx⟩
  ·rw[G] at h1;cases h1
  simp only[List.cons.injEq,and_true] at hx
  subst hx
  unfold Instr.checkKey
  simp[Go.underlying,ht.bool hi q]
 ·have G:i.agg=false:=by unfold TI.agg;rw[q]
  rcases hx with⟨h1,_⟩ | ⟨_,hx⟩
  ·rw[G] at h1;cases h1
  simp only[List.cons.injEq,and_true] at hx
  subst hx
  unfold Instr.checkKey
  simp[Go.underlying,ht.str hi q]
 ·cases h

theorem zp4 (ht:TTok P T){E:TD→List Value→List Value→Option Bool}(hE:Shaped E)(em:Bool)(d:Nat)
  (he:∀ (td:TD) (xs ys:List Value) (b:Bool),E td xs ys=some b→∀ (t:Nat) (i:TI),T.get t=some i→i.d=td→∀ (w:World),∀ x,zhD i xs x→(Instr.checkKey em d t x).run P w=.ok () w):
  ∀ (gs:List (Nat×Nat×Bool×Nat)) (xs ys:List Value) (b:Bool),eqfs T E gs xs ys=some b→∀ (fs:List Field),z5j P fs gs=true→∀ (w:World),
   (forIn fs PUnit.unit (fun f (_:PUnit)=>
    if f.name≠ "_" then(do
     let v ← part f.type ⟨xs⟩ f.offset
     Instr.checkKey em d f.type v
     pure (ForInStep.yield PUnit.unit))
    else pure (ForInStep.yield PUnit.unit)):Sem PUnit).run P w=.ok PUnit.unit w:=by
 intro gs
 induction gs with
 | nil=>
  intro xs ys b h fs q w
  cases fs with
  | nil=>simp
  | cons f fs=>simp[z5j] at q
 | cons g gs ih=>
  intro xs ys b h fs q w
  cases fs with
  | nil=>simp[z5j] at q
  | cons f fs=>
   simp only[z5j,Bool.and_eq_true] at q
   obtain⟨X,G⟩:=q
   simp only[zgY,Bool.and_eq_true] at X
   obtain⟨⟨⟨⟨⟨ho,a0⟩,Y⟩,_⟩,_⟩,_⟩:=X
   have O:=Nat.eq_of_beq_eq_true a0
   have Z:=Nat.eq_of_beq_eq_true ho
   unfold eqfs at h
   split at h
   ·rename_i i hi
    split at h
    ·rename_i a c ha hc
     obtain⟨x,y,hx,hy⟩:=hE i _ _ a ha
     have H:f.name≠ "_":=by simpa using Y
     have e1:=zhS ht hi hx w
     have e3:=he i.d _ _ a ha g.2.2.2 i hi rfl w x hx
     rw[← O,← Z] at *
     simp only[List.forIn_cons,Sem.run_bind,H,ne_eq,not_false_eq_true,if_true,Result.andThen_ok,e1,e3,Sem.run_pure]
     simpa using ih xs ys c hc fs G w
    ·cases h
   ·cases h

theorem zm1 (ht:TTok P T)(em:Bool):∀ (n:Nat) (td:TD) (xs ys:List Value) (b:Bool),eqc T n td xs ys=some b→∀ (t:Nat) (i:TI),T.get t=some i→i.d=td→∀ (d:Nat) (w:World),n<d→∀ x,zhD i xs x→(Instr.checkKey em d t x).run P w=.ok () w:=by
 intro n
 induction n with
 | zero=>
  intro td xs ys b h t i hi q d w hd x hx
  obtain⟨d,rfl⟩:∃ d',d=d'+1:=⟨d - 1,by omega⟩
  exact zfU ht h hi q em d w hx
 | succ n ih=>
  intro td xs ys b h t i hi q d w hd x hx
  obtain⟨d,rfl⟩:∃ d',d=d'+1:=⟨d - 1,by omega⟩
  cases td with
  | struct gs=>
   have G:i.agg=true:=by unfold TI.agg;rw[q]
   rcases hx with⟨_,rfl⟩ | ⟨h1,_⟩
   case inr=>rw[G] at h1;cases h1
   obtain⟨dd,h1,h2,_⟩:=ht.desc hi
   rw[q] at h2
   cases dd<;>simp only[zdu,Bool.false_eq_true] at h2
   rename_i fs _
   have key:=zp4 ht (zkr n) em d (fun td xs ys b h t i hi q w x hx=>ih td xs ys b h t i hi q d w (by omega) x hx) gs xs ys b h fs.toList h2 w
   unfold Instr.checkKey
   simp only[Sem.run_bind,run_underlying h1,Result.andThen_ok]
   rw[← Array.forIn_toList]
   refine Eq.trans (congrArg (fun r=>Result.andThen r _) key) ?_
   simp
  | _=>exact zfU ht h hi q em d w hx

theorem zej {κ:Type}{kt:Nat}{ek:κ→Value}(w:World)(Y:∀ a b:κ,∃ r:Bool,(Op.equal kt (ek a) (ek b)).run P w=.ok r w∧(r=true↔a=b))(k:κ):
  ∀ (es:List MapEntry) (i:Nat),(∀ e,e∈es→∃ k',e.key=ek k')→
   ((Instr.findAsking kt (ek k) es i).run P w=.ok none w∧∀ e,e∈es→∀ k',e.key=ek k'→k'≠k)∨
   ∃ j e,(Instr.findAsking kt (ek k) es i).run P w=.ok (some (i+j,e.val)) w∧es[j]? = some e∧e.key=ek k
 | [],i,_=>.inl ⟨by simp[Instr.findAsking],by simp⟩
 | e::es,i,hall=>by
  obtain⟨k1,G⟩:=hall e (by simp)
  obtain⟨r,hr,H⟩:=Y k k1
  rw[← G] at hr
  cases r with
  | false=>
   have Z:k1≠k:=fun h=>by have:=H.2 h.symm;cases this
   rcases zej w Y k es (i+1) (fun y hy=>hall y (by simp[hy])) with⟨h1,h2⟩ | ⟨j,e',h1,h2,h3⟩
   ·refine .inl ⟨by simp[Instr.findAsking,hr,h1],fun y hy k' X=>?_⟩
    rcases List.mem_cons.1 hy with rfl | hy
    ·rintro rfl
     obtain⟨r2,q,O⟩:=Y k' k'
     rw[← X] at q
     rw[X] at hr
     rw[X] at q
     rw[hr] at q
     cases q
     have:=O.2 rfl
     cases this
    ·exact h2 y hy k' X
   ·exact .inr ⟨j+1,e',by simp[Instr.findAsking,hr,h1];omega,by simpa using h2,h3⟩
  | true=>
   refine .inr ⟨0,e,by simp[Instr.findAsking,hr],rfl,?_⟩
   rw[G,H.1 rfl]

theorem KeyOk.struct (ht:TTok P T){κ:Type}{kt:Nat}{i:TI}{gs:List (Nat×Nat×Bool×Nat)}(hi:T.get kt=some i)(hd:i.d=.struct gs){cells:κ→List Value}{b:κ→κ→Bool}
  (he:∀ x y,eqc T 9 (.struct gs) (cells x) (cells y)=some (b x y))(hb:∀ x y,b x y=true↔x=y)(hs:∀ k,(cells k).all ziE=true)(q:∀ {a b:κ},cells a=cells b→a=b):
  KeyOk P kt (fun k=>.agg ⟨cells k⟩) where
 inj:=fun {a b} h=>q (by simpa using h)
 check e w k:=zm1 ht e 9 _ _ _ _ (he k k) kt i hi hd 10000 w (by omega) _ (.inl ⟨by unfold TI.agg;rw[hd],rfl⟩)
 find w k es hes:=by
  have H:i.agg=true:=by unfold TI.agg;rw[hd]
  have O:∀ x y:κ,∃ r:Bool,(Op.equal kt (.agg ⟨cells x⟩) (.agg ⟨cells y⟩)).run P w=.ok r w∧(r=true↔x=y):=fun x y=>
   ⟨b x y,by
    unfold Op.equal
    exact zp2 ht 9 _ _ _ _ (he x y) kt i hi hd _ w (by decide) _ _ (.inl ⟨H,rfl⟩) (.inl ⟨H,rfl⟩),hb x y⟩
  obtain⟨dd,h1,h2,_⟩:=ht.desc hi
  rw[hd] at h2
  cases dd<;>simp only[zdu,Bool.false_eq_true] at h2
  rename_i fs _
  have hk:=zej (ek:=fun k=>Value.agg ⟨cells k⟩) w O k es 0 hes
  cases es with
  | nil=>exact .inl ⟨by simp[Instr.findKey,run_underlying h1,Instr.findNow],by simp⟩
  | cons e es=>
   have X:Instr.findNow (.struct fs) (.agg ⟨cells k⟩) (e::es) 0=none:=by simp[Instr.findNow,Instr.sameNow]
   have G:(Instr.findKey kt (.agg ⟨cells k⟩) (e::es)).run P w=(Instr.findAsking kt (.agg ⟨cells k⟩) (e::es) 0).run P w:=by
    unfold Instr.findKey
    simp only[Sem.run_bind,run_underlying h1,Result.andThen_ok,X]
   rw[G]
   rcases hk with⟨a1,a2⟩ | ⟨j,e',a1,a2,a3⟩
   ·refine .inl ⟨a1,fun y hy Y=>?_⟩
    exact a2 y hy k Y rfl
   ·exact .inr ⟨j,e',by simpa using a1,a2,a3⟩
 stays w k:=by
  unfold Instr.keyThatStays
  rw[zvh (hs k) 9999]
  simp
end


section
variable {κ α:Type}[DecidableEq κ]
def mget:List (κ×α)→κ→Option α
 | [],_=>none
 | p::m,k=>if p.1=k then some p.2 else mget m k
def mput:List (κ×α)→κ→α→List (κ×α)
 | [],k,x=>[(k,x)]
 | p::m,k,x=>if p.1=k then(k,x)::m else p::mput m k x
theorem znw {m:List (κ×α)}{k:κ}(h:∀ p,p∈m→p.1≠k):mget m k=none:=by
 induction m with
 | nil=>rfl
 | cons p m ih=>unfold mget;rw[if_neg (h p (by simp))];exact ih fun q hq=>h q (by simp[hq])
theorem zsE {m:List (κ×α)}(hn:(m.map (·.1)).Nodup){j:Nat}{k:κ}{x:α}(h:m[j]? = some (k,x)):mget m k=some x:=by
 induction m generalizing j with
 | nil=>simp at h
 | cons p m ih=>
  simp only[List.map_cons,List.nodup_cons] at hn
  unfold mget
  cases j with
  | zero=>simp only[List.getElem?_cons_zero,Option.some.injEq] at h;subst h;simp
  | succ j=>
   simp only[List.getElem?_cons_succ] at h
   have hm:k∈m.map (·.1):=List.mem_map.2 ⟨(k,x),List.mem_of_getElem? h,rfl⟩
   rw[if_neg (fun e=>hn.1 (by rw[e];exact hm))]
   exact ih hn.2 h
theorem zet {m:List (κ×α)}{k:κ}{x:α}(h:∀ p,p∈m→p.1≠k):mput m k x=m++[(k,x)]:=by
 induction m with
 | nil=>rfl
 | cons p m ih=>unfold mput;rw[if_neg (h p (by simp)),ih fun q hq=>h q (by simp[hq])];rfl
theorem ziZ {m:List (κ×α)}(hn:(m.map (·.1)).Nodup){j:Nat}{k:κ}{x y:α}(h:m[j]? = some (k,x)):mput m k y=m.set j (k,y):=by
 induction m generalizing j with
 | nil=>simp at h
 | cons p m ih=>
  simp only[List.map_cons,List.nodup_cons] at hn
  unfold mput
  cases j with
  | zero=>simp only[List.getElem?_cons_zero,Option.some.injEq] at h;subst h;simp
  | succ j=>
   simp only[List.getElem?_cons_succ] at h
   have hm:k∈m.map (·.1):=List.mem_map.2 ⟨(k,x),List.mem_of_getElem? h,rfl⟩
   rw[if_neg (fun e=>hn.1 (by rw[e];exact hm)),ih hn.2 h]
   rfl
theorem ziY {m:List (κ×α)}{k:κ}{x y:α}:mput (mput m k x) k y=mput m k y:=by
 induction m with
 | nil=>simp[mput]
 | cons p m ih=>
  simp only[mput]
  by_cases h:p.1=k
  ·simp[mput,h]
  ·simp[mput,h,ih]
theorem zdh {m:List (κ×α)}{k k':κ}{x:α}:mget (mput m k x) k'=if k=k' then some x else mget m k':=by
 induction m with
 | nil=>simp[mput,mget]
 | cons p m ih=>
  unfold mput
  by_cases h:p.1=k
  ·rw[if_pos h]
   unfold mget
   by_cases h2:k=k'
   ·simp[h2]
   ·simp[h2,h]
  ·rw[if_neg h]
   unfold mget
   by_cases h2:p.1=k'
   ·rw[if_pos h2,if_neg (fun e=>h (h2.trans e.symm)),if_pos h2]
   ·rw[if_neg h2,ih,if_neg h2]
end


section
variable {κ α:Type}

def zdy (ek:κ→Value)(ev:α→Value)(w:World)(g:Nat)(m:List (κ×α)):Prop:=
 ∃ es q,w.heap[g]? = some (.map es q)∧es.toList.map (fun e=>(e.key,e.val))=m.map (fun p=>(ek p.1,ev p.2))∧(m.map (·.1)).Nodup∧Stamped es q

theorem zjd {w:World}{g:Nat}{o:Obj}(h:w.heap[g]? = some o):g<w.heap.size:=(Array.getElem?_eq_some_iff.1 h).1

theorem zdy.same {ek:κ→Value}{ev:α→Value}{w w':World}{g:Nat}{m:List (κ×α)}(h:zdy ek ev w g m)(hs:w'.heap[g]? = w.heap[g]?):zdy ek ev w' g m:=by
 obtain⟨es,c,h1,h2⟩:=h
 exact⟨es,c,by rw[hs];exact h1,h2⟩
theorem zdy.lt {ek:κ→Value}{ev:α→Value}{w:World}{g:Nat}{m:List (κ×α)}(h:zdy ek ev w g m):g<w.heap.size:=by
 obtain⟨es,c,h1,h2⟩:=h
 exact zjd h1
theorem zdy.live {ek:κ→Value}{ev:α→Value}{B:Base}{g:Nat}{m:List (κ×α)}(h:zdy ek ev B.W g m):¬ B.fr g:=by
 have hl:=h.lt
 obtain⟨es,c,h1,h2⟩:=h
 rintro(h3 | h3)
 ·omega
 ·rw[B.gone g h3 hl] at h1;cases h1
theorem zdy.ext {ek:κ→Value}{ev:α→Value}{B C:Base}{g:Nat}{m:List (κ×α)}(h:zdy ek ev B.W g m)(he:Ext B C):zdy ek ev C.W g m:=h.same (he.same h.live)

def tMp (ek:κ→Value)(ev:α→Value):Ty (List (κ×α)) where
 size:=1
 ro:=fun w cs m=>∃ g,cs=[.map (some g)]∧zdy ek ev w g m
 own:=fun w cs m G=>∃ g,cs=[.map (some g)]∧zdy ek ev w g m∧G=[g]
 req:=fun _=>True
 len:=by rintro _ _ _ ⟨g,rfl,_⟩;rfl
 lenO:=by rintro _ _ _ _ ⟨g,rfl,_⟩;rfl
 ext:=by rintro _ _ _ _ he ⟨g,rfl,h⟩;exact⟨g,rfl,h.ext he⟩
 own_ro:=by rintro _ _ _ _ ⟨g,rfl,h,_⟩ _;exact⟨g,rfl,h⟩
 loc:=by rintro _ _ _ _ _ ⟨g,rfl,h,rfl⟩ hs;exact⟨g,rfl,h.same (hs g (by simp)),rfl⟩
 lt:=by rintro _ _ _ _ ⟨g,rfl,h,rfl⟩ g' hg;simp at hg;subst hg;exact h.lt
 one:=by rintro _ _ _ ⟨g,rfl,_⟩ u hu;simp at hu;subst hu;rfl
 oneO:=by rintro _ _ _ _ ⟨g,rfl,_⟩ u hu;simp at hu;subst hu;rfl

instance {W:Base}{ek:κ→Value}{ev:α→Value}:Reads W (tMp ek ev):=⟨fun _=>trivial⟩

theorem zy9 {ek:κ→Value}{ev:α→Value}{w:World}{g:Nat}{m:List (κ×α)}(h:(tMp ek ev).ro w [.map (some g)] m):zdy ek ev w g m:=by
 obtain⟨g',h1,h2⟩:=h
 simp only[List.cons.injEq,Value.map.injEq,Option.some.injEq,and_true] at h1
 subst h1
 exact h2
end


structure MapOk (P:Program){κ α:Type}(t k e:Nat) (ek:κ→Value) (ev:α→Value) (z:α):Prop where
 und:P.underlying t=some (.map k e)
 zero:(P.info? e).bind (fun i=>i.zero)=some (ev z)
 key:KeyOk P k ek

section
variable {P:Program}{κ α:Type}[DecidableEq κ] {t k e:Nat}{ek:κ→Value}{ev:α→Value}{z:α}

theorem MapOk.run_zero (h:MapOk P t k e ek ev z)(w:World):(zeroValue e).run P w=.ok (ev z) w:=by
 have hz:=h.zero
 cases hi:P.info? e with
 | none=>rw[hi] at hz;cases hz
 | some i=>
  rw[hi] at hz
  simp only[bsm] at hz
  simp[zeroValue,typeInfo,hi,hz]

theorem zms {es:Array MapEntry}{m:List (κ×α)}(h:es.toList.map (fun e=>(e.key,e.val))=m.map (fun p=>(ek p.1,ev p.2))){j:Nat}{x:MapEntry}(hx:es.toList[j]? = some x):
  ∃ p,m[j]? = some p∧x.key=ek p.1∧x.val=ev p.2:=by
 have h1:=congrArg (fun l=>l[j]?) h
 simp only[List.getElem?_map,hx,Option.map_some] at h1
 cases hm:m[j]? with
 | none=>rw[hm] at h1;cases h1
 | some p=>
  rw[hm] at h1
  simp only[Option.map_some,Option.some.injEq,Prod.mk.injEq] at h1
  exact⟨p,rfl,h1.1,h1.2⟩

theorem zvZ {es:Array MapEntry}{m:List (κ×α)}(h:es.toList.map (fun e=>(e.key,e.val))=m.map (fun p=>(ek p.1,ev p.2))):∀ x,x∈es.toList→∃ k',x.key=ek k':=fun x hx=>by
 obtain⟨j,hj⟩:=List.getElem?_of_mem hx
 obtain⟨p,_,h1,_⟩:=zms h hj
 exact⟨p.1,h1⟩


theorem MapOk.find (h:MapOk P t k e ek ev z){es:Array MapEntry}{m:List (κ×α)}(hr:es.toList.map (fun e=>(e.key,e.val))=m.map (fun p=>(ek p.1,ev p.2)))(hn:(m.map (·.1)).Nodup)(w:World)(kk:κ):
  ((Instr.findKey k (ek kk) es.toList).run P w=.ok none w∧mget m kk=none∧(∀ p,p∈m→p.1≠kk)∧∀ x,x∈es.toList→x.key≠ek kk)∨
  ∃ j x0 v,(Instr.findKey k (ek kk) es.toList).run P w=.ok (some (j,ev v)) w∧es[j]? = some x0∧x0.key=ek kk∧m[j]? = some (kk,v)∧mget m kk=some v:=by
 rcases h.key.find w kk es.toList (zvZ hr) with⟨h1,h2⟩ | ⟨j,x0,h1,h2,h3⟩
 ·have hm:∀ p,p∈m→p.1≠kk:=fun p hp q=>by
   obtain⟨j,hj⟩:=List.getElem?_of_mem hp
   have h4:=congrArg (fun l=>l[j]?) hr
   simp only[List.getElem?_map,hj,Option.map_some] at h4
   cases hx:es.toList[j]? with
   | none=>rw[hx] at h4;cases h4
   | some x=>
    rw[hx] at h4
    simp only[Option.map_some,Option.some.injEq,Prod.mk.injEq] at h4
    exact h2 x (List.mem_of_getElem? hx) (by rw[h4.1,q])
  exact .inl ⟨h1,znw hm,hm,h2⟩
 ·obtain⟨p,hp,hk,hv⟩:=zms hr h2
  have q:p.1=kk:=h.key.inj (by rw[← hk,h3])
  obtain⟨p1,p2⟩:=p
  simp only at q hv
  subst q
  exact .inr ⟨j,x0,p2,by rw[h1,hv],by simpa using h2,h3,hp,zsE hn hp⟩

theorem MapOk.run_lookup (h:MapOk P t k e ek ev z){w:World}{g:Nat}{m:List (κ×α)}(hm:zdy ek ev w g m)(kk:κ)(ok:Bool):
  (Instr.lookup t (.map (some g)) (ek kk) ok).run P w=.ok (if ok then .tuple #[ev ((mget m kk).getD z),.bool (mget m kk).isSome] else ev ((mget m kk).getD z)) w:=by
 obtain⟨es,c,h1,h2,h3,h4⟩:=hm
 unfold Instr.lookup
 simp only[Sem.run_bind,run_underlying h.und,Result.andThen_ok,MapKept.run_getObj_map h1,Sem.run_pure,h.key.check]
 rcases h.find h2 h3 w kk with⟨a1,a2,_⟩ | ⟨j,x0,v,a1,a2,a3,a4,a5⟩
 ·simp[a1,a2,h.run_zero w]
 ·simp[a1,a5]


abbrev putMap (w:World)(g:Nat)(es:Array MapEntry)(c:Nat):World:={ w with heap:=w.heap.setIfInBounds g (.map es c) }

theorem St.putMap {W:Base}{w:World}{B:List Res}{g:Nat}{m:List (κ×α)}(R':Res)(hS:St W w (Own (tMp ek ev) [.map (some g)] m::B)){es:Array MapEntry}{c:Nat}
  (hR:R'.A (putMap w g es c) [g]):St W (Go.E.putMap w g es c) (R'::B):=by
 obtain⟨G,hA,X,O⟩:=hS.sep.head
 obtain⟨g',h1,h2,rfl⟩:=hA
 simp only[List.cons.injEq,Value.map.injEq,Option.some.injEq,and_true] at h1
 subst h1
 have H:W.fr g:=O g (by simp)
 have q:∀ b,b≠g→(Go.E.putMap w g es c).heap[b]? = w.heap[b]?:=fun b hb=>by
  show(w.heap.setIfInBounds g _)[b]? = _
  rw[Array.getElem?_setIfInBounds_ne (Ne.symm hb)]
 refine⟨⟨hS.ext.os,hS.ext.tape,hS.ext.output,hS.ext.drawn,?_,fun b hb=>?_⟩,hS.sep.upd hS.up fun G hG _ _=>?_⟩
 ·show W.W.heap.size≤(w.heap.setIfInBounds g _).size
  simpa using hS.le
 ·show(Go.E.putMap w g es c).heap[b]? = _
  rw[q b (fun e=>hb (e ▸ H))];exact hS.ext.block b hb
 ·obtain⟨g2,k1,k2,rfl⟩:=hG
  simp only[List.cons.injEq,Value.map.injEq,Option.some.injEq,and_true] at k1
  subst k1
  exact⟨[g],hR,by simp,fun b hb=>.inl hb,fun b _ hb=>q b (by simpa using hb)⟩

theorem zep {w:World}{g:Nat}(hg:g<w.heap.size){es:Array MapEntry}{c:Nat}:(putMap w g es c).heap[g]? = some (.map es c):=by
 show(w.heap.setIfInBounds g _)[g]? = _
 rw[Array.getElem?_setIfInBounds_self_of_lt hg]

theorem zsk {W:Base}{w:World}{B:List Res}{g:Nat}{m:List (κ×α)}(hS:St W w (Own (tMp ek ev) [.map (some g)] m::B)):zdy ek ev w g m:=by
 obtain⟨G,hA,_⟩:=hS.sep.head
 obtain⟨g',h1,h2,rfl⟩:=hA
 simp only[List.cons.injEq,Value.map.injEq,Option.some.injEq,and_true] at h1
 subst h1
 exact h2

theorem zez {m:List (κ×α)}{kk:κ}{x:α}(hn:(m.map (·.1)).Nodup):((mput m kk x).map (·.1)).Nodup:=by
 by_cases hk:∃ p,p∈m∧p.1=kk
 ·obtain⟨⟨p1,p2⟩,hp,rfl⟩:=hk
  obtain⟨j,hj⟩:=List.getElem?_of_mem hp
  rw[ziZ hn hj]
  have:((m.set j (p1,x)).map (·.1))=m.map (·.1):=by
   rw[List.map_set]
   have hl:=(List.getElem?_eq_some_iff.1 hj).1
   have h2:(m.map (·.1))[j]'(by simpa using hl)=p1:=by
    have:=(List.getElem?_eq_some_iff.1 hj).2
    simp[this]
   conv=>lhs;arg 3;rw[show((p1,x):κ×α).1=(m.map (·.1))[j]'(by simpa using hl) from h2.symm]
   exact List.set_getElem_self _
  rw[this];exact hn
 ·rw[zet (fun p hp e=>hk ⟨p,hp,e⟩)]
  simp only[List.map_append,List.map_cons,List.map_nil]
  refine List.nodup_append.2 ⟨hn,by simp,fun a ha b hb=>?_⟩
  simp only[List.mem_singleton] at hb
  subst hb
  obtain⟨p,hp,rfl⟩:=List.mem_map.1 ha
  exact fun e=>hk ⟨p,hp,e⟩

theorem zfA {es:Array MapEntry}{m:List (κ×α)}(h:es.toList.map (fun e=>(e.key,e.val))=m.map (fun p=>(ek p.1,ev p.2))){j:Nat}{x0:MapEntry}(hj:es[j]? = some x0){f:MapEntry→MapEntry}{p:κ×α}(hf:(f x0).key=ek p.1∧(f x0).val=ev p.2):
  (es.modify j f).toList.map (fun e=>(e.key,e.val))=(m.set j p).map (fun p=>(ek p.1,ev p.2)):=by
 have hl:j<m.length:=by
  obtain⟨q,hq,_⟩:=zms (ek:=ek) (ev:=ev) h (show es.toList[j]? = some x0 by simpa using hj)
  exact(List.getElem?_eq_some_iff.1 hq).1
 apply List.ext_getElem?
 intro i
 have hi:=congrArg (fun l=>l[i]?) h
 simp only[List.getElem?_map,Array.getElem?_toList] at hi
 simp only[List.getElem?_map,Array.getElem?_toList,Array.getElem?_modify,List.getElem?_set]
 by_cases hij:j=i
 ·subst hij
  simp[hj,hl,hf.1,hf.2]
 ·simp only[if_neg hij]
  exact hi

theorem MapOk.run_update (h:MapOk P t k e ek ev z){W:Base}{w:World}{B:List Res}{g:Nat}{m:List (κ×α)}(hS:St W w (Own (tMp ek ev) [.map (some g)] m::B))(kk:κ)(x:α):
  ∃ w',(Instr.mapUpdate t (.map (some g)) (ek kk) (ev x)).run P w=.ok () w'∧St W w' (Own (tMp ek ev) [.map (some g)] (mput m kk x)::B):=by
 obtain⟨es,c,h1,h2,h3,h4⟩:=zsk hS
 have hg:=zjd h1
 rcases h.find h2 h3 w kk with⟨a1,a2,a3,a4⟩ | ⟨j,x0,v,a1,a2,a3,a4,a5⟩
 ·refine⟨putMap w g (es.push { key:=ek kk,val:=ev x,born:=c }) (c+1),?_,St.putMap (Own (tMp ek ev) [.map (some g)] (mput m kk x)) hS ⟨g,rfl,⟨_,_,zep hg,?_,zez h3,stamped_push h4 a4⟩,rfl⟩⟩
  ·unfold Instr.mapUpdate
   simp only[Sem.run_bind,run_underlying h.und,Result.andThen_ok,MapKept.run_getObj_map h1,h.key.check,a1,MapKept.run_setObj_map _ h1]
  ·rw[zet a3];simp[h2]
 ·refine⟨putMap w g (es.modify j fun e=>{ e with key:=ek kk,val:=ev x }) c,?_,St.putMap (Own (tMp ek ev) [.map (some g)] (mput m kk x)) hS ⟨g,rfl,⟨_,_,zep hg,?_,zez h3,?_⟩,rfl⟩⟩
  ·unfold Instr.mapUpdate
   simp only[Sem.run_bind,run_underlying h.und,Result.andThen_ok,MapKept.run_getObj_map h1,h.key.check,a1,a2,Option.map_some,Option.getD_some,a3,h.key.stays,MapKept.run_setObj_map _ h1]
  ·rw[ziZ h3 a4];exact zfA h2 a2 ⟨rfl,rfl⟩
  ·refine stamped_modify h4 j _ (fun e _=>rfl) (fun e _ he=>?_)
   rw[a2] at he
   cases he
   exact a3.symm


def MpO (ek:κ→Value)(ev:α→Value)(g:Nat)(m:List (κ×α))(kk:κ)(c:Int):Res where
 A:=fun w G=>G=[g]∧∃ (es:Array MapEntry) (q j:Nat) (x0:MapEntry) (v:α),w.heap[g]? = some (.map es q)∧es.toList.map (fun e=>(e.key,e.val))=m.map (fun p=>(ek p.1,ev p.2))∧(m.map (·.1)).Nodup∧Stamped es q∧
  es[j]? = some x0∧x0.key=ek kk∧(x0.born:Int)=c∧m[j]? = some (kk,v)
 loc:=by
  rintro w w' G ⟨rfl,es,q,j,x0,v,h1,h2⟩ hs
  exact⟨rfl,es,q,j,x0,v,by rw[hs g (by simp)];exact h1,h2⟩
 lt:=by
  rintro w G ⟨rfl,es,q,j,x0,v,h1,h2⟩ g' hg
  simp at hg
  subst hg
  exact zjd h1

theorem MapOk.run_entry (h:MapOk P t k e ek ev z){W:Base}{w:World}{B:List Res}{g:Nat}{m:List (κ×α)}(hS:St W w (Own (tMp ek ev) [.map (some g)] m::B))(kk:κ):
  ∃ w' c,(Instr.mapEntry t (.map (some g)) (ek kk)).run P w=.ok (.tuple #[ev ((mget m kk).getD z),.int .i64 c]) w'∧St W w' (MpO ek ev g (mput m kk ((mget m kk).getD z)) kk c::B):=by
 obtain⟨es,c,h1,h2,h3,h4⟩:=zsk hS
 have hg:=zjd h1
 rcases h.find h2 h3 w kk with⟨a1,a2,a3,a4⟩ | ⟨j,x0,v,a1,a2,a3,a4,a5⟩
 ·have hl:es.size=m.length:=by simpa using congrArg List.length h2
  refine⟨putMap w g (es.push { key:=ek kk,val:=ev z,born:=c }) (c+1),c,?_,St.putMap (MpO ek ev g (mput m kk ((mget m kk).getD z)) kk c) hS ⟨rfl,_,_,es.size,{ key:=ek kk,val:=ev z,born:=c },z,zep hg,?_,zez h3,stamped_push h4 a4,by simp,rfl,rfl,?_⟩⟩
  ·unfold Instr.mapEntry
   simp only[Sem.run_bind,run_underlying h.und,Result.andThen_ok,MapKept.run_getObj_map h1,h.key.check,a1,h.run_zero w,MapKept.run_setObj_map _ h1,Sem.run_pure,a2,Option.getD_none,goInt]
  ·rw[zet a3];simp[h2,a2]
  ·rw[zet a3,hl];simp[a2]
 ·refine⟨putMap w g (es.modify j fun e=>{ e with key:=ek kk }) c,x0.born,?_,St.putMap (MpO ek ev g (mput m kk ((mget m kk).getD z)) kk x0.born) hS ⟨rfl,_,_,j,{ x0 with key:=ek kk },v,zep hg,?_,zez h3,?_,?_,rfl,rfl,?_⟩⟩
  ·unfold Instr.mapEntry
   simp only[Sem.run_bind,run_underlying h.und,Result.andThen_ok,MapKept.run_getObj_map h1,h.key.check,a1,a2,Option.map_some,Option.getD_some,a3,h.key.stays,MapKept.run_setObj_map _ h1,Sem.run_pure,a5,goInt]
  ·obtain⟨p,hp,_,hv⟩:=zms h2 (show es.toList[j]? = some x0 by simpa using a2)
   rw[a4] at hp
   cases hp
   rw[a5,Option.getD_some,ziZ h3 a4]
   exact zfA h2 a2 ⟨rfl,hv⟩
  ·refine stamped_modify h4 j _ (fun e _=>rfl) (fun e _ he=>?_)
   rw[a2] at he
   cases he
   exact a3.symm
  ·simp[Array.getElem?_modify,a2]
  ·rw[a5,Option.getD_some,ziZ h3 a4]
   have hl:=(List.getElem?_eq_some_iff.1 a4).1
   simp[hl]

theorem zcW {W:Base}{w:World}{B:List Res}{g:Nat}{m:List (κ×α)}{kk:κ}{c:Int}(hS:St W w (MpO ek ev g m kk c::B))(t:Nat)(x:α):
  ∃ w',(Instr.entryStore t (.map (some g)) (.int .i64 c) (ev x)).run P w=.ok () w'∧St W w' (Own (tMp ek ev) [.map (some g)] (mput m kk x)::B):=by
 obtain⟨G,hA,e0,b0⟩:=hS.sep.head
 obtain⟨hG,es,q,j,x0,v,h1,h2,h3,h4,h5,h6,h7,h8⟩:=(show G=[g]∧∃ (es:Array MapEntry) (q j:Nat) (x0:MapEntry) (v:α),w.heap[g]? = some (.map es q)∧es.toList.map (fun e=>(e.key,e.val))=m.map (fun p=>(ek p.1,ev p.2))∧(m.map (·.1)).Nodup∧Stamped es q∧
  es[j]? = some x0∧x0.key=ek kk∧(x0.born:Int)=c∧m[j]? = some (kk,v) from hA)
 subst hG
 have hg:=zjd h1
 have Z:W.fr g:=b0 g (by simp)
 have Y:es.findIdx? (fun e=>(e.born:Int) == c)=some j:=by
  rw[Array.findIdx?_eq_some_iff_getElem]
  have hj:=(Array.getElem?_eq_some_iff.1 h5)
  refine⟨hj.1,by rw[hj.2];simpa using h7,fun i a0=>?_⟩
  have O:i<es.size:=Nat.lt_trans a0 hj.1
  simp only[Bool.not_eq_true,beq_eq_false_iff_ne,ne_eq]
  intro hb
  have c0:=h4.2.1
  have e1:(es.toList.map (·.born))[i]? = some es[i].born:=by simp[O]
  have e2:(es.toList.map (·.born))[j]? = some es[i].born:=by
   have:es[i].born=x0.born:=by omega
   simp[h5,this]
  have:=(List.getElem?_inj (by simpa using O) c0).1 (e1.trans e2.symm)
  omega
 have H:∀ (o:Obj) (b:Nat),b≠g→(w.heap.setIfInBounds g o)[b]? = w.heap[b]?:=fun o b hb=>by
  rw[Array.getElem?_setIfInBounds_ne (Ne.symm hb)]
 refine⟨putMap w g (es.modify j fun e=>{ e with val:=ev x }) q,?_,⟨hS.ext.os,hS.ext.tape,hS.ext.output,hS.ext.drawn,?_,fun b hb=>?_⟩,hS.sep.upd hS.up fun G hG _ _=>?_⟩
 ·unfold Instr.entryStore
  simp only[Sem.run_bind,Result.andThen_ok,MapKept.run_getObj_map h1,asInt,asIntOf,Sem.run_pure,Y,MapKept.run_setObj_map _ h1]
 ·show W.W.heap.size≤(w.heap.setIfInBounds g _).size
  simpa using hS.le
 ·show(w.heap.setIfInBounds g _)[b]? = _
  rw[H _ b (fun e=>hb (e ▸ Z))];exact hS.ext.block b hb
 ·obtain⟨X,_⟩:=(show _∧_ from hG)
  subst X
  refine⟨[g],⟨g,rfl,⟨_,_,zep hg,?_,zez h3,?_⟩,rfl⟩,by simp,fun b hb=>.inl hb,fun b _ hb=>H _ b (by simpa using hb)⟩
  ·rw[ziZ h3 h8];exact zfA h2 h5 ⟨h6,rfl⟩
  ·exact stamped_modify h4 j _ (fun e _=>rfl) (fun e _ _=>rfl)
end


section
variable {P:Program}{n:Nat}{Q:Post}{F:Fr}{W:Base}{w:World}{ops rest:List Oper}{o:Oper}{κ α:Type}[DecidableEq κ] {t k e:Nat}{ek:κ→Value}{ev:α→Value}{z:α}

theorem Quiet.lookup (h:MapOk P t k e ek ev z){g:Nat}{m:List (κ×α)}(hm:(tMp ek ev).ro w [.map (some g)] m){x ix:Operand}(ho:o.op=.lookup t x ix false)(hx:F.ev x=some (.map (some g))){kk:κ}(hk:F.ev ix=some (ek kk)):
  Quiet P n F w o (ev ((mget m kk).getD z)):=fun a w' ha he=>by
 unfold execOp
 rw[ho]
 simp[ha.ev hx,ha.ev hk,h.run_lookup ((zy9 hm).ext he) kk false]

theorem Quiet.lookupO (h:MapOk P t k e ek ev z){B:List Res}{g:Nat}{m:List (κ×α)}{kk:κ}{c:Int}{v0:α}(hS:St W w (MpO ek ev g (mput m kk v0) kk c::B)){x ix:Operand}(ho:o.op=.lookup t x ix false)(hx:F.ev x=some (.map (some g)))(hk:F.ev ix=some (ek kk)):
  Quiet P n F w o (ev v0):=fun a w' ha he=>by
 obtain⟨G,hA,_⟩:=hS.sep.head
 obtain⟨hG,es,q,j,x0,v,h1,h2,h3,h4,h5,h6,h7,h8⟩:=(show G=[g]∧∃ (es:Array MapEntry) (q j:Nat) (x0:MapEntry) (v:α),w.heap[g]? = some (.map es q)∧es.toList.map (fun e=>(e.key,e.val))=(mput m kk v0).map (fun p=>(ek p.1,ev p.2))∧((mput m kk v0).map (·.1)).Nodup∧Stamped es q∧
  es[j]? = some x0∧x0.key=ek kk∧(x0.born:Int)=c∧(mput m kk v0)[j]? = some (kk,v) from hA)
 have hm:zdy ek ev w g (mput m kk v0):=⟨es,q,h1,h2,h3,h4⟩
 unfold execOp
 rw[ho]
 simp[ha.ev hx,ha.ev hk,h.run_lookup (hm.ext he) kk false,zdh]
theorem St.newMap {Rs:List Res}(hS:St W w Rs)(ek:κ→Value)(ev:α→Value):St W (w.alloc (.map #[] 0)) (Own (tMp ek ev) [.map (some w.heap.size)] ([]:List (κ×α))::Rs):=
 hS.join (Ns:=[Own (tMp ek ev) [.map (some w.heap.size)] ([]:List (κ×α))]) ⟨Ext.alloc _ _,⟨[w.heap.size],⟨w.heap.size,rfl,⟨#[],0,heap_alloc_new w _,rfl,by simp,stamped_empty 0⟩,rfl⟩,by simp,fun g hg=>by simp at hg;subst hg;exact⟨.inl (Nat.le_refl _),by simp⟩,trivial⟩⟩

theorem LM.makeMap {Rs:List Res}(ek:κ→Value)(ev:α→Value)(hS:St W w Rs){wm fu kk mm ii:Nat}{w0:World}{sk:List (List Nat×Nat)}(G:z97 ops=sk∧ops.length=kk)(m':Nat)(q:mm ||| 2 ^ ii=m')(H:wm.testBit ii=false)(hni:nthv ops ii=some o)(hg:zc ops F o=some true)(ho:o.op=.makeMap t none){d:Nat}(hd:o.dst=some d)(hn:Nat.blt d n=true)
  (h:∀ g (w':World),Ext w w'→St W w' (Own (tMp ek ev) [.map (some g)] ([]:List (κ×α))::Rs)→DM P n ops Q W w0 wm fu kk m' ((d,.map (some g))::F) w'):LM P n ops Q W w0 wm fu kk mm ii F w:=
 LM.okD G m' q H hni hg (v:=.map (some w.heap.size)) (fun a ha=>by
  unfold execOp
  rw[ho]
  simp[run_makeMap]) hd hn (Ext.alloc _ _) (h _ _ (Ext.alloc _ _) (hS.newMap ek ev))

theorem RW.mapEntry (q:MapOk P t k e ek ev z){B:List Res}{g:Nat}{m:List (κ×α)}(hS:St W w (Own (tMp ek ev) [.map (some g)] m::B))(hg:zc ops F o=some true){x ix:Operand}(ho:o.op=.mapEntry t x ix)
  (hx:F.ev x=some (.map (some g))){kk:κ}(hk:F.ev ix=some (ek kk)){d:Nat}(hd:o.dst=some d)(hn:Nat.blt d n=true)
  (h:∀ c (w':World),St W w' (MpO ek ev g (mput m kk ((mget m kk).getD z)) kk c::B)→RW P n ops Q rest ((d,.tuple ⟨[ev ((mget m kk).getD z),.int .i64 c]⟩)::F) w'):RW P n ops Q (o::rest) F w:=by
 obtain⟨w',c,h1,h2⟩:=q.run_entry hS kk
 refine RW.ok (v:=.tuple ⟨[ev ((mget m kk).getD z),.int .i64 c]⟩) (w':=w') hg (fun a ha=>?_) hd hn (h c w' h2)
 unfold execOp
 rw[ho]
 simp[ha.ev hx,ha.ev hk,h1]

theorem RW.entryStore {B:List Res}{g:Nat}{m:List (κ×α)}{kk:κ}{c:Int}{v0:α}(hS:St W w (MpO ek ev g (mput m kk v0) kk c::B))(hg:zc ops F o=some true){x st y:Operand}(ho:o.op=.entryStore t x st y)(hd:o.dst=none)
  (hx:F.ev x=some (.map (some g)))(hc:F.ev st=some (.int .i64 c)){v:α}(hv:F.ev y=some (ev v))(h:∀ (w':World),St W w' (Own (tMp ek ev) [.map (some g)] (mput m kk v)::B)→RW P n ops Q rest F w'):RW P n ops Q (o::rest) F w:=by
 obtain⟨w',h1,h2⟩:=zcW (P:=P) hS t v
 rw[ziY] at h2
 refine RW.unit (w':=w') hg (fun a ha=>?_) hd (h w' h2)
 unfold execOp
 rw[ho]
 simp[ha.ev hx,ha.ev hc,ha.ev hv,h1]

end


theorem LM.quietL {P:Program}{n:Nat}{Q:Post}{F:Fr}{w w0:World}{W9:Base}{ops:List Oper}{wm fu kk mm:Nat}{sk:List (List Nat×Nat)}{o:Oper}(G:z97 ops=sk∧ops.length=kk){v:Value}{ii:Nat}(m':Nat)(q:mm ||| 2 ^ ii=m')(H:wm.testBit ii=false)(hni:nthv ops ii=some o)(hg:zc ops F o=some true)(hq:Quiet P n F w o v){d:Nat}(hd:o.dst=some d)(hn:Nat.blt d n=true)
  (h:DM P n ops Q W9 w0 wm fu kk m' ((d,v)::F) w):LM P n ops Q W9 w0 wm fu kk mm ii F w:=
 LM.okD G m' q H hni hg (fun a ha=>hq a w ha (Ext.refl w)) hd hn (Ext.refl w) h

end Go.E



namespace Go.E
open Go.RowKit

theorem Quiet.idxAddr {P:Program}{T:TT}(ht:TTok P T){n:Nat}{F:Fr}{α:Type}{U:Ty α}{g k ln:Nat}{o:Oper}{t e':Nat}{x ix:Operand}{i j:TI}
  {kd:IntKind}{m:Int}(ho:o.op=.indexAddr t x ix)(hi:T.get t=some i)(hd:i.d=.slice e')(hj:T.get e'=some j)(hs:U.size=j.size)(hx:F.ev x=some (.slice (some ⟨g,0,none⟩) ln k))(hm:F.ev ix=some (.int kd m))
  (h0:0≤m)(G:m.toNat<ln)(w:Base):Quiet P n F w o (.pointer (some ⟨g,m.toNat*U.size,none⟩)):=fun a w' ha _=>by
 unfold execOp
 rw[ho]
 have q:m<ln:=by omega
 simp[ha.ev hx,ha.ev hm,Instr.indexAt,asIntOf,Go.underlying,ht.slice hi hd,h0,q,ht.sizeOf hj,zpy,hs]

section
variable {P:Program}{n:Nat}{Q:Post}{F:Fr}{W:Base}{w w0 w1:World}{W9:Base}{ops:List Oper}{wm fu kk mm:Nat}{sk:List (List Nat×Nat)}{o:Oper}{T:TT}

theorem DM.idxHole (ht:TTok P T){α:Type}{U:Ty α}{A:Option Addr}{k ln:Nat}(hA:∃ g,A=some ⟨g,0,none⟩)(X:z97 ops=sk∧ops.length=kk)(ii m':Nat)(O:mm ||| 2 ^ ii=m')(Y:wm.testBit ii=false)(hni:nthv ops ii=some o)(hf:zd2 sk (2 ^ kk - 1) mm ii=true)(hg:zc ops F o=some true){t e':Nat}{x ix:Operand}{i j:TI}
  {kd:IntKind}{m:Int}(ho:o.op=.indexAddr t x ix)(hi:T.get t=some i)(hd:i.d=.slice e')(hj:T.get e'=some j)(hs:U.size=j.size)(hx:F.ev x=some (.slice A ln k))(hm:F.ev ix=some (.int kd m))
  (h0:0≤m)(H:m.toNat<ln){d:Nat}(G:o.dst=some d)(hn:Nat.blt d n=true)
  (h:∀ q,zmP U A m.toNat q→DM P n ops Q W9 w0 wm fu kk m' ((d,.pointer (some q))::F) w):DM P n ops Q W9 w0 wm (fu+1) kk mm F w:=by
 obtain⟨g,rfl⟩:=hA
 exact DM.quietP X ii m' O Y hni hf hg (fun w=>Quiet.idxAddr ht ho hi hd hj hs hx hm h0 H w) G hn (h _ ⟨g,rfl,rfl⟩)

theorem DM.focus (ht:TTok P T){α:Type}{U:Ty α}{B:List Res}{e:Nat}{A:Option Addr}{k ln:Nat}{xs:List α}{a:α}(hS:St W w1 (Own (tSl e U) [.slice A ln k] xs::B))(X:z97 ops=sk∧ops.length=kk)(ii m':Nat)(O:mm ||| 2 ^ ii=m')(Y:wm.testBit ii=false)(hni:nthv ops ii=some o)(hf:zd2 sk (2 ^ kk - 1) mm ii=true)(hg:zc ops F o=some true){t e':Nat}{x ix:Operand}{i j:TI}
  {kd:IntKind}{m:Int}(ho:o.op=.indexAddr t x ix)(hi:T.get t=some i)(hd:i.d=.slice e')(hj:T.get e'=some j)(hs:U.size=j.size)(hx:F.ev x=some (.slice A ln k))(hm:F.ev ix=some (.int kd m))
  (h0:0≤m)(ha:xs[m.toNat]? = some a){d:Nat}(G:o.dst=some d)(hn:Nat.blt d n=true)
  (h:∀ q es,zmP U A m.toNat q→St W w1 (Hole U e (.slice A ln k) xs m.toNat es::Own U es a::B)→DM P n ops Q W w0 wm fu kk m' ((d,.pointer (some q))::F) w):DM P n ops Q W w0 wm (fu+1) kk mm F w:=by
 have H:=(List.getElem?_eq_some_iff.1 ha).1
 obtain⟨es,h1⟩:=hS.focusN ha
 have hl:=hS.lenEq
 exact DM.idxHole ht (U:=U) (hS.ownAddr H) X ii m' O Y hni hf hg ho hi hd hj hs hx hm h0 (by omega) G hn fun q hq=>h q es hq h1

theorem LM.idxHole (ht:TTok P T){α:Type}{U:Ty α}{A:Option Addr}{k ln:Nat}(hA:∃ g,A=some ⟨g,0,none⟩)(X:z97 ops=sk∧ops.length=kk){ii:Nat}(m':Nat)(O:mm ||| 2 ^ ii=m')(Y:wm.testBit ii=false)(hni:nthv ops ii=some o)(hg:zc ops F o=some true){t e':Nat}{x ix:Operand}{i j:TI}
  {kd:IntKind}{m:Int}(ho:o.op=.indexAddr t x ix)(hi:T.get t=some i)(hd:i.d=.slice e')(hj:T.get e'=some j)(hs:U.size=j.size)(hx:F.ev x=some (.slice A ln k))(hm:F.ev ix=some (.int kd m))
  (h0:0≤m)(H:m.toNat<ln){d:Nat}(G:o.dst=some d)(hn:Nat.blt d n=true)
  (h:∀ q,zmP U A m.toNat q→DM P n ops Q W9 w0 wm fu kk m' ((d,.pointer (some q))::F) w):LM P n ops Q W9 w0 wm fu kk mm ii F w:=by
 obtain⟨g,rfl⟩:=hA
 exact LM.quietL X m' O Y hni hg (Quiet.idxAddr ht ho hi hd hj hs hx hm h0 H w) G hn (h _ ⟨g,rfl,rfl⟩)

theorem LM.focus (ht:TTok P T){α:Type}{U:Ty α}{B:List Res}{e:Nat}{A:Option Addr}{k ln:Nat}{xs:List α}{a:α}(hS:St W w1 (Own (tSl e U) [.slice A ln k] xs::B))(X:z97 ops=sk∧ops.length=kk){ii:Nat}(m':Nat)(O:mm ||| 2 ^ ii=m')(Y:wm.testBit ii=false)(hni:nthv ops ii=some o)(hg:zc ops F o=some true){t e':Nat}{x ix:Operand}{i j:TI}
  {kd:IntKind}{m:Int}(ho:o.op=.indexAddr t x ix)(hi:T.get t=some i)(hd:i.d=.slice e')(hj:T.get e'=some j)(hs:U.size=j.size)(hx:F.ev x=some (.slice A ln k))(hm:F.ev ix=some (.int kd m))
  (h0:0≤m)(ha:xs[m.toNat]? = some a){d:Nat}(G:o.dst=some d)(hn:Nat.blt d n=true)
  (h:∀ q es,zmP U A m.toNat q→St W w1 (Hole U e (.slice A ln k) xs m.toNat es::Own U es a::B)→DM P n ops Q W w0 wm fu kk m' ((d,.pointer (some q))::F) w):LM P n ops Q W w0 wm fu kk mm ii F w:=by
 have H:=(List.getElem?_eq_some_iff.1 ha).1
 obtain⟨es,h1⟩:=hS.focusN ha
 have hl:=hS.lenEq
 exact LM.idxHole ht (U:=U) (hS.ownAddr H) X m' O Y hni hg ho hi hd hj hs hx hm h0 (by omega) G hn fun q hq=>h q es hq h1

theorem LM.idxAgain (ht:TTok P T){α:Type}{U:Ty α}{B:List Res}{e:Nat}{A:Option Addr}{k ln:Nat}{xs:List α}{es:List Value}{m:Int}(hS:St W w1 (Hole U e (.slice A ln k) xs m.toNat es::B))(O:z97 ops=sk∧ops.length=kk){ii:Nat}(m':Nat)(H:mm ||| 2 ^ ii=m')(X:wm.testBit ii=false)(hni:nthv ops ii=some o)(hg:zc ops F o=some true){t e':Nat}{x ix:Operand}{i j:TI}
  {kd:IntKind}(ho:o.op=.indexAddr t x ix)(hi:T.get t=some i)(hd:i.d=.slice e')(hj:T.get e'=some j)(hs:U.size=j.size)(hx:F.ev x=some (.slice A ln k))(hm:F.ev ix=some (.int kd m))
  (h0:0≤m){d:Nat}(G:o.dst=some d)(hn:Nat.blt d n=true)
  (h:∀ q,zmP U A m.toNat q→DM P n ops Q W w0 wm fu kk m' ((d,.pointer (some q))::F) w):LM P n ops Q W w0 wm fu kk mm ii F w:=by
 obtain⟨hl,Y,hA⟩:=hS.hole_len
 exact LM.idxHole ht (U:=U) hA O m' H X hni hg ho hi hd hj hs hx hm h0 (by omega) G hn h

theorem LM.idxOwnN (ht:TTok P T){α:Type}{U:Ty α}{B:List Res}{e:Nat}{A:Option Addr}{k ln:Nat}{xs:List α}(hS:St W w1 (Own (tSl e U) [.slice A ln k] xs::B))(X:z97 ops=sk∧ops.length=kk){ii:Nat}(m':Nat)(O:mm ||| 2 ^ ii=m')(Y:wm.testBit ii=false)(hni:nthv ops ii=some o)(hg:zc ops F o=some true){t e':Nat}{x ix:Operand}{i j:TI}
  {kd:IntKind}{m:Int}(ho:o.op=.indexAddr t x ix)(hi:T.get t=some i)(hd:i.d=.slice e')(hj:T.get e'=some j)(hs:U.size=j.size)(hx:F.ev x=some (.slice A ln k))(hm:F.ev ix=some (.int kd m))
  (h0:0≤m)(H:m.toNat<xs.length){d:Nat}(G:o.dst=some d)(hn:Nat.blt d n=true)
  (h:∀ q,(∃ g,A=some ⟨g,0,none⟩∧q=⟨g,m.toNat*U.size,none⟩)→DM P n ops Q W w0 wm fu kk m' ((d,.pointer (some q))::F) w):LM P n ops Q W w0 wm fu kk mm ii F w:=by
 have hl:=hS.lenEq
 exact LM.idxHole ht (U:=U) (hS.ownAddr H) X m' O Y hni hg ho hi hd hj hs hx hm h0 (by omega) G hn h

theorem zm0 (ht:TTok P T){α:Type}{U:Ty α}{e:Nat}{A:Option Addr}{k m:Nat}{xs:List α}{es es':List Value}{B:List Res}(hS:St W w (Hole U e (.slice A xs.length k) xs m es::B)){q:Addr}(hq:zmP U A m q)
  {t:Nat}{i:TI}(hi:T.get t=some i){q':Addr}(off:Nat)(i0:q'=q.add off){v:Value}(hl:Nat.beq (z3c v).length i.size=true)
  (h1:z9W (z3c v)=true)(hs:z9Q es off (z3c v)=some es'):∃ w',(storeVar t q' v).run P w=.ok () w'∧St W w' (Hole U e (.slice A xs.length k) xs m es'::B):=by
 obtain⟨G,⟨g,cap,c1,c2,Y,G1,G2,hv,hh,a1,a2,a3,a4,a5,a6,k1,k2,hG⟩,_,g0⟩:=hS.sep.head
 obtain⟨g',rfl,rfl⟩:=hq
 simp only[Value.slice.injEq,Option.some.injEq,Addr.mk.injEq,and_true,true_and] at hv
 obtain⟨rfl,rfl⟩:=hv
 have H:=zdH (c1:=c1) (c2:=c2) (rest:=Y) hs
 rw[a4] at H
 obtain⟨w',r1,r2,r3,r4,r5,r6,r7,r8⟩:=z3F (P:=P) g' (m*U.size+off) e (z3c v) 0 w _ ((c1++(es'++c2))++Y) h1 hh (by rw[Nat.add_zero];exact H)
 have e0:W.fr g':=g0 g' (by rw[hG];simp)
 refine⟨w',?_,⟨r5.trans hS.ext.os,r6.trans hS.ext.tape,r7.trans hS.ext.output,by rw[r8];exact hS.ext.drawn,by rw[r4];exact hS.le,fun b hb=>?_⟩,?_⟩
 ·have j0:v.cells.size=i.size:=by
   rw[← Array.length_toList,z7X];exact Nat.eq_of_beq_eq_true hl
  simp[storeVar,ht.sizeOf hi,j0,z7X,i0,zi9,r1]
 ·show w'.heap[b]? = _;rw[r3 b (fun e=>hb (e ▸ e0))];exact hS.ext.block b hb
 ·refine hS.sep.upd hS.up fun G' c0 hnd' _=>?_
  obtain⟨g1,b0,d1,d2,X,H1,H2,a0,f0,b1,b2,b3,b4,b5,b6,l1,l2,rfl⟩:=c0
  simp only[Value.slice.injEq,Option.some.injEq,Addr.mk.injEq,and_true,true_and] at a0
  obtain⟨rfl,rfl⟩:=a0
  rw[f0] at hh
  simp only[Option.some.injEq,Obj.cells.injEq,Array.mk.injEq,and_true] at hh
  have O:=zdH (c1:=d1) (c2:=d2) (rest:=X) hs
  have e1:d1.length=c1.length:=by rw[b4,a4]
  rw[hh,e1] at O
  rw[← a4] at H
  have e2:(c1++(es'++c2))++Y=(d1++(es'++d2))++X:=Option.some.inj (H.symm.trans O)
  have Z:=zei _ _ _ _ hs
  simp only[List.nodup_cons,List.mem_append,not_or] at hnd'
  refine⟨g'::(H1++H2),⟨g',k,d1,d2,X,H1,H2,rfl,by rw[r2,e2],b1,b2,?_,b4,by rw[Z];exact b5,b6,l1.loc fun b hb=>r3 b (by rintro rfl;exact hnd'.1.1 hb),l2.loc fun b hb=>r3 b (by rintro rfl;exact hnd'.1.2 hb),rfl⟩,by simpa using hnd',fun b hb=>.inl hb,fun b hb hn=>r3 b (by rintro rfl;exact hn (by simp))⟩
  rw[← b3]
  simp only[List.length_append,Z]

end
end Go.E



namespace Go.E
open Go.RowKit Go.MapKept


abbrev Ent (κ α:Type):=κ×Value×List α×List Nat
def ze5 {κ α:Type}(l:Ent κ α):κ×Value:=(l.1,l.2.1)
def zhL {κ α:Type}(l:Ent κ α):κ×List α:=(l.1,l.2.2.1)
def zfG {κ α:Type}(l:Ent κ α):List Nat:=l.2.2.2

section
variable {κ α:Type}[DecidableEq κ]

def zhK (L:List (Ent κ α))(kk:κ)(h:Value)(x:List α)(G:List Nat):List (Ent κ α):=L.map fun l=>if l.1=kk then(kk,h,x,G) else l
theorem zhW {β:Type}{m:List (κ×β)}(hn:(m.map (·.1)).Nodup){kk:κ}(h:kk∈m.map (·.1))(y:β):mput m kk y=m.map fun p=>if p.1=kk then(kk,y) else p:=by
 induction m with
 | nil=>simp at h
 | cons p m ih=>
  simp only[List.map_cons,List.nodup_cons,List.mem_cons] at hn h
  unfold mput
  by_cases e:p.1=kk
  ·rw[if_pos e,List.map_cons,if_pos e]
   have:m.map (fun p=>if p.1=kk then(kk,y) else p)=m:=by
    conv=>rhs;rw[← List.map_id m]
    refine List.map_congr_left fun q hq=>?_
    rw[if_neg];rfl
    intro e2
    exact hn.1 (List.mem_map.2 ⟨q,hq,by rw[e2,e]⟩)
   rw[this]
  ·rw[if_neg e,List.map_cons,if_neg e,ih hn.2 (h.resolve_left fun e2=>e e2.symm)]
theorem zqh (L:List (Ent κ α))(kk:κ)(h:Value)(x:List α)(G:List Nat):(zhK L kk h x G).map ze5=(L.map ze5).map fun p=>if p.1=kk then(kk,h) else p:=by
 simp only[zhK,List.map_map]
 refine List.map_congr_left fun l _=>?_
 by_cases h9:l.1=kk<;>simp[ze5,h9]
theorem zqi (L:List (Ent κ α))(kk:κ)(h:Value)(x:List α)(G:List Nat):(zhK L kk h x G).map zhL=(L.map zhL).map fun p=>if p.1=kk then(kk,x) else p:=by
 simp only[zhK,List.map_map]
 refine List.map_congr_left fun l _=>?_
 by_cases h9:l.1=kk<;>simp[zhL,h9]
theorem zuC {L:List (Ent κ α)}{kk:κ}(h0:kk ∉ L.map (·.1))(h:Value)(x:List α)(G:List Nat):zhK L kk h x G=L:=by
 unfold zhK
 conv=>rhs;rw[← List.map_id L]
 refine List.map_congr_left fun q hq=>?_
 rw[if_neg];rfl
 intro e2
 exact h0 (List.mem_map.2 ⟨q,hq,e2⟩)

theorem zqj {L:List (Ent κ α)}(hn:(L.map (·.1)).Nodup){kk:κ}{h1:Value}{x1:List α}{G1:List Nat}(hm:(kk,h1,x1,G1)∈L)(h:Value)(x:List α)(G:List Nat):
  (G1++(zhK L kk h x G).flatMap zfG).Perm (G++L.flatMap zfG):=by
 induction L with
 | nil=>simp at hm
 | cons l L ih=>
  simp only[List.map_cons,List.nodup_cons] at hn
  rcases List.mem_cons.1 hm with e | e
  ·subst e
   have:zhK ((kk,h1,x1,G1)::L) kk h x G=(kk,h,x,G)::L:=by
    have h2:=zuC (L:=L) (kk:=kk) hn.1 h x G
    simp only[zhK,List.map_cons,if_true] at h2 ⊢
    rw[h2]
   rw[this]
   simp only[List.flatMap_cons,zfG]
   rw[← List.append_assoc,← List.append_assoc]
   exact List.Perm.append_right _ List.perm_append_comm
  ·have q:l.1≠kk:=fun e2=>hn.1 (List.mem_map.2 ⟨_,e,e2.symm⟩)
   have h3:zhK (l::L) kk h x G=l::zhK L kk h x G:=by simp only[zhK,List.map_cons,if_neg q]
   rw[h3]
   simp only[List.flatMap_cons]
   have:=ih hn.2 e
   have p1:(G1++(zfG l++(zhK L kk h x G).flatMap zfG)).Perm (zfG l++(G1++(zhK L kk h x G).flatMap zfG)):=by
    rw[← List.append_assoc,← List.append_assoc];exact List.Perm.append_right _ List.perm_append_comm
   have p2:(zfG l++(G++L.flatMap zfG)).Perm (G++(zfG l++L.flatMap zfG)):=by
    rw[← List.append_assoc,← List.append_assoc];exact List.Perm.append_right _ List.perm_append_comm
   exact p1.trans ((List.Perm.append_left _ this).trans p2)
end


section
variable {κ α:Type}
def zoX (ek:κ→Value)(T:Ty (List α)):Ty (List (κ×List α)) where
 size:=1
 ro:=fun w cs m=>∃ g,∃ L:List (Ent κ α),cs=[.map (some g)]∧zdy ek id w g (L.map ze5)∧m=L.map zhL∧∀ l,l∈L→T.ro w [l.2.1] l.2.2.1
 own:=fun w cs m G=>∃ g,∃ L:List (Ent κ α),cs=[.map (some g)]∧zdy ek id w g (L.map ze5)∧m=L.map zhL∧(∀ l,l∈L→T.own w [l.2.1] l.2.2.1 l.2.2.2)∧G=g::L.flatMap zfG
 req:=fun w=>T.req w
 len:=by rintro _ _ _ ⟨g,_,rfl,_⟩;rfl
 lenO:=by rintro _ _ _ _ ⟨g,_,rfl,_⟩;rfl
 ext:=by rintro _ _ _ _ he ⟨g,L,rfl,h,rfl,h2⟩;exact⟨g,L,rfl,h.ext he,rfl,fun l hl=>T.ext he (h2 l hl)⟩
 own_ro:=by rintro _ _ _ _ ⟨g,L,rfl,h,rfl,h2,_⟩ hq;exact⟨g,L,rfl,h,rfl,fun l hl=>T.own_ro (h2 l hl) hq⟩
 loc:=by
  rintro _ _ _ _ _ ⟨g,L,rfl,h,rfl,h2,rfl⟩ hs
  exact⟨g,L,rfl,h.same (hs g (by simp)),rfl,fun l hl=>T.loc (h2 l hl) (fun b hb=>hs b (List.mem_cons_of_mem _ (List.mem_flatMap.2 ⟨l,hl,hb⟩))),rfl⟩
 lt:=by
  rintro _ _ _ _ ⟨g,L,rfl,h,rfl,h2,rfl⟩ g' hg
  rcases List.mem_cons.1 hg with rfl | hg
  ·exact h.lt
  ·obtain⟨l,hl,hb⟩:=List.mem_flatMap.1 hg
   exact T.lt (h2 l hl) g' hb
 one:=by rintro _ _ _ ⟨g,_,rfl,_⟩ u hu;simp at hu;subst hu;rfl
 oneO:=by rintro _ _ _ _ ⟨g,_,rfl,_⟩ u hu;simp at hu;subst hu;rfl
end

instance {κ α:Type}{W:Base}{ek:κ→Value}{T:Ty (List α)}[h:Reads W T]:Reads W (zoX ek T):=⟨h.1⟩
theorem zxo {κ α:Type}{ek:κ→Value}{T:Ty (List α)}{w:World}{cs:List Value}{m:List (κ×List α)}(h:(zoX ek T).ro w cs m):∃ g,cs=[.map (some g)]:=by
 obtain⟨g,L,h1,_⟩:=h
 exact⟨g,h1⟩
section
variable {κ α:Type}

def Pile (T:Ty (List α))(hs:List (κ×Value))(m:List (κ×List α)):Res where
 A:=fun w G=>∃ L:List (Ent κ α),L.map ze5=hs∧L.map zhL=m∧(∀ l,l∈L→T.own w [l.2.1] l.2.2.1 l.2.2.2)∧G=L.flatMap zfG
 loc:=by
  rintro w w' G ⟨L,h1,h2,h3,rfl⟩ hs
  exact⟨L,h1,h2,fun l hl=>T.loc (h3 l hl) (fun b hb=>hs b (List.mem_flatMap.2 ⟨l,hl,hb⟩)),rfl⟩
 lt:=by
  rintro w G ⟨L,h1,h2,h3,rfl⟩ g' hg
  obtain⟨l,hl,hb⟩:=List.mem_flatMap.1 hg
  exact T.lt (h3 l hl) g' hb

def MpSO [DecidableEq κ](ek:κ→Value)(T:Ty (List α))(g:Nat)(m:List (κ×List α))(kk:κ)(c:Int):Res where
 A:=fun w G=>∃ L:List (Ent κ α),(MpO ek id g (L.map ze5) kk c).A w [g]∧L.map zhL=m∧(∀ l,l∈L→l.1≠kk→T.own w [l.2.1] l.2.2.1 l.2.2.2)∧(∀ l,l∈L→l.1=kk→l.2.2.2=[])∧G=g::L.flatMap zfG
 loc:=by
  rintro w w' G ⟨L,h1,h2,h3,h4,rfl⟩ hs
  exact⟨L,(MpO ek id g (L.map ze5) kk c).loc h1 (fun b hb=>hs b (by simp at hb;subst hb;simp)),h2,fun l hl hn=>T.loc (h3 l hl hn) (fun b hb=>hs b (List.mem_cons_of_mem _ (List.mem_flatMap.2 ⟨l,hl,hb⟩))),h4,rfl⟩
 lt:=by
  rintro w G ⟨L,h1,h2,h3,h4,rfl⟩ g' hg
  rcases List.mem_cons.1 hg with rfl | hg
  ·exact(MpO ek id g' (L.map ze5) kk c).lt h1 g' (by simp)
  ·obtain⟨l,hl,hb⟩:=List.mem_flatMap.1 hg
   by_cases hn:l.1=kk
   ·rw[show zfG l=l.2.2.2 from rfl,h4 l hl hn] at hb;simp at hb
   ·exact T.lt (h3 l hl hn) g' hb
end

section
variable {P:Program}{κ α:Type}[DecidableEq κ] {t k e:Nat}{ek:κ→Value}{T:Ty (List α)}

theorem zsF {β γ:Type}{f:β→γ}(hf:∀ a b,f a=f b→a=b):∀ l m:List β,l.map f=m.map f→l=m
 | [],[],_=>rfl
 | [],_::_,h=>by simp at h
 | _::_,[],h=>by simp at h
 | a::l,b::m,h=>by
  simp only[List.map_cons,List.cons.injEq] at h
  rw[hf a b h.1,zsF hf l m h.2]
omit [DecidableEq κ] in
theorem St.openMS (hi:∀ {a b:κ},ek a=ek b→a=b){W:Base}{w:World}{B:List Res}{g:Nat}{m:List (κ×List α)}(hS:St W w (Own (zoX ek T) [.map (some g)] m::B)):
  ∃ hs:List (κ×Value),(hs.map (·.1)).Nodup∧hs.map (·.1)=m.map (·.1)∧St W w (Own (tMp ek id) [.map (some g)] hs::Pile T hs m::B):=by
 obtain⟨G,hA,_⟩:=hS.sep.head
 obtain⟨g0,L,h1,h2,h3,h4,h5⟩:=hA
 cases h1
 refine⟨L.map ze5,?_,by rw[h3];simp[ze5,zhL],hS.ext,(Sep.conv (R':=Both (Own (tMp ek id) [.map (some g)] (L.map ze5)) (Pile T (L.map ze5) m)) hS.sep fun G hG=>?_).split⟩
 ·obtain⟨es,c,_,_,hn,_⟩:=h2;exact hn
 ·obtain⟨g1,L1,k1,k2,k3,k4,rfl⟩:=hG
  cases k1
  have hs:L1.map ze5=L.map ze5:=by
   obtain⟨es,c,a1,a2,_⟩:=h2
   obtain⟨H,c2,b1,b2,_⟩:=k2
   rw[a1] at b1
   simp only[Option.some.injEq,Obj.map.injEq] at b1
   obtain⟨rfl,rfl⟩:=b1
   have e:=b2.symm.trans a2
   exact zsF (fun p q h=>by simp only[id,Prod.mk.injEq] at h;exact Prod.ext (hi h.1) h.2) _ _ e
  exact⟨[g],L1.flatMap zfG,rfl,⟨g,rfl,hs ▸ k2,rfl⟩,L1,hs,k3.symm,k4,rfl⟩

theorem zhX {β:Type}{m:List (κ×β)}(hn:(m.map (·.1)).Nodup){kk:κ}{x:β}(h:(kk,x)∈m):mget m kk=some x:=by
 obtain⟨j,hj⟩:=List.getElem?_of_mem h
 exact zsE hn hj
theorem zmd {β:Type}{m:List (κ×β)}{kk:κ}(h:kk ∉ m.map (·.1)):mget m kk=none:=znw fun p hp e=>h (List.mem_map.2 ⟨p,hp,e⟩)
theorem zsC {β:Type}{m:List (κ×β)}{kk:κ}{x:β}(h:kk ∉ m.map (·.1)):mput m kk x=m++[(kk,x)]:=zet fun p hp e=>h (List.mem_map.2 ⟨p,hp,e⟩)


theorem St.takeMS {U:Ty α}{e0:Nat}{W:Base}{w:World}{B:List Res}{g:Nat}{hs:List (κ×Value)}{m:List (κ×List α)}(hn:(hs.map (·.1)).Nodup)(hk:hs.map (·.1)=m.map (·.1)){kk:κ}{c:Int}
  (hS:St W w (MpO ek id g (mput hs kk ((mget hs kk).getD (.slice none 0 0))) kk c::Pile (tSl e0 U) hs m::B)):
  St W w (Own (tSl e0 U) [(mget hs kk).getD (.slice none 0 0)] ((mget m kk).getD [])::MpSO ek (tSl e0 U) g (mput m kk ((mget m kk).getD [])) kk c::B):=by
 refine⟨hS.ext,(hS.sep.fuse.upd (R':=Both (Own (tSl e0 U) [(mget hs kk).getD (.slice none 0 0)] ((mget m kk).getD [])) (MpSO ek (tSl e0 U) g (mput m kk ((mget m kk).getD [])) kk c)) hS.up fun G hG c0 _=>?_).split⟩
 obtain⟨H,K,rfl,h1,L,h2,h3,h4,rfl⟩:=hG
 have hH:H=[g]:=h1.1
 subst hH
 subst h2
 subst h3
 have key:(L.map ze5).map (·.1)=L.map (·.1):=by rw[List.map_map];rfl
 have Y:(L.map zhL).map (·.1)=L.map (·.1):=by rw[List.map_map];rfl
 rw[key] at hn
 by_cases hm:kk∈L.map (·.1)
 ·obtain⟨l,hl,e1⟩:=List.mem_map.1 hm
  obtain⟨a,h,x,G1⟩:=l
  simp only at e1
  subst e1
  have a0:((L.map ze5).map (·.1)).Nodup:=by rw[key];exact hn
  have b0:((L.map zhL).map (·.1)).Nodup:=by rw[Y];exact hn
  have m1:mget (L.map ze5) a=some h:=zhX a0 (List.mem_map.2 ⟨_,hl,rfl⟩)
  have m2:mget (L.map zhL) a=some x:=zhX b0 (List.mem_map.2 ⟨_,hl,rfl⟩)
  have hb:=zqj hn hl h x []
  rw[m1] at h1 ⊢
  rw[m2]
  show ∃ G',(Both (Own (tSl e0 U) [h] x) (MpSO ek (tSl e0 U) g (mput (L.map zhL) a x) a c)).A w G'∧_
  replace h1:(MpO ek id g (mput (L.map ze5) a h) a c).A w [g]:=h1
  have q1:(zhK L a h x []).map ze5=mput (L.map ze5) a h:=by rw[zqh,zhW a0 (by rw[key];exact hm)]
  have q2:(zhK L a h x []).map zhL=mput (L.map zhL) a x:=by rw[zqi,zhW b0 (by rw[Y];exact hm)]
  refine⟨G1++(g::(zhK L a h x []).flatMap zfG),⟨G1,_,rfl,h4 _ hl,zhK L a h x [],by rw[q1];exact h1,q2,?_,?_,rfl⟩,?_,?_,fun b _ _=>rfl⟩
  ·intro l2 q Z
   obtain⟨l3,O,rfl⟩:=List.mem_map.1 q
   split at Z
   ·exact absurd rfl Z
   ·rename_i h9;rw[if_neg h9];exact h4 _ O
  ·intro l2 q he
   obtain⟨l3,O,rfl⟩:=List.mem_map.1 q
   split at he
   ·rename_i h9;rw[if_pos h9]
   ·rename_i h9;exact absurd he h9
  ·have hp:(G1++(g::(zhK L a h x []).flatMap zfG)).Perm ([g]++L.flatMap zfG):=List.perm_middle.trans (List.Perm.cons g (by simpa using hb))
   exact hp.nodup_iff.2 c0
  ·intro b X
   have hp:(G1++(g::(zhK L a h x []).flatMap zfG)).Perm ([g]++L.flatMap zfG):=List.perm_middle.trans (List.Perm.cons g (by simpa using hb))
   exact .inl (hp.mem_iff.1 X)
 ·have m1:mget (L.map ze5) kk=none:=zmd (by rw[key];exact hm)
  have m2:mget (L.map zhL) kk=none:=zmd (by rw[Y];exact hm)
  rw[m1] at h1 ⊢
  rw[m2]
  show ∃ G',(Both (Own (tSl e0 U) [Value.slice none 0 0] []) (MpSO ek (tSl e0 U) g (mput (L.map zhL) kk []) kk c)).A w G'∧_
  replace h1:(MpO ek id g (mput (L.map ze5) kk (.slice none 0 0)) kk c).A w [g]:=h1
  rw[zsC (by rw[key];exact hm)] at h1
  rw[zsC (by rw[Y];exact hm)]
  refine⟨[]++(g::(L++[(kk,Value.slice none 0 0,[],[])]).flatMap zfG),⟨[],_,rfl,z9s U e0 w,L++[(kk,Value.slice none 0 0,[],[])],by simpa [ze5] using h1,by simp[zhL],?_,?_,rfl⟩,?_,?_,fun b _ _=>rfl⟩
  ·intro l hl Z
   rcases List.mem_append.1 hl with hl | hl
   ·exact h4 l hl
   ·simp at hl;subst hl;exact absurd rfl Z
  ·intro l hl he
   rcases List.mem_append.1 hl with hl | hl
   ·exact absurd (List.mem_map.2 ⟨l,hl,he⟩) hm
   ·simp at hl;subst hl;rfl
  ·simpa [zfG] using c0
  ·intro b hb;exact .inl (by simpa [zfG] using hb)


def zv2 (T:Ty (List α))(hs:List (κ×Value))(m:List (κ×List α))(kk:κ):Res where
 A:=fun w G=>∃ L:List (Ent κ α),L.map ze5=hs∧L.map zhL=m∧(∀ l,l∈L→l.1≠kk→T.own w [l.2.1] l.2.2.1 l.2.2.2)∧(∀ l,l∈L→l.1=kk→l.2.2.2=[])∧G=L.flatMap zfG
 loc:=by
  rintro w w' G ⟨L,h1,h2,h3,h4,rfl⟩ hs
  exact⟨L,h1,h2,fun l hl hn=>T.loc (h3 l hl hn) (fun b hb=>hs b (List.mem_flatMap.2 ⟨l,hl,hb⟩)),h4,rfl⟩
 lt:=by
  rintro w G ⟨L,h1,h2,h3,h4,rfl⟩ g' hg
  obtain⟨l,hl,hb⟩:=List.mem_flatMap.1 hg
  by_cases hn:l.1=kk
  ·rw[show zfG l=l.2.2.2 from rfl,h4 l hl hn] at hb;simp at hb
  ·exact T.lt (h3 l hl hn) g' hb
theorem St.openMX (hi:∀ {a b:κ},ek a=ek b→a=b){W:Base}{w:World}{B:List Res}{g:Nat}{m:List (κ×List α)}{kk:κ}{c:Int}(hS:St W w (MpSO ek T g m kk c::B)):
  ∃ hs:List (κ×Value),(hs.map (·.1)).Nodup∧kk∈hs.map (·.1)∧St W w (MpO ek id g hs kk c::zv2 T hs m kk::B):=by
 obtain⟨G,hA,_⟩:=hS.sep.head
 obtain⟨L,h1,h2,h3,h4,h5⟩:=hA
 have X:=h1
 obtain⟨_,es,O,j,x0,v,a1,a2,a3,a4,a5,a6,a7,a8⟩:=X
 refine⟨L.map ze5,a3,List.mem_map.2 ⟨_,List.mem_of_getElem? a8,rfl⟩,hS.ext,(Sep.conv (R':=Both (MpO ek id g (L.map ze5) kk c) (zv2 T (L.map ze5) m kk)) hS.sep fun G hG=>?_).split⟩
 obtain⟨L1,k1,k2,k3,k4,rfl⟩:=hG
 have hs:L1.map ze5=L.map ze5:=by
  obtain⟨_,H,c2,j2,y0,v2,b1,b2,_⟩:=k1
  rw[a1] at b1
  simp only[Option.some.injEq,Obj.map.injEq] at b1
  obtain⟨rfl,rfl⟩:=b1
  have e:=b2.symm.trans a2
  exact zsF (fun p q h=>by simp only[id,Prod.mk.injEq] at h;exact Prod.ext (hi h.1) h.2) _ _ e
 exact⟨[g],L1.flatMap zfG,rfl,hs ▸ k1,L1,hs,k2,k3,k4,rfl⟩

theorem St.putMS {W:Base}{w:World}{B:List Res}{g:Nat}{hs:List (κ×Value)}{m:List (κ×List α)}{kk:κ}{h:Value}{y:List α}(hn:(hs.map (·.1)).Nodup)(hm:kk∈hs.map (·.1))
  (hS:St W w (Own (tMp ek id) [.map (some g)] (mput hs kk h)::zv2 T hs m kk::Own T [h] y::B)):St W w (Own (zoX ek T) [.map (some g)] (mput m kk y)::B):=by
 have h1:St W w (Own T [h] y::zv2 T hs m kk::Own (tMp ek id) [.map (some g)] (mput hs kk h)::B):=
  ⟨hS.ext,(hS.sep.perm (List.Perm.swap ..)).perm ((List.Perm.cons _ (List.Perm.swap ..)).trans ((List.Perm.swap ..).trans (List.Perm.refl _)))⟩
 have h2:St W w (Both (Own T [h] y) (zv2 T hs m kk)::Own (tMp ek id) [.map (some g)] (mput hs kk h)::B):=⟨h1.ext,h1.sep.fuse⟩
 refine⟨hS.ext,h2.sep.fuse.upd (R':=Own (zoX ek T) [.map (some g)] (mput m kk y)) h2.up fun G hG b0 _=>?_⟩
 obtain⟨H,K,rfl,⟨G0,H2,rfl,k1,L,q1,q2,q3,q4,rfl⟩,g1,e1,q6,rfl⟩:=hG
 cases e1
 subst q1
 subst q2
 have key:(L.map ze5).map (·.1)=L.map (·.1):=by rw[List.map_map];rfl
 have X:(L.map zhL).map (·.1)=L.map (·.1):=by rw[List.map_map];rfl
 have Z:=hn
 have Y:=hm
 rw[key] at Z Y
 obtain⟨l,hl,e1⟩:=List.mem_map.1 Y
 obtain⟨a,h0,x0,G1⟩:=l
 simp only at e1
 subst e1
 have a0:G1=[]:=q4 _ hl rfl
 subst a0
 have hb:=zqj Z hl h y G0
 rw[List.nil_append] at hb
 have r1:(zhK L a h y G0).map ze5=mput (L.map ze5) a h:=by rw[zqh,zhW hn hm]
 have r2:(zhK L a h y G0).map zhL=mput (L.map zhL) a y:=by rw[zqi,zhW (by rw[X];exact Z) (by rw[X];exact Y)]
 have hp:(g::(zhK L a h y G0).flatMap zfG).Perm ((G0++L.flatMap zfG)++[g]):=(List.Perm.cons g hb).trans (List.perm_append_comm (l₁:=[g]))
 refine⟨g::(zhK L a h y G0).flatMap zfG,⟨g,zhK L a h y G0,rfl,by rw[r1];exact q6,r2.symm,?_,rfl⟩,hp.nodup_iff.2 b0,fun b hb=>.inl (hp.mem_iff.1 hb),fun b _ _=>rfl⟩
 intro l2 q
 obtain⟨l3,O,rfl⟩:=List.mem_map.1 q
 by_cases h9:l3.1=a
 ·simp only[h9,if_true];exact k1
 ·simp only[h9,if_false];exact q3 l3 O h9
end


section
variable {P:Program}{n:Nat}{Q:Post}{F:Fr}{W:Base}{w:World}{ops rest:List Oper}{o:Oper}{κ α:Type}[DecidableEq κ] {t k e e0:Nat}{ek:κ→Value}{U:Ty α}

theorem MapOk.run_entryS (q:MapOk P t k e ek id (.slice none 0 0)){B:List Res}{g:Nat}{m:List (κ×List α)}(hS:St W w (Own (zoX ek (tSl e0 U)) [.map (some g)] m::B))(kk:κ):
  ∃ w' c A kc,(Instr.mapEntry t (.map (some g)) (ek kk)).run P w=.ok (.tuple #[.slice A ((mget m kk).getD []).length kc,.int .i64 c]) w'∧
   St W w' (Own (tSl e0 U) [.slice A ((mget m kk).getD []).length kc] ((mget m kk).getD [])::MpSO ek (tSl e0 U) g (mput m kk ((mget m kk).getD [])) kk c::B):=by
 obtain⟨hs,h1,h2,h3⟩:=hS.openMS q.key.inj
 obtain⟨w',c,h4,h5⟩:=q.run_entry h3 kk
 have h6:=St.takeMS h1 h2 h5
 obtain⟨G,hA,_⟩:=h6.sep.head
 obtain⟨A,kc,e1⟩:=zc1 hA
 simp only[List.cons.injEq,and_true] at e1
 rw[e1] at h6
 simp only[id] at h4
 rw[e1] at h4
 exact⟨w',c,A,kc,h4,h6⟩
theorem ziJ (hi:∀ {a b:κ},ek a=ek b→a=b){B:List Res}{g:Nat}{m:List (κ×List α)}{kk:κ}{c:Int}{h:Value}{y:List α}(hS:St W w (Own (tSl e0 U) [h] y::MpSO ek (tSl e0 U) g m kk c::B))(t:Nat):
  ∃ w',(Instr.entryStore t (.map (some g)) (.int .i64 c) h).run P w=.ok () w'∧St W w' (Own (zoX ek (tSl e0 U)) [.map (some g)] (mput m kk y)::B):=by
 have q:St W w (MpSO ek (tSl e0 U) g m kk c::Own (tSl e0 U) [h] y::B):=⟨hS.ext,hS.sep.perm (List.Perm.swap ..)⟩
 obtain⟨hs,h1,h2,h3⟩:=q.openMX hi
 obtain⟨w',h4,h5⟩:=zcW (P:=P) (ev:=id) h3 t h
 exact⟨w',h4,St.putMS h1 h2 h5⟩

theorem LM.mapEntryS (G:MapOk P t k e ek id (.slice none 0 0)){B:List Res}{g:Nat}{m:List (κ×List α)}(hS:St W w (Own (zoX ek (tSl e0 U)) [.map (some g)] m::B)){wm fu kq mm ii:Nat}{w0:World}{sk:List (List Nat×Nat)}(H:z97 ops=sk∧ops.length=kq)(m':Nat)(q:mm ||| 2 ^ ii=m')(O:wm.testBit ii=true)(hni:nthv ops ii=some o)(hg:zc ops F o=some true){x ix:Operand}(ho:o.op=.mapEntry t x ix)
  (hx:F.ev x=some (.map (some g))){kk:κ}(hk:F.ev ix=some (ek kk)){d:Nat}(hd:o.dst=some d)(hn:Nat.blt d n=true)
  (h:∀ c A kc (w':World),St W w' (Own (tSl e0 U) [.slice A ((mget m kk).getD []).length kc] ((mget m kk).getD [])::MpSO ek (tSl e0 U) g (mput m kk ((mget m kk).getD [])) kk c::B)→DM P n ops Q W w0 wm fu kq m' ((d,.tuple ⟨[.slice A ((mget m kk).getD []).length kc,.int .i64 c]⟩)::F) w'):LM P n ops Q W w0 wm fu kq mm ii F w:=by
 obtain⟨w',c,A,kc,h1,h2⟩:=G.run_entryS hS kk
 refine LM.okWD H m' q O hni hg (v:=.tuple ⟨[.slice A ((mget m kk).getD []).length kc,.int .i64 c]⟩) (w':=w') (fun a ha=>?_) hd hn h2.ext (h c A kc w' h2)
 unfold execOp
 rw[ho]
 simp[ha.ev hx,ha.ev hk,h1]
theorem LM.entryStoreS (hi:∀ {a b:κ},ek a=ek b→a=b){B:List Res}{g:Nat}{m:List (κ×List α)}{kk:κ}{c:Int}{v0:List α}{A:Option Addr}{kc:Nat}{y:List α}(hS:St W w (Own (tSl e0 U) [.slice A y.length kc] y::MpSO ek (tSl e0 U) g (mput m kk v0) kk c::B)){wm fu kq mm ii:Nat}{w0:World}{sk:List (List Nat×Nat)}(G:z97 ops=sk∧ops.length=kq)(m':Nat)(q:mm ||| 2 ^ ii=m')(H:wm.testBit ii=true)(hni:nthv ops ii=some o)(hg:zc ops F o=some true){x st z:Operand}(ho:o.op=.entryStore t x st z)(hd:o.dst=none)
  (hx:F.ev x=some (.map (some g)))(hc:F.ev st=some (.int .i64 c))(hv:F.ev z=some (.slice A y.length kc))(h:∀ (w':World),St W w' (Own (zoX ek (tSl e0 U)) [.map (some g)] (mput m kk y)::B)→DM P n ops Q W w0 wm fu kq m' F w'):LM P n ops Q W w0 wm fu kq mm ii F w:=by
 obtain⟨w',h1,h2⟩:=ziJ (P:=P) hi hS t
 rw[ziY] at h2
 refine LM.unitW G m' q H hni hg (w':=w') (fun a ha=>?_) hd h2.ext (h w' h2)
 unfold execOp
 rw[ho]
 simp[ha.ev hx,ha.ev hc,ha.ev hv,h1]
theorem St.newMapS {Rs:List Res}(hS:St W w Rs)(ek:κ→Value)(T:Ty (List α)):St W (w.alloc (.map #[] 0)) (Own (zoX ek T) [.map (some w.heap.size)] ([]:List (κ×List α))::Rs):=
 (hS.newMap ek (id:Value→Value)).conv fun G hG=>by
  obtain⟨g,e1,h2,rfl⟩:=hG
  exact⟨g,[],e1,h2,rfl,by simp,by simp⟩
theorem RW.makeMapS {Rs:List Res}(ek:κ→Value)(T:Ty (List α))(hS:St W w Rs)(hg:zc ops F o=some true)(ho:o.op=.makeMap t none){d:Nat}(hd:o.dst=some d)(hn:Nat.blt d n=true)
  (h:∀ g (w':World),Ext w w'→St W w' (Own (zoX ek T) [.map (some g)] ([]:List (κ×List α))::Rs)→RW P n ops Q rest ((d,.map (some g))::F) w'):RW P n ops Q (o::rest) F w:=
 RW.ok hg (v:=.map (some w.heap.size)) (fun a ha=>by
  unfold execOp
  rw[ho]
  simp[run_makeMap]) hd hn (h _ _ (Ext.alloc _ _) (hS.newMapS ek T))

omit [DecidableEq κ] in

theorem zy3 {T:Ty (List α)}{w:World}{g:Nat}{m:List (κ×List α)}(h:(zoX ek T).ro w [.map (some g)] m):∃ L:List (Ent κ α),zdy ek id w g (L.map ze5)∧m=L.map zhL∧∀ l,l∈L→T.ro w [l.2.1] l.2.2.1:=by
 obtain⟨g1,L,e1,h2,h3,h4⟩:=h
 cases e1
 exact⟨L,h2,h3,h4⟩
def zx8 (ek:κ→Value)(w:World)(g:Nat)(kk:κ)(v:Value):Prop:=∃ hs:List (κ×Value),zdy ek id w g hs∧(mget hs kk).getD (.slice none 0 0)=v
theorem zxp {g:Nat}{m:List (κ×List α)}(kk:κ)(hm:(zoX ek (tSl e0 U)).ro w [.map (some g)] m):
  ∃ A kc,(tSl e0 U).ro w [.slice A ((mget m kk).getD []).length kc] ((mget m kk).getD [])∧zx8 ek w g kk (.slice A ((mget m kk).getD []).length kc):=by
 obtain⟨L,h1,rfl,h3⟩:=zy3 hm
 have key:(L.map ze5).map (·.1)=L.map (·.1):=by rw[List.map_map];rfl
 have q:(L.map zhL).map (·.1)=L.map (·.1):=by rw[List.map_map];rfl
 have hn:(L.map (·.1)).Nodup:=by obtain⟨es,c,_,_,hn,_⟩:=h1;rw[key] at hn;exact hn
 have hr:(tSl e0 U).ro w [(mget (L.map ze5) kk).getD (.slice none 0 0)] ((mget (L.map zhL) kk).getD []):=by
  by_cases hm:kk∈L.map (·.1)
  ·obtain⟨l,hl,e1⟩:=List.mem_map.1 hm
   obtain⟨a,h0,x0,G1⟩:=l
   simp only at e1
   subst e1
   rw[zhX (m:=L.map ze5) (x:=h0) (by rw[key];exact hn) (List.mem_map.2 ⟨_,hl,rfl⟩),zhX (m:=L.map zhL) (x:=x0) (by rw[q];exact hn) (List.mem_map.2 ⟨_,hl,rfl⟩)]
   exact h3 _ hl
  ·rw[zmd (by rw[key];exact hm),zmd (by rw[q];exact hm)]
   exact zp1 U e0 w
 obtain⟨A,kc,e1⟩:=z9J hr
 simp only[List.cons.injEq,and_true] at e1
 rw[e1] at hr
 exact⟨A,kc,hr,L.map ze5,h1,e1⟩
theorem Quiet.lookA (q:MapOk P t k e ek id (.slice none 0 0)){w9:Base}{g:Nat}{kk:κ}{v:Value}(hl:zx8 ek w9.W g kk v){x ix:Operand}(ho:o.op=.lookup t x ix false)(hx:F.ev x=some (.map (some g)))(hk:F.ev ix=some (ek kk)):Quiet P n F w9 o v:=by
 obtain⟨hs,h1,rfl⟩:=hl
 intro a w' ha he
 unfold execOp
 rw[ho]
 simp[ha.ev hx,ha.ev hk,q.run_lookup (h1.ext he) kk false]
end
end Go.E



