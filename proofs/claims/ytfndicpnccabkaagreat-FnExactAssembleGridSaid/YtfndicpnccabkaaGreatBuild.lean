/- Regions whose order the model draws. Conditions: none (rules). -/
import Derived.Test.YtfndicpnccabkaaGreatOrder
import Derived.OwnWalk
import Derived.Laws.Tables
import Derived.Great.BuildSlice
namespace Go.E
open Go.RowKit
set_option linter.unusedVariables false
set_option linter.unusedSimpArgs false


def Post.only (Q:Post):Post
  | .normal,F,w=>Q .normal F w
  | _,_,_=>False


def DW (P:Program) (n:Nat) (ops:List Oper) (Q:Post) (W9:Base) (w0:World) (wr:Nat→Bool) (fuel:Nat) (listed:Array Bool) (F:Fr) (w:World):Prop:=
  Region.noSelect ops.toArray=true→(NoWr wr listed→Ext w0 w)→Ext W9 w→∀ a,Fits n F a→wpAnyL P .any ops.toArray (Q.only.up n) wr (onW w0) (onW W9) fuel listed a w


def LW (P:Program) (n:Nat) (ops:List Oper) (Q:Post) (W9:Base) (w0:World) (wr:Nat→Bool) (fuel:Nat) (listed:Array Bool) (i:Nat) (F:Fr) (w:World):Prop:=
  Region.noSelect ops.toArray=true→(NoWr wr listed→Ext w0 w)→Ext W9 w→∀ a,Fits n F a→wpOp P ops.toArray (Q.only.up n) i (fun a' w'=>((NoWr wr (listed.setIfInBounds i true)→Ext w0 w')∧Ext W9 w')∧wpAnyL P .any ops.toArray (Q.only.up n) wr (onW w0) (onW W9) fuel (listed.setIfInBounds i true) a' w') a w

theorem noPanic {n:Nat}{Q:Post}(v:Value) (d:Option Nat):∀ c a w,Post.up n Q.only (.panic c) (a.put d v) w→Post.up n Q.only (.panic c) a w:=by
  rintro c a w ⟨F',_,h⟩;exact h.elim

def freeAt (ops:List Oper) (listed:Array Bool) (i:Nat):Bool:=
  match Region.free .any ops.toArray listed i with
  | true=>(Region.ready .any ops.toArray listed).contains i
  | false=>false

theorem z8T {ops:List Oper}{listed:Array Bool}{i:Nat}(h:freeAt ops listed i=true):Region.free .any ops.toArray listed i=true∧(Region.ready .any ops.toArray listed).contains i=true:=by
  unfold freeAt at h
  split at h
  · rename_i hf;exact⟨hf,h⟩
  · cases h

def marked (listed:Array Bool):List Nat→Array Bool
  | []=>listed
  | i::r=>marked (listed.setIfInBounds i true) r

def freeAll (ops:List Oper):List Nat→Array Bool→Bool
  | [],_=>true
  | i::r,listed=>match freeAt ops listed i with
    | true=>freeAll ops r (listed.setIfInBounds i true)
    | false=>false


def pvsD (T:TT) (n:Nat) (ops:List Oper):List Nat→Fr→Option Fr
  | [],F=>some F
  | i::r,F=>match nthv ops i with
    | some o=>match guardOf ops F o,o.dst with
      | some true,some d=>match Nat.blt d n,pv T F o.op with
        | true,some v=>pvsD T n ops r ((d,v)::F)
        | _,_=>none
      | some false,some d=>match Nat.blt d n with
        | true=>pvsD T n ops r ((d,undef)::F)
        | false=>none
      | some true,none=>match pv T F o.op with
        | some _=>pvsD T n ops r F
        | none=>none
      | some false,none=>pvsD T n ops r F
      | none,_=>none
    | _=>none

section
variable {P:Program}{n:Nat}{Q:Post}{F:Fr}{w w0:World}{W9:Base}{ops:List Oper}{wr:Nat→Bool}{fuel:Nat}{listed:Array Bool}

theorem WP.drawn {id:Nat}(hm:P.follows .mixedOrders=true) (k:Nat) (hk:ops.toArray.size=k) (hs:Region.noSelect ops.toArray=true)
    (hv:Ext W9 w) (h:DW P n ops Q W9 w wr k (Array.replicate k false) F { w with drawn:=w.drawn+1 }):WP P n (.region id ops.toArray true) Q F w:=fun a ha=>by
  subst hk
  refine wp_mono (zgC hm (h hs (fun _=>Ext.draw w) (hv.trans (Ext.draw w)) a ha)) ?_
  rintro e a' w' ⟨F',h1,h2⟩
  cases e<;>first | exact⟨F',h1,h2⟩ | exact h2.elim

theorem DW.weak (F':Fr) (hs:F.Has F') (h:DW P n ops Q W9 w0 wr fuel listed F' w):DW P n ops Q W9 w0 wr fuel listed F w:=fun hn he hv a ha=>h hn he hv a (ha.weak hs)

theorem DW.done (hr:Region.ready .any ops.toArray listed=[]) (h:Q .normal F w):DW P n ops Q W9 w0 wr fuel listed F w:=fun _ he _ _ ha=>zgE hr ⟨F,ha,h⟩ fuel


theorem NoWr.back {i:Nat}(hw:wr i=false) (h:NoWr wr (listed.setIfInBounds i true)):NoWr wr listed:=fun k hk=>by
  have:=h k hk
  rwa [z3o (by rintro rfl;rw [hw] at hk;cases hk)] at this

theorem DW.quiet {o:Oper}{v:Value}(i:Nat) (hwi:wr i=false) (hdep:∀ (j:Nat) (oj:Oper),wr j=true→ops[j]? = some oj→∃ e,e∈oj.after∧Region.binds .any e=true∧e.on=i) (hnw:NoWr wr listed) (hi:nthv ops i=some o) (hf:freeAt ops listed i=true) (hg:guardOf ops F o=some true) (hq:Quiet P n F w0 o v){d:Nat}(hd:o.dst=some d) (hn:Nat.blt d n=true)
    (h:DW P n ops Q W9 w0 wr fuel (listed.setIfInBounds i true) ((d,v)::F) w):DW P n ops Q W9 w0 wr (fuel+1) listed F w:=fun hs he hv a ha=>by
  rw [z2b] at hi
  obtain⟨h1,h2⟩:=z8T hf
  refine zgD (oi:=o) (v:=v) (by simpa using hi) hs h1 h2 (noPanic v _) hwi (fun j oj hj hoj=>hdep j oj hj (by simpa using hoj)) (.inl ⟨zh hg ha,fun w' hw'=>hq a w' ha hw'⟩) hnw (he hnw) hv ?_
  rw [hd]
  exact h hs (fun _=>he hnw) hv _ (ha.put hn v)


theorem DW.quietV {o:Oper}{v:Value}(i:Nat) (hwi:wr i=false) (hi:nthv ops i=some o) (hf:freeAt ops listed i=true) (hg:guardOf ops F o=some true) (hq:Quiet P n F W9 o v){d:Nat}(hd:o.dst=some d) (hn:Nat.blt d n=true)
    (h:DW P n ops Q W9 w0 wr fuel (listed.setIfInBounds i true) ((d,v)::F) w):DW P n ops Q W9 w0 wr (fuel+1) listed F w:=fun hs he hv a ha=>by
  rw [z2b] at hi
  obtain⟨h1,h2⟩:=z8T hf
  refine z7c (oi:=o) (v:=v) (by simpa using hi) hs h1 h2 (noPanic v _) hwi (.inl ⟨zh hg ha,fun w' hw'=>hq a w' ha hw'⟩) he hv ?_
  rw [hd]
  exact h hs (fun hn'=>he (hn'.back hwi)) hv _ (ha.put hn v)

theorem DW.run {T:TT}(ht:TTok P T) (l:List Nat) (hwl:∀ i,i∈l→wr i=false) (hl:freeAll ops l listed=true){F':Fr}(hr:pvsD T n ops l F=some F')
    (h:DW P n ops Q W9 w0 wr fuel (marked listed l) F' w):DW P n ops Q W9 w0 wr (fuel+l.length) listed F w:=by
  induction l generalizing listed F with
  | nil=>simp only [pvsD,Option.some.injEq] at hr;subst hr;exact h
  | cons i l ih=>
    unfold freeAll at hl
    split at hl
    · rename_i hfr
      unfold pvsD at hr
      split at hr
      · rename_i o hi
        obtain⟨hf,hrd⟩:=z8T hfr
        rw [z2b] at hi
        have hi':ops.toArray[i]? = some o:=by simpa using hi
        split at hr
        · rename_i d hg hd
          split at hr
          · rename_i v hn hv
            intro hs he hv9 a ha
            refine z7c (oi:=o) (v:=v) hi' hs hf hrd (noPanic v _) (hwl i (by simp)) (.inl ⟨zh hg ha,fun w' _=>zfF ht hv ha w'⟩) he hv9 ?_
            rw [hd]
            exact ih (fun j hj=>hwl j (by simp [hj])) hl hr h hs (fun hn'=>he (hn'.back (hwl i (by simp)))) hv9 _ (ha.put hn v)
          · cases hr
        · rename_i d hg hd
          split at hr
          · rename_i hn
            intro hs he hv9 a ha
            refine z7c (oi:=o) (v:=undef) hi' hs hf hrd (noPanic undef _) (hwl i (by simp)) (.inr ⟨zh hg ha,rfl⟩) he hv9 ?_
            rw [hd]
            exact ih (fun j hj=>hwl j (by simp [hj])) hl hr h hs (fun hn'=>he (hn'.back (hwl i (by simp)))) hv9 _ (ha.put hn undef)
          · cases hr
        · rename_i hg hd
          split at hr
          · rename_i v hv
            intro hs he hv9 a ha
            refine z7c (oi:=o) (v:=v) hi' hs hf hrd (noPanic v _) (hwl i (by simp)) (.inl ⟨zh hg ha,fun w' _=>zfF ht hv ha w'⟩) he hv9 ?_
            rw [hd]
            exact ih (fun j hj=>hwl j (by simp [hj])) hl hr h hs (fun hn'=>he (hn'.back (hwl i (by simp)))) hv9 _ ha
          · cases hr
        · rename_i hg hd
          intro hs he hv9 a ha
          refine z7c (oi:=o) (v:=undef) hi' hs hf hrd (noPanic undef _) (hwl i (by simp)) (.inr ⟨zh hg ha,rfl⟩) he hv9 ?_
          rw [hd]
          exact ih (fun j hj=>hwl j (by simp [hj])) hl hr h hs (fun hn'=>he (hn'.back (hwl i (by simp)))) hv9 _ ha
        · cases hr
      · cases hr
    · cases hl


theorem DW.loud (rs:List Nat) (hr:Region.ready .any ops.toArray listed=rs) (hne:rs≠[]) (h:∀ i,i∈rs→LW P n ops Q W9 w0 wr fuel listed i F w):DW P n ops Q W9 w0 wr (fuel+1) listed F w:=fun hs he hv a ha=>
  zi5 hr hne fun i hi=>h i hi hs he hv a ha

theorem DW.one (i:Nat) (hr:Region.ready .any ops.toArray listed=[i]) (h:LW P n ops Q W9 w0 wr fuel listed i F w):DW P n ops Q W9 w0 wr (fuel+1) listed F w:=
  DW.loud [i] hr (by simp) (by rintro j hj;simp only [List.mem_singleton] at hj;subst hj;exact h)

theorem DW.two (i j:Nat) (hr:Region.ready .any ops.toArray listed=[i,j]) (h:LW P n ops Q W9 w0 wr fuel listed i F w) (h':LW P n ops Q W9 w0 wr fuel listed j F w):DW P n ops Q W9 w0 wr (fuel+1) listed F w:=
  DW.loud [i,j] hr (by simp) (by
    rintro k hk
    simp only [List.mem_cons,List.not_mem_nil,or_false] at hk
    rcases hk with rfl | rfl
    · exact h
    · exact h')

theorem LW.skip {o:Oper}{i:Nat}(hwi:wr i=false) (hi:nthv ops i=some o) (hg:guardOf ops F o=some false) (hn:dstOk n o.dst=true)
    (h:DW P n ops Q W9 w0 wr fuel (listed.setIfInBounds i true) (F.putO o.dst undef) w):LW P n ops Q W9 w0 wr fuel listed i F w:=fun hs he hv a ha=>by
  rw [z2b] at hi
  have hi':ops.toArray[i]? = some o:=by simpa using hi
  unfold wpOp
  simp only [hi']
  rw [if_neg (by rw [zh hg ha];simp)]
  exact⟨⟨fun hn'=>he (hn'.back hwi),hv⟩,h hs (fun hn'=>he (hn'.back hwi)) hv _ (ha.putO hn undef)⟩

theorem LW.ok {o:Oper}{v:Value}{w':World}{i:Nat}(hwi:wr i=false) (hi:nthv ops i=some o) (hg:guardOf ops F o=some true) (hr:∀ a,Fits n F a→(execOp a.eval o).run P w=.ok (.value v) w') (hw:Ext w w') (hn:dstOk n o.dst=true)
    (h:DW P n ops Q W9 w0 wr fuel (listed.setIfInBounds i true) (F.putO o.dst v) w'):LW P n ops Q W9 w0 wr fuel listed i F w:=fun hs he hv a ha=>by
  rw [z2b] at hi
  have hi':ops.toArray[i]? = some o:=by simpa using hi
  unfold wpOp
  simp only [hi']
  rw [if_pos (zh hg ha)]
  refine .inl ?_
  unfold Oper.wp
  rw [hr a ha,Oper.upon_value]
  exact⟨⟨fun hn'=>(he (hn'.back hwi)).trans hw,hv.trans hw⟩,h hs (fun hn'=>(he (hn'.back hwi)).trans hw) (hv.trans hw) _ (ha.putO hn v)⟩


theorem LW.okW {o:Oper}{v:Value}{w':World}{i:Nat}(hwi:wr i=true) (hsz:i<listed.size) (hi:nthv ops i=some o) (hg:guardOf ops F o=some true) (hr:∀ a,Fits n F a→(execOp a.eval o).run P w=.ok (.value v) w') (hn:dstOk n o.dst=true) (hW:Ext W9 w')
    (h:DW P n ops Q W9 w0 wr fuel (listed.setIfInBounds i true) (F.putO o.dst v) w'):LW P n ops Q W9 w0 wr fuel listed i F w:=fun hs he hv a ha=>by
  rw [z2b] at hi
  have hi':ops.toArray[i]? = some o:=by simpa using hi
  have hno:¬ NoWr wr (listed.setIfInBounds i true):=fun hn'=>by
    have:=hn' i hwi
    simp [Array.getD_eq_getD_getElem?,hsz] at this
  unfold wpOp
  simp only [hi']
  rw [if_pos (zh hg ha)]
  refine .inl ?_
  unfold Oper.wp
  rw [hr a ha,Oper.upon_value]
  exact⟨⟨fun hn'=>absurd hn' hno,hW⟩,h hs (fun hn'=>absurd hn' hno) hW _ (ha.putO hn v)⟩

theorem LW.unitW {o:Oper}{w':World}{i:Nat}(hwi:wr i=true) (hsz:i<listed.size) (hi:nthv ops i=some o) (hg:guardOf ops F o=some true) (hr:∀ a,Fits n F a→(execOp a.eval o).run P w=.ok .skip w') (hd:o.dst=none) (hW:Ext W9 w')
    (h:DW P n ops Q W9 w0 wr fuel (listed.setIfInBounds i true) F w'):LW P n ops Q W9 w0 wr fuel listed i F w:=fun hs he hv a ha=>by
  rw [z2b] at hi
  have hi':ops.toArray[i]? = some o:=by simpa using hi
  have hno:¬ NoWr wr (listed.setIfInBounds i true):=fun hn'=>by
    have:=hn' i hwi
    simp [Array.getD_eq_getD_getElem?,hsz] at this
  unfold wpOp
  simp only [hi']
  rw [if_pos (zh hg ha)]
  refine .inl ?_
  unfold Oper.wp
  rw [hr a ha,Oper.upon_skip,hd]
  exact⟨⟨fun hn'=>absurd hn' hno,hW⟩,h hs (fun hn'=>absurd hn' hno) hW _ ha⟩

theorem LW.call {o:Oper}{i:Nat}(hwi:wr i=false) (hi:nthv ops i=some o) (hg:guardOf ops F o=some true){f:FuncId}{vs:List Value}(hc:callOf F o.op=some (f,vs)) (hn:dstOk n o.dst=true) (hen:Enters P f)
    {R:Value→World→Prop}(hf:Calls P f ⟨vs⟩ w (Ret R)) (h:∀ v w',R v w'→Ext w w'∧DW P n ops Q W9 w0 wr fuel (listed.setIfInBounds i true) (F.putO o.dst v) w'):LW P n ops Q W9 w0 wr fuel listed i F w:=fun hs he hv a ha=>by
  rw [z2b] at hi
  have hi':ops.toArray[i]? = some o:=by simpa using hi
  unfold wpOp
  simp only [hi']
  rw [if_pos (zh hg ha)]
  refine .inl ?_
  unfold Oper.wp
  rw [zbP hen hc ha,Oper.upon_enter]
  refine hf.mono fun e w' hr=>?_
  cases e with
  | returned v=>exact⟨⟨fun hn'=>(he (hn'.back hwi)).trans (h v w' hr).1,hv.trans (h v w' hr).1⟩,(h v w' hr).2 hs (fun hn'=>(he (hn'.back hwi)).trans (h v w' hr).1) (hv.trans (h v w' hr).1) _ (ha.putO hn v)⟩
  | panicked _=>exact hr.elim
  | outgrown=>exact hr.elim

theorem LW.new {T:TT}(ht:TTok P T){W:Base}{Rs:List Res}(hS:St W w Rs){o:Oper}{i:Nat}(hwi:wr i=false) (hi:nthv ops i=some o) (hg:guardOf ops F o=some true){cs:List Value}{e:TypeId}(hc:newOf T F o.op=some (cs,e))
    {d:Nat}(hd:o.dst=some d) (hn:Nat.blt d n=true)
    (h:∀ g (w':World),Ext w w'→St W w' (Box g cs e::Rs)→DW P n ops Q W9 w0 wr fuel (listed.setIfInBounds i true) ((d,.pointer (some ⟨g,0,none⟩))::F) w'):LW P n ops Q W9 w0 wr fuel listed i F w:=by
  refine LW.ok hwi hi hg (fun _ ha=>zfG ht hc ha) (Ext.alloc w (.cells ⟨cs⟩ e)) (by rw [hd];exact hn) ?_
  rw [hd]
  exact h _ _ (Ext.alloc w (.cells ⟨cs⟩ e)) (hS.new cs e)

theorem Quiet.later {w1 w2:Base}{o:Oper}{v:Value}(he:Ext w1 w2) (h:Quiet P n F w1 o v):Quiet P n F w2 o v:=fun a w' ha hw=>h a w' ha (he.trans hw)


variable {T:TT}(ht:TTok P T){rest:List Oper}{o:Oper}
include ht

theorem RW.load1 (hg:guardOf ops F o=some true){t:Nat}{x:Operand}{i:TI}{p q:Addr}{cs:List Value}(ho:o.op=.load t x) (hi:T.get t=some i) (hag:i.agg=false) (hx:F.ev x=some (.pointer (some q)))
    (hat:At w p cs) (off:Nat) (hq:q=p.add off){v:Value}(hv:nthv cs off=some v){d:Nat}(hd:o.dst=some d) (hn:Nat.blt d n=true)
    (h:RW P n ops Q rest ((d,v)::F) w):RW P n ops Q (o::rest) F w:=RW.quiet hg (Quiet.load1 ht ho hi hag hx hat off hq hv) hd hn h

theorem RW.loadN (hg:guardOf ops F o=some true){t:Nat}{x:Operand}{i:TI}{q:Addr}{cs:List Value}(ho:o.op=.load t x) (hi:T.get t=some i) (hag:i.agg=true) (hx:F.ev x=some (.pointer (some q)))
    (hat:At w q cs) (hl:Nat.beq cs.length i.size=true){d:Nat}(hd:o.dst=some d) (hn:Nat.blt d n=true)
    (h:RW P n ops Q rest ((d,.agg ⟨cs⟩)::F) w):RW P n ops Q (o::rest) F w:=RW.quiet hg (Quiet.loadN ht ho hi hag hx hat (Nat.eq_of_beq_eq_true hl)) hd hn h

theorem RW.idx {α:Type}{U:Ty α}{w1:Base}(he:Ext w1 w) (hg:guardOf ops F o=some true){t e:Nat}{x ix:Operand}{i j:TI}{A:Option Addr}{len c:Nat}{xs:List α}{k:IntKind}{m:Int}(ho:o.op=.indexAddr t x ix)
    (hi:T.get t=some i) (hd:i.d=.slice e) (hj:T.get e=some j) (hs:U.size=j.size) (hpos:0<U.size) (hx:F.ev x=some (.slice A len c)) (hm:F.ev ix=some (.int k m))
    {e':Nat}(hr:(tSl e' U).ro w1 [.slice A len c] xs){a:α}(h0:0≤m) (ha:xs[m.toNat]? = some a){d:Nat}(hd':o.dst=some d) (hn:Nat.blt d n=true)
    (h:∀ q es,At w1 q es→U.ro w1 es a→RW P n ops Q rest ((d,.pointer (some q))::F) w):RW P n ops Q (o::rest) F w:=by
  obtain⟨q,es,h1,h2,h3⟩:=Quiet.idx (n:=n) ht ho hi hd hj hs hpos hx hm hr h0 ha
  exact RW.quiet hg (h1.later he) hd' hn (h q es h2 h3)

theorem RW.cut {α:Type}{U:Ty α}{w1:Base}(he:Ext w1 w) (hg:guardOf ops F o=some true){t e:Nat}{x:Operand}{lo hi:Option Operand}{i j:TI}{A:Option Addr}{len c:Nat}{xs:List α}(ho:o.op=.slice t x lo hi none)
    (hi':T.get t=some i) (hd:i.d=.slice e) (hj:T.get e=some j) (hs:U.size=j.size) (hx:F.ev x=some (.slice A len c)){e':Nat}
    (hr:(tSl e' U).ro w1 [.slice A len c] xs){l h:Nat}(hl:(lo=none∧l=0)∨∃ y k,lo=some y∧F.ev y=some (.int k (l:Int))) (hh:(hi=none∧h=xs.length)∨∃ y k,hi=some y∧F.ev y=some (.int k (h:Int)))
    (h1:l≤h) (h2:h≤xs.length){d:Nat}(hd':o.dst=some d) (hn:Nat.blt d n=true)
    (hk:∀ A' c',(tSl e' U).ro w1 [.slice A' (h - l) c'] ((xs.take h).drop l)→RW P n ops Q rest ((d,.slice A' (h - l) c')::F) w):RW P n ops Q (o::rest) F w:=by
  obtain⟨A',c',k1,k2⟩:=Quiet.cut (n:=n) ht ho hi' hd hj hs hx hr hl hh h1 h2
  exact RW.quiet hg (k1.later he) hd' hn (hk A' c' k2)
end


def Lst (k m:Nat) (listed:Array Bool):Prop:=listed.size=k∧∀ i,listed.getD i false=m.testBit i

theorem Lst.start (k:Nat):Lst k 0 (Array.replicate k false):=⟨by simp,fun i=>by
  simp only [Array.getD_eq_getD_getElem?,Array.getElem?_replicate,Nat.zero_testBit]
  split<;>rfl⟩

theorem Lst.getT {k m:Nat}{listed:Array Bool}(h:Lst k m listed){i:Nat}(hi:i<k):listed.getD i true=m.testBit i:=by
  rw [← h.2 i]
  have hs:i<listed.size:=by rw [h.1];exact hi
  simp [Array.getD_eq_getD_getElem?,Array.getElem?_eq_getElem hs]

theorem Lst.set {k m m' i:Nat}{listed:Array Bool}(h:Lst k m listed) (hi:i<k) (hm:m ||| 2 ^ i=m'):Lst k m' (listed.setIfInBounds i true):=⟨by simp [h.1],fun j=>by
  subst hm
  rw [Nat.testBit_or,Nat.testBit_two_pow,← h.2 j]
  have hs:i<listed.size:=by rw [h.1];exact hi
  by_cases hij:i=j
  · subst hij;simp [Array.getD_eq_getD_getElem?,hs]
  · simp [Array.getD_eq_getD_getElem?,Array.getElem?_setIfInBounds_ne hij,hij]⟩

def bits (p:Nat→Bool):Nat→Nat
  | 0=>0
  | k+1=>match p k with
    | true=>bits p k ||| 2 ^ k
    | false=>bits p k

theorem zdQ (p:Nat→Bool):∀ (k j:Nat),(bits p k).testBit j=true→p j=true
  | 0,j,h=>by simp [bits] at h
  | k+1,j,h=>by
    unfold bits at h
    split at h
    · rename_i hk
      rw [Nat.testBit_or,Nat.testBit_two_pow,Bool.or_eq_true,decide_eq_true_eq] at h
      rcases h with h | rfl
      · exact zdQ p k j h
      · exact hk
    · exact zdQ p k j h

def depsOf (o:Oper):List Nat:=(o.after.toList.filter fun e=>Region.binds .any e).map fun e=>e.on
def apartAt (ops:List Oper) (i j:Nat):Bool:=
  Nat.beq j i || match nthv ops i,nthv ops j with
    | some oi,some oj=>(depsOf oj).contains i || oi.apart ops.toArray oj
    | _,_=>true

def skOf (ops:List Oper):List (List Nat × Nat):=(List.range ops.length).map fun i=>(((nthv ops i).map depsOf).getD [],bits (apartAt ops i) ops.length)

def freeM (sk:List (List Nat × Nat)) (full m i:Nat):Bool:=
  match nthv sk i with
  | some (d,a)=>!m.testBit i && d.all (fun j=>m.testBit j) && Nat.beq (a ||| m) full
  | none=>false
def readyM (sk:List (List Nat × Nat)) (k m:Nat):List Nat:=
  (List.range k).filter fun i=>!m.testBit i && ((nthv sk i).map fun x=>x.1.all fun j=>m.testBit j).getD false

theorem ziU {k m:Nat}{listed:Array Bool}(h:Lst k m listed) (o:Oper):(depsOf o).all (fun j=>m.testBit j)=o.after.all fun e=>!Region.binds .any e || listed.getD e.on false:=by
  unfold depsOf
  rw [← Array.all_toList]
  induction o.after.toList with
  | nil=>rfl
  | cons e l ih=>
    by_cases hb:Region.binds .any e=true
    · simp only [List.filter_cons,hb,if_true,List.map_cons,List.all_cons,ih,Bool.not_true,Bool.false_or,h.2]
    · have hb':=Bool.eq_false_iff.2 hb
      simp only [List.filter_cons,hb',Bool.false_eq_true,if_false,List.all_cons,ih,Bool.not_false,Bool.true_or,Bool.true_and]

theorem zba {ops:List Oper}{sk:List (List Nat × Nat)}(hsk:skOf ops=sk){i:Nat}{o:Oper}(hi:ops[i]? = some o):nthv sk i=some (depsOf o,bits (apartAt ops i) ops.length):=by
  subst hsk
  have hl:=(List.getElem?_eq_some_iff.1 hi).1
  rw [z2b]
  unfold skOf
  rw [List.getElem?_map,List.getElem?_range hl]
  simp [z2b,hi]

theorem zdc {ops:List Oper}{sk:List (List Nat × Nat)}(hsk:skOf ops=sk){k m:Nat}{listed:Array Bool}(hk:ops.length=k) (h:Lst k m listed):Region.ready .any ops.toArray listed=readyM sk k m:=by
  unfold Region.ready readyM
  rw [show ops.toArray.size=k by simpa using hk]
  refine List.filter_congr fun i hi=>?_
  have hik:i<k:=List.mem_range.1 hi
  obtain⟨o,ho⟩:∃ o,ops[i]? = some o:=⟨_,List.getElem?_eq_getElem (by omega)⟩
  rw [zba hsk ho,h.getT hik]
  simp only [List.getElem?_toArray,ho,Option.map_some,Option.getD_some]
  rw [ziU h o]

theorem z9B {ops:List Oper}{sk:List (List Nat × Nat)}(hsk:skOf ops=sk){k m i:Nat}{listed:Array Bool}(hk:ops.length=k) (h:Lst k m listed){o:Oper}(ho:ops[i]? = some o) (hf:freeM sk (2 ^ k - 1) m i=true):
    freeAt ops listed i=true:=by
  have hik:i<k:=by rw [← hk];exact(List.getElem?_eq_some_iff.1 ho).1
  unfold freeM at hf
  rw [zba hsk ho] at hf
  simp only [Bool.and_eq_true,Nat.beq_eq] at hf
  obtain⟨⟨h1,h2⟩,h3⟩:=hf
  have hrd:(Region.ready .any ops.toArray listed).contains i=true:=by
    rw [zdc hsk hk h,List.contains_iff_mem]
    unfold readyM
    rw [List.mem_filter,zba hsk ho]
    exact⟨List.mem_range.2 hik,by simp only [Option.map_some,Option.getD_some,h1,h2,Bool.and_self]⟩
  have hfr:Region.free .any ops.toArray listed i=true:=by
    unfold Region.free
    simp only [List.getElem?_toArray,ho,List.all_eq_true,List.mem_range,List.size_toArray]
    intro j hj
    obtain⟨oj,hoj⟩:∃ o,ops[j]? = some o:=⟨_,List.getElem?_eq_getElem hj⟩
    have hb:((bits (apartAt ops i) ops.length) ||| m).testBit j=true:=by
      rw [h3,Nat.testBit_two_pow_sub_one];simpa using (by omega:j<k)
    rw [Nat.testBit_or,Bool.or_eq_true] at hb
    rcases hb with hb | hb
    · have:=zdQ _ _ _ hb
      unfold apartAt at this
      simp only [z2b,ho,hoj,Bool.or_eq_true,Nat.beq_eq] at this
      rcases this with this | this | this
      · simp [this]
      · have hc:∃ e,e∈oj.after∧Region.binds .any e=true∧e.on=i:=by
          rw [List.contains_iff_mem] at this
          unfold depsOf at this
          obtain⟨e,he,rfl⟩:=List.mem_map.1 this
          obtain⟨he1,he2⟩:=List.mem_filter.1 he
          exact⟨e,by simpa using he1,by simpa using he2,rfl⟩
        obtain⟨e,he1,he2,he3⟩:=hc
        simp only [hoj,Bool.or_eq_true]
        refine .inr (.inl ?_)
        rw [Array.any_eq_true']
        exact⟨e,he1,by simp [he2,he3]⟩
      · simp only [hoj,Bool.or_eq_true]
        exact .inr (.inr this)
    · simp only [h.getT (show j<k by omega),hb,Bool.or_true,Bool.true_or]
  unfold freeAt
  rw [hfr]
  exact hrd


def DM (P:Program) (n:Nat) (ops:List Oper) (Q:Post) (W9:Base) (w0:World) (wm fuel k m:Nat) (F:Fr) (w:World):Prop:=∀ listed,Lst k m listed→DW P n ops Q W9 w0 (fun j=>wm.testBit j) fuel listed F w

def LM (P:Program) (n:Nat) (ops:List Oper) (Q:Post) (W9:Base) (w0:World) (wm fuel k m:Nat) (i:Nat) (F:Fr) (w:World):Prop:=∀ listed,Lst k m listed→LW P n ops Q W9 w0 (fun j=>wm.testBit j) fuel listed i F w

def wrOk (sk:List (List Nat × Nat)) (wm k i:Nat):Bool:=(List.range k).all fun j=>!wm.testBit j || ((nthv sk j).map fun x=>x.1.contains i).getD true

theorem zj8 {ops:List Oper}{sk:List (List Nat × Nat)}(hsk:skOf ops=sk){k wm i:Nat}(hk:ops.length=k) (h:wrOk sk wm k i=true) (j:Nat) (oj:Oper) (hw:wm.testBit j=true) (ho:ops[j]? = some oj):
    ∃ e,e∈oj.after∧Region.binds .any e=true∧e.on=i:=by
  unfold wrOk at h
  rw [List.all_eq_true] at h
  have:=h j (List.mem_range.2 (by rw [← hk];exact(List.getElem?_eq_some_iff.1 ho).1))
  rw [zba hsk ho,hw] at this
  simp only [Bool.not_true,Bool.false_or,Option.map_some,Option.getD_some,List.contains_iff_mem] at this
  unfold depsOf at this
  obtain⟨e,he,rfl⟩:=List.mem_map.1 this
  obtain⟨he1,he2⟩:=List.mem_filter.1 he
  exact⟨e,by simpa using he1,by simpa using he2,rfl⟩

theorem zjF {k m wm:Nat}{listed:Array Bool}(h:Lst k m listed) (h0:Nat.beq (m &&& wm) 0=true):NoWr (fun j=>wm.testBit j) listed:=fun j hj=>by
  rw [h.2 j]
  have q:m &&& wm=0:=by simpa using h0
  have hj':wm.testBit j=true:=hj
  have h1:(m &&& wm).testBit j=false:=by rw [q];simp
  rw [Nat.testBit_and] at h1
  cases hm:m.testBit j with
  | false=>rfl
  | true=>rw [hm,hj'] at h1;cases h1

def freeAllM (sk:List (List Nat × Nat)) (full:Nat):List Nat→Nat→Option Nat
  | [],m=>some m
  | i::r,m=>match freeM sk full m i with
    | true=>freeAllM sk full r (m ||| 2 ^ i)
    | false=>none

section
variable {P:Program}{n:Nat}{Q:Post}{F:Fr}{w w0:World}{W9:Base}{ops:List Oper}{wm fuel k m m':Nat}{sk:List (List Nat × Nat)}{o:Oper}

theorem WP.drawnM {id:Nat}(wm:Nat) (hm:P.follows .mixedOrders=true) (k:Nat) (hk:Nat.beq ops.length k=true) (hs:Region.noSelect ops.toArray=true) (sk:List (List Nat × Nat)) (hsk:skOf ops=sk) (hv:Ext W9 w)
    (h:(skOf ops=sk∧ops.length=k)→DM P n ops Q W9 w wm k k 0 F { w with drawn:=w.drawn+1 }):WP P n (.region id ops.toArray true) Q F w:=
  WP.drawn hm k (by simpa using hk) hs hv (h ⟨hsk,by simpa using hk⟩ _ (Lst.start k))

theorem DM.weak (F':Fr) (hs:F.Has F') (h:DM P n ops Q W9 w0 wm fuel k m F' w):DM P n ops Q W9 w0 wm fuel k m F w:=fun l hl=>DW.weak F' hs (h l hl)

theorem DM.done (hsk:skOf ops=sk∧ops.length=k) (hr:readyM sk k m=[]) (h:Q .normal F w):DM P n ops Q W9 w0 wm fuel k m F w:=fun _ hl=>DW.done (by rw [zdc hsk.1 hsk.2 hl];exact hr) h

theorem z91 (hk:ops.length=k){i:Nat}(hi:nthv ops i=some o):i<k:=by
  rw [z2b] at hi
  rw [← hk];exact(List.getElem?_eq_some_iff.1 hi).1

theorem DM.quiet {v:Value}(hsk:skOf ops=sk∧ops.length=k) (i m':Nat) (hm:m ||| 2 ^ i=m') (hwi:wm.testBit i=false) (hwo:wrOk sk wm k i=true) (hnw:Nat.beq (m &&& wm) 0=true) (hi:nthv ops i=some o) (hf:freeM sk (2 ^ k - 1) m i=true) (hg:guardOf ops F o=some true) (hq:Quiet P n F w0 o v){d:Nat}(hd:o.dst=some d) (hn:Nat.blt d n=true)
    (h:DM P n ops Q W9 w0 wm fuel k m' ((d,v)::F) w):DM P n ops Q W9 w0 wm (fuel+1) k m F w:=fun l hl=>
  DW.quiet i hwi (fun j oj hj ho=>zj8 hsk.1 hsk.2 hwo j oj hj ho) (zjF hl hnw) hi (z9B hsk.1 hsk.2 hl (by rw [← z2b];exact hi) hf) hg hq hd hn (h _ (hl.set (z91 hsk.2 hi) hm))

theorem DM.quietV {v:Value}(hsk:skOf ops=sk∧ops.length=k) (i m':Nat) (hm:m ||| 2 ^ i=m') (hwi:wm.testBit i=false) (hi:nthv ops i=some o) (hf:freeM sk (2 ^ k - 1) m i=true) (hg:guardOf ops F o=some true) (hq:Quiet P n F W9 o v){d:Nat}(hd:o.dst=some d) (hn:Nat.blt d n=true)
    (h:DM P n ops Q W9 w0 wm fuel k m' ((d,v)::F) w):DM P n ops Q W9 w0 wm (fuel+1) k m F w:=fun l hl=>
  DW.quietV i hwi hi (z9B hsk.1 hsk.2 hl (by rw [← z2b];exact hi) hf) hg hq hd hn (h _ (hl.set (z91 hsk.2 hi) hm))

theorem zbU (hsk:skOf ops=sk∧ops.length=k):∀ (l:List Nat){m m':Nat}{listed:Array Bool},freeAllM sk (2 ^ k - 1) l m=some m'→Lst k m listed→freeAll ops l listed=true∧Lst k m' (marked listed l)
  | [],m,m',listed,h,hl=>by
    simp only [freeAllM,Option.some.injEq] at h;subst h
    exact⟨rfl,hl⟩
  | i::r,m,m',listed,h,hl=>by
    unfold freeAllM at h
    split at h
    · rename_i hf
      have hi:∃ o,ops[i]? = some o:=by
        rcases Nat.lt_or_ge i ops.length with h' | h'
        · exact⟨_,List.getElem?_eq_getElem h'⟩
        · unfold freeM at hf
          have:nthv sk i=none:=by
            rw [← hsk.1,z2b]
            unfold skOf
            rw [List.getElem?_map,List.getElem?_eq_none (by simpa using h')]
            rfl
          rw [this] at hf
          cases hf
      obtain⟨o,hi⟩:=hi
      have h1:=z9B hsk.1 hsk.2 hl hi hf
      have h2:=hl.set (show i<k by rw [← hsk.2];exact(List.getElem?_eq_some_iff.1 hi).1) rfl
      obtain⟨h3,h4⟩:=zbU hsk r h h2
      refine⟨?_,h4⟩
      unfold freeAll
      rw [h1]
      exact h3
    · cases h

theorem DM.run {T:TT}(ht:TTok P T) (hsk:skOf ops=sk∧ops.length=k) (l:List Nat) (m':Nat) (hwl:l.all (fun i=>!wm.testBit i)=true) (hl:freeAllM sk (2 ^ k - 1) l m=some m'){F':Fr}(hr:pvsD T n ops l F=some F')
    (h:DM P n ops Q W9 w0 wm fuel k m' F' w):DM P n ops Q W9 w0 wm (fuel+l.length) k m F w:=fun _ hL=>
  DW.run ht l (fun i hi=>by have:=List.all_eq_true.1 hwl i hi;simpa using this) (zbU hsk l hl hL).1 hr (h _ (zbU hsk l hl hL).2)

theorem DM.loud (hsk:skOf ops=sk∧ops.length=k) (rs:List Nat) (hr:readyM sk k m=rs) (hne:rs≠[]) (h:∀ i,i∈rs→LM P n ops Q W9 w0 wm fuel k m i F w):DM P n ops Q W9 w0 wm (fuel+1) k m F w:=fun l hl=>
  DW.loud rs (by rw [zdc hsk.1 hsk.2 hl];exact hr) hne fun i hi=>h i hi l hl

theorem DM.one (hsk:skOf ops=sk∧ops.length=k) (i:Nat) (hr:readyM sk k m=[i]) (h:LM P n ops Q W9 w0 wm fuel k m i F w):DM P n ops Q W9 w0 wm (fuel+1) k m F w:=
  DM.loud hsk [i] hr (by simp) (by rintro j hj;simp only [List.mem_singleton] at hj;subst hj;exact h)

theorem DM.two (hsk:skOf ops=sk∧ops.length=k) (i j:Nat) (hr:readyM sk k m=[i,j]) (h:LM P n ops Q W9 w0 wm fuel k m i F w) (h':LM P n ops Q W9 w0 wm fuel k m j F w):DM P n ops Q W9 w0 wm (fuel+1) k m F w:=
  DM.loud hsk [i,j] hr (by simp) (by
    rintro a ha
    simp only [List.mem_cons,List.not_mem_nil,or_false] at ha
    rcases ha with rfl | rfl
    · exact h
    · exact h')

theorem LM.skip (hsk:skOf ops=sk∧ops.length=k){i:Nat}(m':Nat) (hm:m ||| 2 ^ i=m') (hwi:wm.testBit i=false) (hi:nthv ops i=some o) (hg:guardOf ops F o=some false) (hn:dstOk n o.dst=true)
    (h:DM P n ops Q W9 w0 wm fuel k m' (F.putO o.dst undef) w):LM P n ops Q W9 w0 wm fuel k m i F w:=fun _ hl=>
  LW.skip hwi hi hg hn (h _ (hl.set (z91 hsk.2 hi) hm))

theorem LM.ok (hsk:skOf ops=sk∧ops.length=k){v:Value}{w':World}{i:Nat}(m':Nat) (hm:m ||| 2 ^ i=m') (hwi:wm.testBit i=false) (hi:nthv ops i=some o) (hg:guardOf ops F o=some true) (hr:∀ a,Fits n F a→(execOp a.eval o).run P w=.ok (.value v) w') (hw:Ext w w') (hn:dstOk n o.dst=true)
    (h:DM P n ops Q W9 w0 wm fuel k m' (F.putO o.dst v) w'):LM P n ops Q W9 w0 wm fuel k m i F w:=fun _ hl=>
  LW.ok hwi hi hg hr hw hn (h _ (hl.set (z91 hsk.2 hi) hm))

theorem LM.okW (hsk:skOf ops=sk∧ops.length=k){v:Value}{w':World}{i:Nat}(m':Nat) (hm:m ||| 2 ^ i=m') (hwi:wm.testBit i=true) (hi:nthv ops i=some o) (hg:guardOf ops F o=some true) (hr:∀ a,Fits n F a→(execOp a.eval o).run P w=.ok (.value v) w') (hn:dstOk n o.dst=true) (hW:Ext W9 w')
    (h:DM P n ops Q W9 w0 wm fuel k m' (F.putO o.dst v) w'):LM P n ops Q W9 w0 wm fuel k m i F w:=fun _ hl=>
  LW.okW hwi (by rw [hl.1];exact z91 hsk.2 hi) hi hg hr hn hW (h _ (hl.set (z91 hsk.2 hi) hm))

theorem LM.unitW (hsk:skOf ops=sk∧ops.length=k){w':World}{i:Nat}(m':Nat) (hm:m ||| 2 ^ i=m') (hwi:wm.testBit i=true) (hi:nthv ops i=some o) (hg:guardOf ops F o=some true) (hr:∀ a,Fits n F a→(execOp a.eval o).run P w=.ok .skip w') (hd:o.dst=none) (hW:Ext W9 w')
    (h:DM P n ops Q W9 w0 wm fuel k m' F w'):LM P n ops Q W9 w0 wm fuel k m i F w:=fun _ hl=>
  LW.unitW hwi (by rw [hl.1];exact z91 hsk.2 hi) hi hg hr hd hW (h _ (hl.set (z91 hsk.2 hi) hm))

theorem LM.call (hsk:skOf ops=sk∧ops.length=k){i:Nat}(m':Nat) (hm:m ||| 2 ^ i=m') (hwi:wm.testBit i=false) (hi:nthv ops i=some o) (hg:guardOf ops F o=some true){f:FuncId}{vs:List Value}(hc:callOf F o.op=some (f,vs)) (hn:dstOk n o.dst=true) (hen:Enters P f)
    {R:Value→World→Prop}(hf:Calls P f ⟨vs⟩ w (Ret R)) (h:∀ v w',R v w'→Ext w w'∧DM P n ops Q W9 w0 wm fuel k m' (F.putO o.dst v) w'):LM P n ops Q W9 w0 wm fuel k m i F w:=fun _ hl=>
  LW.call hwi hi hg hc hn hen hf fun v w' hR=>⟨(h v w' hR).1,(h v w' hR).2 _ (hl.set (z91 hsk.2 hi) hm)⟩

theorem LM.new {T:TT}(ht:TTok P T) (hsk:skOf ops=sk∧ops.length=k){W:Base}{Rs:List Res}(hS:St W w Rs){i:Nat}(m':Nat) (hm:m ||| 2 ^ i=m') (hwi:wm.testBit i=false) (hi:nthv ops i=some o) (hg:guardOf ops F o=some true){cs:List Value}{e:TypeId}(hc:newOf T F o.op=some (cs,e))
    {d:Nat}(hd:o.dst=some d) (hn:Nat.blt d n=true)
    (h:∀ g (w':World),Ext w w'→St W w' (Box g cs e::Rs)→DM P n ops Q W9 w0 wm fuel k m' ((d,.pointer (some ⟨g,0,none⟩))::F) w'):LM P n ops Q W9 w0 wm fuel k m i F w:=fun _ hl=>
  LW.new ht hS hwi hi hg hc hd hn fun g w' h1 h2=>h g w' h1 h2 _ (hl.set (z91 hsk.2 hi) hm)

variable {T:TT}(ht:TTok P T)
include ht

theorem DM.load1 (hsk:skOf ops=sk∧ops.length=k) (i m':Nat) (hm:m ||| 2 ^ i=m') (hwi:wm.testBit i=false) (hwo:wrOk sk wm k i=true) (hnw:Nat.beq (m &&& wm) 0=true) (hi:nthv ops i=some o) (hf:freeM sk (2 ^ k - 1) m i=true) (hg:guardOf ops F o=some true){t:Nat}{x:Operand}{j:TI}{p q:Addr}{cs:List Value}(ho:o.op=.load t x) (hj:T.get t=some j) (hag:j.agg=false)
    (hx:F.ev x=some (.pointer (some q))) (hat:At w0 p cs) (off:Nat) (hq:q=p.add off){v:Value}(hv:nthv cs off=some v){d:Nat}(hd:o.dst=some d) (hn:Nat.blt d n=true)
    (h:DM P n ops Q W9 w0 wm fuel k m' ((d,v)::F) w):DM P n ops Q W9 w0 wm (fuel+1) k m F w:=DM.quiet hsk i m' hm hwi hwo hnw hi hf hg (Quiet.load1 ht ho hj hag hx hat off hq hv) hd hn h

theorem DM.loadN (hsk:skOf ops=sk∧ops.length=k) (i m':Nat) (hm:m ||| 2 ^ i=m') (hwi:wm.testBit i=false) (hwo:wrOk sk wm k i=true) (hnw:Nat.beq (m &&& wm) 0=true) (hi:nthv ops i=some o) (hf:freeM sk (2 ^ k - 1) m i=true) (hg:guardOf ops F o=some true){t:Nat}{x:Operand}{j:TI}{q:Addr}{cs:List Value}(ho:o.op=.load t x) (hj:T.get t=some j) (hag:j.agg=true)
    (hx:F.ev x=some (.pointer (some q))) (hat:At w0 q cs) (hl:Nat.beq cs.length j.size=true){d:Nat}(hd:o.dst=some d) (hn:Nat.blt d n=true)
    (h:DM P n ops Q W9 w0 wm fuel k m' ((d,.agg ⟨cs⟩)::F) w):DM P n ops Q W9 w0 wm (fuel+1) k m F w:=DM.quiet hsk i m' hm hwi hwo hnw hi hf hg (Quiet.loadN ht ho hj hag hx hat (Nat.eq_of_beq_eq_true hl)) hd hn h

theorem DM.idx {α:Type}{U:Ty α}{w1:Base}(he:Ext w1 w0) (hsk:skOf ops=sk∧ops.length=k) (i m':Nat) (hm':m ||| 2 ^ i=m') (hwi:wm.testBit i=false) (hwo:wrOk sk wm k i=true) (hnw:Nat.beq (m &&& wm) 0=true) (hi:nthv ops i=some o) (hf:freeM sk (2 ^ k - 1) m i=true) (hg:guardOf ops F o=some true){t e:Nat}{x ix:Operand}{j j':TI}{A:Option Addr}{len c:Nat}{xs:List α}{kk:IntKind}{mm:Int}(ho:o.op=.indexAddr t x ix)
    (hj:T.get t=some j) (hd:j.d=.slice e) (hj':T.get e=some j') (hs:U.size=j'.size) (hpos:0<U.size) (hx:F.ev x=some (.slice A len c)) (hm:F.ev ix=some (.int kk mm))
    {e':Nat}(hr:(tSl e' U).ro w1 [.slice A len c] xs){a:α}(h0:0≤mm) (ha:xs[mm.toNat]? = some a){d:Nat}(hd':o.dst=some d) (hn:Nat.blt d n=true)
    (h:∀ q es,At w1 q es→U.ro w1 es a→DM P n ops Q W9 w0 wm fuel k m' ((d,.pointer (some q))::F) w):DM P n ops Q W9 w0 wm (fuel+1) k m F w:=by
  obtain⟨q,es,h1,h2,h3⟩:=Quiet.idx (n:=n) ht ho hj hd hj' hs hpos hx hm hr h0 ha
  exact DM.quiet hsk i m' hm' hwi hwo hnw hi hf hg (h1.later he) hd' hn (h q es h2 h3)

theorem DM.cut {α:Type}{U:Ty α}{w1:Base}(he:Ext w1 w0) (hsk:skOf ops=sk∧ops.length=k) (n' m':Nat) (hm':m ||| 2 ^ n'=m') (hwi:wm.testBit n'=false) (hwo:wrOk sk wm k n'=true) (hnw:Nat.beq (m &&& wm) 0=true) (hni:nthv ops n'=some o) (hf:freeM sk (2 ^ k - 1) m n'=true) (hg:guardOf ops F o=some true){t e:Nat}{x:Operand}{lo hi:Option Operand}{i j:TI}{A:Option Addr}{len c:Nat}{xs:List α}(ho:o.op=.slice t x lo hi none)
    (hi':T.get t=some i) (hd:i.d=.slice e) (hj:T.get e=some j) (hs:U.size=j.size) (hx:F.ev x=some (.slice A len c)){e':Nat}
    (hr:(tSl e' U).ro w1 [.slice A len c] xs){l h:Nat}(hl:(lo=none∧l=0)∨∃ y k,lo=some y∧F.ev y=some (.int k (l:Int))) (hh:(hi=none∧h=xs.length)∨∃ y k,hi=some y∧F.ev y=some (.int k (h:Int)))
    (h1:l≤h) (h2:h≤xs.length){d:Nat}(hd':o.dst=some d) (hn:Nat.blt d n=true)
    (hk:∀ A' c',(tSl e' U).ro w1 [.slice A' (h - l) c'] ((xs.take h).drop l)→DM P n ops Q W9 w0 wm fuel k m' ((d,.slice A' (h - l) c')::F) w):DM P n ops Q W9 w0 wm (fuel+1) k m F w:=by
  obtain⟨A',c',k1,k2⟩:=Quiet.cut (n:=n) ht ho hi' hd hj hs hx hr hl hh h1 h2
  exact DM.quiet hsk n' m' hm' hwi hwo hnw hni hf hg (k1.later he) hd' hn (hk A' c' k2)

end
end Go.E


namespace Go.E
open Go.RowKit
set_option linter.unusedVariables false
set_option linter.unusedSimpArgs false

def Emp:Res where
  A:=fun _ G=>G=[]
  loc:=fun h _=>h
  lt:=by rintro w G h g hg;rw [h] at hg;cases hg

def All:List Res→Res
  | []=>Emp
  | R::Rs=>Both R (All Rs)

theorem allApp:∀ {Rs Ss:List Res}{w:World}{G H:List Nat},(All Rs).A w G→(All Ss).A w H→(All (Rs++Ss)).A w (G++H)
  | [],_,_,_,_,h,k=>by rw [show _=[] from h];exact k
  | _::_,_,_,_,_,⟨A,B,h,h1,h2⟩,k=>⟨A,B++_,by rw [h,List.append_assoc],h1,allApp h2 k⟩

section
variable {W:Base}{w:World}{B:List Res}

theorem St.ofEmp (h:St W w (Emp::B)):St W w B:=h.drop
theorem St.toEmp (h:St W w B):St W w (Emp::B):=⟨h.ext,⟨[],rfl,by simp,by simp,h.sep⟩⟩

theorem St.splitAll:∀ {Rs:List Res}{B:List Res},St W w (All Rs::B)→St W w (Rs++B)
  | [],_,h=>h.ofEmp
  | R::Rs,B,h=>by
    have h1:St W w (All Rs::R::B):=(St.split h).perm (List.Perm.swap _ _ _)
    have h2:=St.splitAll h1
    exact h2.perm List.perm_middle

theorem St.fuseAll:∀ {Rs:List Res}{B:List Res},St W w (Rs++B)→St W w (All Rs::B)
  | [],_,h=>h.toEmp
  | R::Rs,B,h=>by
    have h1:St W w (Rs++R::B):=h.perm List.perm_middle.symm
    have h2:=St.fuseAll h1
    exact(h2.perm (List.Perm.swap _ _ _)).fuse

theorem slForm {α:Type}{T:Ty α}{e:Nat}{cs:List Value}{xs:List α}(h:(tSl e T).ro w cs xs):∃ A c,cs=[.slice A xs.length c]:=by
  obtain⟨A,c,els,h1,_⟩:=h
  exact⟨A,c,h1⟩

theorem slFormO {α:Type}{T:Ty α}{e:Nat}{w:World}{cs:List Value}{xs:List α}{G:List Nat}(h:(tSl e T).own w cs xs G):∃ A c,cs=[.slice A xs.length c]:=by
  obtain⟨v,els,rfl,ho,_⟩:=h
  rcases ho.2 with⟨rfl,hn⟩ | ⟨g,cap,cur,rfl,_⟩
  · exact⟨none,0,by rw [hn]⟩
  · exact⟨_,_,rfl⟩
theorem St.form {α:Type}{T:Ty α}{e:Nat}{W:Base}{w:World}{B:List Res}{cs:List Value}{xs:List α}(h:St W w (Own (tSl e T) cs xs::B)):∃ A c,cs=[.slice A xs.length c]:=by
  obtain⟨G,hA,_⟩:=h.sep.head
  exact slFormO hA
theorem zi4 {α:Type}{T U:Ty α}(h:T.ro=U.ro){w:World}:∀ {xs:List α}{cs:List Value},Els T w cs xs=Els U w cs xs
  | [],_=>rfl
  | x::xs,cs=>by simp only [Els,h,zi4 h (xs:=xs)]
theorem zoD {α:Type}{T U:Ty α}{e:Nat}(h:T.ro=U.ro):(tSl e T).ro=(tSl e U).ro:=by
  funext w cs xs
  simp only [tSl,zi4 h]
theorem roOf {α:Type}{T U:Ty α}(h:T.ro=U.ro){w:World}{cs:List Value}{x:α}(k:T.ro w cs x):U.ro w cs x:=h ▸ k

theorem St.bor {α:Type}{T:Ty α}{W0 W:Base}{w:World}{B:List Res}{cs:List Value}{x:α}(h:St W w B) (hr:T.ro W0 cs x):St W w (Own (tBor W0 T) cs x::B):=
  h.toEmp.conv fun G hG=>⟨hr,hG⟩
theorem slNil {α:Type}(T:Ty α) (e:Nat) (w:World):(tSl e T).ro w [.slice none 0 0] []:=⟨none,0,[],rfl,Nat.le_refl _,rfl,fun h=>absurd rfl h⟩
theorem slNilOwn {α:Type}(T:Ty α) (e:Nat) (w:World):(tSl e T).own w [.slice none 0 0] [] []:=
  ⟨_,[],rfl,⟨by simp,.inl ⟨rfl,rfl⟩⟩,[],⟨rfl,rfl⟩,by simp [Value.ownBlock]⟩
theorem St.nilSl {α:Type}(T:Ty α) (e:Nat) (h:St W w B):St W w (Own (tSl e T) [.slice none 0 0] []::B):=
  h.toEmp.conv fun G hG=>by rw [show G=[] from hG];exact slNilOwn T e w
end
end Go.E


namespace Go.E
open Go.RowKit
set_option linter.unusedVariables false
set_option linter.unusedSimpArgs false


theorem zbS {α:Type}:∀ (l:List α) (i:Nat) (a:α),nthv l i=some a→l.Perm (a::l.eraseIdx i)
  | [],_,_,h=>by simp [nthv] at h
  | b::l,0,a,h=>by simp only [nthv,Option.some.injEq] at h;subst h;simp
  | b::l,i+1,a,h=>by
    simp only [nthv] at h
    exact((zbS l i a h).cons b).trans (by simpa using List.Perm.swap a b (l.eraseIdx i))

section
variable {W:Base}{w w':World}{B Rs:List Res}
theorem St.bring (i:Nat){R:Res}(h:St W w Rs) (hi:nthv Rs i=some R):St W w (R::Rs.eraseIdx i):=h.perm (zbS Rs i R hi)
theorem St.taken (k:Nat) (h:St W w Rs):St W w (Rs.take k):=by
  induction Rs generalizing k with
  | nil=>simpa using h
  | cons R Rs ih=>
    cases k with
    | zero=>exact⟨h.ext,trivial⟩
    | succ k=>
      have key:∀ {Rs:List Res}{U:List Nat}(k:Nat),SepU w W.fr Rs U→SepU w W.fr (Rs.take k) U:=by
        intro Rs
        induction Rs with
        | nil=>intro U k h;simpa using h
        | cons S Ss ih2=>
          intro U k h
          cases k with
          | zero=>trivial
          | succ k=>obtain⟨G,h1,h2,h3,h4⟩:=h;exact⟨G,h1,h2,h3,ih2 k h4⟩
      exact⟨h.ext,key (k+1) h.sep⟩


theorem St.flat {α:Type}{T:Ty α}{cs:List Value}{x:α}(h:St W w B) (hf:T.own w cs x []):St W w (Own T cs x::B):=
  h.toEmp.conv fun G hG=>by rw [show G=[] from hG];exact hf
end

theorem ElsO.split {α:Type}{T:Ty α}{w:World}:∀ {xs:List α}{cs:List Value}{G:List Nat},ElsO T w cs xs G→∀ {i:Nat}{x:α},xs[i]? = some x→
    ∃ c1 es c2 G1 H G2,cs=c1++(es++c2)∧G=G1++(H++G2)∧c1.length=i*T.size∧ElsO T w c1 (xs.take i) G1∧T.own w es x H∧ElsO T w c2 (xs.drop (i+1)) G2
  | [],_,_,_,i,x,hx=>by simp at hx
  | y::xs,_,_,⟨c,d,H,K,h,hG,h1,h2⟩,i,x,hx=>by
    subst h;subst hG
    cases i with
    | zero=>
      simp only [List.getElem?_cons_zero,Option.some.injEq] at hx
      subst hx
      exact⟨[],c,d,[],H,K,rfl,rfl,by simp,⟨rfl,rfl⟩,h1,h2⟩
    | succ i=>
      simp only [List.getElem?_cons_succ] at hx
      obtain⟨c1,es,c2,G1,H',G2,rfl,rfl,hl,k1,k2,k3⟩:=h2.split hx
      refine⟨c++c1,es,c2,H++G1,H',G2,by simp,by simp,?_,⟨c,c1,H,G1,rfl,rfl,h1,k1⟩,k2,k3⟩
      rw [List.length_append,hl,T.lenO h1,Nat.succ_mul];omega

theorem za1:∀ (vs cs cs':List Value) (i:Nat),setAt cs i vs=some cs'→cs'.length=cs.length
  | [],cs,cs',i,h=>by simp only [setAt,Option.some.injEq] at h;rw [h]
  | v::vs,cs,cs',i,h=>by
    unfold setAt at h
    split at h
    · rw [za1 vs _ cs' _ h];simp
    · cases h

theorem zfE:∀ (es' c1 es c2:List Value),es'.length=es.length→setAt (c1++(es++c2)) c1.length es'=some (c1++(es'++c2))
  | [],c1,es,c2,h=>by
    have:es=[]:=by simpa using h.symm
    subst this;rfl
  | v::es',c1,[],c2,h=>by simp at h
  | v::es',c1,u::es,c2,h=>by
    unfold setAt
    have hlt:Nat.blt c1.length (c1++(u::es++c2)).length=true:=by simp
    rw [hlt]
    have:(c1++(u::es++c2)).set c1.length v=(c1++[v])++(es++c2):=by simp
    simp only [this]
    have:=zfE es' (c1++[v]) es c2 (by simpa using h)
    simpa using this

theorem zdm:∀ (cs:List Value),(∀ u,u∈cs→u.oneCell'=true)→oneCells cs=true
  | [],_=>rfl
  | v::vs,h=>by
    unfold oneCells
    rw [h v (by simp)]
    exact zdm vs fun u hu=>h u (List.mem_cons_of_mem _ hu)

theorem z90:∀ (vs cs ds:List Value) (i:Nat){cs':List Value},setAt cs i vs=some cs'→setAt (cs++ds) i vs=some (cs'++ds)
  | [],cs,ds,i,cs',h=>by simp only [setAt,Option.some.injEq] at h ⊢;rw [h]
  | v::vs,cs,ds,i,cs',h=>by
    unfold setAt at h ⊢
    split at h
    · rename_i hlt
      have h1:i<cs.length:=by simpa using hlt
      have h2:Nat.blt i (cs++ds).length=true:=by simp;omega
      rw [h2]
      have:(cs++ds).set i v=cs.set i v++ds:=by rw [List.set_append_left _ _ h1]
      simp only [this]
      exact z90 vs _ ds (i+1) h
    · cases h

section
variable {P:Program}{α:Type}{U:Ty α}{W:Base}{w:World}{B:List Res}{e:Nat}{A:Option Addr}{n k:Nat}{xs:List α}


theorem z6M {v:Value}{G:List Nat}(h:(tSl e U).own w [v] xs G) (hne:xs≠[]):
    ∃ g cap els rest K,v=.slice (some ⟨g,0,none⟩) xs.length cap∧w.heap[g]? = some (.cells ⟨els++rest⟩ e (0,0))∧xs.length≤cap∧cap≤maxLen∧(els++rest).length=cap*U.size∧els.length=xs.length*U.size∧
      ElsO U w els xs K∧G=g::K:=by
  obtain⟨v',els,hv,ho,K,hk,rfl⟩:=h
  simp only [List.cons.injEq,and_true] at hv
  subst hv
  rcases ho.2 with⟨rfl,hn⟩ | ⟨g,cap,cur,rfl,_,hh,hnc,hmax,hsz,htk⟩
  · exact absurd (List.eq_nil_of_length_eq_zero hn) hne
  · refine⟨g,cap,els,cur.toList.drop (xs.length*U.size),K,rfl,?_,hnc,hmax,?_,ho.1,hk,rfl⟩
    · rw [hh,← htk,List.take_append_drop]
    · rw [← htk,List.take_append_drop];simpa using hsz

theorem z8J {g cap:Nat}{els rest:List Value}{K:List Nat}(hh:w.heap[g]? = some (.cells ⟨els++rest⟩ e (0,0))) (hc:xs.length≤cap) (hm:cap≤maxLen) (hl:(els++rest).length=cap*U.size)
    (he:els.length=xs.length*U.size) (hk:ElsO U w els xs K):(tSl e U).own w [.slice (some ⟨g,0,none⟩) xs.length cap] xs (g::K):=by
  refine⟨_,els,rfl,⟨he,.inr ⟨g,cap,_,rfl,Nat.zero_le _,hh,hc,hm,by simpa using hl,?_⟩⟩,K,hk,rfl⟩
  simp [← he]
end

section
variable {P:Program}{n:Nat}{Q:Post}{F:Fr}{W:Base}{w:World}{ops rest:List Oper}{o:Oper}{T:TT}(ht:TTok P T)
include ht


theorem zd8 {α:Type}{U:Ty α}{B:List Res}{e:Nat}{A:Option Addr}{k:Nat}{xs:List α}{y:α}{es':List Value}(hS:St W w (Own (tSl e U) [.slice A xs.length k] xs::Own U es' y::B))
    {i:Nat}(hi:i<xs.length){q:Addr}(hq:∃ g,A=some ⟨g,0,none⟩∧q=⟨g,i*U.size,none⟩){t:Nat}{j:TI}(hj:T.get t=some j) (hs:U.size=j.size):
    ∃ w',(∀ v:Value,cellsV v=es'→(storeVar t q v).run P w=.ok () w')∧St W w' (Own (tSl e U) [.slice A xs.length k] (xs.set i y)::B):=by
  obtain⟨G,hG,hnd,hlo⟩:=hS.fuse.sep.head
  obtain⟨H,K',hGe,hA,hy⟩:=hG
  obtain⟨g,cap,els,rst,K,hv,hh,hc,hm,hl,hel,hk,hH⟩:=z6M hA (by rintro rfl;simp at hi)
  obtain⟨g',hA',rfl⟩:=hq
  subst hA'
  simp only [Value.slice.injEq,Option.some.injEq,Addr.mk.injEq,and_true,true_and] at hv
  obtain⟨rfl,rfl⟩:=hv
  have hx:xs[i]? = some xs[i]:=List.getElem?_eq_getElem hi
  obtain⟨c1,es,c2,G1,H',G2,hcs,hKe,X,k1,k2,k3⟩:=hk.split hx
  have hlen:es'.length=es.length:=by rw [U.lenO hy,U.lenO k2]
  have hset:setAt (els++rst) (i*U.size+0) es'=some ((c1++(es'++c2))++rst):=by
    rw [Nat.add_zero,hcs,← X]
    exact z90 _ _ _ _ (zfE es' c1 es c2 hlen)
  obtain⟨w',r1,r2,r3,r4,r5,r6,r7,r8⟩:=z2L (P:=P) g' (i*U.size) e es' 0 w _ _ (zdm _ (U.oneO hy)) hh hset
  have hgG:g'∈G:=by rw [hGe,hH];simp
  have hge:W.fr g':=hlo g' hgG
  refine⟨w',fun v hv=>?_,⟨r5.trans hS.ext.os,r6.trans hS.ext.tape,r7.trans hS.ext.output,by rw [r8];exact hS.ext.drawn,by rw [r4];exact hS.le,fun b hb=>by show w'.heap[b]? = _;rw [r3 b (fun e=>hb (e ▸ hge))];exact hS.ext.block b hb⟩,?_⟩
  · have hsz:v.cells.size=j.size:=by rw [← Array.length_toList,z5K,hv,U.lenO hy,hs]
    unfold storeVar
    simp [ht.sizeOf hj,hsz,z5K,hv,r1]
  · refine hS.fuse.sep.upd hS.up fun G' hG' hnd' _=>?_
    obtain⟨H1,K1,rfl,hA1,hy1⟩:=hG'
    obtain⟨g1,cap1,els1,rst1,L1,hv1,hh1,hc1,Z,hl1',hel1,Y,hH1⟩:=z6M hA1 (by rintro rfl;simp at hi)
    simp only [Value.slice.injEq,Option.some.injEq,Addr.mk.injEq,and_true,true_and] at hv1
    obtain⟨rfl,rfl⟩:=hv1

    rw [hh1] at hh
    simp only [Option.some.injEq,Obj.cells.injEq,Array.mk.injEq,and_true] at hh
    have hels:els1=els:=by
      have:=congrArg (List.take els.length) hh
      rw [List.take_left' rfl] at this
      rw [← this,List.take_left' (by rw [hel1,hel])]
    subst hels
    have hrst:rst1=rst:=by simpa using hh
    subst hrst
    obtain⟨c1',O,c2',G1',H1',G2',hcs',hKe',hl1'',m1,m2,m3⟩:=Y.split hx
    have hnd2:=hnd'
    subst hH1;subst hKe'
    have hgn:g' ∉ G1'++(H1'++G2')++K1:=by
      simp only [List.cons_append,List.nodup_cons] at hnd2
      exact hnd2.1
    have same:∀ b,b∈G1'++(H1'++G2')++K1→w'.heap[b]? = w.heap[b]?:=fun b hb=>r3 b (by rintro rfl;exact hgn hb)
    have hcs2:c1'=c1:=by
      have h1:=hcs'.symm.trans hcs
      have:=congrArg (List.take c1.length) h1
      rwa [List.take_left' rfl,List.take_left' (by rw [hl1'',X])] at this
    subst hcs2
    have hes2:O++c2'=es++c2:=by simpa using hcs'.symm.trans hcs
    have hc22:c2'=c2:=by
      have hle:O.length=es.length:=by rw [U.lenO m2,U.lenO k2]
      have:=congrArg (List.drop es.length) hes2
      rwa [List.drop_left' rfl,List.drop_left' hle] at this
    subst hc22
    refine⟨g'::(G1'++(K1++G2')),?_,?_,fun b hb=>?_,fun b hb hn=>r3 b (by rintro rfl;exact hn (by simp))⟩
    · have hset':xs.set i y=xs.take i++(y::xs.drop (i+1)):=by rw [List.set_eq_take_append_cons_drop,if_pos hi]
      have hlx:xs.length=(xs.set i y).length:=by simp
      have hown:(tSl e U).own w' [.slice (some ⟨g',0,none⟩) (xs.set i y).length k] (xs.set i y) (g'::(G1'++(K1++G2'))):=by
        refine z8J (els:=c1'++(es'++c2')) (rest:=rst1) r2 (by simpa using hc1) Z ?_ ?_ ?_
        · have h5:=congrArg List.length hcs
          simp only [List.length_append] at hl1' h5 ⊢
          omega
        · have h5:=congrArg List.length hcs
          simp only [List.length_append,List.length_set] at hel1 h5 ⊢
          omega
        · rw [hset']
          refine(m1.loc fun b hb=>same b (by simp [hb])).append ⟨es',c2',K1,G2',rfl,rfl,U.loc hy1 (fun b hb=>same b (by simp [hb])),m3.loc fun b hb=>same b (by simp [hb])⟩
      rw [← hlx] at hown
      exact hown
    · have hp:(g'::(G1'++(K1++G2'))).Sublist (g'::(G1'++(K1++G2'))):=List.Sublist.refl _
      simp only [List.cons_append,List.nodup_cons,List.nodup_append,List.mem_append,not_or] at hnd' ⊢
      obtain⟨⟨hn1,hn3⟩,⟨hG1,⟨hH1,hG2,hHG⟩,hd1⟩,hK1,hd2⟩:=hnd'
      refine⟨⟨hn1.1,hn3,hn1.2.2⟩,hG1,⟨hK1,hG2,fun a ha b hb hab=>?_⟩,fun a ha b hb hab=>?_⟩
      · exact hd2 b (.inr (.inr hb)) a ha hab.symm
      · rcases hb with hb | hb
        · exact hd2 a (.inl ha) b hb hab
        · exact hd1 a ha b (.inr hb) hab
    · left
      simp only [List.mem_cons,List.mem_append] at hb
      rcases hb with hb | hb | hb | hb<;>simp [hb]

theorem RW.idxOwn {α:Type}{U:Ty α}{B:List Res}{e:Nat}{A:Option Addr}{k:Nat}{xs:List α}(hS:St W w (Own (tSl e U) [.slice A xs.length k] xs::B)) (hg:guardOf ops F o=some true){t e':Nat}{x ix:Operand}{i j:TI}
    {kd:IntKind}{m:Int}(ho:o.op=.indexAddr t x ix) (hi:T.get t=some i) (hd:i.d=.slice e') (hj:T.get e'=some j) (hs:U.size=j.size) (hx:F.ev x=some (.slice A xs.length k)) (hm:F.ev ix=some (.int kd m))
    (h0:0≤m) (hlt:m.toNat<xs.length){d:Nat}(hd':o.dst=some d) (hn:Nat.blt d n=true)
    (h:∀ q,(∃ g,A=some ⟨g,0,none⟩∧q=⟨g,m.toNat*U.size,none⟩)→RW P n ops Q rest ((d,.pointer (some q))::F) w):RW P n ops Q (o::rest) F w:=by
  obtain⟨G,hG,_,_⟩:=hS.sep.head
  obtain⟨g,cap,els,rst,K,hv,hh,hc,hmx,hl,hel,hk,_⟩:=z6M hG (by rintro rfl;simp at hlt)
  simp only [Value.slice.injEq,true_and] at hv
  obtain⟨rfl,rfl⟩:=hv
  refine RW.ok (v:=.pointer (some ⟨g,m.toNat*U.size,none⟩)) hg (fun a ha=>?_) hd' hn (h _ ⟨g,rfl,rfl⟩)
  unfold execOp
  rw [ho]
  have hmm:m<xs.length:=by omega
  simp [ha.ev hx,ha.ev hm,Instr.indexAt,asIntOf,Go.underlying,ht.slice hi hd,h0,hmm,ht.sizeOf hj,zhg,hs]

theorem RW.storeEl {α:Type}{U:Ty α}{B:List Res}{e:Nat}{A:Option Addr}{k:Nat}{xs:List α}{y:α}{es':List Value}(hS:St W w (Own (tSl e U) [.slice A xs.length k] xs::Own U es' y::B)) (hg:guardOf ops F o=some true)
    {t:Nat}{x yv:Operand}(ho:o.op=.store t x yv) (hd:o.dst=none){j:TI}(hj:T.get t=some j) (hs:U.size=j.size){q:Addr}(hx:F.ev x=some (.pointer (some q))){m:Nat}(hlt:m<xs.length)
    (hq:∃ g,A=some ⟨g,0,none⟩∧q=⟨g,m*U.size,none⟩){v:Value}(hy:F.ev yv=some v) (hc:cellsV v=es')
    (h:∀ (w':World),St W w' (Own (tSl e U) [.slice A (xs.set m y).length k] (xs.set m y)::B)→RW P n ops Q rest F w'):RW P n ops Q (o::rest) F w:=by
  obtain⟨w',h1,h2⟩:=zd8 (P:=P) ht hS hlt hq hj hs
  refine RW.unit (w':=w') hg (fun a ha=>?_) hd (h w' (by simpa using h2))
  unfold execOp
  rw [ho]
  simp [ha.ev hx,ha.ev hy,Instr.storeAt,Instr.sureAddr,h1 v hc]

omit ht in
theorem z8K (z:List Value):∀ k:Nat,(madeCells ⟨z⟩ (k*z.length)).toList=chunks k z
  | 0=>by simp [madeCells,chunks]
  | k+1=>by
    have ih:=z8K z k
    unfold madeCells at ih ⊢
    simp only [Array.toList_map,Array.toList_range] at ih ⊢
    rw [show(k+1)*z.length=z.length+k*z.length from by rw [Nat.succ_mul];omega,List.range_add,List.map_append,chunks,← ih,List.map_map]
    congr 1
    · apply List.ext_getElem
      · simp
      · intro i h1 h2
        simp only [List.length_map,List.length_range] at h1
        simp only [List.getElem_map,List.getElem_range,Nat.mod_eq_of_lt h1,List.size_toArray]
        rw [getElem!_pos _ _ (by simpa using h1)]
        rfl
    · apply List.map_congr_left
      intro i _
      simp

omit ht in
theorem zc7 {α:Type}{U:Ty α}{z:α}{zs:List Value}{w:World}(hz:U.own w zs z []):∀ k:Nat,ElsO U w (chunks k zs) (List.replicate k z) []
  | 0=>⟨rfl,rfl⟩
  | k+1=>⟨zs,chunks k zs,[],[],rfl,rfl,hz,zc7 hz k⟩


theorem RW.make {α:Type}{U:Ty α}{Rs:List Res}(z:α) (hS:St W w Rs) (hg:guardOf ops F o=some true){t e:Nat}{l c:Operand}{i j:TI}{k1 k2:IntKind}{m:Int}(ho:o.op=.makeSlice t l c) (hi:T.get t=some i) (hd:i.d=.slice e)
    (hj:T.get e=some j) (hs:U.size=j.size) (hl:F.ev l=some (.int k1 m)) (hc:F.ev c=some (.int k2 m)) (h0:0≤m) (hb:m*(j.bytes:Int)≤281474976710656) (q:m≤maxLen) (hz:∀ w',U.own w' j.zero z [])
    {d:Nat}(hd':o.dst=some d) (hn:Nat.blt d n=true)
    (h:∀ A k (w':World),Ext w w'→St W w' (Own (tSl e U) [.slice A (List.replicate m.toNat z).length k] (List.replicate m.toNat z)::Rs)→RW P n ops Q rest ((d,.slice A (List.replicate m.toNat z).length k)::F) w'):RW P n ops Q (o::rest) F w:=by
  obtain⟨jj,hjj,hsz,hby,zz,hzz,hzc⟩:=ht.info hj
  have hmx:m≤9223372036854775807:=by simpa [maxLen] using q
  have hr:=run_make (P:=P) w t e jj zz (ht.slice hi hd) hjj hzz k1 k2 m m h0 (Int.le_refl _) (by rw [hby,Int.mul_comm];exact hb) hmx
  have hzl:j.zero.length=U.size:=U.lenO (hz w)
  have hcells:madeCells zz.cells (m.toNat*jj.size)=⟨chunks m.toNat j.zero⟩:=by
    rw [← z8K j.zero m.toNat,hzl,hs,hsz,show zz.cells=⟨j.zero⟩ from by rw [← hzc]]
  rw [hcells] at hr
  have hlen:(List.replicate m.toNat z).length=m.toNat:=by simp
  refine RW.ok (v:=.slice (some ⟨w.heap.size,0,none⟩) (List.replicate m.toNat z).length m.toNat) hg (fun a ha=>?_) hd' hn (h _ _ _ (Ext.alloc w (.cells ⟨chunks m.toNat j.zero⟩ e)) ?_)
  · unfold execOp
    rw [ho,hlen]
    simp [ha.ev hl,ha.ev hc,hr]
  · have hcl:∀ k:Nat,(chunks k j.zero).length=k*U.size:=fun k=>by
      induction k with
      | zero=>simp [chunks]
      | succ k ih=>simp [chunks,ih,hzl,Nat.succ_mul,Nat.add_comm]
    have hown:=z8J (w:=w.alloc (.cells ⟨chunks m.toNat j.zero⟩ e)) (e:=e) (U:=U) (xs:=List.replicate m.toNat z) (g:=w.heap.size) (cap:=m.toNat) (els:=chunks m.toNat j.zero) (rest:=[]) (K:=[])
      (by rw [List.append_nil];exact heap_alloc_new w _) (by simp) (by have:(m.toNat:Int)=m:=Int.toNat_of_nonneg h0;omega) (by simp [hcl]) (by simp [hcl]) (zc7 (hz _) _)
    exact hS.join (Ns:=[Own (tSl e U) [.slice (some ⟨w.heap.size,0,none⟩) (List.replicate m.toNat z).length m.toNat] (List.replicate m.toNat z)])
      ⟨Ext.alloc _ _,⟨[w.heap.size],hown,by simp,fun g hg=>by simp at hg;subst hg;exact⟨.inl (Nat.le_refl _),by simp⟩,trivial⟩⟩


def OwnEls {α:Type}(U:Ty α) (els:List Value) (ys:List α):Res where
  A:=fun w G=>ElsO U w els ys G
  loc:=ElsO.loc
  lt:=ElsO.lt

omit ht in
omit ht in
theorem St.noEl {α:Type}(U:Ty α){B:List Res}(h:St W w B):St W w (OwnEls U [] []::B):=
  h.toEmp.conv fun G hG=>⟨rfl,hG⟩
omit ht in
theorem St.consEl {α:Type}{U:Ty α}{B:List Res}{es els:List Value}{y:α}{ys:List α}(h:St W w (Own U es y::OwnEls U els ys::B)):St W w (OwnEls U (es++els) (y::ys)::B):=
  h.fuse.conv fun G hG=>by
    obtain⟨G1,G2,rfl,h1,h2⟩:=hG
    exact⟨es,els,G1,G2,rfl,rfl,h1,h2⟩

omit ht in
theorem St.flatEls {α:Type}{U:Ty α}{B:List Res}{els:List Value}{ys:List α}(h:St W w B) (he:ElsO U w els ys []):St W w (OwnEls U els ys::B):=
  h.toEmp.conv fun G hG=>by rw [show G=[] from hG];exact he

omit ht in
theorem zdb {v:Value}{n':Nat}{cells:List Value}{e size:Nat}{w:World}(hown:w.ownsRow 0 e size v n' cells){t ty:TypeId}{jj:TypeInfo}(hu:P.underlying t=some (.slice e)) (hi:P.info? e=some jj) (c:Nat):
    (Builtin.append_ #[t,t] ty #[v,.slice none 0 c]).run P w=.ok v w:=by
  rcases hown.2 with⟨rfl,rfl⟩ | ⟨g,cap,cur,rfl,_,_,hnc,_⟩
  · simp [Builtin.append_,run_underlying hu,sizeOf,typeInfo,hi,Builtin.lenOf,Builtin.firstCells]
  · simp [Builtin.append_,run_underlying hu,sizeOf,typeInfo,hi,Builtin.lenOf,Builtin.firstCells,hnc,storeCells]


theorem zbd {α:Type}{U:Ty α}{B:List Res}{e:Nat}{A:Option Addr}{k:Nat}{xs ys:List α}{els:List Value}(hS:St W w (Own (tSl e U) [.slice A xs.length k] xs::OwnEls U els ys::B)){t ty:Nat}{i j:TI}
    (hi:T.get t=some i) (hd:i.d=.slice e) (hj:T.get e=some j) (hs:U.size=j.size) (hpos:0<U.size){A2:Option Addr}{k2:Nat}(hat:els≠[]→∃ p,A2=some p∧At w p els)
    (Y:xs.length+ys.length≤maxLen) (hb:(xs.length+ys.length)*j.bytes≤140737488355328):
    ∃ A' k' w',(Builtin.append_ #[t,t] ty #[.slice A xs.length k,.slice A2 ys.length k2]).run P w=.ok (.slice A' (xs++ys).length k') w'∧St W w' (Own (tSl e U) [.slice A' (xs++ys).length k'] (xs++ys)::B):=by
  obtain⟨jj,hjj,hsz,hby,zz,hzz,hzc⟩:=ht.info hj
  obtain⟨G,⟨H,K2,hGe,⟨v,cells,hv,ho,K,hk,hH⟩,q⟩,hnd,hlo⟩:=hS.fuse.sep.head
  simp only [List.cons.injEq,and_true] at hv
  subst hv
  have helen:=q.length

  have key:∃ v' w',(Builtin.append_ #[t,t] ty #[.slice A xs.length k,.slice A2 ys.length k2]).run P w=.ok v' w'∧w'.ownsRow 0 e U.size v' (xs.length+ys.length) (cells++els)∧w.grownBy w' (Value.slice A xs.length k).ownBlock∧
      (v'.ownBlock=(Value.slice A xs.length k).ownBlock∨v'.ownBlock=some w.heap.size):=by
    cases A2 with
    | none=>
      have hnil:els=[]:=by
        cases els with
        | nil=>rfl
        | cons u r=>obtain⟨p,hp,_⟩:=hat (by simp);cases hp
      subst hnil
      have hy:ys.length=0:=by
        have:ys.length*U.size=0:=by simpa using helen.symm
        rcases Nat.mul_eq_zero.1 this with h | h
        · exact h
        · omega
      rw [hy]
      exact⟨_,w,zdb ho (ht.slice hi hd) hjj k2,by simpa using ho,World.grownBy.refl w _,.inl rfl⟩
    | some a=>
      have hcell:∀ m u,els[m]? = some u→w.cell? (a.add m)=some u:=by
        intro m u hu
        obtain⟨p,hp,hp2⟩:=hat (by rintro rfl;simp at hu)
        simp only [Option.some.injEq] at hp
        subst hp
        exact hp2 m u hu
      obtain⟨v',w',h1,h2,h3,_,h5⟩:=run_append_own_at (P:=P) w 0 t ty e jj zz U.size j.bytes (ht.slice hi hd) hjj hzz (by rw [hsz,hs]) hby
        (by rw [← Array.length_toList,hzc,ht.zlen hj,hs]) hpos
        (.slice A xs.length k) xs.length cells ho a ys.length k2 els helen hcell (ElsO.one q) Y hb (Nat.zero_le _)
      exact⟨v',w',h1,h2,h3,h5⟩
  obtain⟨v',w',h1,h2,h3,h5⟩:=key
  have hform:∃ A' k',v'=.slice A' (xs++ys).length k':=by
    rw [List.length_append]
    rcases h2.2 with⟨rfl,h0⟩ | ⟨g,cap,cur,rfl,_⟩
    · exact⟨none,0,by rw [h0]⟩
    · exact⟨_,cap,rfl⟩
  obtain⟨A',k',rfl⟩:=hform

  have hKn:∀ b,b∈K++K2→some b≠(Value.slice A xs.length k).ownBlock:=fun b hb hbo=>by
    subst hGe;subst hH
    rw [← hbo] at hnd
    simp only [Option.toList,List.cons_append,List.nil_append,List.nodup_cons] at hnd
    exact hnd.1 hb
  have hlt:∀ b,b∈K++K2→b<w.heap.size:=fun b hb=>by
    rcases List.mem_append.1 hb with h | h
    · exact hk.lt b h
    · exact ElsO.lt q b h
  have same:∀ b,b∈K++K2→w'.heap[b]? = w.heap[b]?:=fun b hb=>h3.block b (hlt b hb) (hKn b hb)
  have hbase:∀ b,(Value.slice A xs.length k).ownBlock=some b→W.fr b:=fun b hb=>hlo b (by rw [hGe,hH,hb];simp)
  have hown:(tSl e U).own w' [.slice A' (xs++ys).length k'] (xs++ys) ((Value.slice A' (xs++ys).length k').ownBlock.toList++(K++K2)):=
    ⟨_,cells++els,rfl,by rw [List.length_append];rw [List.length_append] at h2;exact h2,K++K2,(hk.loc fun b hb=>same b (List.mem_append_left _ hb)).append (ElsO.loc q fun b hb=>same b (List.mem_append_right _ hb)),rfl⟩
  refine⟨A',k',w',h1,⟨h3.os.trans hS.ext.os,h3.tape.trans hS.ext.tape,h3.output.trans hS.ext.output,Nat.le_trans hS.ext.drawn (zjq _ h1),Nat.le_trans hS.le h3.size,fun b hb=>?_⟩,?_⟩
  · show w'.heap[b]? = _
    rw [h3.block b (Nat.lt_of_not_le fun e=>hb (hS.up b e)) (fun hbo=>hb (hbase b hbo.symm))]
    exact hS.ext.block b hb
  · refine hS.fuse.sep.upd hS.up fun G' hG' hnd' _=>?_
    obtain⟨H1,L2,rfl,⟨v1,cells1,hv1,O,L,hl,hH1⟩,X⟩:=hG'
    simp only [List.cons.injEq,and_true] at hv1
    subst hv1

    have hKn':∀ b,b∈L++L2→some b≠(Value.slice A xs.length k).ownBlock:=fun b hb hbo=>by
      subst hH1
      rw [← hbo] at hnd'
      simp only [Option.toList,List.cons_append,List.nil_append,List.nodup_cons] at hnd'
      exact hnd'.1 hb
    have hlt':∀ b,b∈L++L2→b<w.heap.size:=fun b hb=>by
      rcases List.mem_append.1 hb with h | h
      · exact hl.lt b h
      · exact ElsO.lt X b h
    have same':∀ b,b∈L++L2→w'.heap[b]? = w.heap[b]?:=fun b hb=>h3.block b (hlt' b hb) (hKn' b hb)
    have hcells:cells1=cells:=by
      rcases ho.2 with⟨hn,h0⟩ | ⟨g,cap,cur,hvv,_,hh,_,_,_,htk⟩
      · have e1:cells.length=0:=by rw [ho.1,h0];simp
        have e2:cells1.length=0:=by rw [O.1,h0];simp
        rw [List.eq_nil_of_length_eq_zero e1,List.eq_nil_of_length_eq_zero e2]
      · rcases O.2 with⟨hn,h0⟩ | ⟨g',cap',cur',hvv',_,hh',_,_,_,htk'⟩
        · have e1:cells.length=0:=by rw [ho.1,h0];simp
          have e2:cells1.length=0:=by rw [O.1,h0];simp
          rw [List.eq_nil_of_length_eq_zero e1,List.eq_nil_of_length_eq_zero e2]
        · rw [hvv] at hvv'
          simp only [Value.slice.injEq,Option.some.injEq,Addr.mk.injEq,and_true,true_and] at hvv'
          obtain⟨rfl,rfl⟩:=hvv'
          rw [hh] at hh'
          simp only [Option.some.injEq,Obj.cells.injEq,and_true] at hh'
          subst hh'
          rw [← htk,← htk']
    subst hcells
    refine⟨(Value.slice A' (xs++ys).length k').ownBlock.toList++(L++L2),?_,?_,fun b hb=>?_,fun b hb hn=>h3.block b hb fun hbo=>hn ?_⟩
    · exact⟨_,cells1++els,rfl,by rw [List.length_append];rw [List.length_append] at h2;exact h2,L++L2,(hl.loc fun b hb=>same' b (List.mem_append_left _ hb)).append (ElsO.loc X fun b hb=>same' b (List.mem_append_right _ hb)),rfl⟩
    · have hLL:(L++L2).Nodup:=by
        subst hH1
        rw [List.append_assoc] at hnd'
        exact(List.nodup_append.1 hnd').2.1
      rcases h5 with h5 | h5
      · rw [h5,← List.append_assoc,← hH1];exact hnd'
      · rw [h5]
        simp only [Option.toList,List.cons_append,List.nil_append,List.nodup_cons]
        exact⟨fun hb=>by have:=hlt' _ hb;omega,hLL⟩
    · rcases List.mem_append.1 hb with hb | hb
      · rcases h5 with h5 | h5
        · rw [h5] at hb;left;rw [hH1];simp only [List.mem_append];exact .inl (.inl hb)
        · rw [h5] at hb;simp only [Option.toList,List.mem_singleton] at hb;right;omega
      · left;rw [hH1];simp only [List.mem_append] at hb ⊢;rcases hb with hb | hb
        · exact .inl (.inr hb)
        · exact .inr hb
    · rw [hH1,← hbo];simp
end

section
variable {P:Program}{n:Nat}{Q:Post}{F:Fr}{W:Base}{w:World}{ops rest:List Oper}{o:Oper}{T:TT}(ht:TTok P T)
include ht


theorem RW.append {α:Type}{U:Ty α}{B:List Res}{e:Nat}{A:Option Addr}{k:Nat}{xs ys:List α}{els:List Value}(hS:St W w (Own (tSl e U) [.slice A xs.length k] xs::OwnEls U els ys::B)) (hg:guardOf ops F o=some true)
    {t:Nat}{s x:Operand}{i j:TI}(ho:o.op=.call { callee:=.builtin .append,args:=#[s,x],argTypes:=#[t,t] }) (hi:T.get t=some i) (hd:i.d=.slice e) (hj:T.get e=some j) (hs:U.size=j.size) (hpos:0<U.size)
    (hx:F.ev s=some (.slice A xs.length k)){A2:Option Addr}{k2:Nat}(hy:F.ev x=some (.slice A2 ys.length k2)) (hat:els≠[]→∃ p,A2=some p∧At w p els)
    (q:xs.length+ys.length≤maxLen) (hb:(xs.length+ys.length)*j.bytes≤140737488355328){d:Nat}(hd':o.dst=some d) (hn:Nat.blt d n=true)
    (h:∀ A' k' (w':World),St W w' (Own (tSl e U) [.slice A' (xs++ys).length k'] (xs++ys)::B)→RW P n ops Q rest ((d,.slice A' (xs++ys).length k')::F) w'):RW P n ops Q (o::rest) F w:=by
  obtain⟨A',k',w',h1,h2⟩:=zbd (P:=P) (ty:=o.type) ht hS hi hd hj hs hpos (k2:=k2) hat q hb
  refine RW.ok (w':=w') hg (fun a ha=>?_) hd' hn (h A' k' w' h2)
  unfold execOp
  rw [ho]
  simp [resolve,invoke,builtin,ha.ev hx,ha.ev hy]
  rw [h1]
  simp
end
end Go.E


namespace Go.E
open Go.RowKit
set_option linter.unusedVariables false
set_option linter.unusedSimpArgs false


def fillV (fs:List (Nat × Nat × Bool × Nat)):List Value→List (Nat × Value)→Option (List Value)
  | cs,[]=>some cs
  | cs,(i,v)::r=>match nthv fs i with
    | some g=>match Nat.beq (cellsV v).length g.2.1,setAt cs g.1 (cellsV v) with
      | true,some cs'=>fillV fs cs' r
      | _,_=>none
    | none=>none

def partsOf (F:Fr):List (Nat × Operand)→Option (List (Nat × Value))
  | []=>some []
  | (i,x)::r=>match F.ev x,partsOf F r with
    | some v,some l=>some ((i,v)::l)
    | _,_=>none

theorem z9t {F:Fr}{n:Nat}{a:Act}(ha:Fits n F a):∀ {l:List (Nat × Operand)}{vs:List (Nat × Value)},partsOf F l=some vs→l.map (fun p=>(p.1,a.eval p.2))=vs
  | [],vs,h=>by simp only [partsOf,Option.some.injEq] at h;subst h;rfl
  | (i,x)::r,vs,h=>by
    unfold partsOf at h
    split at h
    · rename_i v l hv hl
      simp only [Option.some.injEq] at h;subst h
      simp only [List.map_cons,ha.ev hv,z9t ha hl]
    · cases h

theorem zeg:∀ (vs cs cs':List Value) (off k:Nat),setAt cs (off+k) vs=some cs'→
    ((vs.zipIdx k).foldl (fun(c:Array Value) (p:Value × Nat)=>c.setIfInBounds (off+p.2) p.1) ⟨cs⟩)=⟨cs'⟩∧(vs≠[]→off+k+vs.length≤cs.length)∧cs'.length=cs.length
  | [],cs,cs',off,k,h=>by
    simp only [setAt,Option.some.injEq] at h;subst h
    exact⟨rfl,fun h=>absurd rfl h,rfl⟩
  | v::vs,cs,cs',off,k,h=>by
    unfold setAt at h
    split at h
    · rename_i hlt
      have hlt':off+k<cs.length:=by simpa using hlt
      obtain⟨h1,h2,h3⟩:=zeg vs (cs.set (off+k) v) cs' off (k+1) h
      refine⟨?_,fun _=>?_,by simpa using h3⟩
      · rw [List.zipIdx_cons,List.foldl_cons]
        have:(⟨cs⟩:Array Value).setIfInBounds (off+k) v=⟨cs.set (off+k) v⟩:=by simp
        rw [this]
        exact h1
      · cases vs with
        | nil=>simp;omega
        | cons u us=>
          have:=h2 (by simp)
          simp only [List.length_set,List.length_cons] at this ⊢
          omega
    · cases h

theorem zfO {P:Program}:∀ {fs:List Field}{gs:List (Nat × Nat × Bool × Nat)},fieldsOk P fs gs=true→
    ∃ places,fs.mapM (fun f=>(P.info? f.type).map fun i=>(f.offset,i.size))=some places∧∀ (j:Nat) g,gs[j]? = some g→places[j]? = some (g.1,g.2.1)
  | [],[],_=>⟨[],rfl,fun j g h=>by simp at h⟩
  | [],_::_,h=>by simp [fieldsOk] at h
  | _::_,[],h=>by simp [fieldsOk] at h
  | f::fs,g::gs,h=>by
    unfold fieldsOk fieldOk at h
    cases hi:P.info? f.type with
    | none=>simp [hi] at h
    | some i=>
      simp only [hi,Bool.and_eq_true,Nat.beq_eq] at h
      obtain⟨places,h1,h2⟩:=zfO (fs:=fs) (gs:=gs) h.2
      refine⟨(f.offset,i.size)::places,by simp [List.mapM_cons,hi,h1],fun j g' hg=>?_⟩
      cases j with
      | zero=>
        simp only [List.getElem?_cons_zero,Option.some.injEq] at hg
        subst hg
        simp [h]
      | succ j=>simpa using h2 j g' (by simpa using hg)

theorem zf0 {gs:List (Nat × Nat × Bool × Nat)}{place:Nat→Option (Nat × Nat)}(hp:∀ (j:Nat) g,gs[j]? = some g→place j=some (g.1,g.2.1)) (hpos:∀ (j:Nat) g,gs[j]? = some g→g.2.1≠0):
    ∀ (parts:List (Nat × Value)) (cs cs':List Value),fillV gs cs parts=some cs'→Instr.fill place ⟨cs⟩ parts=some ⟨cs'⟩
  | [],cs,cs',h=>by simp only [fillV,Option.some.injEq] at h;subst h;rfl
  | (i,v)::r,cs,cs',h=>by
    unfold fillV at h
    split at h
    · rename_i g hg
      rw [z2b] at hg
      split at h
      · rename_i cs2 hl hs
        obtain⟨h1,h2,h3⟩:=zeg (cellsV v) cs cs2 g.1 0 hs
        have hl':(cellsV v).length=g.2.1:=by simpa using hl
        have hne:cellsV v≠[]:=fun hn=>hpos i g hg (by rw [← hl',hn];rfl)
        have hc:v.cells=⟨cellsV v⟩:=by rw [← z5K]
        unfold Instr.fill
        simp only [hp i g hg]
        rw [if_neg (by
          have:=h2 hne
          simp [hc,hl'];omega)]
        rw [hc]
        have h1':Array.foldl (fun(c:Array Value) (p:Value × Nat)=>c.setIfInBounds (g.1+p.2) p.1) (⟨cs⟩:Array Value) (Array.zipIdx (⟨cellsV v⟩:Array Value))=⟨cs2⟩:=by
          simpa using h1
        exact Eq.trans (congrArg (fun c=>Instr.fill place c r) h1') (zf0 hp hpos r cs2 cs' h)
      · cases h
    · cases h

theorem Quiet.build {P:Program}{T:TT}(ht:TTok P T){n:Nat}{F:Fr}{w:Base}{o:Oper}{t:Nat}{ps:List (Nat × Operand)}{i:TI}{gs:List (Nat × Nat × Bool × Nat)}{vs:List (Nat × Value)}{cs:List Value}
    (ho:o.op=.build t ⟨ps⟩) (hi:T.get t=some i) (hd:i.d=.struct gs) (hv:partsOf F ps=some vs) (hc:fillV gs i.zero vs=some cs):Quiet P n F w o (.agg ⟨cs⟩):=by
  intro a w' ha _
  obtain⟨it,hit,_,_,z,hz,hzc⟩:=ht.info hi
  obtain⟨d,h1,h2,_⟩:=ht.desc hi
  rw [hd] at h2
  cases d<;>simp only [descOk,Bool.false_eq_true] at h2
  rename_i fs _
  obtain⟨places,hp1,hp2⟩:=zfO h2
  have hpos:∀ (j:Nat) g,gs[j]? = some g→g.2.1≠0:=fun j g hg=>by
    obtain⟨_,_,_,_,_,h,_⟩:=ht.field hi hd hg
    exact h
  have hfill:=zf0 (place:=(places.toArray[·]?)) (fun j g hg=>by simpa using hp2 j g hg) hpos vs i.zero cs hc
  have hb:P.built t vs=some ⟨cs⟩:=by
    unfold Program.built
    simp only [hit,h1,hz,hp1]
    rw [show z.cells=⟨i.zero⟩ from by rw [← hzc]]
    exact hfill
  unfold execOp
  rw [ho]
  have:=run_build (P:=P) w' t ⟨vs⟩ ⟨cs⟩ hb
  have he:(#[]++(⟨ps⟩:Array (Nat × Operand))).map (fun(p:Nat × Operand)=>(p.1,a.eval p.2))=⟨vs⟩:=by
    simp [z9t ha hv]
  simp only [Array.empty_append] at he
  simp [show Array.map (fun x:Nat × Operand=>(x.fst,a.eval x.snd)) ⟨ps⟩=⟨vs⟩ from he,this]

theorem St.boxSl {α:Type}{U:Ty α}{W:Base}{w:World}{B:List Res}{g e:Nat}{els:List Value}{ys:List α}(hS:St W w (Box g els e::OwnEls U els ys::B)) (hmax:ys.length≤maxLen):
    St W w (Own (tSl e U) [.slice (some ⟨g,0,none⟩) ys.length ys.length] ys::B):=
  hS.fuse.conv fun G hG=>by
    obtain⟨H,K,rfl,⟨rfl,hh⟩,hk⟩:=hG
    have hl:els.length=ys.length*U.size:=ElsO.length hk
    exact z8J (w:=w) (e:=e) (U:=U) (xs:=ys) (g:=g) (cap:=ys.length) (els:=els) (rest:=[]) (K:=K) (by rw [List.append_nil];exact hh) (Nat.le_refl _) hmax (by rw [List.append_nil];exact hl) hl hk

theorem za3 {P:Program}{t e:TypeId}{i:TypeInfo}(w:World) (hu:P.underlying t=some (.slice e)) (hi:P.info? e=some i):
    (Instr.buildSlice t 0 #[]).run P w=.ok (.slice (some ⟨w.heap.size,0,none⟩) 0 0) (w.alloc (.cells #[] e)):=by
  simp [Instr.buildSlice,run_underlying hu,sizeOf,typeInfo,hi,newRow,Instr.fill]
  rw [show Array.range 0 = #[] from by simp [Array.range],Array.map_empty]

theorem RW.newSlice0 {α:Type}{U:Ty α}{P:Program}{T:TT}(ht:TTok P T){n:Nat}{ops rest:List Oper}{Q:Post}{F:Fr}{W:Base}{w:World}{Rs:List Res}{o:Oper}{t e:Nat}{i j:TI}(hS:St W w Rs) (hg:guardOf ops F o=some true)
    (ho:o.op=.buildSlice t 0 #[]) (hi:T.get t=some i) (hd:i.d=.slice e) (hj:T.get e=some j){d:Nat}(hd':o.dst=some d) (hn:Nat.blt d n=true)
    (h:∀ A k (w':World),Ext w w'→St W w' (Own (tSl e U) [.slice A ([]:List α).length k] []::Rs)→RW P n ops Q rest ((d,.slice A ([]:List α).length k)::F) w'):RW P n ops Q (o::rest) F w:=by
  obtain⟨jj,hjj,_⟩:=ht.info hj
  refine RW.ok (v:=.slice (some ⟨w.heap.size,0,none⟩) 0 0) hg (fun a ha=>?_) hd' hn (h (some ⟨w.heap.size,0,none⟩) 0 _ (Ext.alloc w (.cells #[] e)) ?_)
  · unfold execOp
    rw [ho]
    simp [za3 w (ht.slice hi hd) hjj]
  · have h1:=(hS.flatEls (U:=U) (els:=[]) (ys:=[]) ⟨rfl,rfl⟩).new [] e
    exact St.boxSl (ys:=([]:List α)) h1 (Nat.zero_le _)


def Flat {α:Type}(T:Ty α):Prop:=∀ {w:World}{cs:List Value}{x:α},T.ro w cs x→T.own w cs x []
theorem Flat.int:Flat tInt:=fun h=>⟨h,rfl⟩
theorem Flat.bool:Flat tBool:=fun h=>⟨h,rfl⟩
theorem Flat.str:Flat tStr:=fun h=>⟨h,rfl⟩
theorem Flat.unit:Flat tUnit:=fun h=>⟨h,rfl⟩
theorem Flat.pair {α β:Type}{T:Ty α}{U:Ty β}(h:Flat T) (k:Flat U):Flat (tPair T U):=by
  rintro w _ x ⟨c,d,rfl,h1,h2⟩
  exact⟨c,d,[],[],rfl,rfl,h h1,k h2⟩
theorem Flat.map {α β:Type}{f:β→α}{T:Ty α}(h:Flat T):Flat (tMap f T):=fun k=>h k

theorem Els.flat {α:Type}{T:Ty α}(hf:Flat T){w:World}:∀ {xs:List α}{cs:List Value},Els T w cs xs→ElsO T w cs xs []
  | [],_,h=>⟨h,rfl⟩
  | _::_,_,⟨c,d,h,h1,h2⟩=>⟨c,d,[],[],h,rfl,hf h1,Els.flat hf h2⟩


theorem RW.appendRo {α:Type}{U:Ty α}{P:Program}{T:TT}(ht:TTok P T) (hfl:Flat U){n:Nat}{ops rest:List Oper}{Q:Post}{F:Fr}{W:Base}{w:World}{B:List Res}{o:Oper}{e:Nat}{A:Option Addr}{k:Nat}{xs ys:List α}
    (hS:St W w (Own (tSl e U) [.slice A xs.length k] xs::B)) (hg:guardOf ops F o=some true)
    {t:Nat}{s x:Operand}{i j:TI}(ho:o.op=.call { callee:=.builtin .append,args:=#[s,x],argTypes:=#[t,t] }) (hi:T.get t=some i) (hd:i.d=.slice e) (hj:T.get e=some j) (hs:U.size=j.size) (hpos:0<U.size)
    (hx:F.ev s=some (.slice A xs.length k)){A2:Option Addr}{k2:Nat}(hy:F.ev x=some (.slice A2 ys.length k2)){e':Nat}(hr:(tSl e' U).ro w [.slice A2 ys.length k2] ys)
    (G:(xs.length:Int)+ys.length≤4294967296) (hb:j.bytes≤32768){d:Nat}(hd':o.dst=some d) (hn:Nat.blt d n=true)
    (h:∀ A' k' (w':World),St W w' (Own (tSl e U) [.slice A' (xs++ys).length k'] (xs++ys)::B)→RW P n ops Q rest ((d,.slice A' (xs++ys).length k')::F) w'):RW P n ops Q (o::rest) F w:=by
  obtain⟨A3,c3,els,he,hc,h1,h2⟩:=hr
  simp only [List.cons.injEq,Value.slice.injEq,and_true] at he
  obtain⟨rfl,_,rfl⟩:=he
  have q:=(hS.flatEls (U:=U) (els:=els) (ys:=ys) (Els.flat hfl h1)).bring 1 rfl
  have hm:(xs.length+ys.length)*j.bytes≤4294967296*32768:=Nat.mul_le_mul (by omega) hb
  exact RW.append ht q hg ho hi hd hj hs hpos hx hy h2 (by simp only [maxLen];omega) (by omega) hd' hn h


theorem zjp {P:Program}{t e:TypeId}(w:World) (A:Option Addr) (n c:Nat) (ht:P.underlying t=some (.slice e)):(binOp .eql t (.slice A n c) (.slice none 0 0)).run P w=.ok (.bool A.isNone) w:=by
  have h:∀ d,(Op.equalIn (d+1) t (.slice A n c) (.slice none 0 0)).run P w=.ok A.isNone w:=fun d=>by cases A<;>simp [Op.equalIn,run_underlying ht]
  simp only [binOp,Op.equal,Op.maxDepth]
  simp [h 9999]

theorem Quiet.nilEq {P:Program}{T:TT}(ht:TTok P T){n:Nat}{F:Fr}{w:Base}{o:Oper}{t u e:Nat}{x y:Operand}{i:TI}{A:Option Addr}{l c:Nat}
    (ho:o.op=.binOp .eql t x y u) (hi:T.get t=some i) (hd:i.d=.slice e) (hx:F.ev x=some (.slice A l c)) (hy:F.ev y=some (.slice none 0 0)):Quiet P n F w o (.bool A.isNone):=by
  intro a w' ha _
  unfold execOp
  rw [ho]
  have hg:(eqGuard .eql t x y (.slice A l c) (.slice none 0 0)).run P w'=.ok () w':=by unfold eqGuard;simp
  simp [ha.ev hx,ha.ev hy,hg,zjp w' A l c (ht.slice hi hd)]

theorem zjk {α:Type}{U:Ty α}{e:Nat}{w:World}{xs:List α}{n c:Nat}(hpos:0<U.size) (hr:(tSl e U).ro w [.slice none n c] xs):xs=[]:=by
  obtain⟨A,c',els,he,_,h1,h2⟩:=hr
  simp only [List.cons.injEq,Value.slice.injEq,and_true] at he
  obtain⟨rfl,_,_⟩:=he
  have hl:=h1.length
  by_cases hn:els=[]
  · subst hn
    have h0:xs.length*U.size=0:=by simpa using hl.symm
    rcases Nat.mul_eq_zero.1 h0 with h | h
    · exact List.eq_nil_of_length_eq_zero h
    · omega
  · obtain⟨p,hp,_⟩:=h2 hn
    cases hp


def slots (size:Nat):Nat→Nat→List (Nat × Nat × Bool × Nat)
  | _,0=>[]
  | i,k+1=>(i*size,size,false,0)::slots size (i+1) k

theorem zb9 (size:Nat):∀ (k i j:Nat) g,(slots size i k)[j]? = some g→g=((i+j)*size,size,false,0)
  | 0,i,j,g,h=>by simp [slots] at h
  | k+1,i,0,g,h=>by simp [slots] at h;simp [h]
  | k+1,i,j+1,g,h=>by
    have:=zb9 size k (i+1) j g (by simpa [slots] using h)
    rw [this,show i+1+j=i+(j+1) by omega]

theorem RW.newSlice {α:Type}{U:Ty α}{P:Program}{T:TT}(ht:TTok P T){n:Nat}{ops rest:List Oper}{Q:Post}{F:Fr}{W:Base}{w:World}{Rs:List Res}{o:Oper}{t e m:Nat}{ps:List (Nat × Operand)}{vs:List (Nat × Value)}{els:List Value}{ys:List α}{i j:TI}
    (hS:St W w (OwnEls U els ys::Rs)) (hg:guardOf ops F o=some true)
    (ho:o.op=.buildSlice t m ⟨ps⟩) (hi:T.get t=some i) (hd:i.d=.slice e) (hj:T.get e=some j) (hv:partsOf F ps=some vs) (hf:fillV (slots j.size 0 m) (chunks m j.zero) vs=some els)
    (hm:ys.length=m) (hpos:Nat.ble 1 (m*j.size)=true) (hsm:Nat.ble (m*j.size) 16777216=true){d:Nat}(hd':o.dst=some d) (hn:Nat.blt d n=true)
    (h:∀ A k (w':World),Ext w w'→St W w' (Own (tSl e U) [.slice A ys.length k] ys::Rs)→RW P n ops Q rest ((d,.slice A ys.length k)::F) w'):RW P n ops Q (o::rest) F w:=by
  obtain⟨jj,hjj,hsz,_,zz,hzz,hzc⟩:=ht.info hj
  have h1:1≤m*j.size:=by simpa using hpos
  have h2:m*j.size≤16777216:=by simpa using hsm
  have hzl:j.zero.length=j.size:=by
    have:=ht.zlen hj
    exact this
  have hcells:(Array.range (m*jj.size)).map (zz.cells[· % zz.cells.size]!)=⟨chunks m j.zero⟩:=by
    have:=z8K j.zero m
    rw [hzl] at this
    rw [hsz,show zz.cells=⟨j.zero⟩ from by rw [← hzc]]
    have h5:madeCells ⟨j.zero⟩ (m*j.size)=⟨chunks m j.zero⟩:=by rw [← this]
    exact h5
  have hfill:=zf0 (place:=fun i=>some (i*jj.size,jj.size)) (gs:=slots j.size 0 m) (fun a g hg=>by rw [zb9 _ _ _ _ _ hg,hsz];simp) (fun a g hg=>by
    rw [zb9 _ _ _ _ _ hg]
    intro h0
    have:j.size=0:=h0
    rw [this] at h1;omega) vs _ els hf
  have hr:=run_buildSlice (P:=P) w t e m ⟨vs⟩ ⟨els⟩ jj zz (ht.slice hi hd) hjj hzz (by rw [hsz];omega) (by rw [hsz];omega) (by rw [hcells];exact hfill)
  subst hm
  refine RW.ok (v:=.slice (some ⟨w.heap.size,0,none⟩) ys.length ys.length) hg (fun a ha=>?_) hd' hn (h (some ⟨w.heap.size,0,none⟩) ys.length _ (Ext.alloc w (.cells ⟨els⟩ e)) ?_)
  · unfold execOp
    rw [ho]
    have he:(⟨ps⟩:Array (Nat × Operand)).map (fun(p:Nat × Operand)=>(p.1,a.eval p.2))=⟨vs⟩:=by
      simp [z9t ha hv]
    simp [show Array.map (fun x:Nat × Operand=>(x.fst,a.eval x.snd)) ⟨ps⟩=⟨vs⟩ from he,hr]
  · have q:1≤j.size:=by
      rcases Nat.eq_zero_or_pos j.size with h0 | h0
      · rw [h0] at h1;omega
      · exact h0
    exact St.boxSl (hS.new els e) (by
      have:ys.length*1≤ys.length*j.size:=Nat.mul_le_mul_left _ q
      unfold maxLen;omega)


theorem St.els {α:Type}{U:Ty α}{W:Base}{w:World}{B:List Res}{e:Nat}{A:Option Addr}{k l:Nat}{ys:List α}(h:St W w (Own (tSl e U) [.slice A l k] ys::B)):
    ∃ els,St W w (OwnEls U els ys::B)∧(els≠[]→∃ p,A=some p∧At w p els):=by
  obtain⟨he,G,hG,hnd,hlo,hrest⟩:=h
  obtain⟨v,els,hv,ho,K,hk,rfl⟩:=hG
  simp only [List.cons.injEq,and_true] at hv
  subst hv
  refine⟨els,⟨he,K,hk,(List.nodup_append.1 hnd).2.1,fun g hg=>hlo g (List.mem_append_right _ hg),hrest.congr fun g hg=>?_⟩,fun hn=>?_⟩
  · rcases List.mem_append.1 hg with hg | hg
    · exact List.mem_append_left _ (List.mem_append_right _ hg)
    · exact List.mem_append_right _ hg
  · rcases ho.2 with⟨_,hn0⟩ | ⟨g,cap,cur,hv,_,hh,hnc,_,hsz,htk⟩
    · have:=hk.length
      rw [hn0,Nat.zero_mul] at this
      exact absurd (List.eq_nil_of_length_eq_zero this) hn
    · simp only [Value.slice.injEq] at hv
      obtain⟨rfl,_,_⟩:=hv
      refine⟨_,rfl,fun j u hu=>?_⟩
      have:Addr.add ⟨g,0,none⟩ j=⟨g,j,none⟩:=by unfold Addr.add;by_cases hj:j=0<;>simp [hj]
      rw [this,cell_of_row w g j cur e (0,0) hh]
      rw [← htk] at hu
      rw [List.getElem?_take] at hu
      split at hu
      · simpa using hu
      · cases hu


theorem RW.appendOwn {α:Type}{U:Ty α}{P:Program}{T:TT}(ht:TTok P T){n:Nat}{ops rest:List Oper}{Q:Post}{F:Fr}{W:Base}{w:World}{B:List Res}{o:Oper}{e e':Nat}{A A2:Option Addr}{k k2:Nat}{xs ys:List α}
    (hS:St W w (Own (tSl e' U) [.slice A2 ys.length k2] ys::Own (tSl e U) [.slice A xs.length k] xs::B)) (hg:guardOf ops F o=some true)
    {t:Nat}{s x:Operand}{i j:TI}(ho:o.op=.call { callee:=.builtin .append,args:=#[s,x],argTypes:=#[t,t] }) (hi:T.get t=some i) (hd:i.d=.slice e) (hj:T.get e=some j) (hs:U.size=j.size) (hpos:0<U.size)
    (hx:F.ev s=some (.slice A xs.length k)) (hy:F.ev x=some (.slice A2 ys.length k2))
    (q:(xs.length:Int)+ys.length≤4294967296) (hb:j.bytes≤32768){d:Nat}(hd':o.dst=some d) (hn:Nat.blt d n=true)
    (h:∀ A' k' (w':World),St W w' (Own (tSl e U) [.slice A' (xs++ys).length k'] (xs++ys)::B)→RW P n ops Q rest ((d,.slice A' (xs++ys).length k')::F) w'):RW P n ops Q (o::rest) F w:=by
  obtain⟨els,h1,h2⟩:=hS.els
  have hm:(xs.length+ys.length)*j.bytes≤4294967296*32768:=Nat.mul_le_mul (by omega) hb
  exact RW.append ht (h1.bring 1 rfl) hg ho hi hd hj hs hpos hx hy h2 (by simp only [maxLen];omega) (by omega) hd' hn h
end Go.E


