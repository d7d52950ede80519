/- The rules once more, under short names; what all uses of them prove in one way is found by default. Conditions: none (rules). -/
import Derived.Test.YtfndicpnccabkaaGreatLoops
set_option linter.unusedVariables false
set_option linter.unusedSimpArgs false
namespace Go.E
open Go.RowKit

def zpW:List Nat→Nat→Nat
  | [],m=>m
  | i::r,m=>zpW r (m ||| 2 ^ i)
theorem znx {sk:List (List Nat×Nat)}{q:Nat}:∀ {l:List Nat}{m m':Nat},zbP sk q l m=some m'→zpW l m=m'
  | [],m,m',h=>by simpa [zbP,zpW] using h
  | i::r,m,m',h=>by
    unfold zbP at h
    split at h
    · exact znx (l:=r) h
    · cases h


variable {P:Program}{n:Nat}{Q:Post}{F:Fr}{w:World}{ops rest:List Oper}{o:Oper}{T:TT}{wm fu:Nat}{sk:List (List Nat×Nat)}{W:Base}{w0:World}{W9:Base}

def Fr.pick (F:Fr):List Nat→Option Fr
  | []=>some []
  | i::r=>match F.get i,F.pick r with
    | some v,some G=>some ((i,v)::G)
    | _,_=>none
def Fr.keys:Fr→List Nat
  | []=>[]
  | (i,_)::r=>i::Fr.keys r
theorem Fr.pick_has {F:Fr}:∀ {l:List Nat}{G:Fr},F.pick l=some G→F.Has G
  | [],G,h=>by simp only[Fr.pick,Option.some.injEq] at h;subst h;trivial
  | i::r,G,h=>by
    unfold Fr.pick at h
    split at h
    · rename_i v G' hv hG
      simp only[Option.some.injEq] at h;subst h
      exact⟨hv,Fr.pick_has hG⟩
    · cases h
theorem wk {c:Code}(l:List Nat){G:Fr}(h:WP P n c Q G w)(hs:F.pick l=some G:=by exact rfl):WP P n c Q F w:=WP.weak G (Fr.pick_has hs) h
theorem dw {k m:Nat}(l:List Nat){G:Fr}(h:DM P n ops Q W9 w0 wm fu k m G w)(hs:F.pick l=some G:=by exact rfl):DM P n ops Q W9 w0 wm fu k m F w:=DM.weak G (Fr.pick_has hs) h
theorem ct {c:Code}{τ:Type}(J:τ→Fr→World→Prop)(hk:∀ t F w,J t F w→Q .normal F w)(h:WP P n c (Q.after (fun F w=>∃ t G,J t G w∧F.pick G.keys=some G)) F w):WP P n c Q F w:=
  WP.cut J hk (h.mono fun e F w q=>by cases e<;>first | exact(let ⟨t,G,h1,h2⟩:=q;⟨t,G,Fr.pick_has h2,h1⟩) | exact q)
theorem it {c:Code}{σ τ ρ:Type}(J:σ→Fr→World→Prop){body:σ→Option (Rd σ τ ρ)}{k:Nat}{s:σ}{out:τ ⊕ ρ}(hm:iter body k s=some out)(h0:J s F w)
    (H:∀ s F w k o,J s F w→body s=some o→(match o with | .next s'=>Go.E.iter body k s'=some out | .brk t=>out=.inl t | .ret r=>out=.inr r)→
      WP P n c (Q.after (fun F' w'=>∃ s' G,o=.next s'∧J s' G w'∧F'.pick G.keys=some G)) F w):WP P n (.loop c) Q F w:=
  WP.iter J body hm h0 fun s F w k o h1 h2 h3=>(H s F w k o h1 h2 h3).mono fun e F w q=>by cases e<;>first | exact(let ⟨s',G,h1,h2,h4⟩:=q;⟨s',G,Fr.pick_has h4,h1,h2⟩) | exact q
theorem ci {α:Type}{c:Operand}{x y:Code}{b:Bool}{A B:Option α}{r:α}(hm:(if b=true then A else B)=some r)(h1:A=some r→WP P n x Q F w)(h2:B=some r→WP P n y Q F w)(hc:F.ev c=some (.bool b):=by exact rfl):WP P n (.cond c x y) Q F w:=
  WP.cond b hc (fun h=>h1 (by rw[if_pos h] at hm;exact hm)) (fun h=>h2 (by rw[if_neg (zy1 h)] at hm;exact hm))
theorem rb {α:Type}(i:Nat){b:Bool}{A B:Option α}{r:α}(hm:(if b=true then A else B)=some r)(h1:A=some r→RW P n ops Q rest ((i,.bool true)::F) w)(h2:B=some r→RW P n ops Q rest ((i,.bool false)::F) w)(hg:F.get i=some (.bool b):=by exact rfl):RW P n ops Q rest F w:=by
  cases b
  · exact RW.know i hg rfl (h2 hm)
  · exact RW.know i hg rfl (h1 hm)
theorem db {α:Type}{k m:Nat}(i:Nat){b:Bool}{A B:Option α}{r:α}(hm:(if b=true then A else B)=some r)(h1:A=some r→DM P n ops Q W9 w0 wm fu k m ((i,.bool true)::F) w)(h2:B=some r→DM P n ops Q W9 w0 wm fu k m ((i,.bool false)::F) w)(hg:F.get i=some (.bool b):=by exact rfl):DM P n ops Q W9 w0 wm fu k m F w:=by
  cases b
  · exact DM.know i hg rfl (h2 hm)
  · exact DM.know i hg rfl (h1 hm)
theorem zx4 {m:Int}{b:Nat}(h:0≤m∧m≤4294967296)(hb:Nat.ble b 65536=true):m*(b:Int)≤281474976710656:=by
  have h1:b≤65536:=by simpa using hb
  have h2:m*(b:Int)≤4294967296*65536:=Int.mul_le_mul h.2 (by omega) (by omega) (by omega)
  omega
theorem bS {α β:Type}{x:Option α}{f:α→Option β}{b:β}(h:x.bind f=some b):∃ a,x=some a∧f a=some b:=zuQ h
abbrev sl {α:Type}(A:Option Addr)(x:List α)(k:Nat):Value:=.slice A x.length k
abbrev ow {α:Type}(T:Ty (List α))(A:Option Addr)(x:List α)(k:Nat):Res:=Own T [.slice A x.length k] x
theorem iS {α:Type}{b:Bool}{A:Option α}{r:α}(hm:(if b=true then A else none)=some r):b=true∧A=some r:=by
  cases b
  · cases hm
  · exact⟨rfl,hm⟩

theorem sq  {x y:Code}(h:WP P n x (Q.after (WP P n y Q)) F w) :WP P n (.seq x y) Q F w:=fun a ha=>
  wp_seq (wp_mono (h a ha) fun e a' w' ⟨F',hf,q⟩=>by cases e<;>first | exact q a' hf | exact⟨F',hf,q⟩)

theorem sp  (h:Q .normal F w) :WP P n .skip Q F w:=fun _ ha=>wp_skip ⟨F,ha,h⟩

theorem rt  (h:Q .ret F w) :WP P n .ret Q F w:=fun _ ha=>wp_ret ⟨F,ha,h⟩

theorem xt  {id:Nat}(h:Q (.exit id) F w) :WP P n (.exit id) Q F w:=fun _ ha=>wp_exit ⟨F,ha,h⟩

theorem bk  {id:Nat}{c:Code}(h:WP P n c (Q.block id) F w) :WP P n (.block id c) Q F w:=fun a ha=>
  wp_block (wp_mono (h a ha) fun e a' w' ⟨F',hf,q⟩=>by
    cases e with
    | exit i=>
      simp only[Exit.inBlock]
      by_cases hi:i=id
      · subst hi;have hb:Nat.beq i i=true:=by simp
        simp only[Post.block,hb] at q;rw[if_pos rfl];exact⟨F',hf,q⟩
      · have:Nat.beq i id=false:=by rw[Bool.eq_false_iff];intro hb;exact hi (Nat.eq_of_beq_eq_true hb)
        simp only[Post.block,this] at q
        rw[if_neg hi];exact⟨F',hf,q⟩
    | _=>exact⟨F',hf,q⟩)

theorem cd  {c:Operand}{x y:Code}(b:Bool)(ht:b=true→WP P n x Q F w)(hf:b=false→WP P n y Q F w)(hc:F.ev c=some (.bool b):=by exact rfl):WP P n (.cond c x y) Q F w:=WP.cond b hc ht hf

theorem q1 {v:Value}{t:Nat}{x:Operand}{i:TI}{p q:Addr}{cs:List Value}(H:At w p cs)(off:Nat)(ht:TTok P T:=by exact ttok)(ho:o.op=.load t x:=by exact rfl)(hi:T.get t=some i:=by exact rfl)(G:i.agg=false:=by exact rfl)(hx:F.ev x=some (.pointer (some q)):=by exact rfl)(hq:q=p.add off:=by exact rfl)(hv:nthv cs off=some v:=by exact rfl):Quiet P n F w o v:=Quiet.load1 ht ho hi G hx H off hq hv

theorem qN  {t:Nat}{x:Operand}{i:TI}{q:Addr}{cs:List Value}(H:At w q cs)(ht:TTok P T:=by exact ttok)(ho:o.op=.load t x:=by exact rfl)(hi:T.get t=some i:=by exact rfl)(G:i.agg=true:=by exact rfl)(hx:F.ev x=some (.pointer (some q)):=by exact rfl)(hl:cs.length=i.size:=by exact rfl):Quiet P n F w o (.agg ⟨cs⟩):=Quiet.loadN ht ho hi G hx H hl

theorem rg  {id:Nat}(h:RW P n ops Q ops F w) :WP P n (.region id ops.toArray false) Q F w:=fun a ha=>wp_region_lit (h a ha)

theorem rn  (h:Q .normal F w) :RW P n ops Q [] F w:=fun _ ha=>wpList_nil ⟨F,ha,h⟩

theorem qt  {v:Value}(hq:Quiet P n F w o v){d:Nat}(h:RW P n ops Q rest ((d,v)::F) w)(hg:zc ops F o=some true:=by exact rfl)(hd:o.dst=some d:=by exact rfl)(hn:Nat.blt d n=true:=by exact rfl):RW P n ops Q (o::rest) F w:=RW.quiet hg hq hd hn h

theorem rr  (k:Nat){q:List Oper}{F':Fr}(h:RW P n ops Q q F' w)(ht:TTok P T:=by exact ttok)(hr:pvs T n ops k rest F=some (q,F'):=by exact rfl):RW P n ops Q rest F w:=by
  induction k generalizing rest F with
  | zero=>simp only[pvs,Option.some.injEq,Prod.mk.injEq] at hr;obtain⟨rfl,rfl⟩:=hr;exact h
  | succ k ih=>
    cases rest with
    | nil=>simp only[pvs,Option.some.injEq,Prod.mk.injEq] at hr;obtain⟨rfl,rfl⟩:=hr;exact h
    | cons o rest=>
      unfold pvs at hr
      split at hr
      · rename_i d hg hd
        split at hr
        · rename_i v hn hv
          exact RW.ok hg (fun a ha=>znc ht hv ha w) hd hn (ih hr)
        · cases hr
      · rename_i hg hd
        split at hr
        · rename_i v hv
          exact RW.ok0 hg (fun a ha=>znc ht hv ha w) hd (ih hr)
        · cases hr
      · rename_i d hg hd
        split at hr
        · rename_i hn;exact RW.skip hg hd hn (ih hr)
        · cases hr
      · rename_i hg hd;exact RW.skip0 hg hd (ih hr)
      · cases hr


theorem nw  {Rs:List Res}(hS:St W w Rs){cs:List Value}{e:TypeId}{d:Nat}(h:∀ g (w':World),Ext w w'→St W w' (Box g cs e::Rs)→RW P n ops Q rest ((d,.pointer (some ⟨g,0,none⟩))::F) w')(ht:TTok P T:=by exact ttok)(hg:zc ops F o=some true:=by exact rfl)(hc:zsv T F o.op=some (cs,e):=by exact rfl)(hd:o.dst=some d:=by exact rfl)(hn:Nat.blt d n=true:=by exact rfl):RW P n ops Q (o::rest) F w:=
  RW.ok hg (fun _ ha=>znd ht hc ha) hd hn (h _ _ (Ext.alloc _ _) (hS.new cs e))



theorem ca  {f:FuncId}{vs:List Value}(q:Enters P f){R:Value→World→Prop}(hf:Calls P f ⟨vs⟩ w (Ret R))(h:∀ v w',R v w'→RW P n ops Q rest (F.putO o.dst v) w')(hg:zc ops F o=some true:=by exact rfl)(hc:zjA F o.op=some (f,vs):=by exact rfl)(hn:zhM n o.dst=true:=by exact rfl):RW P n ops Q (o::rest) F w:=fun a ha=>
  wpList_step fun K hK=>by
    rw[if_pos (zq hg ha)]
    unfold Oper.wp
    rw[zgH q hc ha,Oper.upon_enter]
    refine hf.mono fun e w' he=>?_
    cases e with
    | returned v=>exact hK _ _ (h v w' he _ (ha.putO hn v))
    | panicked _=>exact he.elim
    | outgrown=>exact he.elim
theorem so  {A B:List Res}{g:Nat}{cs cs':List Value}{e:TypeId}(hS:St W w (A++Box g cs e::B)){t:Nat}{x y:Operand}{i:TI}{q:Addr}(off:Nat){v:Value}(h:∀ (w':World),St W w' (A++Box g cs' e::B)→RW P n ops Q rest F w')(ht:TTok P T:=by exact ttok)(hg:zc ops F o=some true:=by exact rfl)(ho:o.op=.store t x y:=by exact rfl)(hd:o.dst=none:=by exact rfl)(hi:T.get t=some i:=by exact rfl)(hx:F.ev x=some (.pointer (some q)):=by exact rfl)(hq:q=⟨g,off,none⟩:=by exact rfl)(hy:F.ev y=some v:=by exact rfl)(hl:Nat.beq (z3c v).length i.size=true:=by exact rfl)(h1:z9W (z3c v)=true:=by exact rfl)(hs:z9Q cs off (z3c v)=some cs':=by exact rfl):RW P n ops Q (o::rest) F w:=by
  obtain⟨G,⟨hG,hh⟩,_,X⟩:=hS.sep.pick.head
  obtain⟨w',r1,r2,r3,r4,r5,r6,r7,r8⟩:=z3F (P:=P) g off e (z3c v) 0 w cs cs' h1 hh (by simpa using hs)
  have O:W.fr g:=X g (by rw[hG];simp)
  refine RW.unit (w':=w') hg (fun a ha=>?_) hd (h w' (St.back ⟨⟨r5.trans hS.ext.os,r6.trans hS.ext.tape,r7.trans hS.ext.output,by rw[r8];exact hS.ext.drawn,by rw[r4];exact hS.le,fun k hk=>?_⟩,?_⟩))
  · unfold execOp
    rw[ho]
    have Y:v.cells.size=i.size:=by
      rw[← Array.length_toList,z7X];exact Nat.eq_of_beq_eq_true hl
    simp[ha.ev hx,ha.ev hy,Instr.storeAt,Instr.sureAddr,storeVar,ht.sizeOf hi,Y,z7X,hq,r1]
  · show w'.heap[k]? = _;rw[r3 k (fun e=>hk (e ▸ O))];exact hS.ext.block k hk
  · refine hS.sep.pick.upd hS.up fun G' H _ _=>?_
    obtain⟨e1,_⟩:=H
    exact⟨[g],⟨rfl,r2⟩,by simp,fun b hb=>.inl (by rw[e1];exact hb),fun b hb hn=>r3 b (by rintro rfl;exact hn (by rw[e1];simp))⟩
theorem into  {f:FuncId}{fn:Func}{c:Code}{vs:List Value}{R:Value→World→Prop}(hf:P.funcs[f]? = some fn)(n:Nat)(rs:List ResultVar)(h:WP P n c (zya P rs R) (ziw 0 vs) w)(hb:fn.body=some c:=by exact rfl)(hn:fn.ntmps=n:=by exact rfl)(hl:Nat.ble vs.length n=true:=by exact rfl)(hr:fn.results.toList=rs:=by exact rfl):Calls P f ⟨vs⟩ w (Ret R):=by
  refine calls_of_wp hf hb (wp_mono (h _ ?_) ?_)
  · have q:vs.length≤n:=by simpa using hl
    refine⟨rfl,by simp[hn];omega,fun i v hv=>?_⟩
    obtain⟨_,h2⟩:=ziv vs 0 i v hv
    simp only[Nat.sub_zero] at h2
    have hi:=(List.getElem?_eq_some_iff.1 h2).1
    rw[Array.getElem?_append_left (by simpa using hi)]
    simpa using h2
  · rintro e a w' ⟨F,ha,hq⟩
    cases e with
    | normal=>obtain⟨us,h1,h2⟩:=hq;exact⟨ha.1,_,ziH ha hr h1,h2⟩
    | ret=>obtain⟨us,h1,h2⟩:=hq;exact⟨ha.1,_,ziH ha hr h1,h2⟩
    | exit i=>exact hq.elim
    | goto l=>exact hq.elim
    | panic c=>exact hq.elim
    | outgrown=>exact hq.elim
theorem l1  {t:Nat}{x:Operand}{i:TI}{p q:Addr}{cs:List Value}(H:At w p cs)(off:Nat){v:Value}{d:Nat}(h:RW P n ops Q rest ((d,v)::F) w)(ht:TTok P T:=by exact ttok)(hg:zc ops F o=some true:=by exact rfl)(ho:o.op=.load t x:=by exact rfl)(hi:T.get t=some i:=by exact rfl)(G:i.agg=false:=by exact rfl)(hx:F.ev x=some (.pointer (some q)):=by exact rfl)(hq:q=p.add off:=by exact rfl)(hv:nthv cs off=some v:=by exact rfl)(hd:o.dst=some d:=by exact rfl)(hn:Nat.blt d n=true:=by exact rfl):RW P n ops Q (o::rest) F w:=RW.quiet hg (Quiet.load1 ht ho hi G hx H off hq hv) hd hn h

theorem lN  {t:Nat}{x:Operand}{i:TI}{q:Addr}{cs:List Value}(H:At w q cs){d:Nat}(h:RW P n ops Q rest ((d,.agg ⟨cs⟩)::F) w)(ht:TTok P T:=by exact ttok)(hg:zc ops F o=some true:=by exact rfl)(ho:o.op=.load t x:=by exact rfl)(hi:T.get t=some i:=by exact rfl)(G:i.agg=true:=by exact rfl)(hx:F.ev x=some (.pointer (some q)):=by exact rfl)(hl:Nat.beq cs.length i.size=true:=by exact rfl)(hd:o.dst=some d:=by exact rfl)(hn:Nat.blt d n=true:=by exact rfl):RW P n ops Q (o::rest) F w:=RW.quiet hg (Quiet.loadN ht ho hi G hx H (Nat.eq_of_beq_eq_true hl)) hd hn h

theorem ix  {α:Type}{U:Ty α}{w1:Base}(he:Ext w1 w){t e:Nat}{x ix:Operand}{i j:TI}{A:Option Addr}{len c:Nat}{xs:List α}{k:IntKind}{m:Int}{e':Nat}(hr:(tSl e' U).ro w1 [.slice A len c] xs){a:α}(G:idx xs m=some a){d:Nat}(h:∀ q es,At w1 q es→U.ro w1 es a→RW P n ops Q rest ((d,.pointer (some q))::F) w)(ht:TTok P T:=by exact ttok)(hg:zc ops F o=some true:=by exact rfl)(ho:o.op=.indexAddr t x ix:=by exact rfl)(hi:T.get t=some i:=by exact rfl)(hd:i.d=.slice e:=by exact rfl)(hj:T.get e=some j:=by exact rfl)(hs:U.size=j.size:=by exact rfl)(hpos:0<U.size:=by decide)(hx:F.ev x=some (.slice A len c):=by exact rfl)(hm:F.ev ix=some (.int k m):=by exact rfl)(H:o.dst=some d:=by exact rfl)(hn:Nat.blt d n=true:=by exact rfl):RW P n ops Q (o::rest) F w:=RW.idx ht he hg ho hi hd hj hs hpos hx hm hr (zk G).1 (zk G).2 H hn h

theorem dn  {id:Nat}(wm:Nat)(hm:P.follows .mixedOrders=true)(k:Nat)(sk:List (List Nat×Nat))(hv:Ext W9 w)(h:(z97 ops=sk∧ops.length=k)→DM P n ops Q W9 w wm k k 0 F { w with drawn:=w.drawn+1 })(hk:Nat.beq ops.length k=true:=by kernel_rfl)(hs:Region.noSelect ops.toArray=true:=by kernel_rfl)(q:z97 ops=sk:=by kernel_rfl):WP P n (.region id ops.toArray true) Q F w:=
  WP.drawn hm k (by simpa using hk) hs hv (h ⟨q,by simpa using hk⟩ _ (Lst.start k))

theorem dd {k m:Nat}(q:z97 ops=sk∧ops.length=k)(h:Q .normal F w)(hr:zhd sk k m=[]:=by kernel_rfl):DM P n ops Q W9 w0 wm fu k m F w:=fun _ hl=>DW.done (by rw[ziL q.1 q.2 hl];exact hr) h

theorem dq {k m:Nat}{v:Value}(G:z97 ops=sk∧ops.length=k)(i:Nat){m':Nat}(hi:nthv ops i=some o)(hq:Quiet P n F w0 o v){d:Nat}(hm:m ||| 2 ^ i=m':=by exact rfl)(H:wm.testBit i=false:=by kernel_rfl)(O:zv7 sk wm k i=true:=by kernel_rfl)(q:Nat.beq (m &&& wm) 0=true:=by kernel_rfl)(hf:zd2 sk (2 ^ k - 1) m i=true:=by kernel_rfl)(hg:zc ops F o=some true:=by exact rfl)(hd:o.dst=some d:=by exact rfl)(hn:Nat.blt d n=true:=by exact rfl)(h:DM P n ops Q W9 w0 wm fu k m' ((d,v)::F) w:=by kernel_rfl):DM P n ops Q W9 w0 wm (fu+1) k m F w:=DM.quiet G i _ hm H O q hi hf hg hq hd hn h

theorem dV {k m:Nat}{v:Value}(q:z97 ops=sk∧ops.length=k)(i:Nat){m':Nat}(hi:nthv ops i=some o)(hq:Quiet P n F W9 o v){d:Nat}(h:DM P n ops Q W9 w0 wm fu k m' ((d,v)::F) w)(hm:m ||| 2 ^ i=m':=by exact rfl)(G:wm.testBit i=false:=by kernel_rfl)(hf:zd2 sk (2 ^ k - 1) m i=true:=by kernel_rfl)(hg:zc ops F o=some true:=by exact rfl)(hd:o.dst=some d:=by exact rfl)(hn:Nat.blt d n=true:=by exact rfl):DM P n ops Q W9 w0 wm (fu+1) k m F w:=fun l hl=>
  DW.quietV i G hi (zdq q.1 q.2 hl (by rw[← z2U];exact hi) hf) hg hq hd hn (h _ (hl.set (zcC q.2 hi) hm))

theorem dr {k m:Nat}(fu:Nat)(G:z97 ops=sk∧ops.length=k)(l:List Nat){F':Fr}(h:DM P n ops Q W9 w0 wm fu k (zpW l m) F' w)(ht:TTok P T:=by exact ttok)(H:l.all (fun i=>!wm.testBit i)=true:=by kernel_rfl)(hl:(zbP sk (2 ^ k - 1) l m).isSome=true:=by kernel_rfl)(hr:zvs T n ops l F=some F':=by exact rfl):DM P n ops Q W9 w0 wm (fu+l.length) k m F w:=by
  obtain⟨m',q⟩:=Option.isSome_iff_exists.1 hl
  have e:=znx q
  subst e
  exact DM.run ht G l _ H q hr h

theorem o1 {k m:Nat}(q:z97 ops=sk∧ops.length=k)(i:Nat)(h:LM P n ops Q W9 w0 wm fu k m i F w)(hr:zhd sk k m=[i]:=by kernel_rfl):DM P n ops Q W9 w0 wm (fu+1) k m F w:=
  DM.loud q [i] hr (by simp) (by rintro j hj;simp only[List.mem_singleton] at hj;subst hj;exact h)

theorem mc {k m:Nat}(G:z97 ops=sk∧ops.length=k){i:Nat}{m':Nat}{f:FuncId}{vs:List Value}(q:Enters P f){R:Value→World→Prop}(hf:Calls P f ⟨vs⟩ w (Ret R))(h:∀ v w',R v w'→Ext w w'∧DM P n ops Q W9 w0 wm fu k m' (F.putO o.dst v) w')(hm:m ||| 2 ^ i=m':=by exact rfl)(H:wm.testBit i=false:=by kernel_rfl)(hi:nthv ops i=some o:=by exact rfl)(hg:zc ops F o=some true:=by exact rfl)(hc:zjA F o.op=some (f,vs):=by exact rfl)(hn:zhM n o.dst=true:=by exact rfl):LM P n ops Q W9 w0 wm fu k m i F w:=fun _ hl=>
  LW.call H hi hg hc hn q hf fun v w' hR=>⟨(h v w' hR).1,(h v w' hR).2 _ (hl.set (zcC G.2 hi) hm)⟩

theorem mw {k m:Nat}(q:z97 ops=sk∧ops.length=k){Rs:List Res}(hS:St W w Rs){i:Nat}{m':Nat}{cs:List Value}{e:TypeId}{d:Nat}(h:∀ g (w':World),Ext w w'→St W w' (Box g cs e::Rs)→DM P n ops Q W9 w0 wm fu k m' ((d,.pointer (some ⟨g,0,none⟩))::F) w')(ht:TTok P T:=by exact ttok)(hm:m ||| 2 ^ i=m':=by exact rfl)(G:wm.testBit i=false:=by kernel_rfl)(hi:nthv ops i=some o:=by exact rfl)(hg:zc ops F o=some true:=by exact rfl)(hc:zsv T F o.op=some (cs,e):=by exact rfl)(hd:o.dst=some d:=by exact rfl)(hn:Nat.blt d n=true:=by exact rfl):LM P n ops Q W9 w0 wm fu k m i F w:=fun _ hl=>
  LW.new ht hS G hi hg hc hd hn fun g w' h1 h2=>h g w' h1 h2 _ (hl.set (zcC q.2 hi) hm)

theorem dl {k m:Nat}(X:z97 ops=sk∧ops.length=k)(i:Nat){m':Nat}{t:Nat}{x:Operand}{j:TI}{p q:Addr}{cs:List Value}(H:At w0 p cs)(off:Nat){v:Value}{d:Nat}(h:DM P n ops Q W9 w0 wm fu k m' ((d,v)::F) w)(ht:TTok P T:=by exact ttok)(hm:m ||| 2 ^ i=m':=by exact rfl)(Y:wm.testBit i=false:=by kernel_rfl)(Z:zv7 sk wm k i=true:=by kernel_rfl)(O:Nat.beq (m &&& wm) 0=true:=by kernel_rfl)(hi:nthv ops i=some o:=by exact rfl)(hf:zd2 sk (2 ^ k - 1) m i=true:=by kernel_rfl)(hg:zc ops F o=some true:=by exact rfl)(ho:o.op=.load t x:=by exact rfl)(hj:T.get t=some j:=by exact rfl)(G:j.agg=false:=by exact rfl)(hx:F.ev x=some (.pointer (some q)):=by exact rfl)(hq:q=p.add off:=by exact rfl)(hv:nthv cs off=some v:=by exact rfl)(hd:o.dst=some d:=by exact rfl)(hn:Nat.blt d n=true:=by exact rfl):DM P n ops Q W9 w0 wm (fu+1) k m F w:=DM.quiet X i m' hm Y Z O hi hf hg (Quiet.load1 ht ho hj G hx H off hq hv) hd hn h

theorem dL {k m:Nat}(X:z97 ops=sk∧ops.length=k)(i:Nat){m':Nat}{t:Nat}{x:Operand}{j:TI}{q:Addr}{cs:List Value}(H:At w0 q cs){d:Nat}(h:DM P n ops Q W9 w0 wm fu k m' ((d,.agg ⟨cs⟩)::F) w)(ht:TTok P T:=by exact ttok)(hm:m ||| 2 ^ i=m':=by exact rfl)(Y:wm.testBit i=false:=by kernel_rfl)(Z:zv7 sk wm k i=true:=by kernel_rfl)(O:Nat.beq (m &&& wm) 0=true:=by kernel_rfl)(hi:nthv ops i=some o:=by exact rfl)(hf:zd2 sk (2 ^ k - 1) m i=true:=by kernel_rfl)(hg:zc ops F o=some true:=by exact rfl)(ho:o.op=.load t x:=by exact rfl)(hj:T.get t=some j:=by exact rfl)(G:j.agg=true:=by exact rfl)(hx:F.ev x=some (.pointer (some q)):=by exact rfl)(hl:Nat.beq cs.length j.size=true:=by exact rfl)(hd:o.dst=some d:=by exact rfl)(hn:Nat.blt d n=true:=by exact rfl):DM P n ops Q W9 w0 wm (fu+1) k m F w:=DM.quiet X i m' hm Y Z O hi hf hg (Quiet.loadN ht ho hj G hx H (Nat.eq_of_beq_eq_true hl)) hd hn h

theorem dx {k m:Nat}{α:Type}{U:Ty α}{w1:Base}(he:Ext w1 w0)(Z:z97 ops=sk∧ops.length=k)(i:Nat){m':Nat}{t e:Nat}{x ix:Operand}{j j':TI}{A:Option Addr}{len c:Nat}{xs:List α}{kk:IntKind}{mm:Int}{e':Nat}(hr:(tSl e' U).ro w1 [.slice A len c] xs){a:α}(G:idx xs mm=some a){d:Nat}(h:∀ q es,At w1 q es→U.ro w1 es a→DM P n ops Q W9 w0 wm fu k m' ((d,.pointer (some q))::F) w)(ht:TTok P T:=by exact ttok)(X:m ||| 2 ^ i=m':=by exact rfl)(a0:wm.testBit i=false:=by kernel_rfl)(b0:zv7 sk wm k i=true:=by kernel_rfl)(Y:Nat.beq (m &&& wm) 0=true:=by kernel_rfl)(hi:nthv ops i=some o:=by exact rfl)(hf:zd2 sk (2 ^ k - 1) m i=true:=by kernel_rfl)(hg:zc ops F o=some true:=by exact rfl)(ho:o.op=.indexAddr t x ix:=by exact rfl)(hj:T.get t=some j:=by exact rfl)(hd:j.d=.slice e:=by exact rfl)(O:T.get e=some j':=by exact rfl)(hs:U.size=j'.size:=by exact rfl)(hpos:0<U.size:=by decide)(hx:F.ev x=some (.slice A len c):=by exact rfl)(hm:F.ev ix=some (.int kk mm):=by exact rfl)(H:o.dst=some d:=by exact rfl)(hn:Nat.blt d n=true:=by exact rfl):DM P n ops Q W9 w0 wm (fu+1) k m F w:=DM.idx ht he Z i _ X a0 b0 Y hi hf hg ho hj hd O hs hpos hx hm hr (zk G).1 (zk G).2 H hn h

theorem mS  {α:Type}{U:Ty α}{Rs:List Res}(z:α)(hS:St W w Rs){t e:Nat}{l c:Operand}{i j:TI}{k1 k2:IntKind}{m:Int}(G:0≤m∧m≤4294967296){O:List Value}(hz:∀ w',U.own w' O z []){d:Nat}(h:∀ A k (w':World),Ext w w'→St W w' (Own (tSl e U) [.slice A (List.replicate m.toNat z).length k] (List.replicate m.toNat z)::Rs)→RW P n ops Q rest ((d,.slice A (List.replicate m.toNat z).length k)::F) w')(ht:TTok P T:=by exact ttok)(hg:zc ops F o=some true:=by exact rfl)(ho:o.op=.makeSlice t l c:=by exact rfl)(hi:T.get t=some i:=by exact rfl)(hd:i.d=.slice e:=by exact rfl)(hj:T.get e=some j:=by exact rfl)(hs:U.size=j.size:=by exact rfl)(hl:F.ev l=some (.int k1 m):=by exact rfl)(hc:F.ev c=some (.int k2 m):=by exact rfl)(q:Nat.ble j.bytes 65536=true:=by exact rfl)(H:j.zero=O:=by exact rfl)(X:o.dst=some d:=by exact rfl)(hn:Nat.blt d n=true:=by exact rfl):RW P n ops Q (o::rest) F w:=RW.make ht z hS hg ho hi hd hj hs hl hc G.1 (zx4 G q) (by have:=G.2;simp only[maxLen];omega) (by intro v;rw[H];exact hz v) X hn h

theorem qb  {t:Nat}{ps:List (Nat×Operand)}{i:TI}{gs:List (Nat×Nat×Bool×Nat)}{vs:List (Nat×Value)}{cs:List Value}(ht:TTok P T:=by exact ttok)(ho:o.op=.build t ⟨ps⟩:=by exact rfl)(hi:T.get t=some i:=by exact rfl)(hd:i.d=.struct gs:=by exact rfl)(hv:zeq F ps=some vs:=by exact rfl)(hc:zpm gs i.zero vs=some cs:=by exact rfl):Quiet P n F w o (.agg ⟨cs⟩):=by
  intro a w' ha _
  obtain⟨it,G,_,_,z,hz,X⟩:=ht.info hi
  obtain⟨d,h1,h2,_⟩:=ht.desc hi
  rw[hd] at h2
  cases d<;>simp only[zdu,Bool.false_eq_true] at h2
  rename_i fs _
  obtain⟨places,H,O⟩:=znm h2
  have hpos:∀ (j:Nat) g,gs[j]? = some g→g.2.1≠0:=fun j g hg=>by
    obtain⟨_,_,_,_,_,h,_⟩:=ht.field hi hd hg
    exact h
  have q:=zmn (place:=(places.toArray[·]?)) (fun j g hg=>by simpa using O j g hg) hpos vs i.zero cs hc
  have hb:P.built t vs=some ⟨cs⟩:=by
    unfold Program.built
    simp only[G,h1,hz,H]
    rw[show z.cells=⟨i.zero⟩ from by rw[← X]]
    exact q
  unfold execOp
  rw[ho]
  have:=run_build (P:=P) w' t ⟨vs⟩ ⟨cs⟩ hb
  have he:(#[]++(⟨ps⟩:Array (Nat×Operand))).map (fun(p:Nat×Operand)=>(p.1,a.eval p.2))=⟨vs⟩:=by
    simp[zde ha hv]
  simp only[Array.empty_append] at he
  simp[show Array.map (fun x:Nat×Operand=>(x.fst,a.eval x.snd)) ⟨ps⟩=⟨vs⟩ from he,this]

theorem n0  {α:Type}{U:Ty α}{Rs:List Res}{t e:Nat}{i j:TI}(hS:St W w Rs){d:Nat}(h:∀ A k (w':World),Ext w w'→St W w' (Own (tSl e U) [.slice A ([]:List α).length k] []::Rs)→RW P n ops Q rest ((d,.slice A ([]:List α).length k)::F) w')(ht:TTok P T:=by exact ttok)(hg:zc ops F o=some true:=by exact rfl)(ho:o.op=.buildSlice t 0 #[]:=by exact rfl)(hi:T.get t=some i:=by exact rfl)(hd:i.d=.slice e:=by exact rfl)(hj:T.get e=some j:=by exact rfl)(q:o.dst=some d:=by exact rfl)(hn:Nat.blt d n=true:=by exact rfl):RW P n ops Q (o::rest) F w:=by
  obtain⟨jj,G,_⟩:=ht.info hj
  refine RW.ok (v:=.slice (some ⟨w.heap.size,0,none⟩) 0 0) hg (fun a ha=>?_) q hn (h (some ⟨w.heap.size,0,none⟩) 0 _ (Ext.alloc w (.cells #[] e)) ?_)
  · unfold execOp
    rw[ho]
    simp[zek w (ht.slice hi hd) G]
  · have h1:=(hS.flatEls (U:=U) (els:=[]) (ys:=[]) ⟨rfl,rfl⟩).new [] e
    exact St.boxSl (ys:=([]:List α)) h1 (Nat.zero_le _)


theorem ap  {α:Type}{U:Ty α}(H:Flat U){B:List Res}{e:Nat}{A:Option Addr}{k:Nat}{xs ys:List α}(hS:St W w (Own (tSl e U) [.slice A xs.length k] xs::B)){t:Nat}{s x:Operand}{i j:TI}{A2:Option Addr}{k2:Nat}{e':Nat}(hr:(tSl e' U).ro w [.slice A2 ys.length k2] ys)(q:decide ((xs.length:Int)+ys.length≤4294967296)=true){d:Nat}(h:∀ A' k' (w':World),St W w' (Own (tSl e U) [.slice A' (xs++ys).length k'] (xs++ys)::B)→RW P n ops Q rest ((d,.slice A' (xs++ys).length k')::F) w')(ht:TTok P T:=by exact ttok)(hg:zc ops F o=some true:=by exact rfl)(ho:o.op=.call { callee:=.builtin .append,args:=#[s,x],argTypes:=#[t,t] }:=by exact rfl)(hi:T.get t=some i:=by exact rfl)(hd:i.d=.slice e:=by exact rfl)(hj:T.get e=some j:=by exact rfl)(hs:U.size=j.size:=by exact rfl)(hpos:0<U.size:=by decide)(hx:F.ev s=some (.slice A xs.length k):=by exact rfl)(hy:F.ev x=some (.slice A2 ys.length k2):=by exact rfl)(hb:j.bytes≤32768:=by decide)(G:o.dst=some d:=by exact rfl)(hn:Nat.blt d n=true:=by exact rfl):RW P n ops Q (o::rest) F w:=RW.appendRo ht H hS hg ho hi hd hj hs hpos hx hy hr (of_decide_eq_true q) hb G hn h

theorem zx1  {t u e:Nat}{x y:Operand}{i:TI}{A:Option Addr}{l c:Nat}(ht:TTok P T:=by exact ttok)(ho:o.op=.binOp .eql t x y u:=by exact rfl)(hi:T.get t=some i:=by exact rfl)(hd:i.d=.slice e:=by exact rfl)(hx:F.ev x=some (.slice A l c):=by exact rfl)(hy:F.ev y=some (.slice none 0 0):=by exact rfl):Quiet P n F w o (.bool A.isNone):=by
  intro a w' ha _
  unfold execOp
  rw[ho]
  have hg:(eqGuard .eql t x y (.slice A l c) (.slice none 0 0)).run P w'=.ok () w':=by unfold eqGuard;simp
  simp[ha.ev hx,ha.ev hy,hg,zs9 w' A l c (ht.slice hi hd)]

theorem ns  {α:Type}{U:Ty α}{Rs:List Res}{t e m:Nat}{ps:List (Nat×Operand)}{vs:List (Nat×Value)}{els:List Value}{ys:List α}{i j:TI}(hS:St W w (OwnEls U els ys::Rs)){d:Nat}(h:∀ A k (w':World),Ext w w'→St W w' (Own (tSl e U) [.slice A ys.length k] ys::Rs)→RW P n ops Q rest ((d,.slice A ys.length k)::F) w')(ht:TTok P T:=by exact ttok)(hg:zc ops F o=some true:=by exact rfl)(ho:o.op=.buildSlice t m ⟨ps⟩:=by exact rfl)(hi:T.get t=some i:=by exact rfl)(hd:i.d=.slice e:=by exact rfl)(hj:T.get e=some j:=by exact rfl)(hv:zeq F ps=some vs:=by exact rfl)(hf:zpm (slots j.size 0 m) (chunks m j.zero) vs=some els:=by exact rfl)(hm:ys.length=m:=by exact rfl)(hpos:Nat.ble 1 (m*j.size)=true:=by exact rfl)(Z:Nat.ble (m*j.size) 16777216=true:=by exact rfl)(X:o.dst=some d:=by exact rfl)(hn:Nat.blt d n=true:=by exact rfl):RW P n ops Q (o::rest) F w:=by
  obtain⟨jj,Y,O,_,zz,c0,a0⟩:=ht.info hj
  have h1:1≤m*j.size:=by simpa using hpos
  have h2:m*j.size≤16777216:=by simpa using Z
  have b0:j.zero.length=j.size:=by
    have:=ht.zlen hj
    exact this
  have G:(Array.range (m*jj.size)).map (zz.cells[· % zz.cells.size]!)=⟨chunks m j.zero⟩:=by
    have:=zc4 j.zero m
    rw[b0] at this
    rw[O,show zz.cells=⟨j.zero⟩ from by rw[← a0]]
    have h5:madeCells ⟨j.zero⟩ (m*j.size)=⟨chunks m j.zero⟩:=by rw[← this]
    exact h5
  have H:=zmn (place:=fun i=>some (i*jj.size,jj.size)) (gs:=slots j.size 0 m) (fun a g hg=>by rw[zfR _ _ _ _ _ hg,O];simp) (fun a g hg=>by
    rw[zfR _ _ _ _ _ hg]
    intro h0
    have:j.size=0:=h0
    rw[this] at h1;omega) vs _ els hf
  have hr:=run_buildSlice (P:=P) w t e m ⟨vs⟩ ⟨els⟩ jj zz (ht.slice hi hd) Y c0 (by rw[O];omega) (by rw[O];omega) (by rw[G];exact H)
  subst hm
  refine RW.ok (v:=.slice (some ⟨w.heap.size,0,none⟩) ys.length ys.length) hg (fun a ha=>?_) X hn (h (some ⟨w.heap.size,0,none⟩) ys.length _ (Ext.alloc w (.cells ⟨els⟩ e)) ?_)
  · unfold execOp
    rw[ho]
    have he:(⟨ps⟩:Array (Nat×Operand)).map (fun(p:Nat×Operand)=>(p.1,a.eval p.2))=⟨vs⟩:=by
      simp[zde ha hv]
    simp[show Array.map (fun x:Nat×Operand=>(x.fst,a.eval x.snd)) ⟨ps⟩=⟨vs⟩ from he,hr]
  · have q:1≤j.size:=by
      rcases Nat.eq_zero_or_pos j.size with h0 | h0
      · rw[h0] at h1;omega
      · exact h0
    exact St.boxSl (hS.new els e) (by
      have:ys.length*1≤ys.length*j.size:=Nat.mul_le_mul_left _ q
      unfold maxLen;omega)


theorem ao  {α:Type}{U:Ty α}{B:List Res}{e e':Nat}{A A2:Option Addr}{k k2:Nat}{xs ys:List α}(hS:St W w (Own (tSl e' U) [.slice A2 ys.length k2] ys::Own (tSl e U) [.slice A xs.length k] xs::B)){t:Nat}{s x:Operand}{i j:TI}(q:decide ((xs.length:Int)+ys.length≤4294967296)=true){d:Nat}(h:∀ A' k' (w':World),St W w' (Own (tSl e U) [.slice A' (xs++ys).length k'] (xs++ys)::B)→RW P n ops Q rest ((d,.slice A' (xs++ys).length k')::F) w')(ht:TTok P T:=by exact ttok)(hg:zc ops F o=some true:=by exact rfl)(ho:o.op=.call { callee:=.builtin .append,args:=#[s,x],argTypes:=#[t,t] }:=by exact rfl)(hi:T.get t=some i:=by exact rfl)(hd:i.d=.slice e:=by exact rfl)(hj:T.get e=some j:=by exact rfl)(hs:U.size=j.size:=by exact rfl)(hpos:0<U.size:=by decide)(hx:F.ev s=some (.slice A xs.length k):=by exact rfl)(hy:F.ev x=some (.slice A2 ys.length k2):=by exact rfl)(hb:j.bytes≤32768:=by decide)(G:o.dst=some d:=by exact rfl)(hn:Nat.blt d n=true:=by exact rfl):RW P n ops Q (o::rest) F w:=RW.appendOwn ht hS hg ho hi hd hj hs hpos hx hy (of_decide_eq_true q) hb G hn h

theorem fo  {α:Type}{U:Ty α}{B:List Res}{e:Nat}{A:Option Addr}{k ln:Nat}{xs:List α}{a:α}(hS:St W w (Own (tSl e U) [.slice A ln k] xs::B)){t e':Nat}{x ix:Operand}{i j:TI}{kd:IntKind}{m:Int}(G:idx xs m=some a){d:Nat}(h:∀ q es,zmP U A m.toNat q→St W w (Hole U e (.slice A ln k) xs m.toNat es::Own U es a::B)→RW P n ops Q rest ((d,.pointer (some q))::F) w)(ht:TTok P T:=by exact ttok)(hg:zc ops F o=some true:=by exact rfl)(ho:o.op=.indexAddr t x ix:=by exact rfl)(hi:T.get t=some i:=by exact rfl)(hd:i.d=.slice e':=by exact rfl)(hj:T.get e'=some j:=by exact rfl)(hs:U.size=j.size:=by exact rfl)(hx:F.ev x=some (.slice A ln k):=by exact rfl)(hm:F.ev ix=some (.int kd m):=by exact rfl)(H:o.dst=some d:=by exact rfl)(hn:Nat.blt d n=true:=by exact rfl):RW P n ops Q (o::rest) F w:=RW.focus ht hS hg ho hi hd hj hs hx hm (zk G).1 (zk G).2 H hn h

theorem ia  {α:Type}{U:Ty α}{B:List Res}{e:Nat}{A:Option Addr}{k ln:Nat}{xs:List α}{es:List Value}{m:Int}(hS:St W w (Hole U e (.slice A ln k) xs m.toNat es::B)){t e':Nat}{x ix:Operand}{i j:TI}{kd:IntKind}(h0:0≤m){d:Nat}(h:∀ q,zmP U A m.toNat q→RW P n ops Q rest ((d,.pointer (some q))::F) w)(ht:TTok P T:=by exact ttok)(hg:zc ops F o=some true:=by exact rfl)(ho:o.op=.indexAddr t x ix:=by exact rfl)(hi:T.get t=some i:=by exact rfl)(hd:i.d=.slice e':=by exact rfl)(hj:T.get e'=some j:=by exact rfl)(hs:U.size=j.size:=by exact rfl)(hx:F.ev x=some (.slice A ln k):=by exact rfl)(hm:F.ev ix=some (.int kd m):=by exact rfl)(G:o.dst=some d:=by exact rfl)(hn:Nat.blt d n=true:=by exact rfl):RW P n ops Q (o::rest) F w:=by
  obtain⟨hl,H,hA⟩:=hS.hole_len
  exact RW.idxHole ht (U:=U) hA hg ho hi hd hj hs hx hm h0 (by omega) G hn h

theorem sh  {α:Type}{U:Ty α}{e:Nat}{A:Option Addr}{k m ln:Nat}{xs:List α}{es es':List Value}{B:List Res}(hS:St W w (Hole U e (.slice A ln k) xs m es::B)){q:Addr}(hq:zmP U A m q){t:Nat}{x y:Operand}{i:TI}{q':Addr}(off:Nat){v:Value}(h:∀ (w':World),St W w' (Hole U e (.slice A ln k) xs m es'::B)→RW P n ops Q rest F w')(ht:TTok P T:=by exact ttok)(hg:zc ops F o=some true:=by exact rfl)(ho:o.op=.store t x y:=by exact rfl)(hd:o.dst=none:=by exact rfl)(hi:T.get t=some i:=by exact rfl)(hx:F.ev x=some (.pointer (some q')):=by exact rfl)(G:q'=q.add off:=by exact rfl)(hy:F.ev y=some v:=by exact rfl)(hl:Nat.beq (z3c v).length i.size=true:=by exact rfl)(h1:z9W (z3c v)=true:=by exact rfl)(hs:z9Q es off (z3c v)=some es':=by exact rfl):RW P n ops Q (o::rest) F w:=by
  obtain⟨hn,_,_⟩:=hS.hole_len
  subst hn
  exact RW.storeHole ht hS hq hg ho hd hi hx off G hy hl h1 hs h

theorem io  {α:Type}{U:Ty α}{B:List Res}{e:Nat}{A:Option Addr}{k ln:Nat}{xs:List α}(hS:St W w (Own (tSl e U) [.slice A ln k] xs::B)){t e':Nat}{x ix:Operand}{i j:TI}{kd:IntKind}{m:Int}(h0:0≤m)(H:m.toNat<xs.length){d:Nat}(h:∀ q,(∃ g,A=some ⟨g,0,none⟩∧q=⟨g,m.toNat*U.size,none⟩)→RW P n ops Q rest ((d,.pointer (some q))::F) w)(ht:TTok P T:=by exact ttok)(hg:zc ops F o=some true:=by exact rfl)(ho:o.op=.indexAddr t x ix:=by exact rfl)(hi:T.get t=some i:=by exact rfl)(hd:i.d=.slice e':=by exact rfl)(hj:T.get e'=some j:=by exact rfl)(hs:U.size=j.size:=by exact rfl)(hx:F.ev x=some (.slice A ln k):=by exact rfl)(hm:F.ev ix=some (.int kd m):=by exact rfl)(G:o.dst=some d:=by exact rfl)(hn:Nat.blt d n=true:=by exact rfl):RW P n ops Q (o::rest) F w:=by
  have hl:=hS.lenEq
  subst hl
  exact RW.idxOwn ht hS hg ho hi hd hj hs hx hm h0 H G hn h

theorem se  {α:Type}{U:Ty α}{B:List Res}{e:Nat}{A:Option Addr}{k ln:Nat}{xs:List α}{y:α}{es':List Value}(hS:St W w (Own (tSl e U) [.slice A ln k] xs::Own U es' y::B)){t:Nat}{x yv:Operand}{j:TI}{q:Addr}{m:Nat}(G:m<xs.length)(hq:∃ g,A=some ⟨g,0,none⟩∧q=⟨g,m*U.size,none⟩){v:Value}(h:∀ (w':World),St W w' (Own (tSl e U) [.slice A ln k] (xs.set m y)::B)→RW P n ops Q rest F w')(ht:TTok P T:=by exact ttok)(hg:zc ops F o=some true:=by exact rfl)(ho:o.op=.store t x yv:=by exact rfl)(hd:o.dst=none:=by exact rfl)(hj:T.get t=some j:=by exact rfl)(hs:U.size=j.size:=by exact rfl)(hx:F.ev x=some (.pointer (some q)):=by exact rfl)(hy:F.ev yv=some v:=by exact rfl)(hc:z3c v=es':=by exact rfl):RW P n ops Q (o::rest) F w:=by
  have hl:=hS.lenEq
  subst hl
  refine RW.storeEl ht hS hg ho hd hj hs hx G hq hy hc fun w' h'=>h w' ?_
  rwa [List.length_set] at h'
theorem zy0  {α:Type}{U:Ty α}{w1:Base}(he:Ext w1 w){t e:Nat}{x:Operand}{lo hi:Option Operand}{i j:TI}{A:Option Addr}{len c:Nat}{xs:List α}(ho:o.op=.slice t x lo hi none){e':Nat}(hr:(tSl e' U).ro w1 [.slice A len c] xs){l h:Nat}(hl:(lo=none∧l=0)∨∃ y k,lo=some y∧F.ev y=some (.int k (l:Int)))(hh:(hi=none∧h=xs.length)∨∃ y k,hi=some y∧F.ev y=some (.int k (h:Int)))(h1:l≤h)(h2:h≤xs.length){d:Nat}(hk:RW P n ops Q rest ((d,.slice (zwM A c l U.size) (h - l) (c - l))::F) w)(ht:TTok P T:=by exact ttok)(hg:zc ops F o=some true:=by exact rfl)(G:T.get t=some i:=by exact rfl)(hd:i.d=.slice e:=by exact rfl)(hj:T.get e=some j:=by exact rfl)(hs:U.size=j.size:=by exact rfl)(hx:F.ev x=some (.slice A len c):=by exact rfl)(q:o.dst=some d:=by exact rfl)(hn:Nat.blt d n=true:=by exact rfl):RW P n ops Q (o::rest) F w:=
  RW.quiet hg ((Quiet.cutX ht ho G hd hj hs hx hr hl hh h1 h2).later he) q hn hk

theorem zxc  {t:Nat}{ps:List (Nat×Operand)}{vs:List (Nat×Value)}{cs:List Value}(ho:o.op=.build t ⟨ps⟩:=by exact rfl)(hv:zeq F ps=some vs:=by exact rfl)(hb:P.built t vs=some ⟨cs⟩:=by kernel_rfl):Quiet P n F w o (.agg ⟨cs⟩):=by
  intro a w' ha _
  unfold execOp
  rw[ho]
  have:=run_build (P:=P) w' t ⟨vs⟩ ⟨cs⟩ hb
  have he:(⟨ps⟩:Array (Nat×Operand)).map (fun(p:Nat×Operand)=>(p.1,a.eval p.2))=⟨vs⟩:=by
    simp[zde ha hv]
  simp[show Array.map (fun x:Nat×Operand=>(x.fst,a.eval x.snd)) ⟨ps⟩=⟨vs⟩ from he,this]

theorem zy7  {t u:Nat}{x y:Operand}{k:IntKind}{a b:Int}(h:b≠0)(ho:o.op=.binOp .rem t x y u:=by exact rfl)(hx:F.ev x=some (.int k a):=by exact rfl)(hy:F.ev y=some (.int k b):=by exact rfl):Quiet P n F w o (.int k (a.tmod b)):=by
  intro c w' hc _
  unfold execOp
  rw[ho]
  have hg:(eqGuard .rem t x y (.int k a) (.int k b)).run P w'=.ok () w':=by unfold eqGuard;simp
  simp[hc.ev hx,hc.ev hy,hg,zs7 k a b h t w']

theorem zy8  {t u:Nat}{x y:Operand}{k:IntKind}{a b:Int}(h:b≠0)(ho:o.op=.binOp .quo t x y u:=by exact rfl)(hx:F.ev x=some (.int k a):=by exact rfl)(hy:F.ev y=some (.int k b):=by exact rfl):Quiet P n F w o (.int k (k.wrap (a.tdiv b))):=by
  intro c w' hc _
  unfold execOp
  rw[ho]
  have hg:(eqGuard .quo t x y (.int k a) (.int k b)).run P w'=.ok () w':=by unfold eqGuard;simp
  simp[hc.ev hx,hc.ev hy,hg,zs8 k a b h t w']

theorem dp  {k m:Nat}{v:Value}(q:z97 ops=sk∧ops.length=k)(i:Nat){m':Nat}(hi:nthv ops i=some o)(hq:∀ w:World,Quiet P n F w o v){d:Nat}(h:DM P n ops Q W9 w0 wm fu k m' ((d,v)::F) w)(hm:m ||| 2 ^ i=m':=by exact rfl)(G:wm.testBit i=false:=by kernel_rfl)(hf:zd2 sk (2 ^ k - 1) m i=true:=by kernel_rfl)(hg:zc ops F o=some true:=by exact rfl)(hd:o.dst=some d:=by exact rfl)(hn:Nat.blt d n=true:=by exact rfl):DM P n ops Q W9 w0 wm (fu+1) k m F w:=DM.quietP q i _ hm G hi hf hg hq hd hn h

theorem mW  {k m:Nat}(q:z97 ops=sk∧ops.length=k){i:Nat}{m':Nat}{f:FuncId}{vs:List Value}(G:Enters P f){R:Value→World→Prop}(hf:Calls P f ⟨vs⟩ w (Ret R))(h:∀ v w',R v w'→Ext W9 w'∧DM P n ops Q W9 w0 wm fu k m' (F.putO o.dst v) w')(hm:m ||| 2 ^ i=m':=by exact rfl)(H:wm.testBit i=true:=by kernel_rfl)(hi:nthv ops i=some o:=by exact rfl)(hg:zc ops F o=some true:=by exact rfl)(hc:zjA F o.op=some (f,vs):=by exact rfl)(hn:zhM n o.dst=true:=by exact rfl):LM P n ops Q W9 w0 wm fu k m i F w:=fun _ hl=>
  LW.callW H (by rw[hl.1];exact zcC q.2 hi) hi hg hc hn G hf fun v w' hR=>⟨(h v w' hR).1,(h v w' hR).2 _ (hl.set (zcC q.2 hi) hm)⟩

theorem mk  {α:Type}{U:Ty α}{Rs:List Res}(z:α)(hS:St W w Rs){kk mm ii:Nat}(Z:z97 ops=sk∧ops.length=kk){m':Nat}{t e:Nat}{l c:Operand}{i j:TI}{k1 k2:IntKind}{m:Int}(G:0≤m∧m≤4294967296){O:List Value}(hz:∀ w',U.own w' O z []){d:Nat}(h:∀ A k (w':World),Ext w w'→St W w' (Own (tSl e U) [.slice A (List.replicate m.toNat z).length k] (List.replicate m.toNat z)::Rs)→DM P n ops Q W w0 wm fu kk m' ((d,.slice A (List.replicate m.toNat z).length k)::F) w')(ht:TTok P T:=by exact ttok)(Y:mm ||| 2 ^ ii=m':=by exact rfl)(a0:wm.testBit ii=false:=by kernel_rfl)(hni:nthv ops ii=some o:=by exact rfl)(hg:zc ops F o=some true:=by exact rfl)(ho:o.op=.makeSlice t l c:=by exact rfl)(hi:T.get t=some i:=by exact rfl)(hd:i.d=.slice e:=by exact rfl)(hj:T.get e=some j:=by exact rfl)(hs:U.size=j.size:=by exact rfl)(hl:F.ev l=some (.int k1 m):=by exact rfl)(hc:F.ev c=some (.int k2 m):=by exact rfl)(q:Nat.ble j.bytes 65536=true:=by exact rfl)(H:j.zero=O:=by exact rfl)(X:o.dst=some d:=by exact rfl)(hn:Nat.blt d n=true:=by exact rfl):LM P n ops Q W w0 wm fu kk mm ii F w:=LM.make ht z hS Z _ Y a0 hni hg ho hi hd hj hs hl hc G.1 (zx4 G q) (by have:=G.2;simp only[maxLen];omega) (by intro v;rw[H];exact hz v) X hn h

theorem m0  {α:Type}{U:Ty α}{Rs:List Res}{t e:Nat}{i j:TI}(hS:St W w Rs){kk mm ii:Nat}(O:z97 ops=sk∧ops.length=kk){m':Nat}{d:Nat}(h:∀ A k (w':World),Ext w w'→St W w' (Own (tSl e U) [.slice A ([]:List α).length k] []::Rs)→DM P n ops Q W w0 wm fu kk m' ((d,.slice A ([]:List α).length k)::F) w')(ht:TTok P T:=by exact ttok)(H:mm ||| 2 ^ ii=m':=by exact rfl)(X:wm.testBit ii=false:=by kernel_rfl)(hni:nthv ops ii=some o:=by exact rfl)(hg:zc ops F o=some true:=by exact rfl)(ho:o.op=.buildSlice t 0 #[]:=by exact rfl)(hi:T.get t=some i:=by exact rfl)(hd:i.d=.slice e:=by exact rfl)(hj:T.get e=some j:=by exact rfl)(q:o.dst=some d:=by exact rfl)(hn:Nat.blt d n=true:=by exact rfl):LM P n ops Q W w0 wm fu kk mm ii F w:=by
  obtain⟨jj,G,_⟩:=ht.info hj
  refine LM.okD O m' H X hni hg (v:=.slice (some ⟨w.heap.size,0,none⟩) 0 0) (fun a ha=>?_) q hn (Ext.alloc w (.cells #[] e)) (h (some ⟨w.heap.size,0,none⟩) 0 _ (Ext.alloc w (.cells #[] e)) ?_)
  · unfold execOp
    rw[ho]
    simp[zek w (ht.slice hi hd) G]
  · have h1:=(hS.flatEls (U:=U) (els:=[]) (ys:=[]) ⟨rfl,rfl⟩).new [] e
    exact St.boxSl (ys:=([]:List α)) h1 (Nat.zero_le _)

theorem mn  {α:Type}{U:Ty α}{Rs:List Res}{t e m:Nat}{ps:List (Nat×Operand)}{vs:List (Nat×Value)}{els:List Value}{ys:List α}{i j:TI}(hS:St W w (OwnEls U els ys::Rs)){kk mm ii:Nat}(a0:z97 ops=sk∧ops.length=kk){m':Nat}{d:Nat}(h:∀ A k (w':World),Ext w w'→St W w' (Own (tSl e U) [.slice A ys.length k] ys::Rs)→DM P n ops Q W w0 wm fu kk m' ((d,.slice A ys.length k)::F) w')(ht:TTok P T:=by exact ttok)(Z:mm ||| 2 ^ ii=m':=by exact rfl)(c0:wm.testBit ii=false:=by kernel_rfl)(hni:nthv ops ii=some o:=by exact rfl)(hg:zc ops F o=some true:=by exact rfl)(ho:o.op=.buildSlice t m ⟨ps⟩:=by exact rfl)(hi:T.get t=some i:=by exact rfl)(hd:i.d=.slice e:=by exact rfl)(hj:T.get e=some j:=by exact rfl)(hv:zeq F ps=some vs:=by exact rfl)(hf:zpm (slots j.size 0 m) (chunks m j.zero) vs=some els:=by exact rfl)(hm:ys.length=m:=by exact rfl)(hpos:Nat.ble 1 (m*j.size)=true:=by exact rfl)(b0:Nat.ble (m*j.size) 16777216=true:=by exact rfl)(X:o.dst=some d:=by exact rfl)(hn:Nat.blt d n=true:=by exact rfl):LM P n ops Q W w0 wm fu kk mm ii F w:=by
  obtain⟨jj,Y,O,_,zz,g0,e0⟩:=ht.info hj
  have h1:1≤m*j.size:=by simpa using hpos
  have h2:m*j.size≤16777216:=by simpa using b0
  have f0:j.zero.length=j.size:=by
    have:=ht.zlen hj
    exact this
  have G:(Array.range (m*jj.size)).map (zz.cells[· % zz.cells.size]!)=⟨chunks m j.zero⟩:=by
    have:=zc4 j.zero m
    rw[f0] at this
    rw[O,show zz.cells=⟨j.zero⟩ from by rw[← e0]]
    have h5:madeCells ⟨j.zero⟩ (m*j.size)=⟨chunks m j.zero⟩:=by rw[← this]
    exact h5
  have H:=zmn (place:=fun i=>some (i*jj.size,jj.size)) (gs:=slots j.size 0 m) (fun a g hg=>by rw[zfR _ _ _ _ _ hg,O];simp) (fun a g hg=>by
    rw[zfR _ _ _ _ _ hg]
    intro h0
    have:j.size=0:=h0
    rw[this] at h1;omega) vs _ els hf
  have hr:=run_buildSlice (P:=P) w t e m ⟨vs⟩ ⟨els⟩ jj zz (ht.slice hi hd) Y g0 (by rw[O];omega) (by rw[O];omega) (by rw[G];exact H)
  subst hm
  refine LM.okD a0 m' Z c0 hni hg (v:=.slice (some ⟨w.heap.size,0,none⟩) ys.length ys.length) (fun a ha=>?_) X hn (Ext.alloc w (.cells ⟨els⟩ e)) (h (some ⟨w.heap.size,0,none⟩) ys.length _ (Ext.alloc w (.cells ⟨els⟩ e)) ?_)
  · unfold execOp
    rw[ho]
    have he:(⟨ps⟩:Array (Nat×Operand)).map (fun(p:Nat×Operand)=>(p.1,a.eval p.2))=⟨vs⟩:=by
      simp[zde ha hv]
    simp[show Array.map (fun x:Nat×Operand=>(x.fst,a.eval x.snd)) ⟨ps⟩=⟨vs⟩ from he,hr]
  · have q:1≤j.size:=by
      rcases Nat.eq_zero_or_pos j.size with h0 | h0
      · rw[h0] at h1;omega
      · exact h0
    exact St.boxSl (hS.new els e) (by
      have:ys.length*1≤ys.length*j.size:=Nat.mul_le_mul_left _ q
      unfold maxLen;omega)

theorem mp  {α:Type}{U:Ty α}(H:Flat U){B:List Res}{e:Nat}{A:Option Addr}{k:Nat}{xs ys:List α}(hS:St W w (Own (tSl e U) [.slice A xs.length k] xs::B)){kk mm ii:Nat}(X:z97 ops=sk∧ops.length=kk){m':Nat}{t:Nat}{s x:Operand}{i j:TI}{A2:Option Addr}{k2:Nat}{e':Nat}(hr:(tSl e' U).ro w [.slice A2 ys.length k2] ys)(q:decide ((xs.length:Int)+ys.length≤4294967296)=true){d:Nat}(h:∀ A' k' (w':World),St W w' (Own (tSl e U) [.slice A' (xs++ys).length k'] (xs++ys)::B)→DM P n ops Q W w0 wm fu kk m' ((d,.slice A' (xs++ys).length k')::F) w')(ht:TTok P T:=by exact ttok)(O:mm ||| 2 ^ ii=m':=by exact rfl)(Y:wm.testBit ii=true:=by kernel_rfl)(hni:nthv ops ii=some o:=by exact rfl)(hg:zc ops F o=some true:=by exact rfl)(ho:o.op=.call { callee:=.builtin .append,args:=#[s,x],argTypes:=#[t,t] }:=by exact rfl)(hi:T.get t=some i:=by exact rfl)(hd:i.d=.slice e:=by exact rfl)(hj:T.get e=some j:=by exact rfl)(hs:U.size=j.size:=by exact rfl)(hpos:0<U.size:=by decide)(hx:F.ev s=some (.slice A xs.length k):=by exact rfl)(hy:F.ev x=some (.slice A2 ys.length k2):=by exact rfl)(hb:j.bytes≤32768:=by decide)(G:o.dst=some d:=by exact rfl)(hn:Nat.blt d n=true:=by exact rfl):LM P n ops Q W w0 wm fu kk mm ii F w:=LM.appendRo ht H hS X _ O Y hni hg ho hi hd hj hs hpos hx hy hr (of_decide_eq_true q) hb G hn h

theorem mo  {α:Type}{U:Ty α}{B:List Res}{e e':Nat}{A A2:Option Addr}{k k2:Nat}{xs ys:List α}(hS:St W w (Own (tSl e' U) [.slice A2 ys.length k2] ys::Own (tSl e U) [.slice A xs.length k] xs::B)){kk mm ii:Nat}(O:z97 ops=sk∧ops.length=kk){m':Nat}{t:Nat}{s x:Operand}{i j:TI}(q:decide ((xs.length:Int)+ys.length≤4294967296)=true){d:Nat}(h:∀ A' k' (w':World),St W w' (Own (tSl e U) [.slice A' (xs++ys).length k'] (xs++ys)::B)→DM P n ops Q W w0 wm fu kk m' ((d,.slice A' (xs++ys).length k')::F) w')(ht:TTok P T:=by exact ttok)(H:mm ||| 2 ^ ii=m':=by exact rfl)(X:wm.testBit ii=true:=by kernel_rfl)(hni:nthv ops ii=some o:=by exact rfl)(hg:zc ops F o=some true:=by exact rfl)(ho:o.op=.call { callee:=.builtin .append,args:=#[s,x],argTypes:=#[t,t] }:=by exact rfl)(hi:T.get t=some i:=by exact rfl)(hd:i.d=.slice e:=by exact rfl)(hj:T.get e=some j:=by exact rfl)(hs:U.size=j.size:=by exact rfl)(hpos:0<U.size:=by decide)(hx:F.ev s=some (.slice A xs.length k):=by exact rfl)(hy:F.ev x=some (.slice A2 ys.length k2):=by exact rfl)(hb:j.bytes≤32768:=by decide)(G:o.dst=some d:=by exact rfl)(hn:Nat.blt d n=true:=by exact rfl):LM P n ops Q W w0 wm fu kk mm ii F w:=LM.appendOwn ht hS O _ H X hni hg ho hi hd hj hs hpos hx hy (of_decide_eq_true q) hb G hn h

theorem ms  {A B:List Res}{g:Nat}{cs cs':List Value}{e:TypeId}(hS:St W w (A++Box g cs e::B)){kk mm ii:Nat}(Z:z97 ops=sk∧ops.length=kk){m':Nat}{t:Nat}{x y:Operand}{i:TI}{q:Addr}(off:Nat){v:Value}(h:∀ (w':World),St W w' (A++Box g cs' e::B)→DM P n ops Q W w0 wm fu kk m' F w')(ht:TTok P T:=by exact ttok)(Y:mm ||| 2 ^ ii=m':=by exact rfl)(b0:wm.testBit ii=true:=by kernel_rfl)(hni:nthv ops ii=some o:=by exact rfl)(hg:zc ops F o=some true:=by exact rfl)(ho:o.op=.store t x y:=by exact rfl)(hd:o.dst=none:=by exact rfl)(hi:T.get t=some i:=by exact rfl)(hx:F.ev x=some (.pointer (some q)):=by exact rfl)(hq:q=⟨g,off,none⟩:=by exact rfl)(hy:F.ev y=some v:=by exact rfl)(hl:Nat.beq (z3c v).length i.size=true:=by exact rfl)(h1:z9W (z3c v)=true:=by exact rfl)(hs:z9Q cs off (z3c v)=some cs':=by exact rfl):LM P n ops Q W w0 wm fu kk mm ii F w:=by
  obtain⟨G,⟨hG,hh⟩,_,X⟩:=hS.sep.pick.head
  obtain⟨w',r1,r2,r3,r4,r5,r6,r7,r8⟩:=z3F (P:=P) g off e (z3c v) 0 w cs cs' h1 hh (by simpa using hs)
  have O:W.fr g:=X g (by rw[hG];simp)
  have hS':St W w' (A++Box g cs' e::B):=by
    refine St.back ⟨⟨r5.trans hS.ext.os,r6.trans hS.ext.tape,r7.trans hS.ext.output,by rw[r8];exact hS.ext.drawn,by rw[r4];exact hS.le,fun k hk=>?_⟩,?_⟩
    · show w'.heap[k]? = _;rw[r3 k (fun e=>hk (e ▸ O))];exact hS.ext.block k hk
    · refine hS.sep.pick.upd hS.up fun G' H _ _=>?_
      obtain⟨e1,_⟩:=H
      exact⟨[g],⟨rfl,r2⟩,by simp,fun b hb=>.inl (by rw[e1];exact hb),fun b hb hn=>r3 b (by rintro rfl;exact hn (by rw[e1];simp))⟩
  refine LM.unitW Z m' Y b0 hni hg (w':=w') (fun a ha=>?_) hd hS'.ext (h w' hS')
  unfold execOp
  rw[ho]
  have a0:v.cells.size=i.size:=by
    rw[← Array.length_toList,z7X];exact Nat.eq_of_beq_eq_true hl
  simp[ha.ev hx,ha.ev hy,Instr.storeAt,Instr.sureAddr,storeVar,ht.sizeOf hi,a0,z7X,hq,r1]

theorem da  {kk mm:Nat}(G:z97 ops=sk∧ops.length=kk)(rs:List Nat)(q:rs≠[])(h:∀ i,i∈rs→LM P n ops Q W9 w0 wm fu kk mm i F w)(hr:zhd sk kk mm=rs:=by kernel_rfl):DM P n ops Q W9 w0 wm (fu+1) kk mm F w:=DM.loud G rs hr q h
theorem zfZ {κ α:Type}[DecidableEq κ]{t:Nat}{Rs:List Res}(ek:κ→Value)(ev:α→Value)(hS:St W w Rs){d:Nat}(h:∀ g (w':World),Ext w w'→St W w' (Own (tMp ek ev) [.map (some g)] ([]:List (κ×α))::Rs)→RW P n ops Q rest ((d,.map (some g))::F) w')(hg:zc ops F o=some true:=by exact rfl)(ho:o.op=.makeMap t none:=by exact rfl)(hd:o.dst=some d:=by exact rfl)(hn:Nat.blt d n=true:=by exact rfl):RW P n ops Q (o::rest) F w:=
  RW.ok hg (v:=.map (some w.heap.size)) (fun a ha=>by
    unfold execOp
    rw[ho]
    simp[run_makeMap]) hd hn (h _ _ (Ext.alloc _ _) (hS.newMap ek ev))

theorem zdd {κ α:Type}[DecidableEq κ]{t k e:Nat}{ek:κ→Value}{ev:α→Value}{z:α}(q:MapOk P t k e ek ev z){B:List Res}{g:Nat}{m:List (κ×α)}(hS:St W w (Own (tMp ek ev) [.map (some g)] m::B)){x ix y:Operand}{kk:κ}{v:α}(h:∀ (w':World),St W w' (Own (tMp ek ev) [.map (some g)] (mput m kk v)::B)→RW P n ops Q rest F w')(hg:zc ops F o=some true:=by exact rfl)(ho:o.op=.mapUpdate t x ix y∨o.op=.insert t x ix y:=by exact rfl)(hd:o.dst=none:=by exact rfl)(hx:F.ev x=some (.map (some g)):=by exact rfl)(hk:F.ev ix=some (ek kk):=by exact rfl)(hv:F.ev y=some (ev v):=by exact rfl):RW P n ops Q (o::rest) F w:=by
  obtain⟨w',h1,h2⟩:=q.run_update hS kk v
  refine RW.unit (w':=w') hg (fun a ha=>?_) hd (h w' h2)
  unfold execOp
  rcases ho with ho | ho<;>(rw[ho];simp[ha.ev hx,ha.ev hk,ha.ev hv,h1])

theorem zrj {κ α:Type}[DecidableEq κ]{t k e:Nat}{ek:κ→Value}{ev:α→Value}{z:α}(G:MapOk P t k e ek ev z){B:List Res}{g:Nat}{m:List (κ×α)}(hS:St W w (Own (tMp ek ev) [.map (some g)] m::B)){kq mm ii:Nat}(H:z97 ops=sk∧ops.length=kq){m':Nat}{x ix y:Operand}(ho:o.op=.mapUpdate t x ix y∨o.op=.insert t x ix y){kk:κ}{v:α}(h:∀ (w':World),St W w' (Own (tMp ek ev) [.map (some g)] (mput m kk v)::B)→DM P n ops Q W w0 wm fu kq m' F w')(q:mm ||| 2 ^ ii=m':=by exact rfl)(O:wm.testBit ii=true:=by kernel_rfl)(hni:nthv ops ii=some o:=by exact rfl)(hg:zc ops F o=some true:=by exact rfl)(hd:o.dst=none:=by exact rfl)(hx:F.ev x=some (.map (some g)):=by exact rfl)(hk:F.ev ix=some (ek kk):=by exact rfl)(hv:F.ev y=some (ev v):=by exact rfl):LM P n ops Q W w0 wm fu kq mm ii F w:=by
  obtain⟨w',h1,h2⟩:=G.run_update hS kk v
  refine LM.unitW H m' q O hni hg (w':=w') (fun a ha=>?_) hd h2.ext (h w' h2)
  unfold execOp
  rcases ho with ho | ho<;>(rw[ho];simp[ha.ev hx,ha.ev hk,ha.ev hv,h1])

theorem znC {κ α:Type}[DecidableEq κ]{t k e:Nat}{ek:κ→Value}{ev:α→Value}{z:α}(G:MapOk P t k e ek ev z){B:List Res}{g:Nat}{m:List (κ×α)}(hS:St W w (Own (tMp ek ev) [.map (some g)] m::B)){kq mm ii:Nat}(H:z97 ops=sk∧ops.length=kq){m':Nat}{x ix:Operand}{kk:κ}{d:Nat}(h:∀ c (w':World),St W w' (MpO ek ev g (mput m kk ((mget m kk).getD z)) kk c::B)→DM P n ops Q W w0 wm fu kq m' ((d,.tuple ⟨[ev ((mget m kk).getD z),.int .i64 c]⟩)::F) w')(q:mm ||| 2 ^ ii=m':=by exact rfl)(O:wm.testBit ii=true:=by kernel_rfl)(hni:nthv ops ii=some o:=by exact rfl)(hg:zc ops F o=some true:=by exact rfl)(ho:o.op=.mapEntry t x ix:=by exact rfl)(hx:F.ev x=some (.map (some g)):=by exact rfl)(hk:F.ev ix=some (ek kk):=by exact rfl)(hd:o.dst=some d:=by exact rfl)(hn:Nat.blt d n=true:=by exact rfl):LM P n ops Q W w0 wm fu kq mm ii F w:=by
  obtain⟨w',c,h1,h2⟩:=G.run_entry hS kk
  refine LM.okWD H m' q O hni hg (v:=.tuple ⟨[ev ((mget m kk).getD z),.int .i64 c]⟩) (w':=w') (fun a ha=>?_) hd hn h2.ext (h c w' h2)
  unfold execOp
  rw[ho]
  simp[ha.ev hx,ha.ev hk,h1]

theorem zj6 {κ α:Type}[DecidableEq κ]{t:Nat}{ek:κ→Value}{ev:α→Value}{B:List Res}{g:Nat}{m:List (κ×α)}{kk:κ}{c:Int}{v0:α}(hS:St W w (MpO ek ev g (mput m kk v0) kk c::B)){kq mm ii:Nat}(G:z97 ops=sk∧ops.length=kq){m':Nat}{x st y:Operand}{v:α}(h:∀ (w':World),St W w' (Own (tMp ek ev) [.map (some g)] (mput m kk v)::B)→DM P n ops Q W w0 wm fu kq m' F w')(q:mm ||| 2 ^ ii=m':=by exact rfl)(H:wm.testBit ii=true:=by kernel_rfl)(hni:nthv ops ii=some o:=by exact rfl)(hg:zc ops F o=some true:=by exact rfl)(ho:o.op=.entryStore t x st y:=by exact rfl)(hd:o.dst=none:=by exact rfl)(hx:F.ev x=some (.map (some g)):=by exact rfl)(hc:F.ev st=some (.int .i64 c):=by exact rfl)(hv:F.ev y=some (ev v):=by exact rfl):LM P n ops Q W w0 wm fu kq mm ii F w:=by
  obtain⟨w',h1,h2⟩:=zcW (P:=P) hS t v
  rw[ziY] at h2
  refine LM.unitW G m' q H hni hg (w':=w') (fun a ha=>?_) hd h2.ext (h w' h2)
  unfold execOp
  rw[ho]
  simp[ha.ev hx,ha.ev hc,ha.ev hv,h1]
theorem mq  {kk mm:Nat}(G:z97 ops=sk∧ops.length=kk){v:Value}{ii:Nat}{m':Nat}(hni:nthv ops ii=some o)(hq:Quiet P n F w o v){d:Nat}(h:DM P n ops Q W9 w0 wm fu kk m' ((d,v)::F) w)(q:mm ||| 2 ^ ii=m':=by exact rfl)(H:wm.testBit ii=false:=by kernel_rfl)(hg:zc ops F o=some true:=by exact rfl)(hd:o.dst=some d:=by exact rfl)(hn:Nat.blt d n=true:=by exact rfl):LM P n ops Q W9 w0 wm fu kk mm ii F w:=LM.quietL G _ q H hni hg hq hd hn h

theorem df {w1:World}{kk mm:Nat}{α:Type}{U:Ty α}{B:List Res}{e:Nat}{A:Option Addr}{k ln:Nat}{xs:List α}{a:α}(hS:St W w1 (Own (tSl e U) [.slice A ln k] xs::B))(X:z97 ops=sk∧ops.length=kk)(ii:Nat){m':Nat}{t e':Nat}{x ix:Operand}{i j:TI}{kd:IntKind}{m:Int}(G:idx xs m=some a){d:Nat}(h:∀ q es,zmP U A m.toNat q→St W w1 (Hole U e (.slice A ln k) xs m.toNat es::Own U es a::B)→DM P n ops Q W w0 wm fu kk m' ((d,.pointer (some q))::F) w)(ht:TTok P T:=by exact ttok)(O:mm ||| 2 ^ ii=m':=by exact rfl)(Y:wm.testBit ii=false:=by kernel_rfl)(hni:nthv ops ii=some o:=by exact rfl)(hf:zd2 sk (2 ^ kk - 1) mm ii=true:=by kernel_rfl)(hg:zc ops F o=some true:=by exact rfl)(ho:o.op=.indexAddr t x ix:=by exact rfl)(hi:T.get t=some i:=by exact rfl)(hd:i.d=.slice e':=by exact rfl)(hj:T.get e'=some j:=by exact rfl)(hs:U.size=j.size:=by exact rfl)(hx:F.ev x=some (.slice A ln k):=by exact rfl)(hm:F.ev ix=some (.int kd m):=by exact rfl)(H:o.dst=some d:=by exact rfl)(hn:Nat.blt d n=true:=by exact rfl):DM P n ops Q W w0 wm (fu+1) kk mm F w:=DM.focus ht hS X ii _ O Y hni hf hg ho hi hd hj hs hx hm (zk G).1 (zk G).2 H hn h

theorem dg {w1:World}{kk mm:Nat}{α:Type}{U:Ty α}{B:List Res}{e:Nat}{A:Option Addr}{k ln:Nat}{xs:List α}{es:List Value}{m:Int}(hS:St W w1 (Hole U e (.slice A ln k) xs m.toNat es::B))(O:z97 ops=sk∧ops.length=kk)(ii:Nat){m':Nat}{t e':Nat}{x ix:Operand}{i j:TI}{kd:IntKind}(h0:0≤m){d:Nat}(h:∀ q,zmP U A m.toNat q→DM P n ops Q W w0 wm fu kk m' ((d,.pointer (some q))::F) w)(ht:TTok P T:=by exact ttok)(H:mm ||| 2 ^ ii=m':=by exact rfl)(X:wm.testBit ii=false:=by kernel_rfl)(hni:nthv ops ii=some o:=by exact rfl)(hf:zd2 sk (2 ^ kk - 1) mm ii=true:=by kernel_rfl)(hg:zc ops F o=some true:=by exact rfl)(ho:o.op=.indexAddr t x ix:=by exact rfl)(hi:T.get t=some i:=by exact rfl)(hd:i.d=.slice e':=by exact rfl)(hj:T.get e'=some j:=by exact rfl)(hs:U.size=j.size:=by exact rfl)(hx:F.ev x=some (.slice A ln k):=by exact rfl)(hm:F.ev ix=some (.int kd m):=by exact rfl)(G:o.dst=some d:=by exact rfl)(hn:Nat.blt d n=true:=by exact rfl):DM P n ops Q W w0 wm (fu+1) kk mm F w:=by
  obtain⟨hl,Y,hA⟩:=hS.hole_len
  exact DM.idxHole ht (U:=U) hA O ii m' H X hni hf hg ho hi hd hj hs hx hm h0 (by omega) G hn h

theorem do9 {w1:World}{kk mm:Nat}{α:Type}{U:Ty α}{B:List Res}{e:Nat}{A:Option Addr}{k ln:Nat}{xs:List α}(hS:St W w1 (Own (tSl e U) [.slice A ln k] xs::B))(X:z97 ops=sk∧ops.length=kk)(ii:Nat){m':Nat}{t e':Nat}{x ix:Operand}{i j:TI}{kd:IntKind}{m:Int}(h0:0≤m)(H:m.toNat<xs.length){d:Nat}(h:∀ q,(∃ g,A=some ⟨g,0,none⟩∧q=⟨g,m.toNat*U.size,none⟩)→DM P n ops Q W w0 wm fu kk m' ((d,.pointer (some q))::F) w)(ht:TTok P T:=by exact ttok)(O:mm ||| 2 ^ ii=m':=by exact rfl)(Y:wm.testBit ii=false:=by kernel_rfl)(hni:nthv ops ii=some o:=by exact rfl)(hf:zd2 sk (2 ^ kk - 1) mm ii=true:=by kernel_rfl)(hg:zc ops F o=some true:=by exact rfl)(ho:o.op=.indexAddr t x ix:=by exact rfl)(hi:T.get t=some i:=by exact rfl)(hd:i.d=.slice e':=by exact rfl)(hj:T.get e'=some j:=by exact rfl)(hs:U.size=j.size:=by exact rfl)(hx:F.ev x=some (.slice A ln k):=by exact rfl)(hm:F.ev ix=some (.int kd m):=by exact rfl)(G:o.dst=some d:=by exact rfl)(hn:Nat.blt d n=true:=by exact rfl):DM P n ops Q W w0 wm (fu+1) kk mm F w:=by
  have hl:=hS.lenEq
  exact DM.idxHole ht (U:=U) (hS.ownAddr H) X ii m' O Y hni hf hg ho hi hd hj hs hx hm h0 (by omega) G hn h


theorem me {kk mm:Nat}{α:Type}{U:Ty α}{B:List Res}{e:Nat}{A:Option Addr}{k ln:Nat}{xs:List α}{y:α}{es':List Value}(hS:St W w (Own (tSl e U) [.slice A ln k] xs::Own U es' y::B))(O:z97 ops=sk∧ops.length=kk){ii:Nat}{m':Nat}{t:Nat}{x yv:Operand}{j:TI}{q:Addr}{m:Nat}(G:m<xs.length)(hq:∃ g,A=some ⟨g,0,none⟩∧q=⟨g,m*U.size,none⟩){v:Value}(h:∀ (w':World),St W w' (Own (tSl e U) [.slice A ln k] (xs.set m y)::B)→DM P n ops Q W w0 wm fu kk m' F w')(ht:TTok P T:=by exact ttok)(H:mm ||| 2 ^ ii=m':=by exact rfl)(X:wm.testBit ii=true:=by kernel_rfl)(hni:nthv ops ii=some o:=by exact rfl)(hg:zc ops F o=some true:=by exact rfl)(ho:o.op=.store t x yv:=by exact rfl)(hd:o.dst=none:=by exact rfl)(hj:T.get t=some j:=by exact rfl)(hs:U.size=j.size:=by exact rfl)(hx:F.ev x=some (.pointer (some q)):=by exact rfl)(hy:F.ev yv=some v:=by exact rfl)(hc:z3c v=es':=by exact rfl):LM P n ops Q W w0 wm fu kk mm ii F w:=by
  have hl:=hS.lenEq
  subst hl
  obtain⟨w',h1,h2⟩:=ziG (P:=P) ht hS G hq hj hs
  have h3:St W w' (Own (tSl e U) [.slice A xs.length k] (xs.set m y)::B):=by simpa using h2
  refine LM.unitW O m' H X hni hg (w':=w') (fun a ha=>?_) hd h3.ext (h w' h3)
  unfold execOp
  rw[ho]
  simp[ha.ev hx,ha.ev hy,Instr.storeAt,Instr.sureAddr,h1 v hc]

theorem mh {kk mm:Nat}{α:Type}{U:Ty α}{e:Nat}{A:Option Addr}{k m ln:Nat}{xs:List α}{es es':List Value}{B:List Res}(hS:St W w (Hole U e (.slice A ln k) xs m es::B)){q:Addr}(hq:zmP U A m q)(O:z97 ops=sk∧ops.length=kk){ii:Nat}{m':Nat}{t:Nat}{x y:Operand}{i:TI}{q':Addr}(off:Nat){v:Value}(h:∀ (w':World),St W w' (Hole U e (.slice A ln k) xs m es'::B)→DM P n ops Q W w0 wm fu kk m' F w')(ht:TTok P T:=by exact ttok)(G:mm ||| 2 ^ ii=m':=by exact rfl)(X:wm.testBit ii=true:=by kernel_rfl)(hni:nthv ops ii=some o:=by exact rfl)(hg:zc ops F o=some true:=by exact rfl)(ho:o.op=.store t x y:=by exact rfl)(hd:o.dst=none:=by exact rfl)(hi:T.get t=some i:=by exact rfl)(hx:F.ev x=some (.pointer (some q')):=by exact rfl)(H:q'=q.add off:=by exact rfl)(hy:F.ev y=some v:=by exact rfl)(hl:Nat.beq (z3c v).length i.size=true:=by exact rfl)(h1:z9W (z3c v)=true:=by exact rfl)(hs:z9Q es off (z3c v)=some es':=by exact rfl):LM P n ops Q W w0 wm fu kk mm ii F w:=by
  obtain⟨hn,_,_⟩:=hS.hole_len
  subst hn
  obtain⟨w',r1,r2⟩:=zm0 (P:=P) ht hS hq hi off H hl h1 hs
  refine LM.unitW O m' G X hni hg (w':=w') (fun a ha=>?_) hd r2.ext (h w' r2)
  unfold execOp
  rw[ho]
  simp[ha.ev hx,ha.ev hy,Instr.storeAt,Instr.sureAddr,r1]


theorem kn  (i:Nat){v u:Value}(hg:F.get i=some v)(e:v=u)(h:RW P n ops Q rest ((i,u)::F) w) :RW P n ops Q rest F w:=RW.know i hg e h

theorem dk  {k m:Nat}(i:Nat){v u:Value}(hg:F.get i=some v)(e:v=u)(h:DM P n ops Q W9 w0 wm fu k m ((i,u)::F) w) :DM P n ops Q W9 w0 wm fu k m F w:=DM.know i hg e h

theorem ra  {a:Tmp}{t:Nat}{q:Addr}{i:TI}{cs:List Value}(H:At w q cs)(ht:TTok P T:=by exact ttok)(h:F.get a=some (.pointer (some q)):=by exact rfl)(hi:T.get t=some i:=by exact rfl)(G:i.agg=true:=by exact rfl)(hl:Nat.beq cs.length i.size=true:=by exact rfl):ResIs P F w (.cell a t) (.agg ⟨cs⟩):=.cell h (by
  have hr:=run_loadCells_list (P:=P) w q cs fun j u hu=>H j u hu
  rw[Nat.eq_of_beq_eq_true hl] at hr
  simp[loadVar,ht.isAgg hi,ht.sizeOf hi,G,hr])

theorem r1  {a:Tmp}{t:Nat}{q:Addr}(h:F.get a=some (.pointer (some q))){i:TI}{c:Value}(H:At w q [c])(ht:TTok P T:=by exact ttok)(hi:T.get t=some i:=by exact rfl)(G:i.agg=false:=by exact rfl):ResIs P F w (.cell a t) c:=.cell h (by
  have hc:w.cell? q=some c:=by have:=H 0 c rfl;simpa [Addr.add] using this
  simp[loadVar,ht.isAgg hi,G,run_load,hc])

theorem rm {P:Program}{n:Nat}{Q:Post}{F F':Fr}{w:World}{ops rest:List Oper}{T:TT}(k:Nat)(h:Q .normal F' w)(ht:TTok P T:=by exact ttok)(hr:pvs T n ops k rest F=some ([],F'):=by exact rfl):RW P n ops Q rest F w:=rr k (rn h) ht hr
theorem sg {P:Program}{n:Nat}{Q:Post}{F:Fr}{w:World}{ops:List Oper}{id:Nat}{y:Code}(h:RW P n ops (Q.after (WP P n y Q)) ops F w):WP P n (.seq (.region id ops.toArray false) y) Q F w:=sq (rg h)
end Go.E



