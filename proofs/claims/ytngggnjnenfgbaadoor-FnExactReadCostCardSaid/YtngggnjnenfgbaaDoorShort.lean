/- The rules once more, under short names; what all uses of them prove in one way is found by default. Conditions: none (rules). -/
import Derived.Test.YtngggnjnenfgbaaDoorSzDefs
namespace Go.E
open Go.RowKit
set_option linter.unusedVariables false
set_option linter.unusedSimpArgs false

def marksM:List Nat→Nat→Nat
  | [],m=>m
  | i::r,m=>marksM r (m ||| 2 ^ i)
theorem z7R {sk:List (List Nat × Nat)}{full:Nat}:∀ {l:List Nat}{m m':Nat},freeAllM sk full l m=some m'→marksM l m=m'
  | [],m,m',h=>by simpa [freeAllM,marksM] using h
  | i::r,m,m',h=>by
    unfold freeAllM at h
    split at h
    · exact z7R (l:=r) h
    · cases h


variable {P:Program}{n:Nat}{Q:Post}{F:Fr}{w:World}{ops rest:List Oper}{o:Oper}{T:TT}{wm fuel:Nat}{sk:List (List Nat × Nat)}{W:Base}{w0:World}{W9:Base}

def Fr.pick (F:Fr):List Nat→Option Fr
  | []=>some []
  | i::r=>match F.get i,F.pick r with
    | some v,some G=>some ((i,v)::G)
    | _,_=>none
def Fr.keys:Fr→List Nat
  | []=>[]
  | (i,_)::r=>i::Fr.keys r
theorem Fr.pick_has {F:Fr}:∀ {l:List Nat}{G:Fr},F.pick l=some G→F.Has G
  | [],G,h=>by simp only [Fr.pick,Option.some.injEq] at h;subst h;trivial
  | i::r,G,h=>by
    unfold Fr.pick at h
    split at h
    · rename_i v G' hv hG
      simp only [Option.some.injEq] at h;subst h
      exact⟨hv,Fr.pick_has hG⟩
    · cases h
theorem wk {c:Code}(l:List Nat){G:Fr}(h:WP P n c Q G w) (hs:F.pick l=some G:=by exact rfl):WP P n c Q F w:=WP.weak G (Fr.pick_has hs) h
theorem dw {k m:Nat}(l:List Nat){G:Fr}(h:DM P n ops Q W9 w0 wm fuel k m G w) (hs:F.pick l=some G:=by exact rfl):DM P n ops Q W9 w0 wm fuel k m F w:=DM.weak G (Fr.pick_has hs) h
theorem ct {c:Code}{τ:Type}(J:τ→Fr→World→Prop) (hk:∀ t F w,J t F w→Q .normal F w) (h:WP P n c (Q.after (fun F w=>∃ t G,J t G w∧F.pick G.keys=some G)) F w):WP P n c Q F w:=
  WP.cut J hk (h.mono fun e F w q=>by cases e<;>first | exact(let ⟨t,G,h1,h2⟩:=q;⟨t,G,Fr.pick_has h2,h1⟩) | exact q)
theorem it {c:Code}{σ τ ρ:Type}(J:σ→Fr→World→Prop){body:σ→Option (Rd σ τ ρ)}{k:Nat}{s:σ}{out:τ ⊕ ρ}(hm:iter body k s=some out) (h0:J s F w)
    (round:∀ s F w k o,J s F w→body s=some o→(match o with | .next s'=>Go.E.iter body k s'=some out | .brk t=>out=.inl t | .ret r=>out=.inr r)→
      WP P n c (Q.after (fun F' w'=>∃ s' G,o=.next s'∧J s' G w'∧F'.pick G.keys=some G)) F w):WP P n (.loop c) Q F w:=
  WP.iter J body hm h0 fun s F w k o h1 h2 h3=>(round s F w k o h1 h2 h3).mono fun e F w q=>by cases e<;>first | exact(let ⟨s',G,h1,h2,h4⟩:=q;⟨s',G,Fr.pick_has h4,h1,h2⟩) | exact q
theorem ci {α:Type}{c:Operand}{x y:Code}{b:Bool}{A B:Option α}{r:α}(hm:(if b=true then A else B)=some r) (h1:A=some r→WP P n x Q F w) (h2:B=some r→WP P n y Q F w) (hc:F.ev c=some (.bool b):=by exact rfl):WP P n (.cond c x y) Q F w:=
  WP.cond b hc (fun h=>h1 (by rw [if_pos h] at hm;exact hm)) (fun h=>h2 (by rw [if_neg (zbG h)] at hm;exact hm))
theorem rb {α:Type}(i:Nat){b:Bool}{A B:Option α}{r:α}(hm:(if b=true then A else B)=some r) (h1:A=some r→RW P n ops Q rest ((i,.bool true)::F) w) (h2:B=some r→RW P n ops Q rest ((i,.bool false)::F) w) (hg:F.get i=some (.bool b):=by exact rfl):RW P n ops Q rest F w:=by
  cases b
  · exact RW.know i hg rfl (h2 hm)
  · exact RW.know i hg rfl (h1 hm)
theorem db {α:Type}{k m:Nat}(i:Nat){b:Bool}{A B:Option α}{r:α}(hm:(if b=true then A else B)=some r) (h1:A=some r→DM P n ops Q W9 w0 wm fuel k m ((i,.bool true)::F) w) (h2:B=some r→DM P n ops Q W9 w0 wm fuel k m ((i,.bool false)::F) w) (hg:F.get i=some (.bool b):=by exact rfl):DM P n ops Q W9 w0 wm fuel k m F w:=by
  cases b
  · exact DM.know i hg rfl (h2 hm)
  · exact DM.know i hg rfl (h1 hm)
theorem zbc {m:Int}{b:Nat}(h:0≤m∧m≤4294967296) (hb:Nat.ble b 65536=true):m*(b:Int)≤281474976710656:=by
  have h1:b≤65536:=by simpa using hb
  have h2:m*(b:Int)≤4294967296*65536:=Int.mul_le_mul h.2 (by omega) (by omega) (by omega)
  omega
theorem bS {α β:Type}{x:Option α}{f:α→Option β}{b:β}(h:x.bind f=some b):∃ a,x=some a∧f a=some b:=bind_some h
abbrev sl {α:Type}(A:Option Addr) (x:List α) (k:Nat):Value:=.slice A x.length k
abbrev ow {α:Type}(T:Ty (List α)) (A:Option Addr) (x:List α) (k:Nat):Res:=Own T [.slice A x.length k] x
theorem iS {α:Type}{b:Bool}{A:Option α}{r:α}(hm:(if b=true then A else none)=some r):b=true∧A=some r:=by
  cases b
  · cases hm
  · exact⟨rfl,hm⟩

theorem sq  {x y:Code}(h:WP P n x (Q.after (WP P n y Q)) F w) :WP P n (.seq x y) Q F w:=WP.seq h

theorem sp  (h:Q .normal F w) :WP P n .skip Q F w:=WP.skip h

theorem rt  (h:Q .ret F w) :WP P n .ret Q F w:=WP.ret h

theorem xt  {id:Nat}(h:Q (.exit id) F w) :WP P n (.exit id) Q F w:=WP.exit h

theorem bk  {id:Nat}{c:Code}(h:WP P n c (Q.block id) F w) :WP P n (.block id c) Q F w:=WP.block h

theorem cd  {c:Operand}{x y:Code}(b:Bool) (ht:b=true→WP P n x Q F w) (hf:b=false→WP P n y Q F w) (hc:F.ev c=some (.bool b):=by exact rfl):WP P n (.cond c x y) Q F w:=WP.cond b hc ht hf

theorem q1 {v:Value}{t:Nat}{x:Operand}{i:TI}{p q:Addr}{cs:List Value}(hat:At w p cs) (off:Nat) (ht:TTok P T:=by exact ttok) (ho:o.op=.load t x:=by exact rfl) (hi:T.get t=some i:=by exact rfl) (hag:i.agg=false:=by exact rfl) (hx:F.ev x=some (.pointer (some q)):=by exact rfl) (hq:q=p.add off:=by exact rfl) (hv:nthv cs off=some v:=by exact rfl):Quiet P n F w o v:=Quiet.load1 ht ho hi hag hx hat off hq hv

theorem qN  {t:Nat}{x:Operand}{i:TI}{q:Addr}{cs:List Value}(hat:At w q cs) (ht:TTok P T:=by exact ttok) (ho:o.op=.load t x:=by exact rfl) (hi:T.get t=some i:=by exact rfl) (hag:i.agg=true:=by exact rfl) (hx:F.ev x=some (.pointer (some q)):=by exact rfl) (hl:cs.length=i.size:=by exact rfl):Quiet P n F w o (.agg ⟨cs⟩):=Quiet.loadN ht ho hi hag hx hat hl

theorem rg  {id:Nat}(h:RW P n ops Q ops F w) :WP P n (.region id ops.toArray false) Q F w:=WP.region h

theorem rn  (h:Q .normal F w) :RW P n ops Q [] F w:=RW.nil h

theorem qt  {v:Value}(hq:Quiet P n F w o v){d:Nat}(h:RW P n ops Q rest ((d,v)::F) w) (hg:guardOf ops F o=some true:=by exact rfl) (hd:o.dst=some d:=by exact rfl) (hn:Nat.blt d n=true:=by exact rfl):RW P n ops Q (o::rest) F w:=RW.quiet hg hq hd hn h

theorem rr  (k:Nat){rest':List Oper}{F':Fr}(h:RW P n ops Q rest' F' w) (ht:TTok P T:=by exact ttok) (hr:pvs T n ops k rest F=some (rest',F'):=by exact rfl):RW P n ops Q rest F w:=RW.run ht k hr h

theorem nw  {Rs:List Res}(hS:St W w Rs){cs:List Value}{e:TypeId}{d:Nat}(h:∀ g (w':World),Ext w w'→St W w' (Box g cs e::Rs)→RW P n ops Q rest ((d,.pointer (some ⟨g,0,none⟩))::F) w') (ht:TTok P T:=by exact ttok) (hg:guardOf ops F o=some true:=by exact rfl) (hc:newOf T F o.op=some (cs,e):=by exact rfl) (hd:o.dst=some d:=by exact rfl) (hn:Nat.blt d n=true:=by exact rfl):RW P n ops Q (o::rest) F w:=RW.new ht hS hg hc hd hn h

theorem ca  {f:FuncId}{vs:List Value}(hen:Enters P f){R:Value→World→Prop}(hf:Calls P f ⟨vs⟩ w (Ret R)) (h:∀ v w',R v w'→RW P n ops Q rest (F.putO o.dst v) w') (hg:guardOf ops F o=some true:=by exact rfl) (hc:callOf F o.op=some (f,vs):=by exact rfl) (hn:dstOk n o.dst=true:=by exact rfl):RW P n ops Q (o::rest) F w:=RW.call hg hc hn hen hf h

theorem so  {A B:List Res}{g:Nat}{cs cs':List Value}{e:TypeId}(hS:St W w (A++Box g cs e::B)){t:Nat}{x y:Operand}{i:TI}{q:Addr}(off:Nat){v:Value}(h:∀ (w':World),St W w' (A++Box g cs' e::B)→RW P n ops Q rest F w') (ht:TTok P T:=by exact ttok) (hg:guardOf ops F o=some true:=by exact rfl) (ho:o.op=.store t x y:=by exact rfl) (hd:o.dst=none:=by exact rfl) (hi:T.get t=some i:=by exact rfl) (hx:F.ev x=some (.pointer (some q)):=by exact rfl) (hq:q=⟨g,off,none⟩:=by exact rfl) (hy:F.ev y=some v:=by exact rfl) (hl:Nat.beq (cellsV v).length i.size=true:=by exact rfl) (h1:oneCells (cellsV v)=true:=by exact rfl) (hs:setAt cs off (cellsV v)=some cs':=by exact rfl):RW P n ops Q (o::rest) F w:=RW.store ht hS hg ho hd hi hx off hq hy hl h1 hs h

theorem into  {f:FuncId}{fn:Func}{c:Code}{vs:List Value}{R:Value→World→Prop}(hf:P.funcs[f]? = some fn) (n:Nat) (rs:List ResultVar) (h:WP P n c (RetP P rs R) (startFr 0 vs) w) (hb:fn.body=some c:=by exact rfl) (hn:fn.ntmps=n:=by exact rfl) (hl:Nat.ble vs.length n=true:=by exact rfl) (hr:fn.results.toList=rs:=by exact rfl):Calls P f ⟨vs⟩ w (Ret R):=Calls.into hf hb n hn hl rs hr h

theorem l1  {t:Nat}{x:Operand}{i:TI}{p q:Addr}{cs:List Value}(hat:At w p cs) (off:Nat){v:Value}{d:Nat}(h:RW P n ops Q rest ((d,v)::F) w) (ht:TTok P T:=by exact ttok) (hg:guardOf ops F o=some true:=by exact rfl) (ho:o.op=.load t x:=by exact rfl) (hi:T.get t=some i:=by exact rfl) (hag:i.agg=false:=by exact rfl) (hx:F.ev x=some (.pointer (some q)):=by exact rfl) (hq:q=p.add off:=by exact rfl) (hv:nthv cs off=some v:=by exact rfl) (hd:o.dst=some d:=by exact rfl) (hn:Nat.blt d n=true:=by exact rfl):RW P n ops Q (o::rest) F w:=RW.load1 ht hg ho hi hag hx hat off hq hv hd hn h

theorem lN  {t:Nat}{x:Operand}{i:TI}{q:Addr}{cs:List Value}(hat:At w q cs){d:Nat}(h:RW P n ops Q rest ((d,.agg ⟨cs⟩)::F) w) (ht:TTok P T:=by exact ttok) (hg:guardOf ops F o=some true:=by exact rfl) (ho:o.op=.load t x:=by exact rfl) (hi:T.get t=some i:=by exact rfl) (hag:i.agg=true:=by exact rfl) (hx:F.ev x=some (.pointer (some q)):=by exact rfl) (hl:Nat.beq cs.length i.size=true:=by exact rfl) (hd:o.dst=some d:=by exact rfl) (hn:Nat.blt d n=true:=by exact rfl):RW P n ops Q (o::rest) F w:=RW.loadN ht hg ho hi hag hx hat hl hd hn h

theorem ix  {α:Type}{U:Ty α}{w1:Base}(he:Ext w1 w){t e:Nat}{x ix:Operand}{i j:TI}{A:Option Addr}{len c:Nat}{xs:List α}{k:IntKind}{m:Int}{e':Nat}(hr:(tSl e' U).ro w1 [.slice A len c] xs){a:α}(b:idx xs m=some a){d:Nat}(h:∀ q es,At w1 q es→U.ro w1 es a→RW P n ops Q rest ((d,.pointer (some q))::F) w) (ht:TTok P T:=by exact ttok) (hg:guardOf ops F o=some true:=by exact rfl) (ho:o.op=.indexAddr t x ix:=by exact rfl) (hi:T.get t=some i:=by exact rfl) (hd:i.d=.slice e:=by exact rfl) (hj:T.get e=some j:=by exact rfl) (hs:U.size=j.size:=by exact rfl) (hpos:0<U.size:=by decide) (hx:F.ev x=some (.slice A len c):=by exact rfl) (hm:F.ev ix=some (.int k m):=by exact rfl) (hd':o.dst=some d:=by exact rfl) (hn:Nat.blt d n=true:=by exact rfl):RW P n ops Q (o::rest) F w:=RW.idx ht he hg ho hi hd hj hs hpos hx hm hr (z1N b).1 (z1N b).2 hd' hn h

theorem cu  {α:Type}{U:Ty α}{w1:Base}(he:Ext w1 w){t e:Nat}{x:Operand}{lo hi:Option Operand}{i j:TI}{A:Option Addr}{len c:Nat}{xs:List α}(ho:o.op=.slice t x lo hi none){e':Nat}(hr:(tSl e' U).ro w1 [.slice A len c] xs){l h:Nat}(hl:(lo=none∧l=0)∨∃ y k,lo=some y∧F.ev y=some (.int k (l:Int))) (hh:(hi=none∧h=xs.length)∨∃ y k,hi=some y∧F.ev y=some (.int k (h:Int))) (h1:l≤h) (h2:h≤xs.length){d:Nat}(hk:∀ A' c',(tSl e' U).ro w1 [.slice A' (h - l) c'] ((xs.take h).drop l)→RW P n ops Q rest ((d,.slice A' (h - l) c')::F) w) (ht:TTok P T:=by exact ttok) (hg:guardOf ops F o=some true:=by exact rfl) (hi':T.get t=some i:=by exact rfl) (hd:i.d=.slice e:=by exact rfl) (hj:T.get e=some j:=by exact rfl) (hs:U.size=j.size:=by exact rfl) (hx:F.ev x=some (.slice A len c):=by exact rfl) (hd':o.dst=some d:=by exact rfl) (hn:Nat.blt d n=true:=by exact rfl):RW P n ops Q (o::rest) F w:=RW.cut ht he hg ho hi' hd hj hs hx hr hl hh h1 h2 hd' hn hk

theorem dn  {id:Nat}(wm:Nat) (hm:P.follows .mixedOrders=true) (k:Nat) (sk:List (List Nat × Nat)) (hv:Ext W9 w) (h:(skOf ops=sk∧ops.length=k)→DM P n ops Q W9 w wm k k 0 F { w with drawn:=w.drawn+1 }) (hk:Nat.beq ops.length k=true:=by kernel_rfl) (hs:Region.noSelect ops.toArray=true:=by kernel_rfl) (hsk:skOf ops=sk:=by kernel_rfl):WP P n (.region id ops.toArray true) Q F w:=WP.drawnM wm hm k hk hs sk hsk hv h

theorem dd {k m:Nat}(hsk:skOf ops=sk∧ops.length=k) (h:Q .normal F w) (hr:readyM sk k m=[]:=by kernel_rfl):DM P n ops Q W9 w0 wm fuel k m F w:=DM.done hsk hr h

theorem dV {k m:Nat}{v:Value}(hsk:skOf ops=sk∧ops.length=k) (i:Nat){m':Nat}(hi:nthv ops i=some o) (hq:Quiet P n F W9 o v){d:Nat}(h:DM P n ops Q W9 w0 wm fuel k m' ((d,v)::F) w) (hm:m ||| 2 ^ i=m':=by exact rfl) (hwi:wm.testBit i=false:=by kernel_rfl) (hf:freeM sk (2 ^ k - 1) m i=true:=by kernel_rfl) (hg:guardOf ops F o=some true:=by exact rfl) (hd:o.dst=some d:=by exact rfl) (hn:Nat.blt d n=true:=by exact rfl):DM P n ops Q W9 w0 wm (fuel+1) k m F w:=DM.quietV hsk i _ hm hwi hi hf hg hq hd hn h

theorem dr {k m:Nat}(fuel:Nat) (hsk:skOf ops=sk∧ops.length=k) (l:List Nat){F':Fr}(h:DM P n ops Q W9 w0 wm fuel k (marksM l m) F' w) (ht:TTok P T:=by exact ttok) (hwl:l.all (fun i=>!wm.testBit i)=true:=by kernel_rfl) (hl:(freeAllM sk (2 ^ k - 1) l m).isSome=true:=by kernel_rfl) (hr:pvsD T n ops l F=some F':=by exact rfl):DM P n ops Q W9 w0 wm (fuel+l.length) k m F w:=by
  obtain⟨m',hl'⟩:=Option.isSome_iff_exists.1 hl
  have e:=z7R hl'
  subst e
  exact DM.run ht hsk l _ hwl hl' hr h

theorem o1 {k m:Nat}(hsk:skOf ops=sk∧ops.length=k) (i:Nat) (h:LM P n ops Q W9 w0 wm fuel k m i F w) (hr:readyM sk k m=[i]:=by kernel_rfl):DM P n ops Q W9 w0 wm (fuel+1) k m F w:=DM.one hsk i hr h

theorem mc {k m:Nat}(hsk:skOf ops=sk∧ops.length=k){i:Nat}{m':Nat}{f:FuncId}{vs:List Value}(hen:Enters P f){R:Value→World→Prop}(hf:Calls P f ⟨vs⟩ w (Ret R)) (h:∀ v w',R v w'→Ext w w'∧DM P n ops Q W9 w0 wm fuel k m' (F.putO o.dst v) w') (hm:m ||| 2 ^ i=m':=by exact rfl) (hwi:wm.testBit i=false:=by kernel_rfl) (hi:nthv ops i=some o:=by exact rfl) (hg:guardOf ops F o=some true:=by exact rfl) (hc:callOf F o.op=some (f,vs):=by exact rfl) (hn:dstOk n o.dst=true:=by exact rfl):LM P n ops Q W9 w0 wm fuel k m i F w:=LM.call hsk _ hm hwi hi hg hc hn hen hf h

theorem mw {k m:Nat}(hsk:skOf ops=sk∧ops.length=k){Rs:List Res}(hS:St W w Rs){i:Nat}{m':Nat}{cs:List Value}{e:TypeId}{d:Nat}(h:∀ g (w':World),Ext w w'→St W w' (Box g cs e::Rs)→DM P n ops Q W9 w0 wm fuel k m' ((d,.pointer (some ⟨g,0,none⟩))::F) w') (ht:TTok P T:=by exact ttok) (hm:m ||| 2 ^ i=m':=by exact rfl) (hwi:wm.testBit i=false:=by kernel_rfl) (hi:nthv ops i=some o:=by exact rfl) (hg:guardOf ops F o=some true:=by exact rfl) (hc:newOf T F o.op=some (cs,e):=by exact rfl) (hd:o.dst=some d:=by exact rfl) (hn:Nat.blt d n=true:=by exact rfl):LM P n ops Q W9 w0 wm fuel k m i F w:=LM.new ht hsk hS _ hm hwi hi hg hc hd hn h

theorem dl {k m:Nat}(hsk:skOf ops=sk∧ops.length=k) (i:Nat){m':Nat}{t:Nat}{x:Operand}{j:TI}{p q:Addr}{cs:List Value}(hat:At w0 p cs) (off:Nat){v:Value}{d:Nat}(h:DM P n ops Q W9 w0 wm fuel k m' ((d,v)::F) w) (ht:TTok P T:=by exact ttok) (hm:m ||| 2 ^ i=m':=by exact rfl) (hwi:wm.testBit i=false:=by kernel_rfl) (hwo:wrOk sk wm k i=true:=by kernel_rfl) (hnw:Nat.beq (m &&& wm) 0=true:=by kernel_rfl) (hi:nthv ops i=some o:=by exact rfl) (hf:freeM sk (2 ^ k - 1) m i=true:=by kernel_rfl) (hg:guardOf ops F o=some true:=by exact rfl) (ho:o.op=.load t x:=by exact rfl) (hj:T.get t=some j:=by exact rfl) (hag:j.agg=false:=by exact rfl) (hx:F.ev x=some (.pointer (some q)):=by exact rfl) (hq:q=p.add off:=by exact rfl) (hv:nthv cs off=some v:=by exact rfl) (hd:o.dst=some d:=by exact rfl) (hn:Nat.blt d n=true:=by exact rfl):DM P n ops Q W9 w0 wm (fuel+1) k m F w:=DM.load1 ht hsk i _ hm hwi hwo hnw hi hf hg ho hj hag hx hat off hq hv hd hn h

theorem dL {k m:Nat}(hsk:skOf ops=sk∧ops.length=k) (i:Nat){m':Nat}{t:Nat}{x:Operand}{j:TI}{q:Addr}{cs:List Value}(hat:At w0 q cs){d:Nat}(h:DM P n ops Q W9 w0 wm fuel k m' ((d,.agg ⟨cs⟩)::F) w) (ht:TTok P T:=by exact ttok) (hm:m ||| 2 ^ i=m':=by exact rfl) (hwi:wm.testBit i=false:=by kernel_rfl) (hwo:wrOk sk wm k i=true:=by kernel_rfl) (hnw:Nat.beq (m &&& wm) 0=true:=by kernel_rfl) (hi:nthv ops i=some o:=by exact rfl) (hf:freeM sk (2 ^ k - 1) m i=true:=by kernel_rfl) (hg:guardOf ops F o=some true:=by exact rfl) (ho:o.op=.load t x:=by exact rfl) (hj:T.get t=some j:=by exact rfl) (hag:j.agg=true:=by exact rfl) (hx:F.ev x=some (.pointer (some q)):=by exact rfl) (hl:Nat.beq cs.length j.size=true:=by exact rfl) (hd:o.dst=some d:=by exact rfl) (hn:Nat.blt d n=true:=by exact rfl):DM P n ops Q W9 w0 wm (fuel+1) k m F w:=DM.loadN ht hsk i _ hm hwi hwo hnw hi hf hg ho hj hag hx hat hl hd hn h

theorem dx {k m:Nat}{α:Type}{U:Ty α}{w1:Base}(he:Ext w1 w0) (hsk:skOf ops=sk∧ops.length=k) (i:Nat){m':Nat}{t e:Nat}{x ix:Operand}{j j':TI}{A:Option Addr}{len c:Nat}{xs:List α}{kk:IntKind}{mm:Int}{e':Nat}(hr:(tSl e' U).ro w1 [.slice A len c] xs){a:α}(b:idx xs mm=some a){d:Nat}(h:∀ q es,At w1 q es→U.ro w1 es a→DM P n ops Q W9 w0 wm fuel k m' ((d,.pointer (some q))::F) w) (ht:TTok P T:=by exact ttok) (hm':m ||| 2 ^ i=m':=by exact rfl) (hwi:wm.testBit i=false:=by kernel_rfl) (hwo:wrOk sk wm k i=true:=by kernel_rfl) (hnw:Nat.beq (m &&& wm) 0=true:=by kernel_rfl) (hi:nthv ops i=some o:=by exact rfl) (hf:freeM sk (2 ^ k - 1) m i=true:=by kernel_rfl) (hg:guardOf ops F o=some true:=by exact rfl) (ho:o.op=.indexAddr t x ix:=by exact rfl) (hj:T.get t=some j:=by exact rfl) (hd:j.d=.slice e:=by exact rfl) (hj':T.get e=some j':=by exact rfl) (hs:U.size=j'.size:=by exact rfl) (hpos:0<U.size:=by decide) (hx:F.ev x=some (.slice A len c):=by exact rfl) (hm:F.ev ix=some (.int kk mm):=by exact rfl) (hd':o.dst=some d:=by exact rfl) (hn:Nat.blt d n=true:=by exact rfl):DM P n ops Q W9 w0 wm (fuel+1) k m F w:=DM.idx ht he hsk i _ hm' hwi hwo hnw hi hf hg ho hj hd hj' hs hpos hx hm hr (z1N b).1 (z1N b).2 hd' hn h

theorem dc {k m:Nat}{α:Type}{U:Ty α}{w1:Base}(he:Ext w1 w0) (hsk:skOf ops=sk∧ops.length=k) (n':Nat){m':Nat}(hni:nthv ops n'=some o){t e:Nat}{x:Operand}{lo hi:Option Operand}{i j:TI}{A:Option Addr}{len c:Nat}{xs:List α}(ho:o.op=.slice t x lo hi none){e':Nat}(hr:(tSl e' U).ro w1 [.slice A len c] xs){l h:Nat}(hl:(lo=none∧l=0)∨∃ y k,lo=some y∧F.ev y=some (.int k (l:Int))) (hh:(hi=none∧h=xs.length)∨∃ y k,hi=some y∧F.ev y=some (.int k (h:Int))) (h1:l≤h) (h2:h≤xs.length){d:Nat}(hk:∀ A' c',(tSl e' U).ro w1 [.slice A' (h - l) c'] ((xs.take h).drop l)→DM P n ops Q W9 w0 wm fuel k m' ((d,.slice A' (h - l) c')::F) w) (ht:TTok P T:=by exact ttok) (hm':m ||| 2 ^ n'=m':=by exact rfl) (hwi:wm.testBit n'=false:=by kernel_rfl) (hwo:wrOk sk wm k n'=true:=by kernel_rfl) (hnw:Nat.beq (m &&& wm) 0=true:=by kernel_rfl) (hf:freeM sk (2 ^ k - 1) m n'=true:=by kernel_rfl) (hg:guardOf ops F o=some true:=by exact rfl) (hi':T.get t=some i:=by exact rfl) (hd:i.d=.slice e:=by exact rfl) (hj:T.get e=some j:=by exact rfl) (hs:U.size=j.size:=by exact rfl) (hx:F.ev x=some (.slice A len c):=by exact rfl) (hd':o.dst=some d:=by exact rfl) (hn:Nat.blt d n=true:=by exact rfl):DM P n ops Q W9 w0 wm (fuel+1) k m F w:=DM.cut ht he hsk n' _ hm' hwi hwo hnw hni hf hg ho hi' hd hj hs hx hr hl hh h1 h2 hd' hn hk

theorem mS  {α:Type}{U:Ty α}{Rs:List Res}(z:α) (hS:St W w Rs){t e:Nat}{l c:Operand}{i j:TI}{k1 k2:IntKind}{m:Int}(hz9:0≤m∧m≤4294967296){zz9:List Value}(hz:∀ w',U.own w' zz9 z []){d:Nat}(h:∀ A k (w':World),Ext w w'→St W w' (Own (tSl e U) [.slice A (List.replicate m.toNat z).length k] (List.replicate m.toNat z)::Rs)→RW P n ops Q rest ((d,.slice A (List.replicate m.toNat z).length k)::F) w') (ht:TTok P T:=by exact ttok) (hg:guardOf ops F o=some true:=by exact rfl) (ho:o.op=.makeSlice t l c:=by exact rfl) (hi:T.get t=some i:=by exact rfl) (hd:i.d=.slice e:=by exact rfl) (hj:T.get e=some j:=by exact rfl) (hs:U.size=j.size:=by exact rfl) (hl:F.ev l=some (.int k1 m):=by exact rfl) (hc:F.ev c=some (.int k2 m):=by exact rfl) (b:Nat.ble j.bytes 65536=true:=by exact rfl) (hzz9:j.zero=zz9:=by exact rfl) (hd':o.dst=some d:=by exact rfl) (hn:Nat.blt d n=true:=by exact rfl):RW P n ops Q (o::rest) F w:=RW.make ht z hS hg ho hi hd hj hs hl hc hz9.1 (zbc hz9 b) (by have:=hz9.2;simp only [maxLen];omega) (by intro v;rw [hzz9];exact hz v) hd' hn h

theorem qb  {t:Nat}{ps:List (Nat × Operand)}{i:TI}{gs:List (Nat × Nat × Bool × Nat)}{vs:List (Nat × Value)}{cs:List Value}(ht:TTok P T:=by exact ttok) (ho:o.op=.build t ⟨ps⟩:=by exact rfl) (hi:T.get t=some i:=by exact rfl) (hd:i.d=.struct gs:=by exact rfl) (hv:partsOf F ps=some vs:=by exact rfl) (hc:fillV gs i.zero vs=some cs:=by exact rfl):Quiet P n F w o (.agg ⟨cs⟩):=Quiet.build ht ho hi hd hv hc

theorem n0  {α:Type}{U:Ty α}{Rs:List Res}{t e:Nat}{i j:TI}(hS:St W w Rs){d:Nat}(h:∀ A k (w':World),Ext w w'→St W w' (Own (tSl e U) [.slice A ([]:List α).length k] []::Rs)→RW P n ops Q rest ((d,.slice A ([]:List α).length k)::F) w') (ht:TTok P T:=by exact ttok) (hg:guardOf ops F o=some true:=by exact rfl) (ho:o.op=.buildSlice t 0 #[]:=by exact rfl) (hi:T.get t=some i:=by exact rfl) (hd:i.d=.slice e:=by exact rfl) (hj:T.get e=some j:=by exact rfl) (hd':o.dst=some d:=by exact rfl) (hn:Nat.blt d n=true:=by exact rfl):RW P n ops Q (o::rest) F w:=RW.newSlice0 ht hS hg ho hi hd hj hd' hn h

theorem ap  {α:Type}{U:Ty α}(hfl:Flat U){B:List Res}{e:Nat}{A:Option Addr}{k:Nat}{xs ys:List α}(hS:St W w (Own (tSl e U) [.slice A xs.length k] xs::B)){t:Nat}{s x:Operand}{i j:TI}{A2:Option Addr}{k2:Nat}{e':Nat}(hr:(tSl e' U).ro w [.slice A2 ys.length k2] ys) (b:decide ((xs.length:Int)+ys.length≤4294967296)=true){d:Nat}(h:∀ A' k' (w':World),St W w' (Own (tSl e U) [.slice A' (xs++ys).length k'] (xs++ys)::B)→RW P n ops Q rest ((d,.slice A' (xs++ys).length k')::F) w') (ht:TTok P T:=by exact ttok) (hg:guardOf ops F o=some true:=by exact rfl) (ho:o.op=.call { callee:=.builtin .append,args:=#[s,x],argTypes:=#[t,t] }:=by exact rfl) (hi:T.get t=some i:=by exact rfl) (hd:i.d=.slice e:=by exact rfl) (hj:T.get e=some j:=by exact rfl) (hs:U.size=j.size:=by exact rfl) (hpos:0<U.size:=by decide) (hx:F.ev s=some (.slice A xs.length k):=by exact rfl) (hy:F.ev x=some (.slice A2 ys.length k2):=by exact rfl) (hb:j.bytes≤32768:=by decide) (hd':o.dst=some d:=by exact rfl) (hn:Nat.blt d n=true:=by exact rfl):RW P n ops Q (o::rest) F w:=RW.appendRo ht hfl hS hg ho hi hd hj hs hpos hx hy hr (of_decide_eq_true b) hb hd' hn h

theorem qNilEq  {t u e:Nat}{x y:Operand}{i:TI}{A:Option Addr}{l c:Nat}(ht:TTok P T:=by exact ttok) (ho:o.op=.binOp .eql t x y u:=by exact rfl) (hi:T.get t=some i:=by exact rfl) (hd:i.d=.slice e:=by exact rfl) (hx:F.ev x=some (.slice A l c):=by exact rfl) (hy:F.ev y=some (.slice none 0 0):=by exact rfl):Quiet P n F w o (.bool A.isNone):=Quiet.nilEq ht ho hi hd hx hy

theorem ns  {α:Type}{U:Ty α}{Rs:List Res}{t e m:Nat}{ps:List (Nat × Operand)}{vs:List (Nat × Value)}{els:List Value}{ys:List α}{i j:TI}(hS:St W w (OwnEls U els ys::Rs)){d:Nat}(h:∀ A k (w':World),Ext w w'→St W w' (Own (tSl e U) [.slice A ys.length k] ys::Rs)→RW P n ops Q rest ((d,.slice A ys.length k)::F) w') (ht:TTok P T:=by exact ttok) (hg:guardOf ops F o=some true:=by exact rfl) (ho:o.op=.buildSlice t m ⟨ps⟩:=by exact rfl) (hi:T.get t=some i:=by exact rfl) (hd:i.d=.slice e:=by exact rfl) (hj:T.get e=some j:=by exact rfl) (hv:partsOf F ps=some vs:=by exact rfl) (hf:fillV (slots j.size 0 m) (chunks m j.zero) vs=some els:=by exact rfl) (hm:ys.length=m:=by exact rfl) (hpos:Nat.ble 1 (m*j.size)=true:=by exact rfl) (hsm:Nat.ble (m*j.size) 16777216=true:=by exact rfl) (hd':o.dst=some d:=by exact rfl) (hn:Nat.blt d n=true:=by exact rfl):RW P n ops Q (o::rest) F w:=RW.newSlice ht hS hg ho hi hd hj hv hf hm hpos hsm hd' hn h

theorem ao  {α:Type}{U:Ty α}{B:List Res}{e e':Nat}{A A2:Option Addr}{k k2:Nat}{xs ys:List α}(hS:St W w (Own (tSl e' U) [.slice A2 ys.length k2] ys::Own (tSl e U) [.slice A xs.length k] xs::B)){t:Nat}{s x:Operand}{i j:TI}(b:decide ((xs.length:Int)+ys.length≤4294967296)=true){d:Nat}(h:∀ A' k' (w':World),St W w' (Own (tSl e U) [.slice A' (xs++ys).length k'] (xs++ys)::B)→RW P n ops Q rest ((d,.slice A' (xs++ys).length k')::F) w') (ht:TTok P T:=by exact ttok) (hg:guardOf ops F o=some true:=by exact rfl) (ho:o.op=.call { callee:=.builtin .append,args:=#[s,x],argTypes:=#[t,t] }:=by exact rfl) (hi:T.get t=some i:=by exact rfl) (hd:i.d=.slice e:=by exact rfl) (hj:T.get e=some j:=by exact rfl) (hs:U.size=j.size:=by exact rfl) (hpos:0<U.size:=by decide) (hx:F.ev s=some (.slice A xs.length k):=by exact rfl) (hy:F.ev x=some (.slice A2 ys.length k2):=by exact rfl) (hb:j.bytes≤32768:=by decide) (hd':o.dst=some d:=by exact rfl) (hn:Nat.blt d n=true:=by exact rfl):RW P n ops Q (o::rest) F w:=RW.appendOwn ht hS hg ho hi hd hj hs hpos hx hy (of_decide_eq_true b) hb hd' hn h

theorem io  {α:Type}{U:Ty α}{B:List Res}{e:Nat}{A:Option Addr}{k ln:Nat}{xs:List α}(hS:St W w (Own (tSl e U) [.slice A ln k] xs::B)){t e':Nat}{x ix:Operand}{i j:TI}{kd:IntKind}{m:Int}(h0:0≤m) (hlt:m.toNat<xs.length){d:Nat}(h:∀ q,(∃ g,A=some ⟨g,0,none⟩∧q=⟨g,m.toNat*U.size,none⟩)→RW P n ops Q rest ((d,.pointer (some q))::F) w) (ht:TTok P T:=by exact ttok) (hg:guardOf ops F o=some true:=by exact rfl) (ho:o.op=.indexAddr t x ix:=by exact rfl) (hi:T.get t=some i:=by exact rfl) (hd:i.d=.slice e':=by exact rfl) (hj:T.get e'=some j:=by exact rfl) (hs:U.size=j.size:=by exact rfl) (hx:F.ev x=some (.slice A ln k):=by exact rfl) (hm:F.ev ix=some (.int kd m):=by exact rfl) (hd':o.dst=some d:=by exact rfl) (hn:Nat.blt d n=true:=by exact rfl):RW P n ops Q (o::rest) F w:=RW.idxOwnN ht hS hg ho hi hd hj hs hx hm h0 hlt hd' hn h

theorem se  {α:Type}{U:Ty α}{B:List Res}{e:Nat}{A:Option Addr}{k ln:Nat}{xs:List α}{y:α}{es':List Value}(hS:St W w (Own (tSl e U) [.slice A ln k] xs::Own U es' y::B)){t:Nat}{x yv:Operand}{j:TI}{q:Addr}{m:Nat}(hlt:m<xs.length) (hq:∃ g,A=some ⟨g,0,none⟩∧q=⟨g,m*U.size,none⟩){v:Value}(h:∀ (w':World),St W w' (Own (tSl e U) [.slice A ln k] (xs.set m y)::B)→RW P n ops Q rest F w') (ht:TTok P T:=by exact ttok) (hg:guardOf ops F o=some true:=by exact rfl) (ho:o.op=.store t x yv:=by exact rfl) (hd:o.dst=none:=by exact rfl) (hj:T.get t=some j:=by exact rfl) (hs:U.size=j.size:=by exact rfl) (hx:F.ev x=some (.pointer (some q)):=by exact rfl) (hy:F.ev yv=some v:=by exact rfl) (hc:cellsV v=es':=by exact rfl):RW P n ops Q (o::rest) F w:=RW.storeElN ht hS hg ho hd hj hs hx hlt hq hy hc h

theorem qBuildK  {t:Nat}{ps:List (Nat × Operand)}{vs:List (Nat × Value)}{cs:List Value}(ho:o.op=.build t ⟨ps⟩:=by exact rfl) (hv:partsOf F ps=some vs:=by exact rfl) (hb:P.built t vs=some ⟨cs⟩:=by kernel_rfl):Quiet P n F w o (.agg ⟨cs⟩):=Quiet.buildK ho hv hb

theorem qCat  {t u:Nat}{x y:Operand}{a b:ByteArray}(h:a.size+b.size≤9223372036854775807) (ho:o.op=.binOp .add t x y u:=by exact rfl) (hx:F.ev x=some (.string a):=by exact rfl) (hy:F.ev y=some (.string b):=by exact rfl):Quiet P n F w o (.string (a++b)):=Quiet.cat ho hx hy h

theorem qBytesStr  {s d e:Nat}{x:Operand}{i j l:TI}{A:Option Addr}{len c:Nat}{xs:List Int}{e':Nat}(hr:(tSl e' (tIntK .u8)).ro w [.slice A len c] xs) (ht:TTok P T:=by exact ttok) (ho:o.op=.convert s d x:=by exact rfl) (hi:T.get s=some i:=by exact rfl) (hd:i.d=.slice e:=by exact rfl) (hj:T.get e=some j:=by exact rfl) (hjd:j.d=.int .u8:=by exact rfl) (hl:T.get d=some l:=by exact rfl) (hld:l.d=.str:=by exact rfl) (hx:F.ev x=some (.slice A len c):=by exact rfl):Quiet P n F w o (.string (strOfNums xs)):=Quiet.bytesStr ht ho hi hd hj hjd hl hld hx hr

theorem dp  {k m:Nat}{v:Value}(hsk:skOf ops=sk∧ops.length=k) (i:Nat){m':Nat}(hi:nthv ops i=some o) (hq:∀ w:World,Quiet P n F w o v){d:Nat}(h:DM P n ops Q W9 w0 wm fuel k m' ((d,v)::F) w) (hm:m ||| 2 ^ i=m':=by exact rfl) (hwi:wm.testBit i=false:=by kernel_rfl) (hf:freeM sk (2 ^ k - 1) m i=true:=by kernel_rfl) (hg:guardOf ops F o=some true:=by exact rfl) (hd:o.dst=some d:=by exact rfl) (hn:Nat.blt d n=true:=by exact rfl):DM P n ops Q W9 w0 wm (fuel+1) k m F w:=DM.quietP hsk i _ hm hwi hi hf hg hq hd hn h

theorem mW  {k m:Nat}(hsk:skOf ops=sk∧ops.length=k){i:Nat}{m':Nat}{f:FuncId}{vs:List Value}(hen:Enters P f){R:Value→World→Prop}(hf:Calls P f ⟨vs⟩ w (Ret R)) (h:∀ v w',R v w'→Ext W9 w'∧DM P n ops Q W9 w0 wm fuel k m' (F.putO o.dst v) w') (hm:m ||| 2 ^ i=m':=by exact rfl) (hwi:wm.testBit i=true:=by kernel_rfl) (hi:nthv ops i=some o:=by exact rfl) (hg:guardOf ops F o=some true:=by exact rfl) (hc:callOf F o.op=some (f,vs):=by exact rfl) (hn:dstOk n o.dst=true:=by exact rfl):LM P n ops Q W9 w0 wm fuel k m i F w:=LM.callW hsk _ hm hwi hi hg hc hn hen hf h

theorem mk  {α:Type}{U:Ty α}{Rs:List Res}(z:α) (hS:St W w Rs){kk mm ii:Nat}(hsk:skOf ops=sk∧ops.length=kk){m':Nat}{t e:Nat}{l c:Operand}{i j:TI}{k1 k2:IntKind}{m:Int}(hz9:0≤m∧m≤4294967296){zz9:List Value}(hz:∀ w',U.own w' zz9 z []){d:Nat}(h:∀ A k (w':World),Ext w w'→St W w' (Own (tSl e U) [.slice A (List.replicate m.toNat z).length k] (List.replicate m.toNat z)::Rs)→DM P n ops Q W w0 wm fuel kk m' ((d,.slice A (List.replicate m.toNat z).length k)::F) w') (ht:TTok P T:=by exact ttok) (hm':mm ||| 2 ^ ii=m':=by exact rfl) (hwi:wm.testBit ii=false:=by kernel_rfl) (hni:nthv ops ii=some o:=by exact rfl) (hg:guardOf ops F o=some true:=by exact rfl) (ho:o.op=.makeSlice t l c:=by exact rfl) (hi:T.get t=some i:=by exact rfl) (hd:i.d=.slice e:=by exact rfl) (hj:T.get e=some j:=by exact rfl) (hs:U.size=j.size:=by exact rfl) (hl:F.ev l=some (.int k1 m):=by exact rfl) (hc:F.ev c=some (.int k2 m):=by exact rfl) (b:Nat.ble j.bytes 65536=true:=by exact rfl) (hzz9:j.zero=zz9:=by exact rfl) (hd':o.dst=some d:=by exact rfl) (hn:Nat.blt d n=true:=by exact rfl):LM P n ops Q W w0 wm fuel kk mm ii F w:=LM.make ht z hS hsk _ hm' hwi hni hg ho hi hd hj hs hl hc hz9.1 (zbc hz9 b) (by have:=hz9.2;simp only [maxLen];omega) (by intro v;rw [hzz9];exact hz v) hd' hn h

theorem m0  {α:Type}{U:Ty α}{Rs:List Res}{t e:Nat}{i j:TI}(hS:St W w Rs){kk mm ii:Nat}(hsk:skOf ops=sk∧ops.length=kk){m':Nat}{d:Nat}(h:∀ A k (w':World),Ext w w'→St W w' (Own (tSl e U) [.slice A ([]:List α).length k] []::Rs)→DM P n ops Q W w0 wm fuel kk m' ((d,.slice A ([]:List α).length k)::F) w') (ht:TTok P T:=by exact ttok) (hm':mm ||| 2 ^ ii=m':=by exact rfl) (hwi:wm.testBit ii=false:=by kernel_rfl) (hni:nthv ops ii=some o:=by exact rfl) (hg:guardOf ops F o=some true:=by exact rfl) (ho:o.op=.buildSlice t 0 #[]:=by exact rfl) (hi:T.get t=some i:=by exact rfl) (hd:i.d=.slice e:=by exact rfl) (hj:T.get e=some j:=by exact rfl) (hd':o.dst=some d:=by exact rfl) (hn:Nat.blt d n=true:=by exact rfl):LM P n ops Q W w0 wm fuel kk mm ii F w:=LM.newSlice0 ht hS hsk _ hm' hwi hni hg ho hi hd hj hd' hn h

theorem mn  {α:Type}{U:Ty α}{Rs:List Res}{t e m:Nat}{ps:List (Nat × Operand)}{vs:List (Nat × Value)}{els:List Value}{ys:List α}{i j:TI}(hS:St W w (OwnEls U els ys::Rs)){kk mm ii:Nat}(hsk:skOf ops=sk∧ops.length=kk){m':Nat}{d:Nat}(h:∀ A k (w':World),Ext w w'→St W w' (Own (tSl e U) [.slice A ys.length k] ys::Rs)→DM P n ops Q W w0 wm fuel kk m' ((d,.slice A ys.length k)::F) w') (ht:TTok P T:=by exact ttok) (hm':mm ||| 2 ^ ii=m':=by exact rfl) (hwi:wm.testBit ii=false:=by kernel_rfl) (hni:nthv ops ii=some o:=by exact rfl) (hg:guardOf ops F o=some true:=by exact rfl) (ho:o.op=.buildSlice t m ⟨ps⟩:=by exact rfl) (hi:T.get t=some i:=by exact rfl) (hd:i.d=.slice e:=by exact rfl) (hj:T.get e=some j:=by exact rfl) (hv:partsOf F ps=some vs:=by exact rfl) (hf:fillV (slots j.size 0 m) (chunks m j.zero) vs=some els:=by exact rfl) (hm:ys.length=m:=by exact rfl) (hpos:Nat.ble 1 (m*j.size)=true:=by exact rfl) (hsm:Nat.ble (m*j.size) 16777216=true:=by exact rfl) (hd':o.dst=some d:=by exact rfl) (hn:Nat.blt d n=true:=by exact rfl):LM P n ops Q W w0 wm fuel kk mm ii F w:=LM.newSlice ht hS hsk _ hm' hwi hni hg ho hi hd hj hv hf hm hpos hsm hd' hn h

theorem mp  {α:Type}{U:Ty α}(hfl:Flat U){B:List Res}{e:Nat}{A:Option Addr}{k:Nat}{xs ys:List α}(hS:St W w (Own (tSl e U) [.slice A xs.length k] xs::B)){kk mm ii:Nat}(hsk:skOf ops=sk∧ops.length=kk){m':Nat}{t:Nat}{s x:Operand}{i j:TI}{A2:Option Addr}{k2:Nat}{e':Nat}(hr:(tSl e' U).ro w [.slice A2 ys.length k2] ys) (b:decide ((xs.length:Int)+ys.length≤4294967296)=true){d:Nat}(h:∀ A' k' (w':World),St W w' (Own (tSl e U) [.slice A' (xs++ys).length k'] (xs++ys)::B)→DM P n ops Q W w0 wm fuel kk m' ((d,.slice A' (xs++ys).length k')::F) w') (ht:TTok P T:=by exact ttok) (hm':mm ||| 2 ^ ii=m':=by exact rfl) (hwi:wm.testBit ii=true:=by kernel_rfl) (hni:nthv ops ii=some o:=by exact rfl) (hg:guardOf ops F o=some true:=by exact rfl) (ho:o.op=.call { callee:=.builtin .append,args:=#[s,x],argTypes:=#[t,t] }:=by exact rfl) (hi:T.get t=some i:=by exact rfl) (hd:i.d=.slice e:=by exact rfl) (hj:T.get e=some j:=by exact rfl) (hs:U.size=j.size:=by exact rfl) (hpos:0<U.size:=by decide) (hx:F.ev s=some (.slice A xs.length k):=by exact rfl) (hy:F.ev x=some (.slice A2 ys.length k2):=by exact rfl) (hb:j.bytes≤32768:=by decide) (hd':o.dst=some d:=by exact rfl) (hn:Nat.blt d n=true:=by exact rfl):LM P n ops Q W w0 wm fuel kk mm ii F w:=LM.appendRo ht hfl hS hsk _ hm' hwi hni hg ho hi hd hj hs hpos hx hy hr (of_decide_eq_true b) hb hd' hn h

theorem mo  {α:Type}{U:Ty α}{B:List Res}{e e':Nat}{A A2:Option Addr}{k k2:Nat}{xs ys:List α}(hS:St W w (Own (tSl e' U) [.slice A2 ys.length k2] ys::Own (tSl e U) [.slice A xs.length k] xs::B)){kk mm ii:Nat}(hsk:skOf ops=sk∧ops.length=kk){m':Nat}{t:Nat}{s x:Operand}{i j:TI}(b:decide ((xs.length:Int)+ys.length≤4294967296)=true){d:Nat}(h:∀ A' k' (w':World),St W w' (Own (tSl e U) [.slice A' (xs++ys).length k'] (xs++ys)::B)→DM P n ops Q W w0 wm fuel kk m' ((d,.slice A' (xs++ys).length k')::F) w') (ht:TTok P T:=by exact ttok) (hm':mm ||| 2 ^ ii=m':=by exact rfl) (hwi:wm.testBit ii=true:=by kernel_rfl) (hni:nthv ops ii=some o:=by exact rfl) (hg:guardOf ops F o=some true:=by exact rfl) (ho:o.op=.call { callee:=.builtin .append,args:=#[s,x],argTypes:=#[t,t] }:=by exact rfl) (hi:T.get t=some i:=by exact rfl) (hd:i.d=.slice e:=by exact rfl) (hj:T.get e=some j:=by exact rfl) (hs:U.size=j.size:=by exact rfl) (hpos:0<U.size:=by decide) (hx:F.ev s=some (.slice A xs.length k):=by exact rfl) (hy:F.ev x=some (.slice A2 ys.length k2):=by exact rfl) (hb:j.bytes≤32768:=by decide) (hd':o.dst=some d:=by exact rfl) (hn:Nat.blt d n=true:=by exact rfl):LM P n ops Q W w0 wm fuel kk mm ii F w:=LM.appendOwn ht hS hsk _ hm' hwi hni hg ho hi hd hj hs hpos hx hy (of_decide_eq_true b) hb hd' hn h

theorem ms  {A B:List Res}{g:Nat}{cs cs':List Value}{e:TypeId}(hS:St W w (A++Box g cs e::B)){kk mm ii:Nat}(hsk:skOf ops=sk∧ops.length=kk){m':Nat}{t:Nat}{x y:Operand}{i:TI}{q:Addr}(off:Nat){v:Value}(h:∀ (w':World),St W w' (A++Box g cs' e::B)→DM P n ops Q W w0 wm fuel kk m' F w') (ht:TTok P T:=by exact ttok) (hm':mm ||| 2 ^ ii=m':=by exact rfl) (hwi:wm.testBit ii=true:=by kernel_rfl) (hni:nthv ops ii=some o:=by exact rfl) (hg:guardOf ops F o=some true:=by exact rfl) (ho:o.op=.store t x y:=by exact rfl) (hd:o.dst=none:=by exact rfl) (hi:T.get t=some i:=by exact rfl) (hx:F.ev x=some (.pointer (some q)):=by exact rfl) (hq:q=⟨g,off,none⟩:=by exact rfl) (hy:F.ev y=some v:=by exact rfl) (hl:Nat.beq (cellsV v).length i.size=true:=by exact rfl) (h1:oneCells (cellsV v)=true:=by exact rfl) (hs:setAt cs off (cellsV v)=some cs':=by exact rfl):LM P n ops Q W w0 wm fuel kk mm ii F w:=LM.store ht hS hsk _ hm' hwi hni hg ho hd hi hx off hq hy hl h1 hs h

theorem da  {kk mm:Nat}(hsk:skOf ops=sk∧ops.length=kk) (rs:List Nat) (hne:rs≠[]) (h:∀ i,i∈rs→LM P n ops Q W9 w0 wm fuel kk mm i F w) (hr:readyM sk kk mm=rs:=by kernel_rfl):DM P n ops Q W9 w0 wm (fuel+1) kk mm F w:=DM.all hsk rs hr hne h

theorem mq  {kk mm:Nat}(hsk:skOf ops=sk∧ops.length=kk){v:Value}{ii:Nat}{m':Nat}(hni:nthv ops ii=some o) (hq:Quiet P n F w o v){d:Nat}(h:DM P n ops Q W9 w0 wm fuel kk m' ((d,v)::F) w) (hm':mm ||| 2 ^ ii=m':=by exact rfl) (hwi:wm.testBit ii=false:=by kernel_rfl) (hg:guardOf ops F o=some true:=by exact rfl) (hd:o.dst=some d:=by exact rfl) (hn:Nat.blt d n=true:=by exact rfl):LM P n ops Q W9 w0 wm fuel kk mm ii F w:=LM.quietL hsk _ hm' hwi hni hg hq hd hn h

theorem do9 {w1:World}{kk mm:Nat}{α:Type}{U:Ty α}{B:List Res}{e:Nat}{A:Option Addr}{k ln:Nat}{xs:List α}(hS:St W w1 (Own (tSl e U) [.slice A ln k] xs::B)) (hsk:skOf ops=sk∧ops.length=kk) (ii:Nat){m':Nat}{t e':Nat}{x ix:Operand}{i j:TI}{kd:IntKind}{m:Int}(h0:0≤m) (hlt:m.toNat<xs.length){d:Nat}(h:∀ q,(∃ g,A=some ⟨g,0,none⟩∧q=⟨g,m.toNat*U.size,none⟩)→DM P n ops Q W w0 wm fuel kk m' ((d,.pointer (some q))::F) w) (ht:TTok P T:=by exact ttok) (hmm:mm ||| 2 ^ ii=m':=by exact rfl) (hwi:wm.testBit ii=false:=by kernel_rfl) (hni:nthv ops ii=some o:=by exact rfl) (hf:freeM sk (2 ^ kk - 1) mm ii=true:=by kernel_rfl) (hg:guardOf ops F o=some true:=by exact rfl) (ho:o.op=.indexAddr t x ix:=by exact rfl) (hi:T.get t=some i:=by exact rfl) (hd:i.d=.slice e':=by exact rfl) (hj:T.get e'=some j:=by exact rfl) (hs:U.size=j.size:=by exact rfl) (hx:F.ev x=some (.slice A ln k):=by exact rfl) (hm:F.ev ix=some (.int kd m):=by exact rfl) (hd':o.dst=some d:=by exact rfl) (hn:Nat.blt d n=true:=by exact rfl):DM P n ops Q W w0 wm (fuel+1) kk mm F w:=DM.idxOwnN ht hS hsk ii _ hmm hwi hni hf hg ho hi hd hj hs hx hm h0 hlt hd' hn h

theorem me {kk mm:Nat}{α:Type}{U:Ty α}{B:List Res}{e:Nat}{A:Option Addr}{k ln:Nat}{xs:List α}{y:α}{es':List Value}(hS:St W w (Own (tSl e U) [.slice A ln k] xs::Own U es' y::B)) (hsk:skOf ops=sk∧ops.length=kk){ii:Nat}{m':Nat}{t:Nat}{x yv:Operand}{j:TI}{q:Addr}{m:Nat}(hlt:m<xs.length) (hq:∃ g,A=some ⟨g,0,none⟩∧q=⟨g,m*U.size,none⟩){v:Value}(h:∀ (w':World),St W w' (Own (tSl e U) [.slice A ln k] (xs.set m y)::B)→DM P n ops Q W w0 wm fuel kk m' F w') (ht:TTok P T:=by exact ttok) (hm':mm ||| 2 ^ ii=m':=by exact rfl) (hwi:wm.testBit ii=true:=by kernel_rfl) (hni:nthv ops ii=some o:=by exact rfl) (hg:guardOf ops F o=some true:=by exact rfl) (ho:o.op=.store t x yv:=by exact rfl) (hd:o.dst=none:=by exact rfl) (hj:T.get t=some j:=by exact rfl) (hs:U.size=j.size:=by exact rfl) (hx:F.ev x=some (.pointer (some q)):=by exact rfl) (hy:F.ev yv=some v:=by exact rfl) (hc:cellsV v=es':=by exact rfl):LM P n ops Q W w0 wm fuel kk mm ii F w:=LM.storeElN ht hS hsk _ hm' hwi hni hg ho hd hj hs hx hlt hq hy hc h

theorem kn  (i:Nat){v u:Value}(hg:F.get i=some v) (e:v=u) (h:RW P n ops Q rest ((i,u)::F) w) :RW P n ops Q rest F w:=RW.know i hg e h

theorem dk  {k m:Nat}(i:Nat){v u:Value}(hg:F.get i=some v) (e:v=u) (h:DM P n ops Q W9 w0 wm fuel k m ((i,u)::F) w) :DM P n ops Q W9 w0 wm fuel k m F w:=DM.know i hg e h

theorem ra  {a:Tmp}{t:Nat}{q:Addr}{i:TI}{cs:List Value}(hat:At w q cs) (ht:TTok P T:=by exact ttok) (h:F.get a=some (.pointer (some q)):=by exact rfl) (hi:T.get t=some i:=by exact rfl) (hag:i.agg=true:=by exact rfl) (hl:Nat.beq cs.length i.size=true:=by exact rfl):ResIs P F w (.cell a t) (.agg ⟨cs⟩):=ResIs.agg ht h hi hag hat hl

theorem r1  {a:Tmp}{t:Nat}{q:Addr}(h:F.get a=some (.pointer (some q))){i:TI}{c:Value}(hat:At w q [c]) (ht:TTok P T:=by exact ttok) (hi:T.get t=some i:=by exact rfl) (hag:i.agg=false:=by exact rfl):ResIs P F w (.cell a t) c:=ResIs.one ht h hi hag hat

end Go.E


