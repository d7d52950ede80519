/- Texts: joining two, making one of bytes. Conditions: none (rules). -/
import Derived.Test.YteommboffflkbaaGreatParam
import Derived.Laws.BytesArg
import Derived.Laws.Concat
import Derived.MapKept
import Derived.ChangeMaps4
namespace Go.E
open Go.RowKit
set_option linter.unusedVariables false
set_option linter.unusedSimpArgs false


theorem Quiet.arrIdx {P:Program}{T:TT}(ht:TTok P T){n:Nat}{F:Fr}{w:World}{o:Oper}{t e len:Nat}{x ix:Operand}{j:TI}{cs:List Value}{xs:List Int}{k kd:IntKind}{m a:Int}(ho:o.op=.index t x ix)
  (hu:P.underlying t=some (.array len e)) (hj:T.get e=some j) (hag:j.agg=false) (hs:j.size=1) (hx:F.ev x=some (.agg ⟨cs⟩)) (hc:cs=xs.map (Value.int kd)) (hm:F.ev ix=some (.int k m)) (h0:0≤m) (ha:xs[m.toNat]? = some a) (hl:xs.length=len:=by rfl):Quiet P n F w o (.int kd a):=by
 intro b w' hb _
 have hlt:=(List.getElem?_eq_some_iff.1 ha).1
 have hr:=ze0 (P:=P) ht hj (xs:=cs) (off:=m.toNat*1) (x:=.int kd a) (.inr ⟨hag,by
  rw [hs,Nat.mul_one,hc]
  have h1:(xs.map (Value.int kd))[m.toNat]? = some (.int kd a):=by rw [List.getElem?_map,ha];rfl
  have h2:=(List.getElem?_eq_some_iff.1 h1)
  rw [List.drop_eq_getElem_cons h2.1,h2.2];rfl⟩) w'
 unfold execOp
 rw [ho]
 have hmm:m<len:=by omega
 rw [Nat.mul_one] at hr
 simp [hb.ev hx,hb.ev hm,Instr.index,asIntOf,Go.underlying,hu,h0,hmm,ht.sizeOf hj,hs,hr]

end Go.E


namespace Go.E
open Go.RowKit
set_option linter.unusedVariables false
set_option linter.unusedSimpArgs false

section
variable {P:Program}{n:Nat}{Q:Post}{F:Fr}{w w0 W W9:World}{ops:List Oper}{wm fu kk mm:Nat}{sk:List (List Nat × Nat)}{o:Oper}

theorem LM.okD (hsk:skOf ops=sk∧ops.length=kk){v:Value}{w':World}{ii:Nat}(m':Nat) (hm':mm ||| 2 ^ ii=m') (hwi:wm.testBit ii=false) (hni:nthv ops ii=some o) (hg:guardOf ops F o=some true) (hr:∀ a,Fits n F a→(execOp a.eval o).run P w=.ok (.value v) w'){d:Nat}(hd:o.dst=some d) (hn:Nat.blt d n=true) (hw:Ext w w')
  (h:DM P n ops Q W9 w0 wm fu kk m' ((d,v)::F) w'):LM P n ops Q W9 w0 wm fu kk mm ii F w:=by
 refine LM.ok hsk m' hm' hwi hni hg hr hw (by rw [hd];exact hn) ?_
 rw [hd]
 exact h

theorem LM.okWD (hsk:skOf ops=sk∧ops.length=kk){v:Value}{w':World}{ii:Nat}(m':Nat) (hm':mm ||| 2 ^ ii=m') (hwi:wm.testBit ii=true) (hni:nthv ops ii=some o) (hg:guardOf ops F o=some true) (hr:∀ a,Fits n F a→(execOp a.eval o).run P w=.ok (.value v) w'){d:Nat}(hd:o.dst=some d) (hn:Nat.blt d n=true) (hW:Ext W9 w')
  (h:DM P n ops Q W9 w0 wm fu kk m' ((d,v)::F) w'):LM P n ops Q W9 w0 wm fu kk mm ii F w:=by
 refine LM.okW hsk m' hm' hwi hni hg hr (by rw [hd];exact hn) hW ?_
 rw [hd]
 exact h
end

theorem DW.quietP {P:Program}{n:Nat}{Q:Post}{F:Fr}{w w0 W9:World}{ops:List Oper}{wr:Nat→Bool}{fu:Nat}{listed:Array Bool}{o:Oper}{v:Value}(i:Nat) (hwi:wr i=false) (hi:nthv ops i=some o) (hf:freeAt ops listed i=true) (hg:guardOf ops F o=some true) (hq:∀ w,Quiet P n F w o v){d:Nat}(hd:o.dst=some d) (hn:Nat.blt d n=true)
  (h:DW P n ops Q W9 w0 wr fu (listed.setIfInBounds i true) ((d,v)::F) w):DW P n ops Q W9 w0 wr (fu+1) listed F w:=fun hs he hv a ha=>by
 rw [z3x] at hi
 obtain⟨h1,h2⟩:=zcp hf
 refine z9i (oi:=o) (v:=v) (by simpa using hi) hs h1 h2 (noPanic v _) hwi (.inl ⟨zL hg ha,fun w' _=>hq w' a w' ha (Ext.refl w')⟩) he hv ?_
 rw [hd]
 exact h hs (fun hn'=>he (hn'.back hwi)) hv _ (ha.put hn v)

theorem DM.quietP {P:Program}{n:Nat}{Q:Post}{F:Fr}{w w0 W9:World}{ops:List Oper}{wm fu k m:Nat}{sk:List (List Nat × Nat)}{o:Oper}{v:Value}(hsk:skOf ops=sk∧ops.length=k) (i m':Nat) (hm:m ||| 2 ^ i=m') (hwi:wm.testBit i=false) (hi:nthv ops i=some o) (hf:freeM sk (2 ^ k - 1) m i=true) (hg:guardOf ops F o=some true) (hq:∀ w,Quiet P n F w o v){d:Nat}(hd:o.dst=some d) (hn:Nat.blt d n=true)
  (h:DM P n ops Q W9 w0 wm fu k m' ((d,v)::F) w):DM P n ops Q W9 w0 wm (fu+1) k m F w:=fun l hl=>
 DW.quietP i hwi hi (zde hsk.1 hsk.2 hl (by rw [← z3x];exact hi) hf) hg hq hd hn (h _ (hl.set (zc0 hsk.2 hi) hm))

theorem LW.callW {P:Program}{n:Nat}{Q:Post}{F:Fr}{w w0 W9:World}{ops:List Oper}{wr:Nat→Bool}{fu:Nat}{listed:Array Bool}{o:Oper}{i:Nat}(hwi:wr i=true) (hsz:i<listed.size) (hi:nthv ops i=some o) (hg:guardOf ops F o=some true){f:FuncId}{vs:List Value}(hc:callOf F o.op=some (f,vs)) (hn:dstOk n o.dst=true) (hen:Enters P f)
  {R:Value→World→Prop}(hf:Calls P f ⟨vs⟩ w (Ret R)) (h:∀ v w',R v w'→Ext W9 w'∧DW P n ops Q W9 w0 wr fu (listed.setIfInBounds i true) (F.putO o.dst v) w'):LW P n ops Q W9 w0 wr fu listed i F w:=fun hs he hv a ha=>by
 rw [z3x] at hi
 have hi':ops.toArray[i]? = some o:=by simpa using hi
 have hno:¬ NoWr wr (listed.setIfInBounds i true):=fun hn'=>by
  have:=hn' i hwi
  simp [Array.getD_eq_getD_getElem?,hsz] at this
 unfold wpOp
 simp only [hi']
 rw [if_pos (zL hg ha)]
 refine .inl ?_
 unfold Oper.wp
 rw [zez hen hc ha,Oper.upon_enter]
 refine hf.mono fun e w' hr=>?_
 cases e with
 | returned v=>exact⟨⟨fun hn'=>absurd hn' hno,(h v w' hr).1⟩,(h v w' hr).2 hs (fun hn'=>absurd hn' hno) (h v w' hr).1 _ (ha.putO hn v)⟩
 | panicked _=>exact hr.elim
 | outgrown=>exact hr.elim

theorem LM.make {P:Program}{n:Nat}{Q:Post}{F:Fr}{W w:World}{ops:List Oper}{o:Oper}{T:TT}(ht:TTok P T){α:Type}{U:Ty α}{Rs:List Res}(z:α) (hS:St W w Rs){wm fu kk mm ii:Nat}{w0:World}{sk:List (List Nat × Nat)}(hsk:skOf ops=sk∧ops.length=kk) (m':Nat) (hm':mm ||| 2 ^ ii=m') (hwi:wm.testBit ii=false) (hni:nthv ops ii=some o) (hg:guardOf ops F o=some true){t e:Nat}{l c:Operand}{i j:TI}{k1 k2:IntKind}{m:Int}(ho:o.op=.makeSlice t l c) (hi:T.get t=some i) (hd:i.d=.slice e)
  (hj:T.get e=some j) (hs:U.size=j.size) (hl:F.ev l=some (.int k1 m)) (hc:F.ev c=some (.int k2 m)) (h0:0≤m) (hb:m*(j.bytes:Int)≤281474976710656) (q:m≤maxLen) (hz:∀ w',U.own w' j.zero z [])
  {d:Nat}(hd':o.dst=some d) (hn:Nat.blt d n=true)
  (h:∀ A k w',Ext w w'→St W w' (Own (tSl e U) [.slice A (List.replicate m.toNat z).length k] (List.replicate m.toNat z)::Rs)→DM P n ops Q W w0 wm fu kk m' ((d,.slice A (List.replicate m.toNat z).length k)::F) w'):LM P n ops Q W w0 wm fu kk mm ii F w:=by
 obtain⟨jj,hjj,hsz,hby,zz,hzz,hzc⟩:=ht.info hj
 have hmx:m≤9223372036854775807:=by simpa [maxLen] using q
 have hr:=run_make (P:=P) w t e jj zz (ht.slice hi hd) hjj hzz k1 k2 m m h0 (Int.le_refl _) (by rw [hby,Int.mul_comm];exact hb) hmx
 have hzl:j.zero.length=U.size:=U.lenO (hz w)
 have hcells:madeCells zz.cells (m.toNat*jj.size)=⟨chunks m.toNat j.zero⟩:=by
  rw [← zba j.zero m.toNat,hzl,hs,hsz,show zz.cells=⟨j.zero⟩ from by rw [← hzc]]
 rw [hcells] at hr
 have hlen:(List.replicate m.toNat z).length=m.toNat:=by simp
 refine LM.okD hsk m' hm' hwi hni hg (v:=.slice (some ⟨w.heap.size,0,none⟩) (List.replicate m.toNat z).length m.toNat) (fun a ha=>?_) hd' hn (Ext.alloc w (.cells ⟨chunks m.toNat j.zero⟩ e)) (h _ _ _ (Ext.alloc w (.cells ⟨chunks m.toNat j.zero⟩ e)) ?_)
 ·unfold execOp
  rw [ho,hlen]
  simp [ha.ev hl,ha.ev hc,hr]
 ·have hcl:∀ k:Nat,(chunks k j.zero).length=k*U.size:=fun k=>by
   induction k with
   | zero=>simp [chunks]
   | succ k ih=>simp [chunks,ih,hzl,Nat.succ_mul,Nat.add_comm]
  have hown:=zcJ (w:=w.alloc (.cells ⟨chunks m.toNat j.zero⟩ e)) (e:=e) (U:=U) (xs:=List.replicate m.toNat z) (g:=w.heap.size) (cap:=m.toNat) (els:=chunks m.toNat j.zero) (rest:=[]) (K:=[])
   (by rw [List.append_nil];exact heap_alloc_new w _) (by simp) (by have:(m.toNat:Int)=m:=Int.toNat_of_nonneg h0;omega) (by simp [hcl]) (by simp [hcl]) (zeL (hz _) _)
  exact hS.join (Ns:=[Own (tSl e U) [.slice (some ⟨w.heap.size,0,none⟩) (List.replicate m.toNat z).length m.toNat] (List.replicate m.toNat z)])
   ⟨Ext.alloc _ _,⟨[w.heap.size],hown,by simp,fun g hg=>by simp at hg;subst hg;exact⟨Nat.le_refl _,by simp⟩,trivial⟩⟩

theorem LM.append {P:Program}{n:Nat}{Q:Post}{F:Fr}{W w:World}{ops:List Oper}{o:Oper}{T:TT}(ht:TTok P T){α:Type}{U:Ty α}{B:List Res}{e:Nat}{A:Option Addr}{k:Nat}{xs ys:List α}{els:List Value}(hS:St W w (Own (tSl e U) [.slice A xs.length k] xs::OwnEls U els ys::B)){wm fu kk mm ii:Nat}{w0:World}{sk:List (List Nat × Nat)}(hsk:skOf ops=sk∧ops.length=kk) (m':Nat) (hm':mm ||| 2 ^ ii=m') (hwi:wm.testBit ii=true) (hni:nthv ops ii=some o) (hg:guardOf ops F o=some true)
  {t:Nat}{s x:Operand}{i j:TI}(ho:o.op=.call { callee:=.builtin .append,args:=#[s,x],argTypes:=#[t,t] }) (hi:T.get t=some i) (hd:i.d=.slice e) (hj:T.get e=some j) (hs:U.size=j.size) (hpos:0<U.size)
  (hx:F.ev s=some (.slice A xs.length k)){A2:Option Addr}{k2:Nat}(hy:F.ev x=some (.slice A2 ys.length k2)) (hat:els≠[]→∃ p,A2=some p∧At w p els)
  (q:xs.length+ys.length≤maxLen) (hb:(xs.length+ys.length)*j.bytes≤140737488355328){d:Nat}(hd':o.dst=some d) (hn:Nat.blt d n=true)
  (h:∀ A' k' w',St W w' (Own (tSl e U) [.slice A' (xs++ys).length k'] (xs++ys)::B)→DM P n ops Q W w0 wm fu kk m' ((d,.slice A' (xs++ys).length k')::F) w'):LM P n ops Q W w0 wm fu kk mm ii F w:=by
 obtain⟨A',k',w',h1,h2⟩:=ze2 (P:=P) (ty:=o.type) ht hS hi hd hj hs hpos (k2:=k2) hat q hb
 refine LM.okWD hsk m' hm' hwi hni hg (w':=w') (fun a ha=>?_) hd' hn h2.ext (h A' k' w' h2)
 unfold execOp
 rw [ho]
 simp [resolve,invoke,builtin,ha.ev hx,ha.ev hy]
 rw [h1]
 simp

theorem LM.appendRo {α:Type}{U:Ty α}{P:Program}{T:TT}(ht:TTok P T) (hfl:Flat U){n:Nat}{ops:List Oper}{Q:Post}{F:Fr}{W w:World}{B:List Res}{o:Oper}{e:Nat}{A:Option Addr}{k:Nat}{xs ys:List α}
  (hS:St W w (Own (tSl e U) [.slice A xs.length k] xs::B)){wm fu kk mm ii:Nat}{w0:World}{sk:List (List Nat × Nat)}(hsk:skOf ops=sk∧ops.length=kk) (m':Nat) (hm':mm ||| 2 ^ ii=m') (hwi:wm.testBit ii=true) (hni:nthv ops ii=some o) (hg:guardOf ops F o=some true)
  {t:Nat}{s x:Operand}{i j:TI}(ho:o.op=.call { callee:=.builtin .append,args:=#[s,x],argTypes:=#[t,t] }) (hi:T.get t=some i) (hd:i.d=.slice e) (hj:T.get e=some j) (hs:U.size=j.size) (hpos:0<U.size)
  (hx:F.ev s=some (.slice A xs.length k)){A2:Option Addr}{k2:Nat}(hy:F.ev x=some (.slice A2 ys.length k2)){e':Nat}(hr:(tSl e' U).ro w [.slice A2 ys.length k2] ys)
  (G:(xs.length:Int)+ys.length≤4294967296) (hb:j.bytes≤32768){d:Nat}(hd':o.dst=some d) (hn:Nat.blt d n=true)
  (h:∀ A' k' w',St W w' (Own (tSl e U) [.slice A' (xs++ys).length k'] (xs++ys)::B)→DM P n ops Q W w0 wm fu kk m' ((d,.slice A' (xs++ys).length k')::F) w'):LM P n ops Q W w0 wm fu kk mm ii F w:=by
 obtain⟨A3,c3,els,he,hc,h1,h2⟩:=hr
 simp only [List.cons.injEq,Value.slice.injEq,and_true] at he
 obtain⟨rfl,_,rfl⟩:=he
 have q:=(hS.flatEls (U:=U) (els:=els) (ys:=ys) (Els.flat hfl h1)).bring 1 rfl
 have hm:(xs.length+ys.length)*j.bytes≤4294967296*32768:=Nat.mul_le_mul (by omega) hb
 exact LM.append ht q hsk m' hm' hwi hni hg ho hi hd hj hs hpos hx hy h2 (by simp only [maxLen];omega) (by omega) hd' hn h

theorem LM.appendOwn {α:Type}{U:Ty α}{P:Program}{T:TT}(ht:TTok P T){n:Nat}{ops:List Oper}{Q:Post}{F:Fr}{W w:World}{B:List Res}{o:Oper}{e e':Nat}{A A2:Option Addr}{k k2:Nat}{xs ys:List α}
  (hS:St W w (Own (tSl e' U) [.slice A2 ys.length k2] ys::Own (tSl e U) [.slice A xs.length k] xs::B)){wm fu kk mm ii:Nat}{w0:World}{sk:List (List Nat × Nat)}(hsk:skOf ops=sk∧ops.length=kk) (m':Nat) (hm':mm ||| 2 ^ ii=m') (hwi:wm.testBit ii=true) (hni:nthv ops ii=some o) (hg:guardOf ops F o=some true)
  {t:Nat}{s x:Operand}{i j:TI}(ho:o.op=.call { callee:=.builtin .append,args:=#[s,x],argTypes:=#[t,t] }) (hi:T.get t=some i) (hd:i.d=.slice e) (hj:T.get e=some j) (hs:U.size=j.size) (hpos:0<U.size)
  (hx:F.ev s=some (.slice A xs.length k)) (hy:F.ev x=some (.slice A2 ys.length k2))
  (q:(xs.length:Int)+ys.length≤4294967296) (hb:j.bytes≤32768){d:Nat}(hd':o.dst=some d) (hn:Nat.blt d n=true)
  (h:∀ A' k' w',St W w' (Own (tSl e U) [.slice A' (xs++ys).length k'] (xs++ys)::B)→DM P n ops Q W w0 wm fu kk m' ((d,.slice A' (xs++ys).length k')::F) w'):LM P n ops Q W w0 wm fu kk mm ii F w:=by
 obtain⟨els,h1,h2⟩:=hS.els
 have hm:(xs.length+ys.length)*j.bytes≤4294967296*32768:=Nat.mul_le_mul (by omega) hb
 exact LM.append ht (h1.bring 1 rfl) hsk m' hm' hwi hni hg ho hi hd hj hs hpos hx hy h2 (by simp only [maxLen];omega) (by omega) hd' hn h

end Go.E


namespace Go.E
open Go.RowKit Go.MapKept
set_option linter.unusedVariables false
set_option linter.unusedSimpArgs false
set_option linter.unusedSectionVars false


structure KeyOk (P:Program){κ:Type}(kt:Nat) (ek:κ→Value):Prop where
 inj:∀ {a b:κ},ek a=ek b→a=b
 check:∀ (e:Bool) (w:World) (k:κ),(Instr.checkKey e 10000 kt (ek k)).run P w=.ok () w
 find:∀ (w:World) (k:κ) (es:List MapEntry),(∀ e,e∈es→∃ k',e.key=ek k')→
  ((Instr.findKey kt (ek k) es).run P w=.ok none w∧∀ e,e∈es→e.key≠ek k)∨∃ j e,(Instr.findKey kt (ek k) es).run P w=.ok (some (j,e.val)) w∧es[j]? = some e∧e.key=ek k
 stays:∀ (w:World) (k:κ),(Instr.keyThatStays (ek k) (ek k)).run P w=.ok (ek k) w

def scalarV:Value→Bool
 | .int _ _ | .bool _ | .string _=>true
 | _=>false

theorem zfM {v:Value}(h:scalarV v=true) (n:Nat):Instr.sameBits n v v=true:=by
 cases v<;>simp [scalarV] at h<;>cases n<;>simp [Instr.sameBits,bytes_beq]

theorem zp3 {cs:List Value}(h:cs.all scalarV=true) (n:Nat):Instr.sameBits (n+1) (.agg ⟨cs⟩) (.agg ⟨cs⟩)=true:=by
 simp only [Instr.sameBits,beq_self_eq_true,Bool.true_and]
 rw [List.all_eq_true] at h ⊢
 intro p hp
 have hp':p∈cs.zip cs:=hp
 obtain⟨x,y⟩:=p
 have hx:=(List.of_mem_zip hp').1
 have hxy:x=y:=by
  obtain⟨i,hi,he⟩:=List.getElem_of_mem hp'
  simp at he
  rw [← he.1,← he.2]
 subst hxy
 exact zfM (h x hx) n

theorem KeyOk.plain {P:Program}{κ:Type}{kt:Nat}{ek:κ→Value}{d:TypeDesc}(hd:P.underlying kt=some d) (hk:∀ k,IsKey d (ek k)) (hs:∀ k,scalarV (ek k)=true) (hi:∀ {a b:κ},ek a=ek b→a=b):KeyOk P kt ek where
 inj:=hi
 check e w k:=run_checkKey hd (hk k) e 9999
 find w k es hes:=by
  rcases findNow_spec (hk k) es 0 (fun e he=>by obtain⟨k',h⟩:=hes e he;rw [h];exact hk k') with⟨h1,h2⟩ | ⟨j,e0,h1,h2,h3⟩
  ·exact .inl ⟨run_findKey hd h1,h2⟩
  ·exact .inr ⟨j,e0,by simpa using run_findKey (P:=P) (w:=w) hd h1,h2,h3⟩
 stays w k:=by
  unfold Instr.keyThatStays
  rw [zfM (hs k)]
  simp

theorem KeyOk.int {P:Program}{kt:Nat}{q:IntKind}(hd:P.underlying kt=some (.int q)):KeyOk P kt (Value.int q):=
 KeyOk.plain hd (fun k=>rfl) (fun k=>rfl) (fun h=>by simpa using h)
theorem KeyOk.str {P:Program}{kt:Nat}(hd:P.underlying kt=some .string):KeyOk P kt Value.string:=
 KeyOk.plain hd (fun k=>trivial) (fun k=>rfl) (fun h=>by simpa using h)

section
variable {P:Program}{T:TT}

theorem ze1 (ht:TTok P T){td:TD}{xs ys:List Value}{b:Bool}(h:eqFlat td xs ys=some b){t:Nat}{i:TI}(hi:T.get t=some i) (htd:i.d=td) (em:Bool) (d:Nat) (w:World){x:Value}(hx:isVal i xs x):
  (Instr.checkKey em (d+1) t x).run P w=.ok () w:=by
 unfold eqFlat at h
 split at h
 ·have hag:i.agg=false:=by unfold TI.agg;rw [htd]
  rcases hx with⟨h1,_⟩ | ⟨_,hx⟩
  ·rw [hag] at h1;cases h1
  simp only [List.cons.injEq,and_true] at hx
  subst hx
  unfold Instr.checkKey
  simp [Go.underlying,ht.int hi htd]
 ·have hag:i.agg=false:=by unfold TI.agg;rw [htd]
  rcases hx with⟨h1,_⟩ | ⟨_,hx⟩
  ·rw [hag] at h1;cases h1
  simp only [List.cons.injEq,and_true] at hx
  subst hx
  unfold Instr.checkKey
  simp [Go.underlying,ht.bool hi htd]
 ·have hag:i.agg=false:=by unfold TI.agg;rw [htd]
  rcases hx with⟨h1,_⟩ | ⟨_,hx⟩
  ·rw [hag] at h1;cases h1
  simp only [List.cons.injEq,and_true] at hx
  subst hx
  unfold Instr.checkKey
  simp [Go.underlying,ht.str hi htd]
 ·cases h

theorem zjE (ht:TTok P T){E:TD→List Value→List Value→Option Bool}(hE:Shaped E) (em:Bool) (d:Nat)
  (he:∀ (td:TD) (xs ys:List Value) (b:Bool),E td xs ys=some b→∀ (t:Nat) (i:TI),T.get t=some i→i.d=td→∀ (w:World),∀ x,isVal i xs x→(Instr.checkKey em d t x).run P w=.ok () w):
  ∀ (gs:List (Nat × Nat × Bool × Nat)) (xs ys:List Value) (b:Bool),eqfs T E gs xs ys=some b→∀ (fs:List Field),fieldsOk P fs gs=true→∀ (w:World),
   (forIn fs PUnit.unit (fun f (_:PUnit)=>
    if f.name≠ "_" then(do
     let v ← part f.type ⟨xs⟩ f.offset
     Instr.checkKey em d f.type v
     pure (ForInStep.yield PUnit.unit))
    else pure (ForInStep.yield PUnit.unit)):Sem PUnit).run P w=.ok PUnit.unit w:=by
 intro gs
 induction gs with
 | nil=>
  intro xs ys b h fs hfs w
  cases fs with
  | nil=>simp
  | cons f fs=>simp [fieldsOk] at hfs
 | cons g gs ih=>
  intro xs ys b h fs hfs w
  cases fs with
  | nil=>simp [fieldsOk] at hfs
  | cons f fs=>
   simp only [fieldsOk,Bool.and_eq_true] at hfs
   obtain⟨hok,hrest⟩:=hfs
   simp only [fieldOk,Bool.and_eq_true] at hok
   obtain⟨⟨⟨⟨⟨ho,hty⟩,hnm⟩,_⟩,_⟩,_⟩:=hok
   have hty':=Nat.eq_of_beq_eq_true hty
   have ho':=Nat.eq_of_beq_eq_true ho
   unfold eqfs at h
   split at h
   ·rename_i i hi
    split at h
    ·rename_i a c ha hc
     obtain⟨x,y,hx,hy⟩:=hE i _ _ a ha
     have hnm':f.name≠ "_":=by simpa using hnm
     have e1:=ze0 ht hi hx w
     have e3:=he i.d _ _ a ha g.2.2.2 i hi rfl w x hx
     rw [← hty',← ho'] at *
     simp only [List.forIn_cons,Sem.run_bind,hnm',ne_eq,not_false_eq_true,if_true,Result.andThen_ok,e1,e3,Sem.run_pure]
     simpa using ih xs ys c hc fs hrest w
    ·cases h
   ·cases h

theorem zhv (ht:TTok P T) (em:Bool):∀ (n:Nat) (td:TD) (xs ys:List Value) (b:Bool),eqc T n td xs ys=some b→∀ (t:Nat) (i:TI),T.get t=some i→i.d=td→∀ (d:Nat) (w:World),n<d→∀ x,isVal i xs x→(Instr.checkKey em d t x).run P w=.ok () w:=by
 intro n
 induction n with
 | zero=>
  intro td xs ys b h t i hi htd d w hd x hx
  obtain⟨d,rfl⟩:∃ d',d=d'+1:=⟨d - 1,by omega⟩
  exact ze1 ht h hi htd em d w hx
 | succ n ih=>
  intro td xs ys b h t i hi htd d w hd x hx
  obtain⟨d,rfl⟩:∃ d',d=d'+1:=⟨d - 1,by omega⟩
  cases td with
  | struct gs=>
   have hag:i.agg=true:=by unfold TI.agg;rw [htd]
   rcases hx with⟨_,rfl⟩ | ⟨h1,_⟩
   case inr=>rw [hag] at h1;cases h1
   obtain⟨dd,h1,h2,_⟩:=ht.desc hi
   rw [htd] at h2
   cases dd<;>simp only [descOk,Bool.false_eq_true] at h2
   rename_i fs _
   have key:=zjE ht (zh0 n) em d (fun td xs ys b h t i hi htd w x hx=>ih td xs ys b h t i hi htd d w (by omega) x hx) gs xs ys b h fs.toList h2 w
   unfold Instr.checkKey
   simp only [Sem.run_bind,run_underlying h1,Result.andThen_ok]
   rw [← Array.forIn_toList]
   refine Eq.trans (congrArg (fun r=>Result.andThen r _) key) ?_
   simp
  | _=>exact ze1 ht h hi htd em d w hx

theorem zcE {κ:Type}{kt:Nat}{ek:κ→Value}(w:World) (heq:∀ a b:κ,∃ r:Bool,(Op.equal kt (ek a) (ek b)).run P w=.ok r w∧(r=true↔a=b)) (k:κ):
  ∀ (es:List MapEntry) (i:Nat),(∀ e,e∈es→∃ k',e.key=ek k')→
   ((Instr.findAsking kt (ek k) es i).run P w=.ok none w∧∀ e,e∈es→∀ k',e.key=ek k'→k'≠k)∨
   ∃ j e,(Instr.findAsking kt (ek k) es i).run P w=.ok (some (i+j,e.val)) w∧es[j]? = some e∧e.key=ek k
 | [],i,_=>.inl ⟨by simp [Instr.findAsking],by simp⟩
 | e::es,i,hall=>by
  obtain⟨k1,q⟩:=hall e (by simp)
  obtain⟨r,hr,hiff⟩:=heq k k1
  rw [← q] at hr
  cases r with
  | false=>
   have hne:k1≠k:=fun h=>by have:=hiff.2 h.symm;cases this
   rcases zcE w heq k es (i+1) (fun y hy=>hall y (by simp [hy])) with⟨h1,h2⟩ | ⟨j,e',h1,h2,h3⟩
   ·refine .inl ⟨by simp [Instr.findAsking,hr,h1],fun y hy k' hk'=>?_⟩
    rcases List.mem_cons.1 hy with rfl | hy
    ·rintro rfl
     obtain⟨r2,d,hiff2⟩:=heq k' k'
     rw [← hk'] at d
     rw [hk'] at hr
     rw [hk'] at d
     rw [hr] at d
     cases d
     have:=hiff2.2 rfl
     cases this
    ·exact h2 y hy k' hk'
   ·exact .inr ⟨j+1,e',by simp [Instr.findAsking,hr,h1];omega,by simpa using h2,h3⟩
  | true=>
   refine .inr ⟨0,e,by simp [Instr.findAsking,hr],rfl,?_⟩
   rw [q,hiff.1 rfl]

theorem KeyOk.struct (ht:TTok P T){κ:Type}{kt:Nat}{i:TI}{gs:List (Nat × Nat × Bool × Nat)}(hi:T.get kt=some i) (hd:i.d=.struct gs){cells:κ→List Value}{b:κ→κ→Bool}
  (he:∀ x y,eqc T 9 (.struct gs) (cells x) (cells y)=some (b x y)) (hb:∀ x y,b x y=true↔x=y) (hs:∀ k,(cells k).all scalarV=true) (hinj:∀ {a b:κ},cells a=cells b→a=b):
  KeyOk P kt (fun k=>.agg ⟨cells k⟩) where
 inj:=fun {a b} h=>hinj (by simpa using h)
 check e w k:=zhv ht e 9 _ _ _ _ (he k k) kt i hi hd 10000 w (by omega) _ (.inl ⟨by unfold TI.agg;rw [hd],rfl⟩)
 find w k es hes:=by
  have hag:i.agg=true:=by unfold TI.agg;rw [hd]
  have heq:∀ x y:κ,∃ r:Bool,(Op.equal kt (.agg ⟨cells x⟩) (.agg ⟨cells y⟩)).run P w=.ok r w∧(r=true↔x=y):=fun x y=>
   ⟨b x y,by
    unfold Op.equal
    exact zjC ht 9 _ _ _ _ (he x y) kt i hi hd _ w (by decide) _ _ (.inl ⟨hag,rfl⟩) (.inl ⟨hag,rfl⟩),hb x y⟩
  obtain⟨dd,h1,h2,_⟩:=ht.desc hi
  rw [hd] at h2
  cases dd<;>simp only [descOk,Bool.false_eq_true] at h2
  rename_i fs _
  have hk:=zcE (ek:=fun k=>Value.agg ⟨cells k⟩) w heq k es 0 hes
  cases es with
  | nil=>exact .inl ⟨by simp [Instr.findKey,run_underlying h1,Instr.findNow],by simp⟩
  | cons e es=>
   have hfn:Instr.findNow (.struct fs) (.agg ⟨cells k⟩) (e::es) 0=none:=by simp [Instr.findNow,Instr.sameNow]
   have hrun:(Instr.findKey kt (.agg ⟨cells k⟩) (e::es)).run P w=(Instr.findAsking kt (.agg ⟨cells k⟩) (e::es) 0).run P w:=by
    unfold Instr.findKey
    simp only [Sem.run_bind,run_underlying h1,Result.andThen_ok,hfn]
   rw [hrun]
   rcases hk with⟨a1,a2⟩ | ⟨j,e',a1,a2,a3⟩
   ·refine .inl ⟨a1,fun y hy hyk=>?_⟩
    exact a2 y hy k hyk rfl
   ·exact .inr ⟨j,e',by simpa using a1,a2,a3⟩
 stays w k:=by
  unfold Instr.keyThatStays
  rw [zp3 (hs k) 9999]
  simp
end


section
variable {κ α:Type}[DecidableEq κ]
def mget:List (κ × α)→κ→Option α
 | [],_=>none
 | p::m,k=>if p.1=k then some p.2 else mget m k
def mput:List (κ × α)→κ→α→List (κ × α)
 | [],k,x=>[(k,x)]
 | p::m,k,x=>if p.1=k then(k,x)::m else p::mput m k x
theorem zmK {m:List (κ × α)}{k:κ}(h:∀ p,p∈m→p.1≠k):mget m k=none:=by
 induction m with
 | nil=>rfl
 | cons p m ih=>unfold mget;rw [if_neg (h p (by simp))];exact ih fun q hq=>h q (by simp [hq])
theorem zqh {m:List (κ × α)}(hn:(m.map (·.1)).Nodup){j:Nat}{k:κ}{x:α}(h:m[j]? = some (k,x)):mget m k=some x:=by
 induction m generalizing j with
 | nil=>simp at h
 | cons p m ih=>
  simp only [List.map_cons,List.nodup_cons] at hn
  unfold mget
  cases j with
  | zero=>simp only [List.getElem?_cons_zero,Option.some.injEq] at h;subst h;simp
  | succ j=>
   simp only [List.getElem?_cons_succ] at h
   have hm:k∈m.map (·.1):=List.mem_map.2 ⟨(k,x),List.mem_of_getElem? h,rfl⟩
   rw [if_neg (fun e=>hn.1 (by rw [e];exact hm))]
   exact ih hn.2 h
theorem zfX {m:List (κ × α)}{k:κ}{x:α}(h:∀ p,p∈m→p.1≠k):mput m k x=m++[(k,x)]:=by
 induction m with
 | nil=>rfl
 | cons p m ih=>unfold mput;rw [if_neg (h p (by simp)),ih fun q hq=>h q (by simp [hq])];rfl
theorem zhC {m:List (κ × α)}(hn:(m.map (·.1)).Nodup){j:Nat}{k:κ}{x y:α}(h:m[j]? = some (k,x)):mput m k y=m.set j (k,y):=by
 induction m generalizing j with
 | nil=>simp at h
 | cons p m ih=>
  simp only [List.map_cons,List.nodup_cons] at hn
  unfold mput
  cases j with
  | zero=>simp only [List.getElem?_cons_zero,Option.some.injEq] at h;subst h;simp
  | succ j=>
   simp only [List.getElem?_cons_succ] at h
   have hm:k∈m.map (·.1):=List.mem_map.2 ⟨(k,x),List.mem_of_getElem? h,rfl⟩
   rw [if_neg (fun e=>hn.1 (by rw [e];exact hm)),ih hn.2 h]
   rfl
theorem zio {m:List (κ × α)}{k:κ}{x y:α}:mput (mput m k x) k y=mput m k y:=by
 induction m with
 | nil=>simp [mput]
 | cons p m ih=>
  simp only [mput]
  by_cases h:p.1=k
  ·simp [mput,h]
  ·simp [mput,h,ih]
theorem ziq {m:List (κ × α)}{k k':κ}{x:α}:mget (mput m k x) k'=if k=k' then some x else mget m k':=by
 induction m with
 | nil=>simp [mput,mget]
 | cons p m ih=>
  unfold mput
  by_cases h:p.1=k
  ·rw [if_pos h]
   unfold mget
   by_cases h2:k=k'
   ·simp [h2]
   ·simp [h2,h]
  ·rw [if_neg h]
   unfold mget
   by_cases h2:p.1=k'
   ·rw [if_pos h2,if_neg (fun e=>h (h2.trans e.symm)),if_pos h2]
   ·rw [if_neg h2,ih,if_neg h2]
end


section
variable {κ α:Type}

def MapAt (ek:κ→Value) (ev:α→Value) (w:World) (g:Nat) (m:List (κ × α)):Prop:=
 ∃ es clock,w.heap[g]? = some (.map es clock)∧es.toList.map (fun e=>(e.key,e.val))=m.map (fun p=>(ek p.1,ev p.2))∧(m.map (·.1)).Nodup∧Stamped es clock

theorem zhE {w:World}{g:Nat}{o:Obj}(h:w.heap[g]? = some o):g<w.heap.size:=(Array.getElem?_eq_some_iff.1 h).1

theorem MapAt.same {ek:κ→Value}{ev:α→Value}{w w':World}{g:Nat}{m:List (κ × α)}(h:MapAt ek ev w g m) (hs:w'.heap[g]? = w.heap[g]?):MapAt ek ev w' g m:=by
 obtain⟨es,c,h1,h2⟩:=h
 exact⟨es,c,by rw [hs];exact h1,h2⟩
theorem MapAt.lt {ek:κ→Value}{ev:α→Value}{w:World}{g:Nat}{m:List (κ × α)}(h:MapAt ek ev w g m):g<w.heap.size:=by
 obtain⟨es,c,h1,h2⟩:=h
 exact zhE h1
theorem MapAt.ext {ek:κ→Value}{ev:α→Value}{w w':World}{g:Nat}{m:List (κ × α)}(h:MapAt ek ev w g m) (he:Ext w w'):MapAt ek ev w' g m:=h.same (he.block g h.lt)

def tMp (ek:κ→Value) (ev:α→Value):Ty (List (κ × α)) where
 size:=1
 ro:=fun w cs m=>∃ g,cs=[.map (some g)]∧MapAt ek ev w g m
 own:=fun w cs m G=>∃ g,cs=[.map (some g)]∧MapAt ek ev w g m∧G=[g]
 req:=fun _=>True
 len:=by rintro _ _ _ ⟨g,rfl,_⟩;rfl
 lenO:=by rintro _ _ _ _ ⟨g,rfl,_⟩;rfl
 ext:=by rintro _ _ _ _ he ⟨g,rfl,h⟩;exact⟨g,rfl,h.ext he⟩
 own_ro:=by rintro _ _ _ _ ⟨g,rfl,h,_⟩ _;exact⟨g,rfl,h⟩
 loc:=by rintro _ _ _ _ _ ⟨g,rfl,h,rfl⟩ hs;exact⟨g,rfl,h.same (hs g (by simp)),rfl⟩
 lt:=by rintro _ _ _ _ ⟨g,rfl,h,rfl⟩ g' hg;simp at hg;subst hg;exact h.lt
 one:=by rintro _ _ _ ⟨g,rfl,_⟩ u hu;simp at hu;subst hu;rfl
 oneO:=by rintro _ _ _ _ ⟨g,rfl,_⟩ u hu;simp at hu;subst hu;rfl

instance {W:World}{ek:κ→Value}{ev:α→Value}:Reads W (tMp ek ev):=⟨fun _=>trivial⟩

theorem mpRo {ek:κ→Value}{ev:α→Value}{w:World}{g:Nat}{m:List (κ × α)}(h:(tMp ek ev).ro w [.map (some g)] m):MapAt ek ev w g m:=by
 obtain⟨g',h1,h2⟩:=h
 simp only [List.cons.injEq,Value.map.injEq,Option.some.injEq,and_true] at h1
 subst h1
 exact h2
end


structure MapOk (P:Program){κ α:Type}(t k e:Nat) (ek:κ→Value) (ev:α→Value) (z:α):Prop where
 und:P.underlying t=some (.map k e)
 zero:(P.info? e).bind (fun i=>i.zero)=some (ev z)
 key:KeyOk P k ek

section
variable {P:Program}{κ α:Type}[DecidableEq κ] {t k e:Nat}{ek:κ→Value}{ev:α→Value}{z:α}

theorem MapOk.run_zero (h:MapOk P t k e ek ev z) (w:World):(zeroValue e).run P w=.ok (ev z) w:=by
 have hz:=h.zero
 cases hi:P.info? e with
 | none=>rw [hi] at hz;cases hz
 | some i=>
  rw [hi] at hz
  simp only [bsm] at hz
  simp [zeroValue,typeInfo,hi,hz]

theorem zhH {es:Array MapEntry}{m:List (κ × α)}(h:es.toList.map (fun e=>(e.key,e.val))=m.map (fun p=>(ek p.1,ev p.2))){j:Nat}{x:MapEntry}(hx:es.toList[j]? = some x):
  ∃ p,m[j]? = some p∧x.key=ek p.1∧x.val=ev p.2:=by
 have h1:=congrArg (fun l=>l[j]?) h
 simp only [List.getElem?_map,hx,Option.map_some] at h1
 cases hm:m[j]? with
 | none=>rw [hm] at h1;cases h1
 | some p=>
  rw [hm] at h1
  simp only [Option.map_some,Option.some.injEq,Prod.mk.injEq] at h1
  exact⟨p,rfl,h1.1,h1.2⟩

theorem zpz {es:Array MapEntry}{m:List (κ × α)}(h:es.toList.map (fun e=>(e.key,e.val))=m.map (fun p=>(ek p.1,ev p.2))):∀ x,x∈es.toList→∃ k',x.key=ek k':=fun x hx=>by
 obtain⟨j,hj⟩:=List.getElem?_of_mem hx
 obtain⟨p,_,h1,_⟩:=zhH h hj
 exact⟨p.1,h1⟩


theorem MapOk.find (h:MapOk P t k e ek ev z){es:Array MapEntry}{m:List (κ × α)}(hr:es.toList.map (fun e=>(e.key,e.val))=m.map (fun p=>(ek p.1,ev p.2))) (hn:(m.map (·.1)).Nodup) (w:World) (kk:κ):
  ((Instr.findKey k (ek kk) es.toList).run P w=.ok none w∧mget m kk=none∧(∀ p,p∈m→p.1≠kk)∧∀ x,x∈es.toList→x.key≠ek kk)∨
  ∃ j x0 v,(Instr.findKey k (ek kk) es.toList).run P w=.ok (some (j,ev v)) w∧es[j]? = some x0∧x0.key=ek kk∧m[j]? = some (kk,v)∧mget m kk=some v:=by
 rcases h.key.find w kk es.toList (zpz hr) with⟨h1,h2⟩ | ⟨j,x0,h1,h2,h3⟩
 ·have hm:∀ p,p∈m→p.1≠kk:=fun p hp hpk=>by
   obtain⟨j,hj⟩:=List.getElem?_of_mem hp
   have h4:=congrArg (fun l=>l[j]?) hr
   simp only [List.getElem?_map,hj,Option.map_some] at h4
   cases hx:es.toList[j]? with
   | none=>rw [hx] at h4;cases h4
   | some x=>
    rw [hx] at h4
    simp only [Option.map_some,Option.some.injEq,Prod.mk.injEq] at h4
    exact h2 x (List.mem_of_getElem? hx) (by rw [h4.1,hpk])
  exact .inl ⟨h1,zmK hm,hm,h2⟩
 ·obtain⟨p,hp,hk,hv⟩:=zhH hr h2
  have hpk:p.1=kk:=h.key.inj (by rw [← hk,h3])
  obtain⟨p1,p2⟩:=p
  simp only at hpk hv
  subst hpk
  exact .inr ⟨j,x0,p2,by rw [h1,hv],by simpa using h2,h3,hp,zqh hn hp⟩

theorem MapOk.run_lookup (h:MapOk P t k e ek ev z){w:World}{g:Nat}{m:List (κ × α)}(hm:MapAt ek ev w g m) (kk:κ) (ok:Bool):
  (Instr.lookup t (.map (some g)) (ek kk) ok).run P w=.ok (if ok then .tuple #[ev ((mget m kk).getD z),.bool (mget m kk).isSome] else ev ((mget m kk).getD z)) w:=by
 obtain⟨es,c,h1,h2,h3,h4⟩:=hm
 unfold Instr.lookup
 simp only [Sem.run_bind,run_underlying h.und,Result.andThen_ok,MapKept.run_getObj_map h1,Sem.run_pure,h.key.check]
 rcases h.find h2 h3 w kk with⟨a1,a2,_⟩ | ⟨j,x0,v,a1,a2,a3,a4,a5⟩
 ·simp [a1,a2,h.run_zero w]
 ·simp [a1,a5]


abbrev putMap (w:World) (g:Nat) (es:Array MapEntry) (c:Nat):World:={ w with heap:=w.heap.setIfInBounds g (.map es c) }

theorem St.putMap {W w:World}{B:List Res}{g:Nat}{m:List (κ × α)}(R':Res) (hS:St W w (Own (tMp ek ev) [.map (some g)] m::B)){es:Array MapEntry}{c:Nat}
  (hR:R'.A (putMap w g es c) [g]):St W (Go.E.putMap w g es c) (R'::B):=by
 obtain⟨G,hA,hnd,hlo⟩:=hS.sep.head
 obtain⟨g',h1,h2,rfl⟩:=hA
 simp only [List.cons.injEq,Value.map.injEq,Option.some.injEq,and_true] at h1
 subst h1
 have hge:W.heap.size≤g:=hlo g (by simp)
 have hsame:∀ b,b≠g→(Go.E.putMap w g es c).heap[b]? = w.heap[b]?:=fun b hb=>by
  show(w.heap.setIfInBounds g _)[b]? = _
  rw [Array.getElem?_setIfInBounds_ne (Ne.symm hb)]
 refine⟨⟨hS.ext.os,hS.ext.tape,hS.ext.output,?_,fun b hb=>?_⟩,hS.sep.upd hS.le fun G hG _ _=>?_⟩
 ·show W.heap.size≤(w.heap.setIfInBounds g _).size
  simpa using hS.le
 ·rw [hsame b (by omega)];exact hS.ext.block b hb
 ·obtain⟨g2,k1,k2,rfl⟩:=hG
  simp only [List.cons.injEq,Value.map.injEq,Option.some.injEq,and_true] at k1
  subst k1
  exact⟨[g],hR,by simp,fun b hb=>.inl hb,fun b _ hb=>hsame b (by simpa using hb)⟩

theorem zfR {w:World}{g:Nat}(hg:g<w.heap.size){es:Array MapEntry}{c:Nat}:(putMap w g es c).heap[g]? = some (.map es c):=by
 show(w.heap.setIfInBounds g _)[g]? = _
 rw [Array.getElem?_setIfInBounds_self_of_lt hg]

theorem zq7 {W w:World}{B:List Res}{g:Nat}{m:List (κ × α)}(hS:St W w (Own (tMp ek ev) [.map (some g)] m::B)):MapAt ek ev w g m:=by
 obtain⟨G,hA,_⟩:=hS.sep.head
 obtain⟨g',h1,h2,rfl⟩:=hA
 simp only [List.cons.injEq,Value.map.injEq,Option.some.injEq,and_true] at h1
 subst h1
 exact h2

theorem zfY {m:List (κ × α)}{kk:κ}{x:α}(hn:(m.map (·.1)).Nodup):((mput m kk x).map (·.1)).Nodup:=by
 by_cases hk:∃ p,p∈m∧p.1=kk
 ·obtain⟨⟨p1,p2⟩,hp,rfl⟩:=hk
  obtain⟨j,hj⟩:=List.getElem?_of_mem hp
  rw [zhC hn hj]
  have:((m.set j (p1,x)).map (·.1))=m.map (·.1):=by
   rw [List.map_set]
   have hl:=(List.getElem?_eq_some_iff.1 hj).1
   have h2:(m.map (·.1))[j]'(by simpa using hl)=p1:=by
    have:=(List.getElem?_eq_some_iff.1 hj).2
    simp [this]
   conv=>lhs;arg 3;rw [show((p1,x):κ × α).1=(m.map (·.1))[j]'(by simpa using hl) from h2.symm]
   exact List.set_getElem_self _
  rw [this];exact hn
 ·rw [zfX (fun p hp e=>hk ⟨p,hp,e⟩)]
  simp only [List.map_append,List.map_cons,List.map_nil]
  refine List.nodup_append.2 ⟨hn,by simp,fun a ha b hb=>?_⟩
  simp only [List.mem_singleton] at hb
  subst hb
  obtain⟨p,hp,rfl⟩:=List.mem_map.1 ha
  exact fun e=>hk ⟨p,hp,e⟩

theorem zg6 {es:Array MapEntry}{m:List (κ × α)}(h:es.toList.map (fun e=>(e.key,e.val))=m.map (fun p=>(ek p.1,ev p.2))){j:Nat}{x0:MapEntry}(hj:es[j]? = some x0){f:MapEntry→MapEntry}{p:κ × α}(hf:(f x0).key=ek p.1∧(f x0).val=ev p.2):
  (es.modify j f).toList.map (fun e=>(e.key,e.val))=(m.set j p).map (fun p=>(ek p.1,ev p.2)):=by
 have hl:j<m.length:=by
  obtain⟨q,hq,_⟩:=zhH (ek:=ek) (ev:=ev) h (show es.toList[j]? = some x0 by simpa using hj)
  exact(List.getElem?_eq_some_iff.1 hq).1
 apply List.ext_getElem?
 intro i
 have hi:=congrArg (fun l=>l[i]?) h
 simp only [List.getElem?_map,Array.getElem?_toList] at hi
 simp only [List.getElem?_map,Array.getElem?_toList,Array.getElem?_modify,List.getElem?_set]
 by_cases hij:j=i
 ·subst hij
  simp [hj,hl,hf.1,hf.2]
 ·simp only [if_neg hij]
  exact hi

def MpO (ek:κ→Value) (ev:α→Value) (g:Nat) (m:List (κ × α)) (kk:κ) (c:Int):Res where
 A:=fun w G=>G=[g]∧∃ (es:Array MapEntry) (clock j:Nat) (x0:MapEntry) (v:α),w.heap[g]? = some (.map es clock)∧es.toList.map (fun e=>(e.key,e.val))=m.map (fun p=>(ek p.1,ev p.2))∧(m.map (·.1)).Nodup∧Stamped es clock∧
  es[j]? = some x0∧x0.key=ek kk∧(x0.born:Int)=c∧m[j]? = some (kk,v)
 loc:=by
  rintro w w' G ⟨rfl,es,clock,j,x0,v,h1,h2⟩ hs
  exact⟨rfl,es,clock,j,x0,v,by rw [hs g (by simp)];exact h1,h2⟩
 lt:=by
  rintro w G ⟨rfl,es,clock,j,x0,v,h1,h2⟩ g' hg
  simp at hg
  subst hg
  exact zhE h1

theorem MapOk.run_entry (h:MapOk P t k e ek ev z){W w:World}{B:List Res}{g:Nat}{m:List (κ × α)}(hS:St W w (Own (tMp ek ev) [.map (some g)] m::B)) (kk:κ):
  ∃ w' c,(Instr.mapEntry t (.map (some g)) (ek kk)).run P w=.ok (.tuple #[ev ((mget m kk).getD z),.int .i64 c]) w'∧St W w' (MpO ek ev g (mput m kk ((mget m kk).getD z)) kk c::B):=by
 obtain⟨es,c,h1,h2,h3,h4⟩:=zq7 hS
 have hg:=zhE h1
 rcases h.find h2 h3 w kk with⟨a1,a2,a3,a4⟩ | ⟨j,x0,v,a1,a2,a3,a4,a5⟩
 ·have hl:es.size=m.length:=by simpa using congrArg List.length h2
  refine⟨putMap w g (es.push { key:=ek kk,val:=ev z,born:=c }) (c+1),c,?_,St.putMap (MpO ek ev g (mput m kk ((mget m kk).getD z)) kk c) hS ⟨rfl,_,_,es.size,{ key:=ek kk,val:=ev z,born:=c },z,zfR hg,?_,zfY h3,stamped_push h4 a4,by simp,rfl,rfl,?_⟩⟩
  ·unfold Instr.mapEntry
   simp only [Sem.run_bind,run_underlying h.und,Result.andThen_ok,MapKept.run_getObj_map h1,h.key.check,a1,h.run_zero w,MapKept.run_setObj_map _ h1,Sem.run_pure,a2,Option.getD_none,goInt]
  ·rw [zfX a3];simp [h2,a2]
  ·rw [zfX a3,hl];simp [a2]
 ·refine⟨putMap w g (es.modify j fun e=>{ e with key:=ek kk }) c,x0.born,?_,St.putMap (MpO ek ev g (mput m kk ((mget m kk).getD z)) kk x0.born) hS ⟨rfl,_,_,j,{ x0 with key:=ek kk },v,zfR hg,?_,zfY h3,?_,?_,rfl,rfl,?_⟩⟩
  ·unfold Instr.mapEntry
   simp only [Sem.run_bind,run_underlying h.und,Result.andThen_ok,MapKept.run_getObj_map h1,h.key.check,a1,a2,Option.map_some,Option.getD_some,a3,h.key.stays,MapKept.run_setObj_map _ h1,Sem.run_pure,a5,goInt]
  ·obtain⟨p,hp,_,hv⟩:=zhH h2 (show es.toList[j]? = some x0 by simpa using a2)
   rw [a4] at hp
   cases hp
   rw [a5,Option.getD_some,zhC h3 a4]
   exact zg6 h2 a2 ⟨rfl,hv⟩
  ·refine stamped_modify h4 j _ (fun e _=>rfl) (fun e _ he=>?_)
   rw [a2] at he
   cases he
   exact a3.symm
  ·simp [Array.getElem?_modify,a2]
  ·rw [a5,Option.getD_some,zhC h3 a4]
   have hl:=(List.getElem?_eq_some_iff.1 a4).1
   simp [hl]

theorem zdq {W w:World}{B:List Res}{g:Nat}{m:List (κ × α)}{kk:κ}{c:Int}(hS:St W w (MpO ek ev g m kk c::B)) (t:Nat) (x:α):
  ∃ w',(Instr.entryStore t (.map (some g)) (.int .i64 c) (ev x)).run P w=.ok () w'∧St W w' (Own (tMp ek ev) [.map (some g)] (mput m kk x)::B):=by
 obtain⟨G,hA,hnd,hlo⟩:=hS.sep.head
 obtain⟨hG,es,clock,j,x0,v,h1,h2,h3,h4,h5,h6,h7,h8⟩:=(show G=[g]∧∃ (es:Array MapEntry) (clock j:Nat) (x0:MapEntry) (v:α),w.heap[g]? = some (.map es clock)∧es.toList.map (fun e=>(e.key,e.val))=m.map (fun p=>(ek p.1,ev p.2))∧(m.map (·.1)).Nodup∧Stamped es clock∧
  es[j]? = some x0∧x0.key=ek kk∧(x0.born:Int)=c∧m[j]? = some (kk,v) from hA)
 subst hG
 have hg:=zhE h1
 have hge:W.heap.size≤g:=hlo g (by simp)
 have hfi:es.findIdx? (fun e=>(e.born:Int) == c)=some j:=by
  rw [Array.findIdx?_eq_some_iff_getElem]
  have hj:=(Array.getElem?_eq_some_iff.1 h5)
  refine⟨hj.1,by rw [hj.2];simpa using h7,fun i hij=>?_⟩
  have hil:i<es.size:=Nat.lt_trans hij hj.1
  simp only [Bool.not_eq_true,beq_eq_false_iff_ne,ne_eq]
  intro hb
  have hnb:=h4.2.1
  have e1:(es.toList.map (·.born))[i]? = some es[i].born:=by simp [hil]
  have e2:(es.toList.map (·.born))[j]? = some es[i].born:=by
   have:es[i].born=x0.born:=by omega
   simp [h5,this]
  have:=(List.getElem?_inj (by simpa using hil) hnb).1 (e1.trans e2.symm)
  omega
 have hsame:∀ (o:Obj) (b:Nat),b≠g→(w.heap.setIfInBounds g o)[b]? = w.heap[b]?:=fun o b hb=>by
  rw [Array.getElem?_setIfInBounds_ne (Ne.symm hb)]
 refine⟨putMap w g (es.modify j fun e=>{ e with val:=ev x }) clock,?_,⟨hS.ext.os,hS.ext.tape,hS.ext.output,?_,fun b hb=>?_⟩,hS.sep.upd hS.le fun G hG _ _=>?_⟩
 ·unfold Instr.entryStore
  simp only [Sem.run_bind,Result.andThen_ok,MapKept.run_getObj_map h1,asInt,asIntOf,Sem.run_pure,hfi,MapKept.run_setObj_map _ h1]
 ·show W.heap.size≤(w.heap.setIfInBounds g _).size
  simpa using hS.le
 ·show(w.heap.setIfInBounds g _)[b]? = _
  rw [hsame _ b (by omega)];exact hS.ext.block b hb
 ·obtain⟨hG1,_⟩:=(show _∧_ from hG)
  subst hG1
  refine⟨[g],⟨g,rfl,⟨_,_,zfR hg,?_,zfY h3,?_⟩,rfl⟩,by simp,fun b hb=>.inl hb,fun b _ hb=>hsame _ b (by simpa using hb)⟩
  ·rw [zhC h3 h8];exact zg6 h2 h5 ⟨h6,rfl⟩
  ·exact stamped_modify h4 j _ (fun e _=>rfl) (fun e _ _=>rfl)
end


section
variable {P:Program}{n:Nat}{Q:Post}{F:Fr}{W w:World}{ops rest:List Oper}{o:Oper}{κ α:Type}[DecidableEq κ] {t k e:Nat}{ek:κ→Value}{ev:α→Value}{z:α}

theorem Quiet.lookup (h:MapOk P t k e ek ev z){g:Nat}{m:List (κ × α)}(hm:(tMp ek ev).ro w [.map (some g)] m){x ix:Operand}(ho:o.op=.lookup t x ix false) (hx:F.ev x=some (.map (some g))){kk:κ}(hk:F.ev ix=some (ek kk)):
  Quiet P n F w o (ev ((mget m kk).getD z)):=fun a w' ha he=>by
 unfold execOp
 rw [ho]
 simp [ha.ev hx,ha.ev hk,h.run_lookup ((mpRo hm).ext he) kk false]

theorem Quiet.lookupO (h:MapOk P t k e ek ev z){B:List Res}{g:Nat}{m:List (κ × α)}{kk:κ}{c:Int}{v0:α}(hS:St W w (MpO ek ev g (mput m kk v0) kk c::B)){x ix:Operand}(ho:o.op=.lookup t x ix false) (hx:F.ev x=some (.map (some g))) (hk:F.ev ix=some (ek kk)):
  Quiet P n F w o (ev v0):=fun a w' ha he=>by
 obtain⟨G,hA,_⟩:=hS.sep.head
 obtain⟨hG,es,clock,j,x0,v,h1,h2,h3,h4,h5,h6,h7,h8⟩:=(show G=[g]∧∃ (es:Array MapEntry) (clock j:Nat) (x0:MapEntry) (v:α),w.heap[g]? = some (.map es clock)∧es.toList.map (fun e=>(e.key,e.val))=(mput m kk v0).map (fun p=>(ek p.1,ev p.2))∧((mput m kk v0).map (·.1)).Nodup∧Stamped es clock∧
  es[j]? = some x0∧x0.key=ek kk∧(x0.born:Int)=c∧(mput m kk v0)[j]? = some (kk,v) from hA)
 have hm:MapAt ek ev w g (mput m kk v0):=⟨es,clock,h1,h2,h3,h4⟩
 unfold execOp
 rw [ho]
 simp [ha.ev hx,ha.ev hk,h.run_lookup (hm.ext he) kk false,ziq]
theorem St.newMap {Rs:List Res}(hS:St W w Rs) (ek:κ→Value) (ev:α→Value):St W (w.alloc (.map #[] 0)) (Own (tMp ek ev) [.map (some w.heap.size)] ([]:List (κ × α))::Rs):=
 hS.join (Ns:=[Own (tMp ek ev) [.map (some w.heap.size)] ([]:List (κ × α))]) ⟨Ext.alloc _ _,⟨[w.heap.size],⟨w.heap.size,rfl,⟨#[],0,heap_alloc_new w _,rfl,by simp,stamped_empty 0⟩,rfl⟩,by simp,fun g hg=>by simp at hg;subst hg;exact⟨Nat.le_refl _,by simp⟩,trivial⟩⟩

theorem LM.makeMap {Rs:List Res}(ek:κ→Value) (ev:α→Value) (hS:St W w Rs){wm fu kk mm ii:Nat}{w0:World}{sk:List (List Nat × Nat)}(hsk:skOf ops=sk∧ops.length=kk) (m':Nat) (hm':mm ||| 2 ^ ii=m') (hwi:wm.testBit ii=false) (hni:nthv ops ii=some o) (hg:guardOf ops F o=some true) (ho:o.op=.makeMap t none){d:Nat}(hd:o.dst=some d) (hn:Nat.blt d n=true)
  (h:∀ g w',Ext w w'→St W w' (Own (tMp ek ev) [.map (some g)] ([]:List (κ × α))::Rs)→DM P n ops Q W w0 wm fu kk m' ((d,.map (some g))::F) w'):LM P n ops Q W w0 wm fu kk mm ii F w:=
 LM.okD hsk m' hm' hwi hni hg (v:=.map (some w.heap.size)) (fun a ha=>by
  unfold execOp
  rw [ho]
  simp [run_makeMap]) hd hn (Ext.alloc _ _) (h _ _ (Ext.alloc _ _) (hS.newMap ek ev))

theorem RW.mapEntry (hok:MapOk P t k e ek ev z){B:List Res}{g:Nat}{m:List (κ × α)}(hS:St W w (Own (tMp ek ev) [.map (some g)] m::B)) (hg:guardOf ops F o=some true){x ix:Operand}(ho:o.op=.mapEntry t x ix)
  (hx:F.ev x=some (.map (some g))){kk:κ}(hk:F.ev ix=some (ek kk)){d:Nat}(hd:o.dst=some d) (hn:Nat.blt d n=true)
  (h:∀ c w',St W w' (MpO ek ev g (mput m kk ((mget m kk).getD z)) kk c::B)→RW P n ops Q rest ((d,.tuple ⟨[ev ((mget m kk).getD z),.int .i64 c]⟩)::F) w'):RW P n ops Q (o::rest) F w:=by
 obtain⟨w',c,h1,h2⟩:=hok.run_entry hS kk
 refine RW.ok (v:=.tuple ⟨[ev ((mget m kk).getD z),.int .i64 c]⟩) (w':=w') hg (fun a ha=>?_) hd hn (h c w' h2)
 unfold execOp
 rw [ho]
 simp [ha.ev hx,ha.ev hk,h1]

theorem RW.entryStore {B:List Res}{g:Nat}{m:List (κ × α)}{kk:κ}{c:Int}{v0:α}(hS:St W w (MpO ek ev g (mput m kk v0) kk c::B)) (hg:guardOf ops F o=some true){x st y:Operand}(ho:o.op=.entryStore t x st y) (hd:o.dst=none)
  (hx:F.ev x=some (.map (some g))) (hc:F.ev st=some (.int .i64 c)){v:α}(hv:F.ev y=some (ev v)) (h:∀ w',St W w' (Own (tMp ek ev) [.map (some g)] (mput m kk v)::B)→RW P n ops Q rest F w'):RW P n ops Q (o::rest) F w:=by
 obtain⟨w',h1,h2⟩:=zdq (P:=P) hS t v
 rw [zio] at h2
 refine RW.unit (w':=w') hg (fun a ha=>?_) hd (h w' h2)
 unfold execOp
 rw [ho]
 simp [ha.ev hx,ha.ev hc,ha.ev hv,h1]

end


theorem LM.quietL {P:Program}{n:Nat}{Q:Post}{F:Fr}{w w0 W9:World}{ops:List Oper}{wm fu kk mm:Nat}{sk:List (List Nat × Nat)}{o:Oper}(hsk:skOf ops=sk∧ops.length=kk){v:Value}{ii:Nat}(m':Nat) (hm':mm ||| 2 ^ ii=m') (hwi:wm.testBit ii=false) (hni:nthv ops ii=some o) (hg:guardOf ops F o=some true) (hq:Quiet P n F w o v){d:Nat}(hd:o.dst=some d) (hn:Nat.blt d n=true)
  (h:DM P n ops Q W9 w0 wm fu kk m' ((d,v)::F) w):LM P n ops Q W9 w0 wm fu kk mm ii F w:=
 LM.okD hsk m' hm' hwi hni hg (fun a ha=>hq a w ha (Ext.refl w)) hd hn (Ext.refl w) h

theorem LM.idxL {P:Program}{n:Nat}{Q:Post}{F:Fr}{w w0 W9:World}{ops:List Oper}{wm fu kk mm:Nat}{sk:List (List Nat × Nat)}{o:Oper}{T:TT}(ht:TTok P T){α:Type}{U:Ty α}{w1:World}(he:Ext w1 w) (hsk:skOf ops=sk∧ops.length=kk){ii:Nat}(m':Nat) (hm':mm ||| 2 ^ ii=m') (hwi:wm.testBit ii=false) (hni:nthv ops ii=some o)
  (hg:guardOf ops F o=some true){t e:Nat}{x ix:Operand}{i j:TI}{A:Option Addr}{len c:Nat}{xs:List α}{k:IntKind}{m:Int}(ho:o.op=.indexAddr t x ix)
  (hi:T.get t=some i) (hd:i.d=.slice e) (hj:T.get e=some j) (hs:U.size=j.size) (hpos:0<U.size) (hx:F.ev x=some (.slice A len c)) (hm:F.ev ix=some (.int k m))
  {e':Nat}(hr:(tSl e' U).ro w1 [.slice A len c] xs){a:α}(h0:0≤m) (ha:xs[m.toNat]? = some a){d:Nat}(hd':o.dst=some d) (hn:Nat.blt d n=true)
  (h:∀ q es,At w1 q es→U.ro w1 es a→DM P n ops Q W9 w0 wm fu kk m' ((d,.pointer (some q))::F) w):LM P n ops Q W9 w0 wm fu kk mm ii F w:=by
 obtain⟨q,es,h1,h2,h3⟩:=Quiet.idx (n:=n) ht ho hi hd hj hs hpos hx hm hr h0 ha
 exact LM.quietL hsk m' hm' hwi hni hg (h1.later he) hd' hn (h q es h2 h3)
end Go.E


