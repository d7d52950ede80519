/- Values built from parts: structs, slices. Conditions: none (rules). -/
import Derived.Test.YtngggnjnenfgbaaGreatDoorOwnSl
import Derived.Laws.Tables
import Derived.Great.BuildSlice
import Derived.Laws.BytesArg
import Derived.Laws.Concat
import Derived.MapKept
import Derived.ChangeMaps4
namespace Go.E
open Go.RowKit
set_option linter.unusedVariables false
set_option linter.unusedSimpArgs false


def fillV (fs:List (Nat × Nat × Bool × Nat)):List Value→List (Nat × Value)→Option (List Value)
  | cs,[]=>some cs
  | cs,(i,v)::r=>match nthv fs i with
    | some g=>match Nat.beq (cellsV v).length g.2.1,setAt cs g.1 (cellsV v) with
      | true,some cs'=>fillV fs cs' r
      | _,_=>none
    | none=>none

def partsOf (F:Fr):List (Nat × Operand)→Option (List (Nat × Value))
  | []=>some []
  | (i,x)::r=>match F.ev x,partsOf F r with
    | some v,some l=>some ((i,v)::l)
    | _,_=>none

theorem z5x {F:Fr}{n:Nat}{a:Act}(ha:Fits n F a):∀ {l:List (Nat × Operand)}{vs:List (Nat × Value)},partsOf F l=some vs→l.map (fun p=>(p.1,a.eval p.2))=vs
  | [],vs,h=>by simp only [partsOf,Option.some.injEq] at h;subst h;rfl
  | (i,x)::r,vs,h=>by
    unfold partsOf at h
    split at h
    · rename_i v l hv hl
      simp only [Option.some.injEq] at h;subst h
      simp only [List.map_cons,ha.ev hv,z5x ha hl]
    · cases h

theorem z7S:∀ (vs cs cs':List Value) (off k:Nat),setAt cs (off+k) vs=some cs'→
    ((vs.zipIdx k).foldl (fun(c:Array Value) (p:Value × Nat)=>c.setIfInBounds (off+p.2) p.1) ⟨cs⟩)=⟨cs'⟩∧(vs≠[]→off+k+vs.length≤cs.length)∧cs'.length=cs.length
  | [],cs,cs',off,k,h=>by
    simp only [setAt,Option.some.injEq] at h;subst h
    exact⟨rfl,fun h=>absurd rfl h,rfl⟩
  | v::vs,cs,cs',off,k,h=>by
    unfold setAt at h
    split at h
    · rename_i hlt
      have hlt':off+k<cs.length:=by simpa using hlt
      obtain⟨h1,h2,h3⟩:=z7S vs (cs.set (off+k) v) cs' off (k+1) h
      refine⟨?_,fun _=>?_,by simpa using h3⟩
      · rw [List.zipIdx_cons,List.foldl_cons]
        have:(⟨cs⟩:Array Value).setIfInBounds (off+k) v=⟨cs.set (off+k) v⟩:=by simp
        rw [this]
        exact h1
      · cases vs with
        | nil=>simp;omega
        | cons u us=>
          have:=h2 (by simp)
          simp only [List.length_set,List.length_cons] at this ⊢
          omega
    · cases h

theorem z8Y {P:Program}:∀ {fs:List Field}{gs:List (Nat × Nat × Bool × Nat)},fieldsOk P fs gs=true→
    ∃ places,fs.mapM (fun f=>(P.info? f.type).map fun i=>(f.offset,i.size))=some places∧∀ (j:Nat) g,gs[j]? = some g→places[j]? = some (g.1,g.2.1)
  | [],[],_=>⟨[],rfl,fun j g h=>by simp at h⟩
  | [],_::_,h=>by simp [fieldsOk] at h
  | _::_,[],h=>by simp [fieldsOk] at h
  | f::fs,g::gs,h=>by
    unfold fieldsOk fieldOk at h
    cases hi:P.info? f.type with
    | none=>simp [hi] at h
    | some i=>
      simp only [hi,Bool.and_eq_true,Nat.beq_eq] at h
      obtain⟨places,h1,h2⟩:=z8Y (fs:=fs) (gs:=gs) h.2
      refine⟨(f.offset,i.size)::places,by simp [List.mapM_cons,hi,h1],fun j g' hg=>?_⟩
      cases j with
      | zero=>
        simp only [List.getElem?_cons_zero,Option.some.injEq] at hg
        subst hg
        simp [h]
      | succ j=>simpa using h2 j g' (by simpa using hg)

theorem z8p {gs:List (Nat × Nat × Bool × Nat)}{place:Nat→Option (Nat × Nat)}(hp:∀ (j:Nat) g,gs[j]? = some g→place j=some (g.1,g.2.1)) (hpos:∀ (j:Nat) g,gs[j]? = some g→g.2.1≠0):
    ∀ (parts:List (Nat × Value)) (cs cs':List Value),fillV gs cs parts=some cs'→Instr.fill place ⟨cs⟩ parts=some ⟨cs'⟩
  | [],cs,cs',h=>by simp only [fillV,Option.some.injEq] at h;subst h;rfl
  | (i,v)::r,cs,cs',h=>by
    unfold fillV at h
    split at h
    · rename_i g hg
      rw [z1p] at hg
      split at h
      · rename_i cs2 hl hs
        obtain⟨h1,h2,h3⟩:=z7S (cellsV v) cs cs2 g.1 0 hs
        have hl':(cellsV v).length=g.2.1:=by simpa using hl
        have hne:cellsV v≠[]:=fun hn=>hpos i g hg (by rw [← hl',hn];rfl)
        have hc:v.cells=⟨cellsV v⟩:=by rw [← z3k]
        unfold Instr.fill
        simp only [hp i g hg]
        rw [if_neg (by
          have:=h2 hne
          simp [hc,hl'];omega)]
        rw [hc]
        have h1':Array.foldl (fun(c:Array Value) (p:Value × Nat)=>c.setIfInBounds (g.1+p.2) p.1) (⟨cs⟩:Array Value) (Array.zipIdx (⟨cellsV v⟩:Array Value))=⟨cs2⟩:=by
          simpa using h1
        exact Eq.trans (congrArg (fun c=>Instr.fill place c r) h1') (z8p hp hpos r cs2 cs' h)
      · cases h
    · cases h

theorem Quiet.build {P:Program}{T:TT}(ht:TTok P T){n:Nat}{F:Fr}{w:Base}{o:Oper}{t:Nat}{ps:List (Nat × Operand)}{i:TI}{gs:List (Nat × Nat × Bool × Nat)}{vs:List (Nat × Value)}{cs:List Value}
    (ho:o.op=.build t ⟨ps⟩) (hi:T.get t=some i) (hd:i.d=.struct gs) (hv:partsOf F ps=some vs) (hc:fillV gs i.zero vs=some cs):Quiet P n F w o (.agg ⟨cs⟩):=by
  intro a w' ha _
  obtain⟨it,hit,_,_,z,hz,hzc⟩:=ht.info hi
  obtain⟨d,h1,h2,_⟩:=ht.desc hi
  rw [hd] at h2
  cases d<;>simp only [descOk,Bool.false_eq_true] at h2
  rename_i fs _
  obtain⟨places,hp1,hp2⟩:=z8Y h2
  have hpos:∀ (j:Nat) g,gs[j]? = some g→g.2.1≠0:=fun j g hg=>by
    obtain⟨_,_,_,_,_,h,_⟩:=ht.field hi hd hg
    exact h
  have hfill:=z8p (place:=(places.toArray[·]?)) (fun j g hg=>by simpa using hp2 j g hg) hpos vs i.zero cs hc
  have hb:P.built t vs=some ⟨cs⟩:=by
    unfold Program.built
    simp only [hit,h1,hz,hp1]
    rw [show z.cells=⟨i.zero⟩ from by rw [← hzc]]
    exact hfill
  unfold execOp
  rw [ho]
  have:=run_build (P:=P) w' t ⟨vs⟩ ⟨cs⟩ hb
  have he:(#[]++(⟨ps⟩:Array (Nat × Operand))).map (fun(p:Nat × Operand)=>(p.1,a.eval p.2))=⟨vs⟩:=by
    simp [z5x ha hv]
  simp only [Array.empty_append] at he
  simp [show Array.map (fun x:Nat × Operand=>(x.fst,a.eval x.snd)) ⟨ps⟩=⟨vs⟩ from he,this]

theorem St.boxSl {α:Type}{U:Ty α}{W:Base}{w:World}{B:List Res}{g e:Nat}{els:List Value}{ys:List α}(hS:St W w (Box g els e::OwnEls U els ys::B)) (hmax:ys.length≤maxLen):
    St W w (Own (tSl e U) [.slice (some ⟨g,0,none⟩) ys.length ys.length] ys::B):=
  hS.fuse.conv fun G hG=>by
    obtain⟨H,K,rfl,⟨rfl,hh⟩,hk⟩:=hG
    have hl:els.length=ys.length*U.size:=ElsO.length hk
    exact z5W (w:=w) (e:=e) (U:=U) (xs:=ys) (g:=g) (cap:=ys.length) (els:=els) (rest:=[]) (K:=K) (by rw [List.append_nil];exact hh) (Nat.le_refl _) hmax (by rw [List.append_nil];exact hl) hl hk

theorem z5U {P:Program}{t e:TypeId}{i:TypeInfo}(w:World) (hu:P.underlying t=some (.slice e)) (hi:P.info? e=some i):
    (Instr.buildSlice t 0 #[]).run P w=.ok (.slice (some ⟨w.heap.size,0,none⟩) 0 0) (w.alloc (.cells #[] e)):=by
  simp [Instr.buildSlice,run_underlying hu,sizeOf,typeInfo,hi,newRow,Instr.fill]
  rw [show Array.range 0 = #[] from by simp [Array.range],Array.map_empty]

theorem RW.newSlice0 {α:Type}{U:Ty α}{P:Program}{T:TT}(ht:TTok P T){n:Nat}{ops rest:List Oper}{Q:Post}{F:Fr}{W:Base}{w:World}{Rs:List Res}{o:Oper}{t e:Nat}{i j:TI}(hS:St W w Rs) (hg:guardOf ops F o=some true)
    (ho:o.op=.buildSlice t 0 #[]) (hi:T.get t=some i) (hd:i.d=.slice e) (hj:T.get e=some j){d:Nat}(hd':o.dst=some d) (hn:Nat.blt d n=true)
    (h:∀ A k (w':World),Ext w w'→St W w' (Own (tSl e U) [.slice A ([]:List α).length k] []::Rs)→RW P n ops Q rest ((d,.slice A ([]:List α).length k)::F) w'):RW P n ops Q (o::rest) F w:=by
  obtain⟨jj,hjj,_⟩:=ht.info hj
  refine RW.ok (v:=.slice (some ⟨w.heap.size,0,none⟩) 0 0) hg (fun a ha=>?_) hd' hn (h (some ⟨w.heap.size,0,none⟩) 0 _ (Ext.alloc w (.cells #[] e)) ?_)
  · unfold execOp
    rw [ho]
    simp [z5U w (ht.slice hi hd) hjj]
  · have h1:=(hS.flatEls (U:=U) (els:=[]) (ys:=[]) ⟨rfl,rfl⟩).new [] e
    exact St.boxSl (ys:=([]:List α)) h1 (Nat.zero_le _)


def Flat {α:Type}(T:Ty α):Prop:=∀ {w:World}{cs:List Value}{x:α},T.ro w cs x→T.own w cs x []
theorem Flat.int:Flat tInt:=fun h=>⟨h,rfl⟩
theorem Flat.intK {k:IntKind}:Flat (tIntK k):=fun h=>⟨h,rfl⟩
theorem Flat.bool:Flat tBool:=fun h=>⟨h,rfl⟩
theorem Flat.str:Flat tStr:=fun h=>⟨h,rfl⟩
theorem Flat.unit:Flat tUnit:=fun h=>⟨h,rfl⟩
theorem Flat.pair {α β:Type}{T:Ty α}{U:Ty β}(h:Flat T) (k:Flat U):Flat (tPair T U):=by
  rintro w _ x ⟨c,d,rfl,h1,h2⟩
  exact⟨c,d,[],[],rfl,rfl,h h1,k h2⟩
theorem Flat.map {α β:Type}{f:β→α}{T:Ty α}(h:Flat T):Flat (tMap f T):=fun k=>h k

theorem Els.flat {α:Type}{T:Ty α}(hf:Flat T){w:World}:∀ {xs:List α}{cs:List Value},Els T w cs xs→ElsO T w cs xs []
  | [],_,h=>⟨h,rfl⟩
  | _::_,_,⟨c,d,h,h1,h2⟩=>⟨c,d,[],[],h,rfl,hf h1,Els.flat hf h2⟩


theorem RW.appendRo {α:Type}{U:Ty α}{P:Program}{T:TT}(ht:TTok P T) (hfl:Flat U){n:Nat}{ops rest:List Oper}{Q:Post}{F:Fr}{W:Base}{w:World}{B:List Res}{o:Oper}{e:Nat}{A:Option Addr}{k:Nat}{xs ys:List α}
    (hS:St W w (Own (tSl e U) [.slice A xs.length k] xs::B)) (hg:guardOf ops F o=some true)
    {t:Nat}{s x:Operand}{i j:TI}(ho:o.op=.call { callee:=.builtin .append,args:=#[s,x],argTypes:=#[t,t] }) (hi:T.get t=some i) (hd:i.d=.slice e) (hj:T.get e=some j) (hs:U.size=j.size) (hpos:0<U.size)
    (hx:F.ev s=some (.slice A xs.length k)){A2:Option Addr}{k2:Nat}(hy:F.ev x=some (.slice A2 ys.length k2)){e':Nat}(hr:(tSl e' U).ro w [.slice A2 ys.length k2] ys)
    (y:(xs.length:Int)+ys.length≤4294967296) (hb:j.bytes≤32768){d:Nat}(hd':o.dst=some d) (hn:Nat.blt d n=true)
    (h:∀ A' k' (w':World),St W w' (Own (tSl e U) [.slice A' (xs++ys).length k'] (xs++ys)::B)→RW P n ops Q rest ((d,.slice A' (xs++ys).length k')::F) w'):RW P n ops Q (o::rest) F w:=by
  obtain⟨A3,c3,els,he,hc,h1,h2⟩:=hr
  simp only [List.cons.injEq,Value.slice.injEq,and_true] at he
  obtain⟨rfl,_,rfl⟩:=he
  have b:=(hS.flatEls (U:=U) (els:=els) (ys:=ys) (Els.flat hfl h1)).bring 1 rfl
  have hm:(xs.length+ys.length)*j.bytes≤4294967296*32768:=Nat.mul_le_mul (by omega) hb
  exact RW.append ht b hg ho hi hd hj hs hpos hx hy h2 (by simp only [maxLen];omega) (by omega) hd' hn h


theorem zb1 {P:Program}{t e:TypeId}(w:World) (A:Option Addr) (n c:Nat) (ht:P.underlying t=some (.slice e)):(binOp .eql t (.slice A n c) (.slice none 0 0)).run P w=.ok (.bool A.isNone) w:=by
  have h:∀ d,(Op.equalIn (d+1) t (.slice A n c) (.slice none 0 0)).run P w=.ok A.isNone w:=fun d=>by cases A<;>simp [Op.equalIn,run_underlying ht]
  simp only [binOp,Op.equal,Op.maxDepth]
  simp [h 9999]

theorem Quiet.nilEq {P:Program}{T:TT}(ht:TTok P T){n:Nat}{F:Fr}{w:Base}{o:Oper}{t u e:Nat}{x y:Operand}{i:TI}{A:Option Addr}{l c:Nat}
    (ho:o.op=.binOp .eql t x y u) (hi:T.get t=some i) (hd:i.d=.slice e) (hx:F.ev x=some (.slice A l c)) (hy:F.ev y=some (.slice none 0 0)):Quiet P n F w o (.bool A.isNone):=by
  intro a w' ha _
  unfold execOp
  rw [ho]
  have hg:(eqGuard .eql t x y (.slice A l c) (.slice none 0 0)).run P w'=.ok () w':=by unfold eqGuard;simp
  simp [ha.ev hx,ha.ev hy,hg,zb1 w' A l c (ht.slice hi hd)]

theorem zcZ {α:Type}{U:Ty α}{e:Nat}{w:World}{xs:List α}{n c:Nat}(hpos:0<U.size) (hr:(tSl e U).ro w [.slice none n c] xs):xs=[]:=by
  obtain⟨A,c',els,he,_,h1,h2⟩:=hr
  simp only [List.cons.injEq,Value.slice.injEq,and_true] at he
  obtain⟨rfl,_,_⟩:=he
  have hl:=h1.length
  by_cases hn:els=[]
  · subst hn
    have h0:xs.length*U.size=0:=by simpa using hl.symm
    rcases Nat.mul_eq_zero.1 h0 with h | h
    · exact List.eq_nil_of_length_eq_zero h
    · omega
  · obtain⟨p,hp,_⟩:=h2 hn
    cases hp


def slots (size:Nat):Nat→Nat→List (Nat × Nat × Bool × Nat)
  | _,0=>[]
  | i,k+1=>(i*size,size,false,0)::slots size (i+1) k

theorem z6k (size:Nat):∀ (k i j:Nat) g,(slots size i k)[j]? = some g→g=((i+j)*size,size,false,0)
  | 0,i,j,g,h=>by simp [slots] at h
  | k+1,i,0,g,h=>by simp [slots] at h;simp [h]
  | k+1,i,j+1,g,h=>by
    have:=z6k size k (i+1) j g (by simpa [slots] using h)
    rw [this,show i+1+j=i+(j+1) by omega]

theorem RW.newSlice {α:Type}{U:Ty α}{P:Program}{T:TT}(ht:TTok P T){n:Nat}{ops rest:List Oper}{Q:Post}{F:Fr}{W:Base}{w:World}{Rs:List Res}{o:Oper}{t e m:Nat}{ps:List (Nat × Operand)}{vs:List (Nat × Value)}{els:List Value}{ys:List α}{i j:TI}
    (hS:St W w (OwnEls U els ys::Rs)) (hg:guardOf ops F o=some true)
    (ho:o.op=.buildSlice t m ⟨ps⟩) (hi:T.get t=some i) (hd:i.d=.slice e) (hj:T.get e=some j) (hv:partsOf F ps=some vs) (hf:fillV (slots j.size 0 m) (chunks m j.zero) vs=some els)
    (hm:ys.length=m) (hpos:Nat.ble 1 (m*j.size)=true) (hsm:Nat.ble (m*j.size) 16777216=true){d:Nat}(hd':o.dst=some d) (hn:Nat.blt d n=true)
    (h:∀ A k (w':World),Ext w w'→St W w' (Own (tSl e U) [.slice A ys.length k] ys::Rs)→RW P n ops Q rest ((d,.slice A ys.length k)::F) w'):RW P n ops Q (o::rest) F w:=by
  obtain⟨jj,hjj,hsz,_,zz,hzz,hzc⟩:=ht.info hj
  have h1:1≤m*j.size:=by simpa using hpos
  have h2:m*j.size≤16777216:=by simpa using hsm
  have hzl:j.zero.length=j.size:=by
    have:=ht.zlen hj
    exact this
  have hcells:(Array.range (m*jj.size)).map (zz.cells[· % zz.cells.size]!)=⟨chunks m j.zero⟩:=by
    have:=z55 j.zero m
    rw [hzl] at this
    rw [hsz,show zz.cells=⟨j.zero⟩ from by rw [← hzc]]
    have h5:madeCells ⟨j.zero⟩ (m*j.size)=⟨chunks m j.zero⟩:=by rw [← this]
    exact h5
  have hfill:=z8p (place:=fun i=>some (i*jj.size,jj.size)) (gs:=slots j.size 0 m) (fun a g hg=>by rw [z6k _ _ _ _ _ hg,hsz];simp) (fun a g hg=>by
    rw [z6k _ _ _ _ _ hg]
    intro h0
    have:j.size=0:=h0
    rw [this] at h1;omega) vs _ els hf
  have hr:=run_buildSlice (P:=P) w t e m ⟨vs⟩ ⟨els⟩ jj zz (ht.slice hi hd) hjj hzz (by rw [hsz];omega) (by rw [hsz];omega) (by rw [hcells];exact hfill)
  subst hm
  refine RW.ok (v:=.slice (some ⟨w.heap.size,0,none⟩) ys.length ys.length) hg (fun a ha=>?_) hd' hn (h (some ⟨w.heap.size,0,none⟩) ys.length _ (Ext.alloc w (.cells ⟨els⟩ e)) ?_)
  · unfold execOp
    rw [ho]
    have he:(⟨ps⟩:Array (Nat × Operand)).map (fun(p:Nat × Operand)=>(p.1,a.eval p.2))=⟨vs⟩:=by
      simp [z5x ha hv]
    simp [show Array.map (fun x:Nat × Operand=>(x.fst,a.eval x.snd)) ⟨ps⟩=⟨vs⟩ from he,hr]
  · have b:1≤j.size:=by
      rcases Nat.eq_zero_or_pos j.size with h0 | h0
      · rw [h0] at h1;omega
      · exact h0
    exact St.boxSl (hS.new els e) (by
      have:ys.length*1≤ys.length*j.size:=Nat.mul_le_mul_left _ b
      unfold maxLen;omega)


theorem St.els {α:Type}{U:Ty α}{W:Base}{w:World}{B:List Res}{e:Nat}{A:Option Addr}{k l:Nat}{ys:List α}(h:St W w (Own (tSl e U) [.slice A l k] ys::B)):
    ∃ els,St W w (OwnEls U els ys::B)∧(els≠[]→∃ p,A=some p∧At w p els):=by
  obtain⟨he,G,hG,hnd,hlo,hrest⟩:=h
  obtain⟨v,els,hv,ho,K,hk,rfl⟩:=hG
  simp only [List.cons.injEq,and_true] at hv
  subst hv
  refine⟨els,⟨he,K,hk,(List.nodup_append.1 hnd).2.1,fun g hg=>hlo g (List.mem_append_right _ hg),hrest.congr fun g hg=>?_⟩,fun hn=>?_⟩
  · rcases List.mem_append.1 hg with hg | hg
    · exact List.mem_append_left _ (List.mem_append_right _ hg)
    · exact List.mem_append_right _ hg
  · rcases ho.2 with⟨_,hn0⟩ | ⟨g,cap,cur,hv,_,hh,hnc,_,hsz,htk⟩
    · have:=hk.length
      rw [hn0,Nat.zero_mul] at this
      exact absurd (List.eq_nil_of_length_eq_zero this) hn
    · simp only [Value.slice.injEq] at hv
      obtain⟨rfl,_,_⟩:=hv
      refine⟨_,rfl,fun j u hu=>?_⟩
      have:Addr.add ⟨g,0,none⟩ j=⟨g,j,none⟩:=by unfold Addr.add;by_cases hj:j=0<;>simp [hj]
      rw [this,cell_of_row w g j cur e (0,0) hh]
      rw [← htk] at hu
      rw [List.getElem?_take] at hu
      split at hu
      · simpa using hu
      · cases hu


theorem RW.appendOwn {α:Type}{U:Ty α}{P:Program}{T:TT}(ht:TTok P T){n:Nat}{ops rest:List Oper}{Q:Post}{F:Fr}{W:Base}{w:World}{B:List Res}{o:Oper}{e e':Nat}{A A2:Option Addr}{k k2:Nat}{xs ys:List α}
    (hS:St W w (Own (tSl e' U) [.slice A2 ys.length k2] ys::Own (tSl e U) [.slice A xs.length k] xs::B)) (hg:guardOf ops F o=some true)
    {t:Nat}{s x:Operand}{i j:TI}(ho:o.op=.call { callee:=.builtin .append,args:=#[s,x],argTypes:=#[t,t] }) (hi:T.get t=some i) (hd:i.d=.slice e) (hj:T.get e=some j) (hs:U.size=j.size) (hpos:0<U.size)
    (hx:F.ev s=some (.slice A xs.length k)) (hy:F.ev x=some (.slice A2 ys.length k2))
    (b:(xs.length:Int)+ys.length≤4294967296) (hb:j.bytes≤32768){d:Nat}(hd':o.dst=some d) (hn:Nat.blt d n=true)
    (h:∀ A' k' (w':World),St W w' (Own (tSl e U) [.slice A' (xs++ys).length k'] (xs++ys)::B)→RW P n ops Q rest ((d,.slice A' (xs++ys).length k')::F) w'):RW P n ops Q (o::rest) F w:=by
  obtain⟨els,h1,h2⟩:=hS.els
  have hm:(xs.length+ys.length)*j.bytes≤4294967296*32768:=Nat.mul_le_mul (by omega) hb
  exact RW.append ht (h1.bring 1 rfl) hg ho hi hd hj hs hpos hx hy h2 (by simp only [maxLen];omega) (by omega) hd' hn h
end Go.E


namespace Go.E
open Go.RowKit


def Hole {α:Type}(U:Ty α) (e:Nat) (v:Value) (xs:List α) (i:Nat) (es:List Value):Res where
  A:=fun w G=>∃ g cap c1 c2 rest G1 G2,v=.slice (some ⟨g,0,none⟩) xs.length cap∧w.heap[g]? = some (.cells ⟨(c1++(es++c2))++rest⟩ e (0,0))∧xs.length≤cap∧cap≤maxLen∧
    ((c1++(es++c2))++rest).length=cap*U.size∧c1.length=i*U.size∧es.length=U.size∧i<xs.length∧ElsO U w c1 (xs.take i) G1∧ElsO U w c2 (xs.drop (i+1)) G2∧G=g::(G1++G2)
  loc:=by
    rintro w w' G ⟨g,cap,c1,c2,rest,G1,G2,hv,hh,a1,a2,a3,a4,a5,a6,k1,k2,rfl⟩ hs
    exact⟨g,cap,c1,c2,rest,G1,G2,hv,by rw [hs g (by simp)];exact hh,a1,a2,a3,a4,a5,a6,k1.loc fun b hb=>hs b (by simp [hb]),k2.loc fun b hb=>hs b (by simp [hb]),rfl⟩
  lt:=by
    rintro w G ⟨g,cap,c1,c2,rest,G1,G2,hv,hh,a1,a2,a3,a4,a5,a6,k1,k2,rfl⟩ b hb
    simp only [List.mem_cons,List.mem_append] at hb
    rcases hb with rfl | hb | hb
    · rcases Nat.lt_or_ge b w.heap.size with h | h
      · exact h
      · rw [Array.getElem?_eq_none h] at hh;cases hh
    · exact k1.lt b hb
    · exact k2.lt b hb

theorem z5K {c1 es c2 rest es' vs:List Value}{off:Nat}(h:setAt es off vs=some es'):setAt ((c1++(es++c2))++rest) (c1.length+off) vs=some ((c1++(es'++c2))++rest):=by
  refine z5f _ _ _ _ ?_
  have key:∀ (vs es es':List Value) (off:Nat),setAt es off vs=some es'→setAt (c1++es) (c1.length+off) vs=some (c1++es'):=by
    intro vs
    induction vs with
    | nil=>intro es es' off h;simp only [setAt,Option.some.injEq] at h ⊢;rw [h]
    | cons v vs ih=>
      intro es es' off h
      unfold setAt at h ⊢
      split at h
      · rename_i hlt
        have h1:off<es.length:=by simpa using hlt
        have h2:Nat.blt (c1.length+off) (c1++es).length=true:=by simp;omega
        rw [h2]
        have:(c1++es).set (c1.length+off) v=c1++es.set off v:=by rw [List.set_append_right _ _ (by omega)];simp
        simp only [this]
        exact ih _ _ (off+1) h
      · cases h
  exact key _ _ _ _ (z5f _ _ _ _ h)

set_option linter.unusedVariables false
set_option linter.unusedSimpArgs false
section
variable {α:Type}{U:Ty α}{e:Nat}{W:Base}{w:World}{B:List Res}{A:Option Addr}{k n i:Nat}{xs:List α}{a:α}{es:List Value}

theorem St.focus (h:St W w (Own (tSl e U) [.slice A xs.length k] xs::B)) (hx:xs[i]? = some a):∃ es,St W w (Hole U e (.slice A xs.length k) xs i es::Own U es a::B):=by
  obtain⟨he,G,hG,hnd,hlo,hrest⟩:=h
  have hi:=(List.getElem?_eq_some_iff.1 hx).1
  obtain⟨g,cap,els,rst,K,hv,hh,hc,hm,hl,hel,hk,rfl⟩:=z6p hG (by rintro rfl;simp at hi)
  obtain⟨c1,es,c2,G1,H,G2,rfl,rfl,O,k1,k2,k3⟩:=hk.split hx
  refine⟨es,he,g::(G1++G2),⟨g,cap,c1,c2,rst,G1,G2,hv,hh,hc,hm,hl,O,U.lenO k2,hi,k1,k3,rfl⟩,?_,fun b hb=>⟨(hlo b ?_).1,by simp⟩,H,k2,?_,fun b hb=>⟨(hlo b (by simp [hb])).1,?_⟩,hrest.congr fun b hb=>?_⟩
  · simp only [List.nodup_cons,List.mem_append,List.nodup_append,not_or] at hnd ⊢
    obtain⟨⟨h1,h2,h3⟩,h4,⟨h5,h6,h7⟩,h8⟩:=hnd
    exact⟨⟨h1,h3⟩,h4,h6,fun a ha b hb=>h8 a ha b (.inr hb)⟩
  · simp only [List.mem_cons,List.mem_append] at hb ⊢
    rcases hb with hb | hb | hb<;>simp [hb]
  · simp only [List.nodup_cons,List.nodup_append] at hnd
    exact hnd.2.2.1.1
  · simp only [List.nodup_cons,List.mem_append,List.nodup_append,not_or,List.append_nil,List.mem_cons] at hnd ⊢
    obtain⟨⟨h1,h2,h3⟩,h4,⟨h5,h6,h7⟩,h8⟩:=hnd
    exact⟨fun hbg=>h2 (hbg ▸ hb),fun d=>h8 b d b (.inl hb) rfl,fun y=>h7 b hb b y rfl⟩
  · simp only [List.mem_append,List.mem_cons,List.append_nil] at hb ⊢
    rcases hb with hb | hb | hb | hb<;>simp [hb]

theorem St.turn {R R':Res}(h:St W w (R::B)) (hc:∀ G,R.A w G→G.Nodup→∃ G',R'.A w G'∧G'.Nodup∧∀ g,g∈G'→g∈G):St W w (R'::B):=
  ⟨h.ext,h.sep.upd h.up fun G hG hn _=>by
    obtain⟨G',h1,h2,h3⟩:=hc G hG hn
    exact⟨G',h1,h2,fun g hg=>.inl (h3 g hg),fun _ _ _=>rfl⟩⟩

theorem St.unfocus (h:St W w (Hole U e (.slice A xs.length k) xs i es::Own U es a::B)):St W w (Own (tSl e U) [.slice A (xs.set i a).length k] (xs.set i a)::B):=
  h.fuse.turn fun G hG hnd=>by
    obtain⟨H,K,rfl,⟨g,cap,c1,c2,rest,G1,G2,hv,hh,a1,a2,a3,a4,a5,a6,k1,k2,rfl⟩,hk⟩:=hG
    simp only [Value.slice.injEq,true_and] at hv
    obtain⟨rfl,rfl⟩:=hv
    have hset:xs.set i a=xs.take i++(a::xs.drop (i+1)):=by rw [List.set_eq_take_append_cons_drop,if_pos a6]
    have hsub:ElsO U w (c1++(es++c2)) (xs.set i a) (G1++(K++G2)):=by
      rw [hset]
      exact k1.append ⟨es,c2,K,G2,rfl,rfl,hk,k2⟩
    have hown:=z5W (w:=w) (e:=e) (U:=U) (xs:=xs.set i a) (g:=g) (els:=c1++(es++c2)) (rest:=rest) (K:=G1++(K++G2)) hh (by simpa using a1) a2 a3 hsub.length hsub
    refine⟨_,hown,?_,fun b hb=>?_⟩
    · simp only [List.cons_append,List.nodup_cons,List.mem_append,List.nodup_append,not_or] at hnd ⊢
      obtain⟨⟨⟨h1,h2⟩,h3⟩,⟨h4,h5,h6⟩,h7,h8⟩:=hnd
      refine⟨⟨h1,h3,h2⟩,h4,⟨h7,h5,fun x hx y hy hxy=>h8 y (.inr hy) x hx hxy.symm⟩,fun x hx y hy=>?_⟩
      rcases hy with hy | hy
      · exact h8 x (.inl hx) y hy
      · exact h6 x hx y hy
    · simp only [List.mem_append,List.mem_cons,List.cons_append] at hb ⊢
      rcases hb with hb | hb | hb | hb<;>simp [hb]


def ElAt (U:Ty α) (A:Option Addr) (i:Nat) (q:Addr):Prop:=∃ g,A=some ⟨g,0,none⟩∧q=⟨g,i*U.size,none⟩

theorem St.hole_at (h:St W w (Hole U e (.slice A xs.length k) xs i es::B)){q:Addr}(hq:ElAt U A i q):At w q es:=by
  obtain⟨G,⟨g,cap,c1,c2,rest,G1,G2,hv,hh,a1,a2,a3,a4,a5,a6,k1,k2,rfl⟩,_⟩:=h.sep.head
  obtain⟨g',rfl,rfl⟩:=hq
  simp only [Value.slice.injEq,Option.some.injEq,Addr.mk.injEq,and_true,true_and] at hv
  obtain⟨rfl,rfl⟩:=hv
  intro j u hu
  have hj:=(List.getElem?_eq_some_iff.1 hu).1
  rw [z77,cell_of_row w g' _ _ e (0,0) hh]
  simp only [List.getElem?_toArray]
  rw [List.append_assoc,List.getElem?_append_right (by omega),a4,Nat.add_sub_cancel_left,List.append_assoc,List.getElem?_append_left hj]
  exact hu

end

section
variable {P:Program}{n:Nat}{Q:Post}{F:Fr}{W:Base}{w:World}{ops rest:List Oper}{o:Oper}{T:TT}(ht:TTok P T)
include ht


theorem RW.idxHole {α:Type}{U:Ty α}{A:Option Addr}{k ln:Nat}(hA:∃ g,A=some ⟨g,0,none⟩) (hg:guardOf ops F o=some true){t e':Nat}{x ix:Operand}{i j:TI}
    {kd:IntKind}{m:Int}(ho:o.op=.indexAddr t x ix) (hi:T.get t=some i) (hd:i.d=.slice e') (hj:T.get e'=some j) (hs:U.size=j.size) (hx:F.ev x=some (.slice A ln k)) (hm:F.ev ix=some (.int kd m))
    (h0:0≤m) (hlt:m.toNat<ln){d:Nat}(hd':o.dst=some d) (hn:Nat.blt d n=true)
    (h:∀ q,ElAt U A m.toNat q→RW P n ops Q rest ((d,.pointer (some q))::F) w):RW P n ops Q (o::rest) F w:=by
  obtain⟨g,rfl⟩:=hA
  refine RW.ok (v:=.pointer (some ⟨g,m.toNat*U.size,none⟩)) hg (fun a ha=>?_) hd' hn (h _ ⟨g,rfl,rfl⟩)
  unfold execOp
  rw [ho]
  have hmm:m<ln:=by omega
  simp [ha.ev hx,ha.ev hm,Instr.indexAt,asIntOf,Go.underlying,ht.slice hi hd,h0,hmm,ht.sizeOf hj,z8B,hs]


theorem RW.storeHole {α:Type}{U:Ty α}{e:Nat}{A:Option Addr}{k m:Nat}{xs:List α}{es es':List Value}{B:List Res}(hS:St W w (Hole U e (.slice A xs.length k) xs m es::B)){q:Addr}(hq:ElAt U A m q)
    (hg:guardOf ops F o=some true){t:Nat}{x y:Operand}(ho:o.op=.store t x y) (hd:o.dst=none)
    {i:TI}(hi:T.get t=some i){q':Addr}(hx:F.ev x=some (.pointer (some q'))) (off:Nat) (hq':q'=q.add off){v:Value}(hy:F.ev y=some v) (hl:Nat.beq (cellsV v).length i.size=true)
    (h1:oneCells (cellsV v)=true) (hs:setAt es off (cellsV v)=some es') (h:∀ (w':World),St W w' (Hole U e (.slice A xs.length k) xs m es'::B)→RW P n ops Q rest F w'):RW P n ops Q (o::rest) F w:=by
  obtain⟨G,⟨g,cap,c1,c2,rst,G1,G2,hv,hh,a1,a2,a3,a4,a5,a6,k1,k2,hG⟩,_,hlo⟩:=hS.sep.head
  obtain⟨g',rfl,rfl⟩:=hq
  simp only [Value.slice.injEq,Option.some.injEq,Addr.mk.injEq,and_true,true_and] at hv
  obtain⟨rfl,rfl⟩:=hv
  have hset:=z5K (c1:=c1) (c2:=c2) (rest:=rst) hs
  rw [a4] at hset
  obtain⟨w',r1,r2,r3,r4,r5,r6,r7⟩:=z1e (P:=P) g' (m*U.size+off) e (cellsV v) 0 w _ ((c1++(es'++c2))++rst) h1 hh (by rw [Nat.add_zero];exact hset)
  have hge:W.fr g':=hlo g' (by rw [hG];simp)
  refine RW.unit (w':=w') hg (fun a ha=>?_) hd (h w' ⟨⟨r5.trans hS.ext.os,r6.trans hS.ext.tape,r7.trans hS.ext.output,by rw [r4];exact hS.le,fun b hb=>?_⟩,?_⟩)
  · unfold execOp
    rw [ho]
    have hsz:v.cells.size=i.size:=by
      rw [← Array.length_toList,z3k];exact Nat.eq_of_beq_eq_true hl
    simp [ha.ev hx,ha.ev hy,Instr.storeAt,Instr.sureAddr,storeVar,ht.sizeOf hi,hsz,z3k,hq',z77,r1]
  · show w'.heap[b]? = _;rw [r3 b (fun e=>hb (e ▸ hge))];exact hS.ext.block b hb
  · refine hS.sep.upd hS.up fun G' hG' hnd' _=>?_
    obtain⟨g1,cap1,d1,d2,rst1,H1,H2,hv1,hh1,b1,b2,b3,b4,b5,b6,l1,l2,rfl⟩:=hG'
    simp only [Value.slice.injEq,Option.some.injEq,Addr.mk.injEq,and_true,true_and] at hv1
    obtain⟨rfl,rfl⟩:=hv1
    rw [hh1] at hh
    simp only [Option.some.injEq,Obj.cells.injEq,Array.mk.injEq,and_true] at hh
    have hset1:=z5K (c1:=d1) (c2:=d2) (rest:=rst1) hs
    have e1:d1.length=c1.length:=by rw [b4,a4]
    rw [hh,e1] at hset1
    rw [← a4] at hset
    have e2:(c1++(es'++c2))++rst=(d1++(es'++d2))++rst1:=Option.some.inj (hset.symm.trans hset1)
    have hle:=z5S _ _ _ _ hs
    simp only [List.nodup_cons,List.mem_append,not_or] at hnd'
    refine⟨g'::(H1++H2),⟨g',k,d1,d2,rst1,H1,H2,rfl,by rw [r2,e2],b1,b2,?_,b4,by rw [hle];exact b5,b6,l1.loc fun b hb=>r3 b (by rintro rfl;exact hnd'.1.1 hb),l2.loc fun b hb=>r3 b (by rintro rfl;exact hnd'.1.2 hb),rfl⟩,by simpa using hnd',fun b hb=>.inl hb,fun b hb hn=>r3 b (by rintro rfl;exact hn (by simp))⟩
    rw [← b3]
    simp only [List.length_append,hle]
end
end Go.E


namespace Go.E
open Go.RowKit
set_option linter.unusedVariables false
set_option linter.unusedSimpArgs false

section
variable {α:Type}{U:Ty α}{e:Nat}{W:Base}{w:World}{B:List Res}{A:Option Addr}{k n i:Nat}{xs:List α}{a:α}{es:List Value}

theorem St.lenEq (h:St W w (Own (tSl e U) [.slice A n k] xs::B)):n=xs.length:=by
  obtain⟨A',c',he⟩:=h.form
  simp only [List.cons.injEq,Value.slice.injEq,and_true] at he
  exact he.2.1

theorem St.reLen {n':Nat}(h:St W w (Own (tSl e U) [.slice A n k] xs::B)) (hn:n=n'):St W w (Own (tSl e U) [.slice A n' k] xs::B):=hn ▸ h
theorem St.reBox {g:Nat}{t:TypeId}{cs cs':List Value}(h:St W w (Box g cs t::B)) (hc:cs=cs'):St W w (Box g cs' t::B):=hc ▸ h
theorem St.reHole {v:Value}{es':List Value}(h:St W w (Hole U e v xs i es::B)) (hc:es=es'):St W w (Hole U e v xs i es'::B):=hc ▸ h

theorem St.focusN (h:St W w (Own (tSl e U) [.slice A n k] xs::B)) (hx:xs[i]? = some a):∃ es,St W w (Hole U e (.slice A n k) xs i es::Own U es a::B):=by
  have hn:=h.lenEq
  subst hn
  exact h.focus hx

theorem St.hole_len (h:St W w (Hole U e (.slice A n k) xs i es::B)):n=xs.length∧i<xs.length∧∃ g,A=some ⟨g,0,none⟩:=by
  obtain⟨G,⟨g,cap,c1,c2,rest,G1,G2,hv,hh,a1,a2,a3,a4,a5,a6,k1,k2,rfl⟩,_⟩:=h.sep.head
  simp only [Value.slice.injEq] at hv
  exact⟨hv.2.1,a6,g,hv.1⟩

theorem St.unfocusN (h:St W w (Hole U e (.slice A n k) xs i es::Own U es a::B)):St W w (Own (tSl e U) [.slice A n k] (xs.set i a)::B):=by
  obtain⟨hn,_,_⟩:=h.hole_len
  subst hn
  have h1:=h.unfocus
  rwa [List.length_set] at h1

theorem St.ownAddr (h:St W w (Own (tSl e U) [.slice A n k] xs::B)) (hi:i<xs.length):∃ g,A=some ⟨g,0,none⟩:=by
  obtain⟨es,h1⟩:=h.focusN (List.getElem?_eq_getElem hi)
  exact h1.hole_len.2.2

theorem St.hole_atN (h:St W w (Hole U e (.slice A n k) xs i es::B)){q:Addr}(hq:ElAt U A i q):At w q es:=by
  obtain⟨hn,_,_⟩:=h.hole_len
  subst hn
  exact h.hole_at hq
end

section
variable {P:Program}{n:Nat}{Q:Post}{F:Fr}{W:Base}{w:World}{ops rest:List Oper}{o:Oper}{T:TT}(ht:TTok P T)
include ht


theorem RW.focus {α:Type}{U:Ty α}{B:List Res}{e:Nat}{A:Option Addr}{k ln:Nat}{xs:List α}{a:α}(hS:St W w (Own (tSl e U) [.slice A ln k] xs::B)) (hg:guardOf ops F o=some true){t e':Nat}{x ix:Operand}{i j:TI}
    {kd:IntKind}{m:Int}(ho:o.op=.indexAddr t x ix) (hi:T.get t=some i) (hd:i.d=.slice e') (hj:T.get e'=some j) (hs:U.size=j.size) (hx:F.ev x=some (.slice A ln k)) (hm:F.ev ix=some (.int kd m))
    (h0:0≤m) (ha:xs[m.toNat]? = some a){d:Nat}(hd':o.dst=some d) (hn:Nat.blt d n=true)
    (h:∀ q es,ElAt U A m.toNat q→St W w (Hole U e (.slice A ln k) xs m.toNat es::Own U es a::B)→RW P n ops Q rest ((d,.pointer (some q))::F) w):RW P n ops Q (o::rest) F w:=by
  have hlt:=(List.getElem?_eq_some_iff.1 ha).1
  obtain⟨es,h1⟩:=hS.focusN ha
  have hl:=hS.lenEq
  exact RW.idxHole ht (U:=U) (hS.ownAddr hlt) hg ho hi hd hj hs hx hm h0 (by omega) hd' hn fun q hq=>h q es hq h1


theorem RW.idxAgain {α:Type}{U:Ty α}{B:List Res}{e:Nat}{A:Option Addr}{k ln:Nat}{xs:List α}{es:List Value}{m:Int}(hS:St W w (Hole U e (.slice A ln k) xs m.toNat es::B)) (hg:guardOf ops F o=some true){t e':Nat}{x ix:Operand}{i j:TI}
    {kd:IntKind}(ho:o.op=.indexAddr t x ix) (hi:T.get t=some i) (hd:i.d=.slice e') (hj:T.get e'=some j) (hs:U.size=j.size) (hx:F.ev x=some (.slice A ln k)) (hm:F.ev ix=some (.int kd m))
    (h0:0≤m){d:Nat}(hd':o.dst=some d) (hn:Nat.blt d n=true)
    (h:∀ q,ElAt U A m.toNat q→RW P n ops Q rest ((d,.pointer (some q))::F) w):RW P n ops Q (o::rest) F w:=by
  obtain⟨hl,hlt,hA⟩:=hS.hole_len
  exact RW.idxHole ht (U:=U) hA hg ho hi hd hj hs hx hm h0 (by omega) hd' hn h

theorem RW.storeHoleN {α:Type}{U:Ty α}{e:Nat}{A:Option Addr}{k m ln:Nat}{xs:List α}{es es':List Value}{B:List Res}(hS:St W w (Hole U e (.slice A ln k) xs m es::B)){q:Addr}(hq:ElAt U A m q)
    (hg:guardOf ops F o=some true){t:Nat}{x y:Operand}(ho:o.op=.store t x y) (hd:o.dst=none)
    {i:TI}(hi:T.get t=some i){q':Addr}(hx:F.ev x=some (.pointer (some q'))) (off:Nat) (hq':q'=q.add off){v:Value}(hy:F.ev y=some v) (hl:Nat.beq (cellsV v).length i.size=true)
    (h1:oneCells (cellsV v)=true) (hs:setAt es off (cellsV v)=some es') (h:∀ (w':World),St W w' (Hole U e (.slice A ln k) xs m es'::B)→RW P n ops Q rest F w'):RW P n ops Q (o::rest) F w:=by
  obtain⟨hn,_,_⟩:=hS.hole_len
  subst hn
  exact RW.storeHole ht hS hq hg ho hd hi hx off hq' hy hl h1 hs h

theorem RW.idxOwnN {α:Type}{U:Ty α}{B:List Res}{e:Nat}{A:Option Addr}{k ln:Nat}{xs:List α}(hS:St W w (Own (tSl e U) [.slice A ln k] xs::B)) (hg:guardOf ops F o=some true){t e':Nat}{x ix:Operand}{i j:TI}
    {kd:IntKind}{m:Int}(ho:o.op=.indexAddr t x ix) (hi:T.get t=some i) (hd:i.d=.slice e') (hj:T.get e'=some j) (hs:U.size=j.size) (hx:F.ev x=some (.slice A ln k)) (hm:F.ev ix=some (.int kd m))
    (h0:0≤m) (hlt:m.toNat<xs.length){d:Nat}(hd':o.dst=some d) (hn:Nat.blt d n=true)
    (h:∀ q,(∃ g,A=some ⟨g,0,none⟩∧q=⟨g,m.toNat*U.size,none⟩)→RW P n ops Q rest ((d,.pointer (some q))::F) w):RW P n ops Q (o::rest) F w:=by
  have hl:=hS.lenEq
  subst hl
  exact RW.idxOwn ht hS hg ho hi hd hj hs hx hm h0 hlt hd' hn h

theorem RW.storeElN {α:Type}{U:Ty α}{B:List Res}{e:Nat}{A:Option Addr}{k ln:Nat}{xs:List α}{y:α}{es':List Value}(hS:St W w (Own (tSl e U) [.slice A ln k] xs::Own U es' y::B)) (hg:guardOf ops F o=some true)
    {t:Nat}{x yv:Operand}(ho:o.op=.store t x yv) (hd:o.dst=none){j:TI}(hj:T.get t=some j) (hs:U.size=j.size){q:Addr}(hx:F.ev x=some (.pointer (some q))){m:Nat}(hlt:m<xs.length)
    (hq:∃ g,A=some ⟨g,0,none⟩∧q=⟨g,m*U.size,none⟩){v:Value}(hy:F.ev yv=some v) (hc:cellsV v=es')
    (h:∀ (w':World),St W w' (Own (tSl e U) [.slice A ln k] (xs.set m y)::B)→RW P n ops Q rest F w'):RW P n ops Q (o::rest) F w:=by
  have hl:=hS.lenEq
  subst hl
  refine RW.storeEl ht hS hg ho hd hj hs hx hlt hq hy hc fun w' h'=>h w' ?_
  rwa [List.length_set] at h'
end
end Go.E


namespace Go.E
open Go.RowKit
set_option linter.unusedVariables false
set_option linter.unusedSimpArgs false


theorem Quiet.buildK {P:Program}{n:Nat}{F:Fr}{w:Base}{o:Oper}{t:Nat}{ps:List (Nat × Operand)}{vs:List (Nat × Value)}{cs:List Value}
    (ho:o.op=.build t ⟨ps⟩) (hv:partsOf F ps=some vs) (hb:P.built t vs=some ⟨cs⟩):Quiet P n F w o (.agg ⟨cs⟩):=by
  intro a w' ha _
  unfold execOp
  rw [ho]
  have:=run_build (P:=P) w' t ⟨vs⟩ ⟨cs⟩ hb
  have he:(⟨ps⟩:Array (Nat × Operand)).map (fun(p:Nat × Operand)=>(p.1,a.eval p.2))=⟨vs⟩:=by
    simp [z5x ha hv]
  simp [show Array.map (fun x:Nat × Operand=>(x.fst,a.eval x.snd)) ⟨ps⟩=⟨vs⟩ from he,this]

theorem Quiet.arrIdx {P:Program}{T:TT}(ht:TTok P T){n:Nat}{F:Fr}{w:Base}{o:Oper}{t e len:Nat}{x ix:Operand}{j:TI}{cs:List Value}{xs:List Int}{k kd:IntKind}{m a:Int}(ho:o.op=.index t x ix)
    (hu:P.underlying t=some (.array len e)) (hj:T.get e=some j) (hag:j.agg=false) (hs:j.size=1) (hx:F.ev x=some (.agg ⟨cs⟩)) (hc:cs=xs.map (Value.int kd)) (hm:F.ev ix=some (.int k m)) (h0:0≤m) (ha:xs[m.toNat]? = some a) (hl:xs.length=len:=by rfl):Quiet P n F w o (.int kd a):=by
  intro b w' hb _
  have hlt:=(List.getElem?_eq_some_iff.1 ha).1
  have hr:=z70 (P:=P) ht hj (xs:=cs) (off:=m.toNat*1) (x:=.int kd a) (.inr ⟨hag,by
    rw [hs,Nat.mul_one,hc]
    have h1:(xs.map (Value.int kd))[m.toNat]? = some (.int kd a):=by rw [List.getElem?_map,ha];rfl
    have h2:=(List.getElem?_eq_some_iff.1 h1)
    rw [List.drop_eq_getElem_cons h2.1,h2.2];rfl⟩) w'
  unfold execOp
  rw [ho]
  have hmm:m<len:=by omega
  rw [Nat.mul_one] at hr
  simp [hb.ev hx,hb.ev hm,Instr.index,asIntOf,Go.underlying,hu,h0,hmm,ht.sizeOf hj,hs,hr]

theorem Quiet.cat {P:Program}{n:Nat}{F:Fr}{w:Base}{o:Oper}{t u:Nat}{x y:Operand}{a b:ByteArray}(ho:o.op=.binOp .add t x y u) (hx:F.ev x=some (.string a)) (hy:F.ev y=some (.string b))
    (h:a.size+b.size≤9223372036854775807):Quiet P n F w o (.string (a++b)):=by
  intro c w' hc _
  unfold execOp
  rw [ho]
  have hr:=run_string_add_sum (P:=P) w' a b h
  have hg:(eqGuard .add t x y (.string a) (.string b)).run P w'=.ok () w':=by unfold eqGuard;simp
  simp [hc.ev hx,hc.ev hy,hg,binOp_string_add,hr]

theorem Quiet.rem {P:Program}{n:Nat}{F:Fr}{w:Base}{o:Oper}{t u:Nat}{x y:Operand}{k:IntKind}{a b:Int}(ho:o.op=.binOp .rem t x y u) (hx:F.ev x=some (.int k a)) (hy:F.ev y=some (.int k b))
    (h:b≠0):Quiet P n F w o (.int k (a.tmod b)):=by
  intro c w' hc _
  unfold execOp
  rw [ho]
  have hg:(eqGuard .rem t x y (.int k a) (.int k b)).run P w'=.ok () w':=by unfold eqGuard;simp
  simp [hc.ev hx,hc.ev hy,hg,zaZ k a b h t w']

theorem Quiet.quo {P:Program}{n:Nat}{F:Fr}{w:Base}{o:Oper}{t u:Nat}{x y:Operand}{k:IntKind}{a b:Int}(ho:o.op=.binOp .quo t x y u) (hx:F.ev x=some (.int k a)) (hy:F.ev y=some (.int k b))
    (h:b≠0):Quiet P n F w o (.int k (k.wrap (a.tdiv b))):=by
  intro c w' hc _
  unfold execOp
  rw [ho]
  have hg:(eqGuard .quo t x y (.int k a) (.int k b)).run P w'=.ok () w':=by unfold eqGuard;simp
  simp [hc.ev hx,hc.ev hy,hg,zb0 k a b h t w']

theorem Els.ints {k:IntKind}{w:World}:∀ {xs:List Int}{cs:List Value},Els (tIntK k) w cs xs→cs=xs.map (Value.int k)
  | [],_,h=>h
  | x::xs,_,⟨c,d,h,h1,h2⟩=>by
    have h1':c=[.int k x]:=h1
    rw [h,h1',Els.ints h2];rfl

theorem Quiet.bytesStr {P:Program}{T:TT}(ht:TTok P T){n:Nat}{F:Fr}{w:Base}{o:Oper}{s d e:Nat}{x:Operand}{i j l:TI}{A:Option Addr}{len c:Nat}{xs:List Int}(ho:o.op=.convert s d x)
    (hi:T.get s=some i) (hd:i.d=.slice e) (hj:T.get e=some j) (hjd:j.d=.int .u8) (hl:T.get d=some l) (hld:l.d=.str) (hx:F.ev x=some (.slice A len c)){e':Nat}{w7:World}(hr:(tSl e' (tIntK .u8)).ro w7 [.slice A len c] xs) (hw:w.W=w7:=by rfl):
    Quiet P n F w o (.string (strOfNums xs)):=by
  subst hw
  intro a w' ha hex
  obtain⟨A',c',els,he,hc,hels,hat⟩:=hr
  simp only [List.cons.injEq,Value.slice.injEq,and_true] at he
  obtain⟨rfl,rfl,rfl⟩:=he
  have hcs:=hels.ints
  unfold execOp
  rw [ho]
  have hrun:(convert s d (.slice A xs.length c)).run P w'=.ok (.string (strOfNums xs)) w':=by
    cases A with
    | none=>
      have hn:xs=[]:=by
        cases xs with
        | nil=>rfl
        | cons y ys=>obtain⟨p,hp,_⟩:=hat (by rw [hcs];simp);cases hp
      subst hn
      rw [run_convert_bytes_nil (P:=P) w' s e (ht.slice hi hd) (ht.int hj hjd) _ _ d (ht.str hl hld)]
      rfl
    | some p=>
      have hl':(loadCells p xs.length).run P w'=.ok (xs.map (Value.int .u8)).toArray w':=by
        have:=run_loadCells_list (P:=P) w' p (xs.map (Value.int .u8)) (fun j v hj=>by
          have hne:els≠[]:=by rw [hcs];rintro h0;rw [h0] at hj;simp at hj
          obtain⟨p',hp',hA⟩:=hat hne
          simp only [Option.some.injEq] at hp'
          subst hp'
          exact hex.cell (hA j v (by rw [hcs];exact hj)))
        simpa using this
      rw [run_convert_bytes_string w' s d e _ xs.length c (ht.slice hi hd) (ht.int hj hjd) (ht.str hl hld),run_bytesToString w' _ xs.length c xs hl',foldl_push_bytes]
      simp [strOfNums,ByteArray.empty,ByteArray.emptyWithCapacity]
      rfl
  simp [ha.ev hx,hrun]
end Go.E


namespace Go.E
open Go.RowKit
set_option linter.unusedVariables false
set_option linter.unusedSimpArgs false

section
variable {P:Program}{n:Nat}{Q:Post}{F:Fr}{W:Base}{w w0:World}{W9:Base}{ops:List Oper}{wm fuel kk mm:Nat}{sk:List (List Nat × Nat)}{o:Oper}

theorem LM.okD (hsk:skOf ops=sk∧ops.length=kk){v:Value}{w':World}{ii:Nat}(m':Nat) (hm':mm ||| 2 ^ ii=m') (hwi:wm.testBit ii=false) (hni:nthv ops ii=some o) (hg:guardOf ops F o=some true) (hr:∀ a,Fits n F a→(execOp a.eval o).run P w=.ok (.value v) w'){d:Nat}(hd:o.dst=some d) (hn:Nat.blt d n=true) (hw:Ext w w')
    (h:DM P n ops Q W9 w0 wm fuel kk m' ((d,v)::F) w'):LM P n ops Q W9 w0 wm fuel kk mm ii F w:=by
  refine LM.ok hsk m' hm' hwi hni hg hr hw (by rw [hd];exact hn) ?_
  rw [hd]
  exact h

theorem LM.okWD (hsk:skOf ops=sk∧ops.length=kk){v:Value}{w':World}{ii:Nat}(m':Nat) (hm':mm ||| 2 ^ ii=m') (hwi:wm.testBit ii=true) (hni:nthv ops ii=some o) (hg:guardOf ops F o=some true) (hr:∀ a,Fits n F a→(execOp a.eval o).run P w=.ok (.value v) w'){d:Nat}(hd:o.dst=some d) (hn:Nat.blt d n=true) (hW:Ext W9 w')
    (h:DM P n ops Q W9 w0 wm fuel kk m' ((d,v)::F) w'):LM P n ops Q W9 w0 wm fuel kk mm ii F w:=by
  refine LM.okW hsk m' hm' hwi hni hg hr (by rw [hd];exact hn) hW ?_
  rw [hd]
  exact h
end

theorem DW.quietP {P:Program}{n:Nat}{Q:Post}{F:Fr}{w w0:World}{W9:Base}{ops:List Oper}{wr:Nat→Bool}{fuel:Nat}{listed:Array Bool}{o:Oper}{v:Value}(i:Nat) (hwi:wr i=false) (hi:nthv ops i=some o) (hf:freeAt ops listed i=true) (hg:guardOf ops F o=some true) (hq:∀ w:World,Quiet P n F w o v){d:Nat}(hd:o.dst=some d) (hn:Nat.blt d n=true)
    (h:DW P n ops Q W9 w0 wr fuel (listed.setIfInBounds i true) ((d,v)::F) w):DW P n ops Q W9 w0 wr (fuel+1) listed F w:=fun hs he hv a ha=>by
  rw [z1p] at hi
  obtain⟨h1,h2⟩:=z5d hf
  refine z4j (oi:=o) (v:=v) (by simpa using hi) hs h1 h2 (noPanic v _) hwi (.inl ⟨zf hg ha,fun w' _=>hq w' a w' ha (Ext.refl w')⟩) he hv ?_
  rw [hd]
  exact h hs (fun hn'=>he (hn'.back hwi)) hv _ (ha.put hn v)

theorem DM.quietP {P:Program}{n:Nat}{Q:Post}{F:Fr}{w w0:World}{W9:Base}{ops:List Oper}{wm fuel k m:Nat}{sk:List (List Nat × Nat)}{o:Oper}{v:Value}(hsk:skOf ops=sk∧ops.length=k) (i m':Nat) (hm:m ||| 2 ^ i=m') (hwi:wm.testBit i=false) (hi:nthv ops i=some o) (hf:freeM sk (2 ^ k - 1) m i=true) (hg:guardOf ops F o=some true) (hq:∀ w:World,Quiet P n F w o v){d:Nat}(hd:o.dst=some d) (hn:Nat.blt d n=true)
    (h:DM P n ops Q W9 w0 wm fuel k m' ((d,v)::F) w):DM P n ops Q W9 w0 wm (fuel+1) k m F w:=fun l hl=>
  DW.quietP i hwi hi (z5G hsk.1 hsk.2 hl (by rw [← z1p];exact hi) hf) hg hq hd hn (h _ (hl.set (z5g hsk.2 hi) hm))

theorem LW.callW {P:Program}{n:Nat}{Q:Post}{F:Fr}{w w0:World}{W9:Base}{ops:List Oper}{wr:Nat→Bool}{fuel:Nat}{listed:Array Bool}{o:Oper}{i:Nat}(hwi:wr i=true) (hsz:i<listed.size) (hi:nthv ops i=some o) (hg:guardOf ops F o=some true){f:FuncId}{vs:List Value}(hc:callOf F o.op=some (f,vs)) (hn:dstOk n o.dst=true) (hen:Enters P f)
    {R:Value→World→Prop}(hf:Calls P f ⟨vs⟩ w (Ret R)) (h:∀ v w',R v w'→Ext W9 w'∧DW P n ops Q W9 w0 wr fuel (listed.setIfInBounds i true) (F.putO o.dst v) w'):LW P n ops Q W9 w0 wr fuel listed i F w:=fun hs he hv a ha=>by
  rw [z1p] at hi
  have hi':ops.toArray[i]? = some o:=by simpa using hi
  have hno:¬ NoWr wr (listed.setIfInBounds i true):=fun hn'=>by
    have:=hn' i hwi
    simp [Array.getD_eq_getD_getElem?,hsz] at this
  unfold wpOp
  simp only [hi']
  rw [if_pos (zf hg ha)]
  refine .inl ?_
  unfold Oper.wp
  rw [z6z hen hc ha,Oper.upon_enter]
  refine hf.mono fun e w' hr=>?_
  cases e with
  | returned v=>exact⟨⟨fun hn'=>absurd hn' hno,(h v w' hr).1⟩,(h v w' hr).2 hs (fun hn'=>absurd hn' hno) (h v w' hr).1 _ (ha.putO hn v)⟩
  | panicked _=>exact hr.elim
  | outgrown=>exact hr.elim

theorem LM.callW {P:Program}{n:Nat}{Q:Post}{F:Fr}{w w0:World}{W9:Base}{ops:List Oper}{wm fuel k m:Nat}{sk:List (List Nat × Nat)}{o:Oper}(hsk:skOf ops=sk∧ops.length=k){i:Nat}(m':Nat) (hm:m ||| 2 ^ i=m') (hwi:wm.testBit i=true) (hi:nthv ops i=some o) (hg:guardOf ops F o=some true){f:FuncId}{vs:List Value}(hc:callOf F o.op=some (f,vs)) (hn:dstOk n o.dst=true) (hen:Enters P f)
    {R:Value→World→Prop}(hf:Calls P f ⟨vs⟩ w (Ret R)) (h:∀ v w',R v w'→Ext W9 w'∧DM P n ops Q W9 w0 wm fuel k m' (F.putO o.dst v) w'):LM P n ops Q W9 w0 wm fuel k m i F w:=fun _ hl=>
  LW.callW hwi (by rw [hl.1];exact z5g hsk.2 hi) hi hg hc hn hen hf fun v w' hR=>⟨(h v w' hR).1,(h v w' hR).2 _ (hl.set (z5g hsk.2 hi) hm)⟩

theorem LM.make {P:Program}{n:Nat}{Q:Post}{F:Fr}{W:Base}{w:World}{ops:List Oper}{o:Oper}{T:TT}(ht:TTok P T){α:Type}{U:Ty α}{Rs:List Res}(z:α) (hS:St W w Rs){wm fuel kk mm ii:Nat}{w0:World}{sk:List (List Nat × Nat)}(hsk:skOf ops=sk∧ops.length=kk) (m':Nat) (hm':mm ||| 2 ^ ii=m') (hwi:wm.testBit ii=false) (hni:nthv ops ii=some o) (hg:guardOf ops F o=some true){t e:Nat}{l c:Operand}{i j:TI}{k1 k2:IntKind}{m:Int}(ho:o.op=.makeSlice t l c) (hi:T.get t=some i) (hd:i.d=.slice e)
    (hj:T.get e=some j) (hs:U.size=j.size) (hl:F.ev l=some (.int k1 m)) (hc:F.ev c=some (.int k2 m)) (h0:0≤m) (hb:m*(j.bytes:Int)≤281474976710656) (b:m≤maxLen) (hz:∀ w',U.own w' j.zero z [])
    {d:Nat}(hd':o.dst=some d) (hn:Nat.blt d n=true)
    (h:∀ A k (w':World),Ext w w'→St W w' (Own (tSl e U) [.slice A (List.replicate m.toNat z).length k] (List.replicate m.toNat z)::Rs)→DM P n ops Q W w0 wm fuel kk m' ((d,.slice A (List.replicate m.toNat z).length k)::F) w'):LM P n ops Q W w0 wm fuel kk mm ii F w:=by
  obtain⟨jj,hjj,hsz,hby,zz,hzz,hzc⟩:=ht.info hj
  have hmx:m≤9223372036854775807:=by simpa [maxLen] using b
  have hr:=run_make (P:=P) w t e jj zz (ht.slice hi hd) hjj hzz k1 k2 m m h0 (Int.le_refl _) (by rw [hby,Int.mul_comm];exact hb) hmx
  have hzl:j.zero.length=U.size:=U.lenO (hz w)
  have hcells:madeCells zz.cells (m.toNat*jj.size)=⟨chunks m.toNat j.zero⟩:=by
    rw [← z55 j.zero m.toNat,hzl,hs,hsz,show zz.cells=⟨j.zero⟩ from by rw [← hzc]]
  rw [hcells] at hr
  have hlen:(List.replicate m.toNat z).length=m.toNat:=by simp
  refine LM.okD hsk m' hm' hwi hni hg (v:=.slice (some ⟨w.heap.size,0,none⟩) (List.replicate m.toNat z).length m.toNat) (fun a ha=>?_) hd' hn (Ext.alloc w (.cells ⟨chunks m.toNat j.zero⟩ e)) (h _ _ _ (Ext.alloc w (.cells ⟨chunks m.toNat j.zero⟩ e)) ?_)
  · unfold execOp
    rw [ho,hlen]
    simp [ha.ev hl,ha.ev hc,hr]
  · have hcl:∀ k:Nat,(chunks k j.zero).length=k*U.size:=fun k=>by
      induction k with
      | zero=>simp [chunks]
      | succ k ih=>simp [chunks,ih,hzl,Nat.succ_mul,Nat.add_comm]
    have hown:=z5W (w:=w.alloc (.cells ⟨chunks m.toNat j.zero⟩ e)) (e:=e) (U:=U) (xs:=List.replicate m.toNat z) (g:=w.heap.size) (cap:=m.toNat) (els:=chunks m.toNat j.zero) (rest:=[]) (K:=[])
      (by rw [List.append_nil];exact heap_alloc_new w _) (by simp) (by have:(m.toNat:Int)=m:=Int.toNat_of_nonneg h0;omega) (by simp [hcl]) (by simp [hcl]) (z6K (hz _) _)
    exact hS.join (Ns:=[Own (tSl e U) [.slice (some ⟨w.heap.size,0,none⟩) (List.replicate m.toNat z).length m.toNat] (List.replicate m.toNat z)])
      ⟨Ext.alloc _ _,⟨[w.heap.size],hown,by simp,fun g hg=>by simp at hg;subst hg;exact⟨.inl (Nat.le_refl _),by simp⟩,trivial⟩⟩

theorem LM.newSlice0 {α:Type}{U:Ty α}{P:Program}{T:TT}(ht:TTok P T){n:Nat}{ops:List Oper}{Q:Post}{F:Fr}{W:Base}{w:World}{Rs:List Res}{o:Oper}{t e:Nat}{i j:TI}(hS:St W w Rs){wm fuel kk mm ii:Nat}{w0:World}{sk:List (List Nat × Nat)}(hsk:skOf ops=sk∧ops.length=kk) (m':Nat) (hm':mm ||| 2 ^ ii=m') (hwi:wm.testBit ii=false) (hni:nthv ops ii=some o) (hg:guardOf ops F o=some true)
    (ho:o.op=.buildSlice t 0 #[]) (hi:T.get t=some i) (hd:i.d=.slice e) (hj:T.get e=some j){d:Nat}(hd':o.dst=some d) (hn:Nat.blt d n=true)
    (h:∀ A k (w':World),Ext w w'→St W w' (Own (tSl e U) [.slice A ([]:List α).length k] []::Rs)→DM P n ops Q W w0 wm fuel kk m' ((d,.slice A ([]:List α).length k)::F) w'):LM P n ops Q W w0 wm fuel kk mm ii F w:=by
  obtain⟨jj,hjj,_⟩:=ht.info hj
  refine LM.okD hsk m' hm' hwi hni hg (v:=.slice (some ⟨w.heap.size,0,none⟩) 0 0) (fun a ha=>?_) hd' hn (Ext.alloc w (.cells #[] e)) (h (some ⟨w.heap.size,0,none⟩) 0 _ (Ext.alloc w (.cells #[] e)) ?_)
  · unfold execOp
    rw [ho]
    simp [z5U w (ht.slice hi hd) hjj]
  · have h1:=(hS.flatEls (U:=U) (els:=[]) (ys:=[]) ⟨rfl,rfl⟩).new [] e
    exact St.boxSl (ys:=([]:List α)) h1 (Nat.zero_le _)

theorem LM.newSlice {α:Type}{U:Ty α}{P:Program}{T:TT}(ht:TTok P T){n:Nat}{ops:List Oper}{Q:Post}{F:Fr}{W:Base}{w:World}{Rs:List Res}{o:Oper}{t e m:Nat}{ps:List (Nat × Operand)}{vs:List (Nat × Value)}{els:List Value}{ys:List α}{i j:TI}
    (hS:St W w (OwnEls U els ys::Rs)){wm fuel kk mm ii:Nat}{w0:World}{sk:List (List Nat × Nat)}(hsk:skOf ops=sk∧ops.length=kk) (m':Nat) (hm':mm ||| 2 ^ ii=m') (hwi:wm.testBit ii=false) (hni:nthv ops ii=some o) (hg:guardOf ops F o=some true)
    (ho:o.op=.buildSlice t m ⟨ps⟩) (hi:T.get t=some i) (hd:i.d=.slice e) (hj:T.get e=some j) (hv:partsOf F ps=some vs) (hf:fillV (slots j.size 0 m) (chunks m j.zero) vs=some els)
    (hm:ys.length=m) (hpos:Nat.ble 1 (m*j.size)=true) (hsm:Nat.ble (m*j.size) 16777216=true){d:Nat}(hd':o.dst=some d) (hn:Nat.blt d n=true)
    (h:∀ A k (w':World),Ext w w'→St W w' (Own (tSl e U) [.slice A ys.length k] ys::Rs)→DM P n ops Q W w0 wm fuel kk m' ((d,.slice A ys.length k)::F) w'):LM P n ops Q W w0 wm fuel kk mm ii F w:=by
  obtain⟨jj,hjj,hsz,_,zz,hzz,hzc⟩:=ht.info hj
  have h1:1≤m*j.size:=by simpa using hpos
  have h2:m*j.size≤16777216:=by simpa using hsm
  have hzl:j.zero.length=j.size:=by
    have:=ht.zlen hj
    exact this
  have hcells:(Array.range (m*jj.size)).map (zz.cells[· % zz.cells.size]!)=⟨chunks m j.zero⟩:=by
    have:=z55 j.zero m
    rw [hzl] at this
    rw [hsz,show zz.cells=⟨j.zero⟩ from by rw [← hzc]]
    have h5:madeCells ⟨j.zero⟩ (m*j.size)=⟨chunks m j.zero⟩:=by rw [← this]
    exact h5
  have hfill:=z8p (place:=fun i=>some (i*jj.size,jj.size)) (gs:=slots j.size 0 m) (fun a g hg=>by rw [z6k _ _ _ _ _ hg,hsz];simp) (fun a g hg=>by
    rw [z6k _ _ _ _ _ hg]
    intro h0
    have:j.size=0:=h0
    rw [this] at h1;omega) vs _ els hf
  have hr:=run_buildSlice (P:=P) w t e m ⟨vs⟩ ⟨els⟩ jj zz (ht.slice hi hd) hjj hzz (by rw [hsz];omega) (by rw [hsz];omega) (by rw [hcells];exact hfill)
  subst hm
  refine LM.okD hsk m' hm' hwi hni hg (v:=.slice (some ⟨w.heap.size,0,none⟩) ys.length ys.length) (fun a ha=>?_) hd' hn (Ext.alloc w (.cells ⟨els⟩ e)) (h (some ⟨w.heap.size,0,none⟩) ys.length _ (Ext.alloc w (.cells ⟨els⟩ e)) ?_)
  · unfold execOp
    rw [ho]
    have he:(⟨ps⟩:Array (Nat × Operand)).map (fun(p:Nat × Operand)=>(p.1,a.eval p.2))=⟨vs⟩:=by
      simp [z5x ha hv]
    simp [show Array.map (fun x:Nat × Operand=>(x.fst,a.eval x.snd)) ⟨ps⟩=⟨vs⟩ from he,hr]
  · have b:1≤j.size:=by
      rcases Nat.eq_zero_or_pos j.size with h0 | h0
      · rw [h0] at h1;omega
      · exact h0
    exact St.boxSl (hS.new els e) (by
      have:ys.length*1≤ys.length*j.size:=Nat.mul_le_mul_left _ b
      unfold maxLen;omega)

theorem LM.append {P:Program}{n:Nat}{Q:Post}{F:Fr}{W:Base}{w:World}{ops:List Oper}{o:Oper}{T:TT}(ht:TTok P T){α:Type}{U:Ty α}{B:List Res}{e:Nat}{A:Option Addr}{k:Nat}{xs ys:List α}{els:List Value}(hS:St W w (Own (tSl e U) [.slice A xs.length k] xs::OwnEls U els ys::B)){wm fuel kk mm ii:Nat}{w0:World}{sk:List (List Nat × Nat)}(hsk:skOf ops=sk∧ops.length=kk) (m':Nat) (hm':mm ||| 2 ^ ii=m') (hwi:wm.testBit ii=true) (hni:nthv ops ii=some o) (hg:guardOf ops F o=some true)
    {t:Nat}{s x:Operand}{i j:TI}(ho:o.op=.call { callee:=.builtin .append,args:=#[s,x],argTypes:=#[t,t] }) (hi:T.get t=some i) (hd:i.d=.slice e) (hj:T.get e=some j) (hs:U.size=j.size) (hpos:0<U.size)
    (hx:F.ev s=some (.slice A xs.length k)){A2:Option Addr}{k2:Nat}(hy:F.ev x=some (.slice A2 ys.length k2)) (hat:els≠[]→∃ p,A2=some p∧At w p els)
    (b:xs.length+ys.length≤maxLen) (hb:(xs.length+ys.length)*j.bytes≤140737488355328){d:Nat}(hd':o.dst=some d) (hn:Nat.blt d n=true)
    (h:∀ A' k' (w':World),St W w' (Own (tSl e U) [.slice A' (xs++ys).length k'] (xs++ys)::B)→DM P n ops Q W w0 wm fuel kk m' ((d,.slice A' (xs++ys).length k')::F) w'):LM P n ops Q W w0 wm fuel kk mm ii F w:=by
  obtain⟨A',k',w',h1,h2⟩:=z6o (P:=P) (ty:=o.type) ht hS hi hd hj hs hpos (k2:=k2) hat b hb
  refine LM.okWD hsk m' hm' hwi hni hg (w':=w') (fun a ha=>?_) hd' hn h2.ext (h A' k' w' h2)
  unfold execOp
  rw [ho]
  simp [resolve,invoke,builtin,ha.ev hx,ha.ev hy]
  rw [h1]
  simp

theorem LM.appendRo {α:Type}{U:Ty α}{P:Program}{T:TT}(ht:TTok P T) (hfl:Flat U){n:Nat}{ops:List Oper}{Q:Post}{F:Fr}{W:Base}{w:World}{B:List Res}{o:Oper}{e:Nat}{A:Option Addr}{k:Nat}{xs ys:List α}
    (hS:St W w (Own (tSl e U) [.slice A xs.length k] xs::B)){wm fuel kk mm ii:Nat}{w0:World}{sk:List (List Nat × Nat)}(hsk:skOf ops=sk∧ops.length=kk) (m':Nat) (hm':mm ||| 2 ^ ii=m') (hwi:wm.testBit ii=true) (hni:nthv ops ii=some o) (hg:guardOf ops F o=some true)
    {t:Nat}{s x:Operand}{i j:TI}(ho:o.op=.call { callee:=.builtin .append,args:=#[s,x],argTypes:=#[t,t] }) (hi:T.get t=some i) (hd:i.d=.slice e) (hj:T.get e=some j) (hs:U.size=j.size) (hpos:0<U.size)
    (hx:F.ev s=some (.slice A xs.length k)){A2:Option Addr}{k2:Nat}(hy:F.ev x=some (.slice A2 ys.length k2)){e':Nat}(hr:(tSl e' U).ro w [.slice A2 ys.length k2] ys)
    (y:(xs.length:Int)+ys.length≤4294967296) (hb:j.bytes≤32768){d:Nat}(hd':o.dst=some d) (hn:Nat.blt d n=true)
    (h:∀ A' k' (w':World),St W w' (Own (tSl e U) [.slice A' (xs++ys).length k'] (xs++ys)::B)→DM P n ops Q W w0 wm fuel kk m' ((d,.slice A' (xs++ys).length k')::F) w'):LM P n ops Q W w0 wm fuel kk mm ii F w:=by
  obtain⟨A3,c3,els,he,hc,h1,h2⟩:=hr
  simp only [List.cons.injEq,Value.slice.injEq,and_true] at he
  obtain⟨rfl,_,rfl⟩:=he
  have b:=(hS.flatEls (U:=U) (els:=els) (ys:=ys) (Els.flat hfl h1)).bring 1 rfl
  have hm:(xs.length+ys.length)*j.bytes≤4294967296*32768:=Nat.mul_le_mul (by omega) hb
  exact LM.append ht b hsk m' hm' hwi hni hg ho hi hd hj hs hpos hx hy h2 (by simp only [maxLen];omega) (by omega) hd' hn h

theorem LM.appendOwn {α:Type}{U:Ty α}{P:Program}{T:TT}(ht:TTok P T){n:Nat}{ops:List Oper}{Q:Post}{F:Fr}{W:Base}{w:World}{B:List Res}{o:Oper}{e e':Nat}{A A2:Option Addr}{k k2:Nat}{xs ys:List α}
    (hS:St W w (Own (tSl e' U) [.slice A2 ys.length k2] ys::Own (tSl e U) [.slice A xs.length k] xs::B)){wm fuel kk mm ii:Nat}{w0:World}{sk:List (List Nat × Nat)}(hsk:skOf ops=sk∧ops.length=kk) (m':Nat) (hm':mm ||| 2 ^ ii=m') (hwi:wm.testBit ii=true) (hni:nthv ops ii=some o) (hg:guardOf ops F o=some true)
    {t:Nat}{s x:Operand}{i j:TI}(ho:o.op=.call { callee:=.builtin .append,args:=#[s,x],argTypes:=#[t,t] }) (hi:T.get t=some i) (hd:i.d=.slice e) (hj:T.get e=some j) (hs:U.size=j.size) (hpos:0<U.size)
    (hx:F.ev s=some (.slice A xs.length k)) (hy:F.ev x=some (.slice A2 ys.length k2))
    (b:(xs.length:Int)+ys.length≤4294967296) (hb:j.bytes≤32768){d:Nat}(hd':o.dst=some d) (hn:Nat.blt d n=true)
    (h:∀ A' k' (w':World),St W w' (Own (tSl e U) [.slice A' (xs++ys).length k'] (xs++ys)::B)→DM P n ops Q W w0 wm fuel kk m' ((d,.slice A' (xs++ys).length k')::F) w'):LM P n ops Q W w0 wm fuel kk mm ii F w:=by
  obtain⟨els,h1,h2⟩:=hS.els
  have hm:(xs.length+ys.length)*j.bytes≤4294967296*32768:=Nat.mul_le_mul (by omega) hb
  exact LM.append ht (h1.bring 1 rfl) hsk m' hm' hwi hni hg ho hi hd hj hs hpos hx hy h2 (by simp only [maxLen];omega) (by omega) hd' hn h

theorem LM.store {P:Program}{n:Nat}{Q:Post}{F:Fr}{W:Base}{w:World}{ops:List Oper}{o:Oper}{T:TT}(ht:TTok P T){A B:List Res}{g:Nat}{cs cs':List Value}{e:TypeId}(hS:St W w (A++Box g cs e::B)){wm fuel kk mm ii:Nat}{w0:World}{sk:List (List Nat × Nat)}(hsk:skOf ops=sk∧ops.length=kk) (m':Nat) (hm':mm ||| 2 ^ ii=m') (hwi:wm.testBit ii=true) (hni:nthv ops ii=some o) (hg:guardOf ops F o=some true){t:Nat}{x y:Operand}(ho:o.op=.store t x y) (hd:o.dst=none)
    {i:TI}(hi:T.get t=some i){q:Addr}(hx:F.ev x=some (.pointer (some q))) (off:Nat) (hq:q=⟨g,off,none⟩){v:Value}(hy:F.ev y=some v) (hl:Nat.beq (cellsV v).length i.size=true)
    (h1:oneCells (cellsV v)=true) (hs:setAt cs off (cellsV v)=some cs') (h:∀ (w':World),St W w' (A++Box g cs' e::B)→DM P n ops Q W w0 wm fuel kk m' F w'):LM P n ops Q W w0 wm fuel kk mm ii F w:=by
  obtain⟨G,⟨hG,hh⟩,_,hlo⟩:=hS.sep.pick.head
  obtain⟨w',r1,r2,r3,r4,r5,r6,r7⟩:=z1e (P:=P) g off e (cellsV v) 0 w cs cs' h1 hh (by simpa using hs)
  have hge:W.fr g:=hlo g (by rw [hG];simp)
  have hS':St W w' (A++Box g cs' e::B):=by
    refine St.back ⟨⟨r5.trans hS.ext.os,r6.trans hS.ext.tape,r7.trans hS.ext.output,by rw [r4];exact hS.le,fun k hk=>?_⟩,?_⟩
    · show w'.heap[k]? = _;rw [r3 k (fun e=>hk (e ▸ hge))];exact hS.ext.block k hk
    · refine hS.sep.pick.upd hS.up fun G' hG' _ _=>?_
      obtain⟨e1,_⟩:=hG'
      exact⟨[g],⟨rfl,r2⟩,by simp,fun b hb=>.inl (by rw [e1];exact hb),fun b hb hn=>r3 b (by rintro rfl;exact hn (by rw [e1];simp))⟩
  refine LM.unitW hsk m' hm' hwi hni hg (w':=w') (fun a ha=>?_) hd hS'.ext (h w' hS')
  unfold execOp
  rw [ho]
  have hsz:v.cells.size=i.size:=by
    rw [← Array.length_toList,z3k];exact Nat.eq_of_beq_eq_true hl
  simp [ha.ev hx,ha.ev hy,Instr.storeAt,Instr.sureAddr,storeVar,ht.sizeOf hi,hsz,z3k,hq,r1]

theorem DM.all {P:Program}{n:Nat}{Q:Post}{F:Fr}{w w0:World}{W9:Base}{ops:List Oper}{wm fuel kk mm:Nat}{sk:List (List Nat × Nat)}(hsk:skOf ops=sk∧ops.length=kk) (rs:List Nat) (hr:readyM sk kk mm=rs) (hne:rs≠[]) (h:∀ i,i∈rs→LM P n ops Q W9 w0 wm fuel kk mm i F w):DM P n ops Q W9 w0 wm (fuel+1) kk mm F w:=DM.loud hsk rs hr hne h
end Go.E


namespace Go.E
open Go.RowKit Go.MapKept
set_option linter.unusedVariables false
set_option linter.unusedSimpArgs false
set_option linter.unusedSectionVars false


structure KeyOk (P:Program){κ:Type}(kt:Nat) (ek:κ→Value):Prop where
  inj:∀ {a b:κ},ek a=ek b→a=b
  check:∀ (e:Bool) (w:World) (k:κ),(Instr.checkKey e 10000 kt (ek k)).run P w=.ok () w
  find:∀ (w:World) (k:κ) (es:List MapEntry),(∀ e,e∈es→∃ k',e.key=ek k')→
    ((Instr.findKey kt (ek k) es).run P w=.ok none w∧∀ e,e∈es→e.key≠ek k)∨∃ j e,(Instr.findKey kt (ek k) es).run P w=.ok (some (j,e.val)) w∧es[j]? = some e∧e.key=ek k
  stays:∀ (w:World) (k:κ),(Instr.keyThatStays (ek k) (ek k)).run P w=.ok (ek k) w

def scalarV:Value→Bool
  | .int _ _ | .bool _ | .string _=>true
  | _=>false

theorem z7m {v:Value}(h:scalarV v=true) (n:Nat):Instr.sameBits n v v=true:=by
  cases v<;>simp [scalarV] at h<;>cases n<;>simp [Instr.sameBits,bytes_beq]

theorem zbN {cs:List Value}(h:cs.all scalarV=true) (n:Nat):Instr.sameBits (n+1) (.agg ⟨cs⟩) (.agg ⟨cs⟩)=true:=by
  simp only [Instr.sameBits,beq_self_eq_true,Bool.true_and]
  rw [List.all_eq_true] at h ⊢
  intro p hp
  have hp':p∈cs.zip cs:=hp
  obtain⟨x,y⟩:=p
  have hx:=(List.of_mem_zip hp').1
  have hxy:x=y:=by
    obtain⟨i,hi,he⟩:=List.getElem_of_mem hp'
    simp at he
    rw [← he.1,← he.2]
  subst hxy
  exact z7m (h x hx) n

theorem KeyOk.plain {P:Program}{κ:Type}{kt:Nat}{ek:κ→Value}{d:TypeDesc}(hd:P.underlying kt=some d) (hk:∀ k,IsKey d (ek k)) (hs:∀ k,scalarV (ek k)=true) (hi:∀ {a b:κ},ek a=ek b→a=b):KeyOk P kt ek where
  inj:=hi
  check e w k:=run_checkKey hd (hk k) e 9999
  find w k es hes:=by
    rcases findNow_spec (hk k) es 0 (fun e he=>by obtain⟨k',h⟩:=hes e he;rw [h];exact hk k') with⟨h1,h2⟩ | ⟨j,e0,h1,h2,h3⟩
    · exact .inl ⟨run_findKey hd h1,h2⟩
    · exact .inr ⟨j,e0,by simpa using run_findKey (P:=P) (w:=w) hd h1,h2,h3⟩
  stays w k:=by
    unfold Instr.keyThatStays
    rw [z7m (hs k)]
    simp

theorem KeyOk.int {P:Program}{kt:Nat}{q:IntKind}(hd:P.underlying kt=some (.int q)):KeyOk P kt (Value.int q):=
  KeyOk.plain hd (fun k=>rfl) (fun k=>rfl) (fun h=>by simpa using h)
theorem KeyOk.str {P:Program}{kt:Nat}(hd:P.underlying kt=some .string):KeyOk P kt Value.string:=
  KeyOk.plain hd (fun k=>trivial) (fun k=>rfl) (fun h=>by simpa using h)

section
variable {P:Program}{T:TT}

theorem z6n (ht:TTok P T){td:TD}{xs ys:List Value}{b:Bool}(h:eqFlat td xs ys=some b){t:Nat}{i:TI}(hi:T.get t=some i) (htd:i.d=td) (em:Bool) (d:Nat) (w:World){x:Value}(hx:isVal i xs x):
    (Instr.checkKey em (d+1) t x).run P w=.ok () w:=by
  unfold eqFlat at h
  split at h
  · have hag:i.agg=false:=by unfold TI.agg;rw [htd]
    rcases hx with⟨h1,_⟩ | ⟨_,hx⟩
    · rw [hag] at h1;cases h1
    simp only [List.cons.injEq,and_true] at hx
    subst hx
    unfold Instr.checkKey
    simp [Go.underlying,ht.int hi htd]
  · have hag:i.agg=false:=by unfold TI.agg;rw [htd]
    rcases hx with⟨h1,_⟩ | ⟨_,hx⟩
    · rw [hag] at h1;cases h1
    simp only [List.cons.injEq,and_true] at hx
    subst hx
    unfold Instr.checkKey
    simp [Go.underlying,ht.bool hi htd]
  · have hag:i.agg=false:=by unfold TI.agg;rw [htd]
    rcases hx with⟨h1,_⟩ | ⟨_,hx⟩
    · rw [hag] at h1;cases h1
    simp only [List.cons.injEq,and_true] at hx
    subst hx
    unfold Instr.checkKey
    simp [Go.underlying,ht.str hi htd]
  · cases h

theorem z9t (ht:TTok P T){E:TD→List Value→List Value→Option Bool}(hE:Shaped E) (em:Bool) (d:Nat)
    (he:∀ (td:TD) (xs ys:List Value) (b:Bool),E td xs ys=some b→∀ (t:Nat) (i:TI),T.get t=some i→i.d=td→∀ (w:World),∀ x,isVal i xs x→(Instr.checkKey em d t x).run P w=.ok () w):
    ∀ (gs:List (Nat × Nat × Bool × Nat)) (xs ys:List Value) (b:Bool),eqfs T E gs xs ys=some b→∀ (fs:List Field),fieldsOk P fs gs=true→∀ (w:World),
      (forIn fs PUnit.unit (fun f (_:PUnit)=>
        if f.name≠ "_" then(do
          let v ← part f.type ⟨xs⟩ f.offset
          Instr.checkKey em d f.type v
          pure (ForInStep.yield PUnit.unit))
        else pure (ForInStep.yield PUnit.unit)):Sem PUnit).run P w=.ok PUnit.unit w:=by
  intro gs
  induction gs with
  | nil=>
    intro xs ys b h fs hfs w
    cases fs with
    | nil=>simp
    | cons f fs=>simp [fieldsOk] at hfs
  | cons g gs ih=>
    intro xs ys b h fs hfs w
    cases fs with
    | nil=>simp [fieldsOk] at hfs
    | cons f fs=>
      simp only [fieldsOk,Bool.and_eq_true] at hfs
      obtain⟨hok,hrest⟩:=hfs
      simp only [fieldOk,Bool.and_eq_true] at hok
      obtain⟨⟨⟨⟨⟨ho,hty⟩,hnm⟩,_⟩,_⟩,_⟩:=hok
      have hty':=Nat.eq_of_beq_eq_true hty
      have ho':=Nat.eq_of_beq_eq_true ho
      unfold eqfs at h
      split at h
      · rename_i i hi
        split at h
        · rename_i a c ha hc
          obtain⟨x,y,hx,hy⟩:=hE i _ _ a ha
          have hnm':f.name≠ "_":=by simpa using hnm
          have e1:=z70 ht hi hx w
          have e3:=he i.d _ _ a ha g.2.2.2 i hi rfl w x hx
          rw [← hty',← ho'] at *
          simp only [List.forIn_cons,Sem.run_bind,hnm',ne_eq,not_false_eq_true,if_true,Result.andThen_ok,e1,e3,Sem.run_pure]
          simpa using ih xs ys c hc fs hrest w
        · cases h
      · cases h

theorem z8k (ht:TTok P T) (em:Bool):∀ (n:Nat) (td:TD) (xs ys:List Value) (b:Bool),eqc T n td xs ys=some b→∀ (t:Nat) (i:TI),T.get t=some i→i.d=td→∀ (d:Nat) (w:World),n<d→∀ x,isVal i xs x→(Instr.checkKey em d t x).run P w=.ok () w:=by
  intro n
  induction n with
  | zero=>
    intro td xs ys b h t i hi htd d w hd x hx
    obtain⟨d,rfl⟩:∃ d',d=d'+1:=⟨d - 1,by omega⟩
    exact z6n ht h hi htd em d w hx
  | succ n ih=>
    intro td xs ys b h t i hi htd d w hd x hx
    obtain⟨d,rfl⟩:∃ d',d=d'+1:=⟨d - 1,by omega⟩
    cases td with
    | struct gs=>
      have hag:i.agg=true:=by unfold TI.agg;rw [htd]
      rcases hx with⟨_,rfl⟩ | ⟨h1,_⟩
      case inr=>rw [hag] at h1;cases h1
      obtain⟨dd,h1,h2,_⟩:=ht.desc hi
      rw [htd] at h2
      cases dd<;>simp only [descOk,Bool.false_eq_true] at h2
      rename_i fs _
      have key:=z9t ht (z7R n) em d (fun td xs ys b h t i hi htd w x hx=>ih td xs ys b h t i hi htd d w (by omega) x hx) gs xs ys b h fs.toList h2 w
      unfold Instr.checkKey
      simp only [Sem.run_bind,run_underlying h1,Result.andThen_ok]
      rw [← Array.forIn_toList]
      refine Eq.trans (congrArg (fun r=>Result.andThen r _) key) ?_
      simp
    | _=>exact z6n ht h hi htd em d w hx

theorem z5T {κ:Type}{kt:Nat}{ek:κ→Value}(w:World) (heq:∀ a b:κ,∃ r:Bool,(Op.equal kt (ek a) (ek b)).run P w=.ok r w∧(r=true↔a=b)) (k:κ):
    ∀ (es:List MapEntry) (i:Nat),(∀ e,e∈es→∃ k',e.key=ek k')→
      ((Instr.findAsking kt (ek k) es i).run P w=.ok none w∧∀ e,e∈es→∀ k',e.key=ek k'→k'≠k)∨
      ∃ j e,(Instr.findAsking kt (ek k) es i).run P w=.ok (some (i+j,e.val)) w∧es[j]? = some e∧e.key=ek k
  | [],i,_=>.inl ⟨by simp [Instr.findAsking],by simp⟩
  | e::es,i,hall=>by
    obtain⟨k1,G⟩:=hall e (by simp)
    obtain⟨r,hr,hiff⟩:=heq k k1
    rw [← G] at hr
    cases r with
    | false=>
      have hne:k1≠k:=fun h=>by have:=hiff.2 h.symm;cases this
      rcases z5T w heq k es (i+1) (fun y hy=>hall y (by simp [hy])) with⟨h1,h2⟩ | ⟨j,e',h1,h2,h3⟩
      · refine .inl ⟨by simp [Instr.findAsking,hr,h1],fun y hy k' hk'=>?_⟩
        rcases List.mem_cons.1 hy with rfl | hy
        · rintro rfl
          obtain⟨r2,d,hiff2⟩:=heq k' k'
          rw [← hk'] at d
          rw [hk'] at hr
          rw [hk'] at d
          rw [hr] at d
          cases d
          have:=hiff2.2 rfl
          cases this
        · exact h2 y hy k' hk'
      · exact .inr ⟨j+1,e',by simp [Instr.findAsking,hr,h1];omega,by simpa using h2,h3⟩
    | true=>
      refine .inr ⟨0,e,by simp [Instr.findAsking,hr],rfl,?_⟩
      rw [G,hiff.1 rfl]

theorem KeyOk.struct (ht:TTok P T){κ:Type}{kt:Nat}{i:TI}{gs:List (Nat × Nat × Bool × Nat)}(hi:T.get kt=some i) (hd:i.d=.struct gs){cells:κ→List Value}{b:κ→κ→Bool}
    (he:∀ x y,eqc T 9 (.struct gs) (cells x) (cells y)=some (b x y)) (hb:∀ x y,b x y=true↔x=y) (hs:∀ k,(cells k).all scalarV=true) (hinj:∀ {a b:κ},cells a=cells b→a=b):
    KeyOk P kt (fun k=>.agg ⟨cells k⟩) where
  inj:=fun {a b} h=>hinj (by simpa using h)
  check e w k:=z8k ht e 9 _ _ _ _ (he k k) kt i hi hd 10000 w (by omega) _ (.inl ⟨by unfold TI.agg;rw [hd],rfl⟩)
  find w k es hes:=by
    have hag:i.agg=true:=by unfold TI.agg;rw [hd]
    have heq:∀ x y:κ,∃ r:Bool,(Op.equal kt (.agg ⟨cells x⟩) (.agg ⟨cells y⟩)).run P w=.ok r w∧(r=true↔x=y):=fun x y=>
      ⟨b x y,by
        unfold Op.equal
        exact z9r ht 9 _ _ _ _ (he x y) kt i hi hd _ w (by decide) _ _ (.inl ⟨hag,rfl⟩) (.inl ⟨hag,rfl⟩),hb x y⟩
    obtain⟨dd,h1,h2,_⟩:=ht.desc hi
    rw [hd] at h2
    cases dd<;>simp only [descOk,Bool.false_eq_true] at h2
    rename_i fs _
    have hk:=z5T (ek:=fun k=>Value.agg ⟨cells k⟩) w heq k es 0 hes
    cases es with
    | nil=>exact .inl ⟨by simp [Instr.findKey,run_underlying h1,Instr.findNow],by simp⟩
    | cons e es=>
      have hfn:Instr.findNow (.struct fs) (.agg ⟨cells k⟩) (e::es) 0=none:=by simp [Instr.findNow,Instr.sameNow]
      have hrun:(Instr.findKey kt (.agg ⟨cells k⟩) (e::es)).run P w=(Instr.findAsking kt (.agg ⟨cells k⟩) (e::es) 0).run P w:=by
        unfold Instr.findKey
        simp only [Sem.run_bind,run_underlying h1,Result.andThen_ok,hfn]
      rw [hrun]
      rcases hk with⟨a1,a2⟩ | ⟨j,e',a1,a2,a3⟩
      · refine .inl ⟨a1,fun y hy hyk=>?_⟩
        exact a2 y hy k hyk rfl
      · exact .inr ⟨j,e',by simpa using a1,a2,a3⟩
  stays w k:=by
    unfold Instr.keyThatStays
    rw [zbN (hs k) 9999]
    simp
end


section
variable {κ α:Type}[DecidableEq κ]
def mget:List (κ × α)→κ→Option α
  | [],_=>none
  | p::m,k=>if p.1=k then some p.2 else mget m k
theorem zb7 {m:List (κ × α)}{k:κ}(h:∀ p,p∈m→p.1≠k):mget m k=none:=by
  induction m with
  | nil=>rfl
  | cons p m ih=>unfold mget;rw [if_neg (h p (by simp))];exact ih fun q hq=>h q (by simp [hq])
theorem zd6 {m:List (κ × α)}(hn:(m.map (·.1)).Nodup){j:Nat}{k:κ}{x:α}(h:m[j]? = some (k,x)):mget m k=some x:=by
  induction m generalizing j with
  | nil=>simp at h
  | cons p m ih=>
    simp only [List.map_cons,List.nodup_cons] at hn
    unfold mget
    cases j with
    | zero=>simp only [List.getElem?_cons_zero,Option.some.injEq] at h;subst h;simp
    | succ j=>
      simp only [List.getElem?_cons_succ] at h
      have hm:k∈m.map (·.1):=List.mem_map.2 ⟨(k,x),List.mem_of_getElem? h,rfl⟩
      rw [if_neg (fun e=>hn.1 (by rw [e];exact hm))]
      exact ih hn.2 h
end


section
variable {κ α:Type}

def MapAt (ek:κ→Value) (ev:α→Value) (w:World) (g:Nat) (m:List (κ × α)):Prop:=
  ∃ es clock,w.heap[g]? = some (.map es clock)∧es.toList.map (fun e=>(e.key,e.val))=m.map (fun p=>(ek p.1,ev p.2))∧(m.map (·.1)).Nodup∧Stamped es clock

theorem zda {w:World}{g:Nat}{o:Obj}(h:w.heap[g]? = some o):g<w.heap.size:=(Array.getElem?_eq_some_iff.1 h).1

theorem MapAt.same {ek:κ→Value}{ev:α→Value}{w w':World}{g:Nat}{m:List (κ × α)}(h:MapAt ek ev w g m) (hs:w'.heap[g]? = w.heap[g]?):MapAt ek ev w' g m:=by
  obtain⟨es,c,h1,h2⟩:=h
  exact⟨es,c,by rw [hs];exact h1,h2⟩
theorem MapAt.lt {ek:κ→Value}{ev:α→Value}{w:World}{g:Nat}{m:List (κ × α)}(h:MapAt ek ev w g m):g<w.heap.size:=by
  obtain⟨es,c,h1,h2⟩:=h
  exact zda h1
theorem MapAt.live {ek:κ→Value}{ev:α→Value}{B:Base}{g:Nat}{m:List (κ × α)}(h:MapAt ek ev B.W g m):¬ B.fr g:=by
  have hl:=h.lt
  obtain⟨es,c,h1,h2⟩:=h
  rintro(h3 | h3)
  · omega
  · rw [B.gone g h3 hl] at h1;cases h1
theorem MapAt.ext {ek:κ→Value}{ev:α→Value}{B C:Base}{g:Nat}{m:List (κ × α)}(h:MapAt ek ev B.W g m) (he:Ext B C):MapAt ek ev C.W g m:=h.same (he.same h.live)

def tMp (ek:κ→Value) (ev:α→Value):Ty (List (κ × α)) where
  size:=1
  ro:=fun w cs m=>∃ g,cs=[.map (some g)]∧MapAt ek ev w g m
  own:=fun w cs m G=>∃ g,cs=[.map (some g)]∧MapAt ek ev w g m∧G=[g]
  req:=fun _=>True
  len:=by rintro _ _ _ ⟨g,rfl,_⟩;rfl
  lenO:=by rintro _ _ _ _ ⟨g,rfl,_⟩;rfl
  ext:=by rintro _ _ _ _ he ⟨g,rfl,h⟩;exact⟨g,rfl,h.ext he⟩
  own_ro:=by rintro _ _ _ _ ⟨g,rfl,h,_⟩ _;exact⟨g,rfl,h⟩
  loc:=by rintro _ _ _ _ _ ⟨g,rfl,h,rfl⟩ hs;exact⟨g,rfl,h.same (hs g (by simp)),rfl⟩
  lt:=by rintro _ _ _ _ ⟨g,rfl,h,rfl⟩ g' hg;simp at hg;subst hg;exact h.lt
  one:=by rintro _ _ _ ⟨g,rfl,_⟩ u hu;simp at hu;subst hu;rfl
  oneO:=by rintro _ _ _ _ ⟨g,rfl,_⟩ u hu;simp at hu;subst hu;rfl

instance {W:Base}{ek:κ→Value}{ev:α→Value}:Reads W (tMp ek ev):=⟨fun _=>trivial⟩

end


structure MapOk (P:Program){κ α:Type}(t k e:Nat) (ek:κ→Value) (ev:α→Value) (z:α):Prop where
  und:P.underlying t=some (.map k e)
  zero:(P.info? e).bind (fun i=>i.zero)=some (ev z)
  key:KeyOk P k ek

section
variable {P:Program}{κ α:Type}[DecidableEq κ] {t k e:Nat}{ek:κ→Value}{ev:α→Value}{z:α}

theorem zbf {es:Array MapEntry}{m:List (κ × α)}(h:es.toList.map (fun e=>(e.key,e.val))=m.map (fun p=>(ek p.1,ev p.2))){j:Nat}{x:MapEntry}(hx:es.toList[j]? = some x):
    ∃ p,m[j]? = some p∧x.key=ek p.1∧x.val=ev p.2:=by
  have h1:=congrArg (fun l=>l[j]?) h
  simp only [List.getElem?_map,hx,Option.map_some] at h1
  cases hm:m[j]? with
  | none=>rw [hm] at h1;cases h1
  | some p=>
    rw [hm] at h1
    simp only [Option.map_some,Option.some.injEq,Prod.mk.injEq] at h1
    exact⟨p,rfl,h1.1,h1.2⟩

theorem zbX {es:Array MapEntry}{m:List (κ × α)}(h:es.toList.map (fun e=>(e.key,e.val))=m.map (fun p=>(ek p.1,ev p.2))):∀ x,x∈es.toList→∃ k',x.key=ek k':=fun x hx=>by
  obtain⟨j,hj⟩:=List.getElem?_of_mem hx
  obtain⟨p,_,h1,_⟩:=zbf h hj
  exact⟨p.1,h1⟩


theorem MapOk.find (h:MapOk P t k e ek ev z){es:Array MapEntry}{m:List (κ × α)}(hr:es.toList.map (fun e=>(e.key,e.val))=m.map (fun p=>(ek p.1,ev p.2))) (hn:(m.map (·.1)).Nodup) (w:World) (kk:κ):
    ((Instr.findKey k (ek kk) es.toList).run P w=.ok none w∧mget m kk=none∧(∀ p,p∈m→p.1≠kk)∧∀ x,x∈es.toList→x.key≠ek kk)∨
    ∃ j x0 v,(Instr.findKey k (ek kk) es.toList).run P w=.ok (some (j,ev v)) w∧es[j]? = some x0∧x0.key=ek kk∧m[j]? = some (kk,v)∧mget m kk=some v:=by
  rcases h.key.find w kk es.toList (zbX hr) with⟨h1,h2⟩ | ⟨j,x0,h1,h2,h3⟩
  · have hm:∀ p,p∈m→p.1≠kk:=fun p hp hpk=>by
      obtain⟨j,hj⟩:=List.getElem?_of_mem hp
      have h4:=congrArg (fun l=>l[j]?) hr
      simp only [List.getElem?_map,hj,Option.map_some] at h4
      cases hx:es.toList[j]? with
      | none=>rw [hx] at h4;cases h4
      | some x=>
        rw [hx] at h4
        simp only [Option.map_some,Option.some.injEq,Prod.mk.injEq] at h4
        exact h2 x (List.mem_of_getElem? hx) (by rw [h4.1,hpk])
    exact .inl ⟨h1,zb7 hm,hm,h2⟩
  · obtain⟨p,hp,hk,hv⟩:=zbf hr h2
    have hpk:p.1=kk:=h.key.inj (by rw [← hk,h3])
    obtain⟨p1,p2⟩:=p
    simp only at hpk hv
    subst hpk
    exact .inr ⟨j,x0,p2,by rw [h1,hv],by simpa using h2,h3,hp,zd6 hn hp⟩

end


section
variable {P:Program}{n:Nat}{Q:Post}{F:Fr}{W:Base}{w:World}{ops rest:List Oper}{o:Oper}{κ α:Type}[DecidableEq κ] {t k e:Nat}{ek:κ→Value}{ev:α→Value}{z:α}

end


theorem LM.quietL {P:Program}{n:Nat}{Q:Post}{F:Fr}{w w0:World}{W9:Base}{ops:List Oper}{wm fuel kk mm:Nat}{sk:List (List Nat × Nat)}{o:Oper}(hsk:skOf ops=sk∧ops.length=kk){v:Value}{ii:Nat}(m':Nat) (hm':mm ||| 2 ^ ii=m') (hwi:wm.testBit ii=false) (hni:nthv ops ii=some o) (hg:guardOf ops F o=some true) (hq:Quiet P n F w o v){d:Nat}(hd:o.dst=some d) (hn:Nat.blt d n=true)
    (h:DM P n ops Q W9 w0 wm fuel kk m' ((d,v)::F) w):LM P n ops Q W9 w0 wm fuel kk mm ii F w:=
  LM.okD hsk m' hm' hwi hni hg (fun a ha=>hq a w ha (Ext.refl w)) hd hn (Ext.refl w) h

end Go.E


namespace Go.E
open Go.RowKit
set_option linter.unusedVariables false
set_option linter.unusedSimpArgs false


structure Ty.Le {α:Type}(T U:Ty α):Prop where
  ro:∀ {w cs x},T.ro w cs x→U.ro w cs x
  own:∀ {w cs x G},T.own w cs x G→U.own w cs x G

theorem Ty.Le.refl {α:Type}(T:Ty α):T.Le T:=⟨id,id⟩
theorem Ty.Le.trans {α:Type}{T U V:Ty α}(h:T.Le U) (k:U.Le V):T.Le V:=⟨fun x=>k.ro (h.ro x),fun x=>k.own (h.own x)⟩

section
variable {α β:Type}
theorem Els.le {T U:Ty α}(h:T.Le U){w:World}:∀ {xs:List α}{cs:List Value},Els T w cs xs→Els U w cs xs
  | [],_,h1=>h1
  | _::_,_,⟨c,d,h1,h2,h3⟩=>⟨c,d,h1,h.ro h2,Els.le h h3⟩
theorem ElsO.le {T U:Ty α}(h:T.Le U){w:World}:∀ {xs:List α}{cs:List Value}{G:List Nat},ElsO T w cs xs G→ElsO U w cs xs G
  | [],_,_,h1=>h1
  | _::_,_,_,⟨c,d,H,K,h1,h2,h3,h4⟩=>⟨c,d,H,K,h1,h2,h.own h3,ElsO.le h h4⟩
theorem z6Y {T T':Ty α}{U U':Ty β}(h:T.Le T') (k:U.Le U'):(tPair T U).Le (tPair T' U'):=
  ⟨fun⟨c,d,e,h1,h2⟩=>⟨c,d,e,h.ro h1,k.ro h2⟩,fun⟨c,d,H,K,e,g,h1,h2⟩=>⟨c,d,H,K,e,g,h.own h1,k.own h2⟩⟩
theorem zcY {T T':Ty α}{f:β→α}(h:T.Le T'):(tMap f T).Le (tMap f T'):=⟨fun x=>h.ro x,fun x=>h.own x⟩
theorem zdh {T T':Ty α}{e:TypeId}(h:T.Le T') (hs:T.size=T'.size):(tSl e T).Le (tSl e T'):=
  ⟨fun⟨A,c,els,h1,h2,h3,h4⟩=>⟨A,c,els,h1,h2,h3.le h,h4⟩,fun⟨v,els,h1,h2,K,h3,h4⟩=>⟨v,els,h1,by rw [← hs];exact h2,K,h3.le h,h4⟩⟩
end


def tNone (α:Type) (n:Nat):Ty α where
  size:=n
  ro:=fun _ _ _=>False
  own:=fun _ _ _ _=>False
  req:=fun _=>True
  len:=fun h=>h.elim
  lenO:=fun h=>h.elim
  ext:=fun _ h=>h
  own_ro:=fun h _=>h
  loc:=fun h _=>h
  lt:=fun h=>h.elim
  one:=fun h=>h.elim
  oneO:=fun h=>h.elim


structure Step (α:Type) (n:Nat) where
  f:Ty α→Ty α
  size:∀ T,(f T).size=n
  mono:∀ {T U:Ty α},T.size=U.size→T.Le U→(f T).Le (f U)
  req:∀ {T:Ty α},(∀ w,T.req w)→∀ w,(f T).req w

variable {α:Type}{n:Nat}
def Step.up (S:Step α n):Nat→Ty α
  | 0=>tNone α n
  | k+1=>S.f (S.up k)

theorem Step.sizeN (S:Step α n):∀ k,(S.up k).size=n
  | 0=>rfl
  | k+1=>S.size _
theorem Step.reqN (S:Step α n):∀ k w,(S.up k).req w
  | 0,_=>trivial
  | k+1,w=>S.req (S.reqN k) w
theorem Step.le1 (S:Step α n):∀ k,(S.up k).Le (S.up (k+1))
  | 0=>⟨fun h=>h.elim,fun h=>h.elim⟩
  | k+1=>S.mono ((S.sizeN k).trans (S.sizeN (k+1)).symm) (S.le1 k)
theorem Step.le (S:Step α n) (k:Nat):∀ m,(S.up k).Le (S.up (k+m))
  | 0=>Ty.Le.refl _
  | m+1=>(S.le k m).trans (S.le1 (k+m))
theorem Step.leM (S:Step α n){k m:Nat}(h:k≤m):(S.up k).Le (S.up m):=by
  have:=S.le k (m - k)
  rwa [Nat.add_sub_cancel' h] at this


def tRec (S:Step α n):Ty α where
  size:=n
  ro:=fun w cs x=>∃ k,(S.up k).ro w cs x
  own:=fun w cs x G=>∃ k,(S.up k).own w cs x G
  req:=fun _=>True
  len:=fun⟨k,h⟩=>((S.up k).len h).trans (S.sizeN k)
  lenO:=fun⟨k,h⟩=>((S.up k).lenO h).trans (S.sizeN k)
  ext:=fun he ⟨k,h⟩=>⟨k,(S.up k).ext he h⟩
  own_ro:=fun⟨k,h⟩ _=>⟨k,(S.up k).own_ro h (S.reqN k _)⟩
  loc:=fun⟨k,h⟩ hs=>⟨k,(S.up k).loc h hs⟩
  lt:=fun⟨k,h⟩=>(S.up k).lt h
  one:=fun⟨k,h⟩=>(S.up k).one h
  oneO:=fun⟨k,h⟩=>(S.up k).oneO h

theorem Step.in (S:Step α n) (k:Nat):(S.up k).Le (tRec S):=⟨fun h=>⟨k,h⟩,fun h=>⟨k,h⟩⟩
theorem Step.unfold_ro (S:Step α n){w:World}{cs:List Value}{x:α}(h:(tRec S).ro w cs x):(S.f (tRec S)).ro w cs x:=by
  obtain⟨k,h⟩:=h
  cases k with
  | zero=>exact h.elim
  | succ k=>exact(S.mono (S.sizeN k) (S.in k)).ro h
theorem Step.unfold_own (S:Step α n){w:World}{cs:List Value}{x:α}{G:List Nat}(h:(tRec S).own w cs x G):(S.f (tRec S)).own w cs x G:=by
  obtain⟨k,h⟩:=h
  cases k with
  | zero=>exact h.elim
  | succ k=>exact(S.mono (S.sizeN k) (S.in k)).own h

theorem Step.els (S:Step α n){w:World}:∀ {xs:List α}{cs:List Value},Els (tRec S) w cs xs→∃ k,Els (S.up k) w cs xs
  | [],_,h=>⟨0,h⟩
  | _::_,_,⟨c,d,h1,⟨k,h2⟩,h3⟩=>by
    obtain⟨m,h4⟩:=S.els h3
    exact⟨max k m,c,d,h1,(S.leM (Nat.le_max_left _ _)).ro h2,h4.le (S.leM (Nat.le_max_right _ _))⟩
theorem Step.elsO (S:Step α n){w:World}:∀ {xs:List α}{cs:List Value}{G:List Nat},ElsO (tRec S) w cs xs G→∃ k,ElsO (S.up k) w cs xs G
  | [],_,_,h=>⟨0,h⟩
  | _::_,_,_,⟨c,d,H,K,h1,h2,⟨k,h3⟩,h4⟩=>by
    obtain⟨m,h5⟩:=S.elsO h4
    exact⟨max k m,c,d,H,K,h1,h2,(S.leM (Nat.le_max_left _ _)).own h3,h5.le (S.leM (Nat.le_max_right _ _))⟩
theorem Step.sl_ro (S:Step α n){e:TypeId}{w:World}{cs:List Value}{xs:List α}(h:(tSl e (tRec S)).ro w cs xs):∃ k,(tSl e (S.up k)).ro w cs xs:=by
  obtain⟨A,c,els,h1,h2,h3,h4⟩:=h
  obtain⟨k,h5⟩:=S.els h3
  exact⟨k,A,c,els,h1,h2,h5,h4⟩
theorem Step.sl_own (S:Step α n){e:TypeId}{w:World}{cs:List Value}{xs:List α}{G:List Nat}(h:(tSl e (tRec S)).own w cs xs G):∃ k,(tSl e (S.up k)).own w cs xs G:=by
  obtain⟨v,els,h1,h2,K,h3,h4⟩:=h
  obtain⟨k,h5⟩:=S.elsO h3
  exact⟨k,v,els,h1,by rw [S.sizeN k];exact h2,K,h5,h4⟩
instance {W:Base}{S:Step α n}:Reads W (tRec S):=⟨fun _=>trivial⟩
end Go.E


