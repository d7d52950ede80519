/- Rules for proving that code of the model runs as a plain Lean function says: frames as sparse lists of known slots, and one rule for each form of code. Conditions: none (rules). -/
import Derived.WalkKit
import Derived.OrdersHeld
import Derived.Laws.Cells
import Derived.LaidEql
import Derived.Laws.StructEq
namespace Go.E
set_option linter.unusedVariables false
set_option linter.unusedSimpArgs false


abbrev Fr:=List (Nat × Value)

def Fr.get:Fr→Nat→Option Value
  | [],_=>none
  | (j,v)::r,i=>match Nat.beq j i with
    | true=>some v
    | false=>Fr.get r i

def Fr.ev (F:Fr):Operand→Option Value
  | .tmp t=>F.get t
  | .const v=>some v
  | .func f=>some (.func (.func f) #[] #[])
  | .global g=>some (.pointer (some ⟨g,0,none⟩))


def Fits (n:Nat) (F:Fr) (a:Act):Prop:=a.defers=[]∧a.tmps.size=n∧∀ i v,F.get i=some v→a.tmps[i]? = some v

theorem Fits.ev {n:Nat}{F:Fr}{a:Act}(h:Fits n F a){x:Operand}{v:Value}(e:F.ev x=some v):a.eval x=v:=by
  cases x with
  | tmp t=>simp only [Fr.ev] at e;simp [Act.eval,Array.getD_eq_getD_getElem?,h.2.2 t v e]
  | const u=>simp only [Fr.ev,Option.some.injEq] at e;simpa [Act.eval] using e
  | func f=>simp only [Fr.ev,Option.some.injEq] at e;simpa [Act.eval] using e
  | global g=>simp only [Fr.ev,Option.some.injEq] at e;simpa [Act.eval] using e

theorem Fr.get_cons (j:Nat) (v:Value) (r:Fr) (i:Nat):Fr.get ((j,v)::r) i=if j=i then some v else Fr.get r i:=by
  by_cases h:j=i
  · subst h;simp [Fr.get]
  · have:Nat.beq j i=false:=by rw [Bool.eq_false_iff];intro hb;exact h (Nat.eq_of_beq_eq_true hb)
    simp [Fr.get,this,h]

theorem Fits.put {n:Nat}{F:Fr}{a:Act}(h:Fits n F a){d:Nat}(hd:Nat.blt d n=true) (v:Value):Fits n ((d,v)::F) (a.put (some d) v):=by
  have hd':d<n:=by simpa using hd
  refine⟨by simpa [Act.put] using h.1,by simp [Act.put,h.2.1],fun i u hu=>?_⟩
  rw [Fr.get_cons] at hu
  simp only [Act.put,Array.getElem?_setIfInBounds]
  by_cases hi:d=i
  · subst hi
    rw [if_pos rfl] at hu ⊢
    rw [h.2.1,if_pos hd']
    exact hu
  · rw [if_neg hi] at hu ⊢
    exact h.2.2 i u hu

def Fr.Has (F:Fr):Fr→Prop
  | []=>True
  | (i,v)::r=>F.get i=some v∧Fr.Has F r

theorem Fr.has_get {F:Fr}:∀ {F':Fr},F.Has F'→∀ i v,F'.get i=some v→F.get i=some v
  | [],_,i,v,h=>by simp [Fr.get] at h
  | (j,u)::r,⟨h1,h2⟩,i,v,h=>by
    rw [Fr.get_cons] at h
    by_cases hi:j=i
    · subst hi;rw [if_pos rfl] at h;rw [h1];exact h
    · rw [if_neg hi] at h;exact Fr.has_get h2 i v h

theorem Fits.weak {n:Nat}{F F':Fr}{a:Act}(h:Fits n F a) (hs:F.Has F'):Fits n F' a:=
  ⟨h.1,h.2.1,fun i v hv=>h.2.2 i v (Fr.has_get hs i v hv)⟩



abbrev Post:=Exit→Fr→World→Prop

def Post.up (n:Nat) (Q:Post):Exit→Act→World→Prop:=fun e a w=>∃ F,Fits n F a∧Q e F w

def WP (P:Program) (n:Nat) (c:Code) (Q:Post) (F:Fr) (w:World):Prop:=∀ a,Fits n F a→c.wp P (Q.up n) a w

def Post.after (K:Fr→World→Prop) (Q:Post):Post
  | .normal,F,w=>K F w
  | e,F,w=>Q e F w

def Post.block (id:Nat) (Q:Post):Post
  | .exit i,F,w=>match Nat.beq i id with
    | true=>Q .normal F w
    | false=>Q (.exit i) F w
  | e,F,w=>Q e F w

section
variable {P:Program}{n:Nat}{Q:Post}{F:Fr}{w:World}

theorem WP.weak {c:Code}(F':Fr) (hs:F.Has F') (h:WP P n c Q F' w):WP P n c Q F w:=fun a ha=>h a (ha.weak hs)

theorem WP.mono {c:Code}{Q':Post}(h:WP P n c Q F w) (hq:∀ e F w,Q e F w→Q' e F w):WP P n c Q' F w:=
  fun a ha=>wp_mono (h a ha) fun e _ w' ⟨F',hf,q⟩=>⟨F',hf,hq e F' w' q⟩

theorem WP.seq {x y:Code}(h:WP P n x (Q.after (WP P n y Q)) F w):WP P n (.seq x y) Q F w:=fun a ha=>
  wp_seq (wp_mono (h a ha) fun e a' w' ⟨F',hf,q⟩=>by cases e<;>first | exact q a' hf | exact⟨F',hf,q⟩)

theorem WP.skip (h:Q .normal F w):WP P n .skip Q F w:=fun _ ha=>wp_skip ⟨F,ha,h⟩

theorem WP.ret (h:Q .ret F w):WP P n .ret Q F w:=fun _ ha=>wp_ret ⟨F,ha,h⟩

theorem WP.exit {id:Nat}(h:Q (.exit id) F w):WP P n (.exit id) Q F w:=fun _ ha=>wp_exit ⟨F,ha,h⟩

theorem WP.block {id:Nat}{c:Code}(h:WP P n c (Q.block id) F w):WP P n (.block id c) Q F w:=fun a ha=>
  wp_block (wp_mono (h a ha) fun e a' w' ⟨F',hf,q⟩=>by
    cases e with
    | exit i=>
      simp only [Exit.inBlock]
      by_cases hi:i=id
      · subst hi;have hb:Nat.beq i i=true:=by simp
        simp only [Post.block,hb] at q;rw [if_pos rfl];exact⟨F',hf,q⟩
      · have:Nat.beq i id=false:=by rw [Bool.eq_false_iff];intro hb;exact hi (Nat.eq_of_beq_eq_true hb)
        simp only [Post.block,this] at q
        rw [if_neg hi];exact⟨F',hf,q⟩
    | _=>exact⟨F',hf,q⟩)

theorem WP.cond {c:Operand}{x y:Code}(b:Bool) (hc:F.ev c=some (.bool b)) (ht:b=true→WP P n x Q F w) (hf:b=false→WP P n y Q F w):
    WP P n (.cond c x y) Q F w:=fun a ha=>wp_cond_split (ha.ev hc) (fun h=>ht h a ha) (fun h=>hf h a ha)


theorem WP.loop {c:Code}{σ:Type}(J:σ→Fr→World→Prop) (μ:σ→Nat) (s0:σ) (h0:J s0 F w)
    (round:∀ s F w,J s F w→WP P n c (Q.after (fun F' w'=>∃ s' F'',F'.Has F''∧J s' F'' w'∧μ s'<μ s)) F w):WP P n (.loop c) Q F w:=fun a ha=>by
  intro b k cs
  have key:∀ m s F w a,μ s=m→J s F w→Fits n F a→
      ∃ e a' w',Q.up n e a' w'∧Arrives P (lone (b.at a (.code c::.inLoop c::k)) cs w) b k cs e a' w':=by
    intro m
    induction m using Nat.strongRecOn with
    | _ m ih=>
      intro s F w a hm hJ ha
      obtain⟨e,a1,w1,hq,harr⟩:=round s F w hJ a ha b (.inLoop c::k) cs
      cases e with
      | normal=>
        obtain⟨F1,hf1,s1,F2,hhas,hJ1,hlt⟩:=hq
        obtain⟨e2,a2,w2,hq2,harr2⟩:=ih (μ s1) (hm ▸ hlt) s1 F2 w1 a1 rfl hJ1 (hf1.weak hhas)
        exact⟨e2,a2,w2,hq2,.of_steps (Steps.trans harr (.one step_inLoop)) harr2⟩
      | exit id=>exact⟨_,a1,w1,hq,.pass (x:=.inLoop c) rfl (fun _ _=>.inl (by simp)) harr⟩
      | goto l=>exact⟨_,a1,w1,hq,.pass (x:=.inLoop c) rfl (fun _ _=>.inl (by simp)) harr⟩
      | ret=>exact⟨_,a1,w1,hq,.pass (x:=.inLoop c) rfl (fun _ _=>.inl (by simp)) harr⟩
      | panic ch=>exact⟨_,a1,w1,hq,.pass (x:=.inLoop c) rfl (fun _ _=>.inl (by simp)) harr⟩
      | outgrown=>exact⟨_,a1,w1,hq,.pass (x:=.inLoop c) rfl (fun _ _=>.inl (by simp)) harr⟩
  obtain⟨e,a',w',hq,harr⟩:=key _ s0 F w a rfl h0 ha
  exact⟨e,a',w',hq,.of_steps (.one step_loop) harr⟩

end
end Go.E


namespace Go.E
set_option linter.unusedVariables false
set_option linter.unusedSimpArgs false


inductive TD where
  | int (k:IntKind) | bool | str
  | struct (fs:List (Nat × Nat × Bool × Nat))
  | slice (e:Nat) | ptr (e:Nat) | arr (len e:Nat) | other

structure TI where
  id:Nat
  d:TD
  size:Nat
  zero:List Value
  bytes:Nat

abbrev TT:=List TI

def TT.get:TT→Nat→Option TI
  | [],_=>none
  | i::r,t=>match Nat.beq i.id t with
    | true=>some i
    | false=>TT.get r t

def TI.agg (i:TI):Bool:=match i.d with | .struct _ | .arr _ _=>true | _=>false

def fieldOk (P:Program) (f:Field) (g:Nat × Nat × Bool × Nat):Bool:=
  Nat.beq f.offset g.1 && Nat.beq f.type g.2.2.2 && !(f.name == "_") && (match P.info? f.type with | some i=>Nat.beq i.size g.2.1 | none=>false) && !(Nat.beq g.2.1 0) &&
  (match P.underlying f.type with | some (.struct _) | some (.array _ _)=>g.2.2.1 | some _=>!g.2.2.1 | none=>false)

def fieldsOk (P:Program):List Field→List (Nat × Nat × Bool × Nat)→Bool
  | [],[]=>true
  | f::fs,g::gs=>fieldOk P f g && fieldsOk P fs gs
  | _,_=>false

def descOk (P:Program) (d:TypeDesc):TD→Bool
  | .int k=>match d with | .int k'=>k == k' | _=>false
  | .bool=>match d with | .bool=>true | _=>false
  | .str=>match d with | .string=>true | _=>false
  | .slice e=>match d with | .slice e'=>Nat.beq e e' | _=>false
  | .ptr e=>match d with | .pointer e'=>Nat.beq e e' | _=>false
  | .arr n e=>match d with | .array n' e'=>Nat.beq n n' && Nat.beq e e' | _=>false
  | .struct fs=>match d with | .struct fs'=>fieldsOk P fs'.toList fs | _=>false
  | .other=>true

def notAgg (d:TypeDesc):Bool:=match d with | .struct _ | .array _ _=>false | _=>true

def infoOk (P:Program) (i:TI):Bool:=
  (match P.info? i.id with
   | some j=>Nat.beq j.size i.size && Nat.beq j.bytes i.bytes && Nat.beq i.zero.length i.size
   | none=>false) &&
  (match P.underlying i.id with
   | some d=>descOk P d i.d && (i.agg || notAgg d)
   | none=>false) &&
  (match i.d with
   | .struct _=>!(P.stoodInHeld i.id) && !(P.eqGuardType P.depth i.id)
   | _=>true)


structure TTok (P:Program) (T:TT):Prop where
  ok:∀ i∈T,infoOk P i=true
  zero:∀ i∈T,(P.info? i.id).map (fun j=>j.zero.map (fun v=>v.cells.toList))=some (some i.zero)

theorem TT.get_mem {T:TT}{t:Nat}{i:TI}(h:T.get t=some i):i∈T∧i.id=t:=by
  induction T with
  | nil=>simp [TT.get] at h
  | cons j r ih=>
    unfold TT.get at h
    cases hb:Nat.beq j.id t with
    | true=>rw [hb] at h;simp only [Option.some.injEq] at h;subst h;exact⟨List.mem_cons_self ..,Nat.eq_of_beq_eq_true hb⟩
    | false=>rw [hb] at h;obtain⟨h1,h2⟩:=ih h;exact⟨List.mem_cons_of_mem _ h1,h2⟩

section
variable {P:Program}{T:TT}(ht:TTok P T)
include ht

theorem TTok.info {t:Nat}{i:TI}(h:T.get t=some i):∃ j,P.info? t=some j∧j.size=i.size∧j.bytes=i.bytes∧(∃ z,j.zero=some z∧z.cells.toList=i.zero):=by
  obtain⟨hm,he⟩:=TT.get_mem h
  have h1:=ht.ok i hm
  have h2:=ht.zero i hm
  unfold infoOk at h1
  rw [he] at h1 h2
  rw [Bool.and_eq_true,Bool.and_eq_true] at h1
  replace h1:=h1.1
  cases hj:P.info? t with
  | none=>rw [hj] at h2;simp at h2
  | some j=>
    rw [hj] at h1 h2
    simp only [Option.map_some,Option.some.injEq] at h2
    cases hz:j.zero with
    | none=>rw [hz] at h2;simp at h2
    | some z=>
      rw [hz] at h2
      simp only [Option.map_some,Option.some.injEq] at h2
      have h3:=h1.1
      simp only [Bool.and_eq_true] at h3
      exact⟨j,rfl,Nat.eq_of_beq_eq_true h3.1.1,Nat.eq_of_beq_eq_true h3.1.2,z,hz,h2⟩

theorem TTok.zlen {t:Nat}{i:TI}(h:T.get t=some i):i.zero.length=i.size:=by
  obtain⟨hm,he⟩:=TT.get_mem h
  have h1:=ht.ok i hm
  unfold infoOk at h1
  rw [Bool.and_eq_true,Bool.and_eq_true] at h1
  replace h1:=h1.1
  cases hj:P.info? i.id with
  | none=>rw [hj] at h1;simp at h1
  | some j=>
    rw [hj] at h1
    have h3:=h1.1
    simp only [Bool.and_eq_true] at h3
    exact Nat.eq_of_beq_eq_true h3.2

theorem TTok.desc {t:Nat}{i:TI}(h:T.get t=some i):∃ d,P.underlying t=some d∧descOk P d i.d=true∧(i.agg || notAgg d)=true:=by
  obtain⟨hm,he⟩:=TT.get_mem h
  have h1:=ht.ok i hm
  unfold infoOk at h1
  rw [he,Bool.and_eq_true,Bool.and_eq_true] at h1
  replace h1:=h1.1
  cases hj:P.underlying t with
  | none=>rw [hj] at h1;simp at h1
  | some d=>rw [hj] at h1;have:=h1.2;simp only [Bool.and_eq_true] at this;exact⟨d,rfl,this⟩

theorem TTok.isAgg {t:Nat}{i:TI}(h:T.get t=some i) (w:World):(Go.isAgg t).run P w=.ok i.agg w:=by
  obtain⟨d,hd,hk,hn⟩:=ht.desc h
  unfold Go.isAgg Go.underlying
  have he:∀ (x:TypeDesc),P.underlying t=some x→(Go.underlying t).run P w=.ok x w:=by
    intro x hx;simp [Go.underlying,hx]
  unfold TI.agg at *
  cases hi:i.d with
  | struct fs=>
    rw [hi] at hk
    cases d<;>simp [descOk] at hk
    simp [hd]
  | arr n e=>
    rw [hi] at hk
    cases d<;>simp [descOk] at hk
    simp [hd]
  | _=>
    rw [hi] at hn
    cases d<;>simp [notAgg] at hn<;>simp [hd]

theorem TTok.sizeOf {t:Nat}{i:TI}(h:T.get t=some i) (w:World):(Go.sizeOf t).run P w=.ok i.size w:=by
  obtain⟨j,hj,hs,_⟩:=ht.info h
  simp [Go.sizeOf,typeInfo,hj,hs]
end


def seqb (a b:ByteArray):Bool:=a.toList == b.toList

theorem zho {a b:ByteArray}:seqb a b=true↔a=b:=by
  unfold seqb
  rw [ByteArray.toList_eq,ByteArray.toList_eq]
  constructor
  · intro h
    have h1:a.data.toList=b.data.toList:=by simpa using h
    cases a;cases b;simp only at h1;congr;exact Array.toList_inj.1 h1
  · rintro rfl;simp

def w64 (n:Int):Int:=IntKind.i64.wrap n

def intBin:BinOp→IntKind→Int→Int→Option Value
  | .add,k,a,b=>some (.int k (k.wrap (a+b)))
  | .sub,k,a,b=>some (.int k (k.wrap (a - b)))
  | .mul,k,a,b=>some (.int k (k.wrap (a*b)))
  | .eql,_,a,b=>some (.bool (a == b))
  | .neq,_,a,b=>some (.bool (a != b))
  | .lss,_,a,b=>some (.bool (decide (a<b)))
  | .leq,_,a,b=>some (.bool (decide (a≤b)))
  | .gtr,_,a,b=>some (.bool (decide (a>b)))
  | .geq,_,a,b=>some (.bool (decide (a≥b)))
  | .quo,k,a,.ofNat (b+1)=>some (.int k (k.wrap (a.tdiv (.ofNat (b+1)))))
  | .rem,k,a,.ofNat (b+1)=>some (.int k (a.tmod (.ofNat (b+1))))
  | _,_,_,_=>none

def kindEq:IntKind→IntKind→Bool
  | .i8,.i8 | .i16,.i16 | .i32,.i32 | .i64,.i64 | .u8,.u8 | .u16,.u16 | .u32,.u32 | .u64,.u64=>true
  | _,_=>false

theorem zg0 {a b:IntKind}(h:kindEq a b=true):a=b:=by cases a<;>cases b<;>simp [kindEq] at h ⊢

def eqfs (T:TT) (E:TD→List Value→List Value→Option Bool):List (Nat × Nat × Bool × Nat)→List Value→List Value→Option Bool
  | [],_,_=>some true
  | g::gs,xs,ys=>match T.get g.2.2.2 with
    | some i=>match E i.d ((xs.drop g.1).take i.size) ((ys.drop g.1).take i.size),eqfs T E gs xs ys with
      | some a,some b=>some (a && b)
      | _,_=>none
    | none=>none

def eqFlat:TD→List Value→List Value→Option Bool
  | .int _,[.int k a],[.int k' b]=>match kindEq k k' with
    | true=>some (a == b)
    | false=>none
  | .bool,[.bool a],[.bool b]=>some (a == b)
  | .str,[.string a],[.string b]=>some (seqb a b)
  | _,_,_=>none


def eqc (T:TT):Nat→TD→List Value→List Value→Option Bool
  | 0,td,xs,ys=>eqFlat td xs ys
  | n+1,.struct fs,xs,ys=>eqfs T (eqc T n) fs xs ys
  | _+1,td,xs,ys=>eqFlat td xs ys

def binv (T:TT) (op:BinOp) (t:Nat):Value→Value→Option Value
  | .int k a,.int k' b=>match kindEq k k' with
    | true=>intBin op k a b
    | false=>none
  | .bool a,.bool b=>match op,T.get t with
    | .eql,some ⟨_,.bool,_,_,_⟩=>some (.bool (a == b))
    | .neq,some ⟨_,.bool,_,_,_⟩=>some (.bool (!(a == b)))
    | _,_=>none
  | .string a,.string b=>match op with
    | .eql=>some (.bool (seqb a b))
    | .neq=>some (.bool (!(seqb a b)))
    | _=>none
  | .agg ⟨xs⟩,.agg ⟨ys⟩=>match op,T.get t with
    | .eql,some ⟨_,.struct fs,_,_,_⟩=>match eqc T 9 (.struct fs) xs ys with
      | some b=>some (.bool b)
      | none=>none
    | .neq,some ⟨_,.struct fs,_,_,_⟩=>match eqc T 9 (.struct fs) xs ys with
      | some b=>some (.bool (!b))
      | none=>none
    | _,_=>none
  | _,_=>none

def nthv {α:Type}:List α→Nat→Option α
  | [],_=>none
  | a::_,0=>some a
  | _::r,n+1=>nthv r n

theorem z2b {α:Type}:∀ (l:List α) (n:Nat),nthv l n=l[n]?
  | [],_=>by simp [nthv]
  | _::_,0=>by simp [nthv]
  | _::r,n+1=>by simp [nthv,z2b r n]

def Fr.evs (F:Fr):List Operand→Option (List Value)
  | []=>some []
  | x::r=>match F.ev x,Fr.evs F r with
    | some v,some vs=>some (v::vs)
    | _,_=>none

theorem Fits.evs {n:Nat}{F:Fr}{a:Act}(h:Fits n F a):∀ {xs:List Operand}{vs:List Value},F.evs xs=some vs→xs.map a.eval=vs
  | [],vs,e=>by simp only [Fr.evs,Option.some.injEq] at e;simpa using e
  | x::r,vs,e=>by
    simp only [Fr.evs] at e
    split at e
    · rename_i v us h1 h2
      simp only [Option.some.injEq] at e
      subst e
      simp [h.ev h1,h.evs h2]
    · cases e


def pv (T:TT) (F:Fr):Op→Option Value
  | .move x | .assign x=>F.ev x
  | .pick c a b=>match F.ev c with
    | some (.bool true)=>F.ev a
    | some (.bool false)=>F.ev b
    | _=>none
  | .nilCheck x=>match F.ev x with
    | some (.pointer (some p))=>some (.pointer (some p))
    | _=>none
  | .binOp op t x y _=>match F.ev x,F.ev y with
    | some a,some b=>binv T op t a b
    | _,_=>none
  | .unOp .not _ x=>match F.ev x with
    | some (.bool b)=>some (.bool (!b))
    | _=>none
  | .unOp .neg _ x=>match F.ev x with
    | some (.int k n)=>some (.int k (k.wrap (0 - n)))
    | _=>none
  | .fieldAddr t x f=>match T.get t,F.ev x with
    | some ⟨_,.struct fs,_,_,_⟩,some (.pointer (some p))=>match nthv fs f with
      | some g=>some (.pointer (some (p.add g.1)))
      | none=>none
    | _,_=>none
  | .extract x i=>match F.ev x with
    | some (.tuple vs)=>nthv vs.toList i
    | _=>none
  | .makeFunc fn ⟨first⟩ ⟨cap⟩=>match F.evs first,F.evs cap with
    | some vs,some us=>some (.func fn ⟨vs⟩ ⟨us⟩)
    | _,_=>none
  | .convert s d x=>match T.get s,T.get d,F.ev x with
    | some ⟨_,.int _,_,_,_⟩,some ⟨_,.int k,_,_,_⟩,some (.int _ n)=>some (.int k (k.wrap n))
    | _,_,_=>none
  | .call { callee:=.builtin .len,args:=⟨[x]⟩,argTypes:=⟨[t]⟩ }=>match T.get t,F.ev x with
    | some ⟨_,.slice _,_,_,_⟩,some (.slice _ n _)=>some (.int .i64 (n:Nat))
    | some ⟨_,.str,_,_,_⟩,some (.string s)=>some (.int .i64 (s.size:Nat))
    | _,_=>none
  | _=>none

section
variable {P:Program}{T:TT}(ht:TTok P T)

theorem zjo (k:IntKind) (a b:Int) (hb:b≠0) (t:TypeId) (w:World):(binOp .quo t (.int k a) (.int k b)).run P w=.ok (.int k (k.wrap (a.tdiv b))) w:=by
  simp [binOp,Op.intDiv,hb]

theorem zjn (k:IntKind) (a b:Int) (hb:b≠0) (t:TypeId) (w:World):(binOp .rem t (.int k a) (.int k b)).run P w=.ok (.int k (a.tmod b)) w:=by
  simp [binOp,Op.intDiv,hb]

theorem ziw {op:BinOp}{k:IntKind}{a b:Int}{v:Value}(h:intBin op k a b=some v) (t:TypeId) (w:World):
    (binOp op t (.int k a) (.int k b)).run P w=.ok v w:=by
  unfold intBin at h
  split at h<;>simp only [Option.some.injEq,reduceCtorEq] at h<;>subst h<;>first
    | (simp [binOp,Op.intArith,Op.intCmp];done)
    | exact zjo _ _ _ (by simp;omega) _ _
    | exact zjn _ _ _ (by simp;omega) _ _

theorem TTok.bool {t:Nat}{i:TI}(ht:TTok P T) (h:T.get t=some i) (hd:i.d=.bool):P.underlying t=some .bool:=by
  obtain⟨d,h1,h2,_⟩:=ht.desc h
  rw [hd] at h2
  cases d<;>simp [descOk] at h2
  exact h1

theorem TTok.str {t:Nat}{i:TI}(ht:TTok P T) (h:T.get t=some i) (hd:i.d=.str):P.underlying t=some .string:=by
  obtain⟨d,h1,h2,_⟩:=ht.desc h
  rw [hd] at h2
  cases d<;>simp [descOk] at h2
  exact h1

theorem TTok.int {t:Nat}{i:TI}{k:IntKind}(ht:TTok P T) (h:T.get t=some i) (hd:i.d=.int k):P.underlying t=some (.int k):=by
  obtain⟨d,h1,h2,_⟩:=ht.desc h
  rw [hd] at h2
  cases d<;>simp [descOk] at h2
  subst h2
  exact h1

theorem TTok.slice {t e:Nat}{i:TI}(ht:TTok P T) (h:T.get t=some i) (hd:i.d=.slice e):P.underlying t=some (.slice e):=by
  obtain⟨d,h1,h2,_⟩:=ht.desc h
  rw [hd] at h2
  cases d<;>simp [descOk] at h2
  rw [h1,h2]

theorem TTok.plainS {t:Nat}{i:TI}{gs:List (Nat × Nat × Bool × Nat)}(ht:TTok P T) (h:T.get t=some i) (hd:i.d=.struct gs):P.stoodInHeld t=false∧P.eqGuardType P.depth t=false:=by
  obtain⟨hm,he⟩:=TT.get_mem h
  have h1:=ht.ok i hm
  unfold infoOk at h1
  rw [he,Bool.and_eq_true] at h1
  have h2:=h1.2
  rw [hd] at h2
  simpa using h2

theorem zce:∀ {fs:List Field}{gs:List (Nat × Nat × Bool × Nat)},fieldsOk P fs gs=true→∀ {j:Nat}{g:Nat × Nat × Bool × Nat},gs[j]? = some g→∃ f,fs[j]? = some f∧fieldOk P f g=true
  | [],[],_,j,g,h=>by simp at h
  | [],_::_,h,_,_,_=>by simp [fieldsOk] at h
  | _::_,[],h,_,_,_=>by simp [fieldsOk] at h
  | f::fs,g'::gs,h,j,g,hj=>by
    simp only [fieldsOk,Bool.and_eq_true] at h
    cases j with
    | zero=>simp only [List.getElem?_cons_zero,Option.some.injEq] at hj;subst hj;exact⟨f,by simp,h.1⟩
    | succ j=>simp only [List.getElem?_cons_succ] at hj ⊢;exact zce h.2 hj

theorem TTok.field {t:Nat}{i:TI}{gs:List (Nat × Nat × Bool × Nat)}(ht:TTok P T) (h:T.get t=some i) (hd:i.d=.struct gs){j:Nat}{g:Nat × Nat × Bool × Nat}(hj:gs[j]? = some g):
    ∃ fs f,P.underlying t=some (.struct fs)∧fs[j]? = some f∧f.offset=g.1∧g.2.1≠0∧(∃ k,P.info? f.type=some k∧k.size=g.2.1):=by
  obtain⟨d,h1,h2,_⟩:=ht.desc h
  rw [hd] at h2
  cases d<;>simp only [descOk,Bool.false_eq_true] at h2
  rename_i fs _
  obtain⟨f,hf,hok⟩:=zce h2 hj
  simp only [fieldOk,Bool.and_eq_true] at hok
  obtain⟨⟨⟨⟨⟨ho,_⟩,_⟩,hs⟩,h0⟩,ha⟩:=hok
  refine⟨fs,f,h1,by simpa using hf,Nat.eq_of_beq_eq_true ho,?_,?_⟩
  · intro he;rw [he] at h0;simp at h0
  · cases hi:P.info? f.type with
    | none=>rw [hi] at hs;simp at hs
    | some k=>rw [hi] at hs;exact⟨k,rfl,Nat.eq_of_beq_eq_true hs⟩

theorem zfK {t:TypeId}(hu:P.underlying t=some .bool) (a b:Bool) (w:World):(binOp .eql t (.bool a) (.bool b)).run P w=.ok (.bool (a == b)) w:=by
  have h:∀ d,(Op.equalIn (d+1) t (.bool a) (.bool b)).run P w=.ok (a == b) w:=fun d=>by simp [Op.equalIn,Go.underlying,hu]
  simp only [binOp,Op.equal,Op.maxDepth]
  simp [h 9999]

theorem zfJ {t:TypeId}(hu:P.underlying t=some .bool) (a b:Bool) (w:World):(binOp .neq t (.bool a) (.bool b)).run P w=.ok (.bool (!(a == b))) w:=by
  have h:∀ d,(Op.equalIn (d+1) t (.bool a) (.bool b)).run P w=.ok (a == b) w:=fun d=>by simp [Op.equalIn,Go.underlying,hu]
  simp only [binOp,Op.equal,Op.maxDepth]
  simp [h 9999]

def isVal (i:TI) (xs:List Value) (x:Value):Prop:=(i.agg=true∧x=.agg ⟨xs⟩)∨(i.agg=false∧xs=[x])

theorem zcz (ht:TTok P T){t:Nat}{i:TI}(hi:T.get t=some i){xs:List Value}{off:Nat}{x:Value}(hx:isVal i ((xs.drop off).take i.size) x) (w:World):(part t ⟨xs⟩ off).run P w=.ok x w:=by
  unfold part
  rcases hx with⟨ha,rfl⟩ | ⟨ha,hx⟩
  · have he:(⟨xs⟩:Array Value).extract off (off+i.size)=⟨(xs.drop off).take i.size⟩:=by
      apply Array.toList_inj.1
      simp [List.extract_eq_take_drop]
    simp only [Sem.run_bind,ht.isAgg hi,Result.andThen_ok,ha,if_true,ht.sizeOf hi,Sem.run_pure,he]
  · have hc:(⟨xs⟩:Array Value)[off]? = some x:=by
      have h0:((xs.drop off).take i.size)[0]? = some x:=by rw [hx];rfl
      rw [List.getElem?_take] at h0
      split at h0
      · simpa using h0
      · cases h0
    simp [ht.isAgg hi,ha,hc]

theorem zeh (ht:TTok P T){td:TD}{xs ys:List Value}{b:Bool}(h:eqFlat td xs ys=some b){t:Nat}{i:TI}(hi:T.get t=some i) (htd:i.d=td) (d:Nat) (w:World){x y:Value}(hx:isVal i xs x) (hy:isVal i ys y):
    (Op.equalIn (d+1) t x y).run P w=.ok b w:=by
  unfold eqFlat at h
  split at h
  · have hag:i.agg=false:=by unfold TI.agg;rw [htd]
    rcases hx with⟨h1,_⟩ | ⟨_,hx⟩
    · rw [hag] at h1;cases h1
    rcases hy with⟨h1,_⟩ | ⟨_,hy⟩
    · rw [hag] at h1;cases h1
    simp only [List.cons.injEq,and_true] at hx hy
    subst hx;subst hy
    split at h
    · rename_i hk
      simp only [Option.some.injEq] at h;subst h
      rw [← zg0 hk]
      exact run_equalIn_int w d t _ _ _ _ (ht.int hi htd)
    · cases h
  · have hag:i.agg=false:=by unfold TI.agg;rw [htd]
    rcases hx with⟨h1,_⟩ | ⟨_,hx⟩
    · rw [hag] at h1;cases h1
    rcases hy with⟨h1,_⟩ | ⟨_,hy⟩
    · rw [hag] at h1;cases h1
    simp only [List.cons.injEq,and_true] at hx hy
    subst hx;subst hy
    simp only [Option.some.injEq] at h;subst h
    exact run_equalIn_bool' w d t _ _ (ht.bool hi htd)
  · have hag:i.agg=false:=by unfold TI.agg;rw [htd]
    rcases hx with⟨h1,_⟩ | ⟨_,hx⟩
    · rw [hag] at h1;cases h1
    rcases hy with⟨h1,_⟩ | ⟨_,hy⟩
    · rw [hag] at h1;cases h1
    simp only [List.cons.injEq,and_true] at hx hy
    subst hx;subst hy
    simp only [Option.some.injEq] at h;subst h
    exact run_equalIn_string w d t _ _ (ht.str hi htd)
  · cases h


def Shaped (E:TD→List Value→List Value→Option Bool):Prop:=∀ (i:TI) (zs zs':List Value) (a:Bool),E i.d zs zs'=some a→∃ x y,isVal i zs x∧isVal i zs' y

theorem zd6:Shaped eqFlat:=by
  intro i zs zs' a hz
  unfold eqFlat at hz
  split at hz
  · rename_i hd;exact⟨_,_,.inr ⟨by unfold TI.agg;rw [hd],rfl⟩,.inr ⟨by unfold TI.agg;rw [hd],rfl⟩⟩
  · rename_i hd;exact⟨_,_,.inr ⟨by unfold TI.agg;rw [hd],rfl⟩,.inr ⟨by unfold TI.agg;rw [hd],rfl⟩⟩
  · rename_i hd;exact⟨_,_,.inr ⟨by unfold TI.agg;rw [hd],rfl⟩,.inr ⟨by unfold TI.agg;rw [hd],rfl⟩⟩
  · cases hz

theorem zef (n:Nat):Shaped (eqc T n):=by
  intro i zs zs' a hz
  cases n with
  | zero=>exact zd6 i zs zs' a hz
  | succ n=>
    cases hd:i.d with
    | struct fs=>exact⟨_,_,.inl ⟨by unfold TI.agg;rw [hd],rfl⟩,.inl ⟨by unfold TI.agg;rw [hd],rfl⟩⟩
    | _=>rw [hd] at hz;exact zd6 i zs zs' a (by rw [hd];exact hz)

theorem zmY (ht:TTok P T){E:TD→List Value→List Value→Option Bool}(hE:Shaped E) (d:Nat)
    (he:∀ (td:TD) (xs ys:List Value) (b:Bool),E td xs ys=some b→∀ (t:Nat) (i:TI),T.get t=some i→i.d=td→∀ (w:World),∀ x y,isVal i xs x→isVal i ys y→(Op.equalIn d t x y).run P w=.ok b w):
    ∀ (gs:List (Nat × Nat × Bool × Nat)) (xs ys:List Value) (b:Bool),eqfs T E gs xs ys=some b→∀ (fs:List Field),fieldsOk P fs gs=true→∀ (w:World),(Op.eqFields d ⟨xs⟩ ⟨ys⟩ fs).run P w=.ok b w:=by
  intro gs
  induction gs with
  | nil=>
    intro xs ys b h fs hfs w
    cases fs with
    | nil=>simp only [eqfs,Option.some.injEq] at h;subst h;simp [Op.eqFields]
    | cons f fs=>simp [fieldsOk] at hfs
  | cons g gs ih=>
    intro xs ys b h fs hfs w
    cases fs with
    | nil=>simp [fieldsOk] at hfs
    | cons f fs=>
      simp only [fieldsOk,Bool.and_eq_true] at hfs
      obtain⟨hok,hrest⟩:=hfs
      simp only [fieldOk,Bool.and_eq_true] at hok
      obtain⟨⟨⟨⟨⟨ho,hty⟩,hnm⟩,_⟩,_⟩,_⟩:=hok
      have hty':=Nat.eq_of_beq_eq_true hty
      have ho':=Nat.eq_of_beq_eq_true ho
      unfold eqfs at h
      split at h
      · rename_i i hi
        split at h
        · rename_i a c ha hc
          simp only [Option.some.injEq] at h
          subst h
          obtain⟨x,y,hx,hy⟩:=hE i _ _ a ha
          have hnm':f.name≠ "_":=by simpa using hnm
          have e1:=zcz ht hi hx w
          have e2:=zcz ht hi hy w
          have e3:=he i.d _ _ a ha g.2.2.2 i hi rfl w x y hx hy
          unfold Op.eqFields
          rw [← hty',← ho'] at *
          simp only [hnm',ne_eq,not_false_eq_true,if_true,Sem.run_bind,e1,e2,e3,Result.andThen_ok]
          cases a
          · simp
          · simp only [Bool.true_and]
            simpa using ih xs ys c hc fs hrest w
        · cases h
      · cases h

theorem zgV (ht:TTok P T):∀ (n:Nat) (td:TD) (xs ys:List Value) (b:Bool),eqc T n td xs ys=some b→∀ (t:Nat) (i:TI),T.get t=some i→i.d=td→∀ (d:Nat) (w:World),n<d→∀ x y,isVal i xs x→isVal i ys y→(Op.equalIn d t x y).run P w=.ok b w:=by
  intro n
  induction n with
  | zero=>
    intro td xs ys b h t i hi htd d w hd x y hx hy
    obtain⟨d,rfl⟩:∃ d',d=d'+1:=⟨d - 1,by omega⟩
    exact zeh ht h hi htd d w hx hy
  | succ n ih=>
    intro td xs ys b h t i hi htd d w hd x y hx hy
    obtain⟨d,rfl⟩:∃ d',d=d'+1:=⟨d - 1,by omega⟩
    cases td with
    | struct gs=>
      have hag:i.agg=true:=by unfold TI.agg;rw [htd]
      rcases hx with⟨_,rfl⟩ | ⟨h1,_⟩
      case inr=>rw [hag] at h1;cases h1
      rcases hy with⟨_,rfl⟩ | ⟨h1,_⟩
      case inr=>rw [hag] at h1;cases h1
      obtain⟨dd,h1,h2,_⟩:=ht.desc hi
      rw [htd] at h2
      cases dd<;>simp only [descOk,Bool.false_eq_true] at h2
      rename_i fs _
      have hfo:P.fieldsOf t=fs:=by unfold Program.fieldsOf;rw [h1]
      rw [run_equalIn_struct w d t _ _ (by rw [hfo];exact h1) (ht.plainS hi htd).1,hfo]
      exact zmY ht (zef n) d (fun td xs ys b h t i hi htd w x y hx hy=>ih td xs ys b h t i hi htd d w (by omega) x y hx hy) gs xs ys b h fs.toList h2 w
    | _=>exact zeh ht h hi htd d w hx hy

include ht

theorem zmZ {op:BinOp}{t:Nat}{x y v:Value}(h:binv T op t x y=some v) (w:World):(binOp op t x y).run P w=.ok v w:=by
  unfold binv at h
  split at h
  · split at h
    · rename_i hk;rw [← zg0 hk];exact ziw h t w
    · cases h
  · split at h
    · simp only [Option.some.injEq] at h;subst h
      rename_i hg
      exact zfK (ht.bool hg rfl) _ _ w
    · simp only [Option.some.injEq] at h;subst h
      rename_i hg
      exact zfJ (ht.bool hg rfl) _ _ w
    · cases h
  · split at h
    · simp only [Option.some.injEq] at h;subst h;simp [binOp,Op.stringOp,seqb]
    · simp only [Option.some.injEq] at h;subst h;simp [binOp,Op.stringOp,seqb]
    · cases h
  · split at h
    · rename_i hi
      split at h
      · rename_i b hb
        simp only [Option.some.injEq] at h;subst h
        rw [run_eql_struct,zgV ht 9 _ _ _ _ hb t _ hi rfl 10000 w (by omega) _ _ (.inl ⟨rfl,rfl⟩) (.inl ⟨rfl,rfl⟩)]
        rfl
      · cases h
    · rename_i hi
      split at h
      · rename_i b hb
        simp only [Option.some.injEq] at h;subst h
        rw [run_neq_struct,zgV ht 9 _ _ _ _ hb t _ hi rfl 10000 w (by omega) _ _ (.inl ⟨rfl,rfl⟩) (.inl ⟨rfl,rfl⟩)]
        rfl
      · cases h
    · cases h
  · cases h

theorem zgW {op:BinOp}{t:Nat}{X Y:Operand}{x y v:Value}(h:binv T op t x y=some v) (w:World):(eqGuard op t X Y x y).run P w=.ok () w:=by
  unfold binv at h
  split at h
  · unfold eqGuard;split<;>simp
  · unfold eqGuard;split<;>simp
  · unfold eqGuard;split<;>simp
  · split at h
    · rename_i hi;exact run_eqGuard_agg w _ t X Y _ _ (ht.plainS hi rfl).2
    · rename_i hi;exact run_eqGuard_agg w _ t X Y _ _ (ht.plainS hi rfl).2
    · cases h
  · cases h

theorem zfF {F:Fr}{n:Nat}{o:Oper}{v:Value}(h:pv T F o.op=some v){a:Act}(ha:Fits n F a) (w:World):
    (execOp a.eval o).run P w=.ok (.value v) w:=by
  unfold execOp
  unfold pv at h
  split at h<;>rename_i hop<;>(try rw [hop])
  · simp [ha.ev h]
  · simp [ha.ev h]
  · split at h
    · rename_i hc;simp [ha.ev hc,asBool,ha.ev h]
    · rename_i hc;simp [ha.ev hc,asBool,ha.ev h]
    · cases h
  · split at h
    · rename_i hc;simp only [Option.some.injEq] at h;subst h;simp [ha.ev hc]
    · cases h
  · split at h
    · rename_i hx hy
      simp [ha.ev hx,ha.ev hy,zgW ht h,zmZ ht h]
    · cases h
  · split at h
    · rename_i hc;simp only [Option.some.injEq] at h;subst h;simp [ha.ev hc,Op.unary]
    · cases h
  · split at h
    · rename_i hc;simp only [Option.some.injEq] at h;subst h;simp [ha.ev hc,Op.unary,Op.intArith]
    · cases h
  · split at h
    · rename_i hg hx
      split at h
      · rename_i g hn
        simp only [Option.some.injEq] at h;subst h
        rw [z2b] at hn
        obtain⟨fs,f,h1,h2,h3,h4,⟨k,h5,h6⟩⟩:=ht.field hg rfl hn
        simp [ha.ev hx,Instr.fieldAt,Go.underlying,h1,h2,Instr.sureAddr,fieldPlace,Go.sizeOf,typeInfo,h5,h6,h4,h3]
      · cases h
    · cases h
  · split at h
    · rename_i vs hx
      rw [z2b] at h
      simp only [Array.getElem?_toList] at h
      simp [ha.ev hx,Instr.extract,h]
    · cases h
  · split at h
    · rename_i h1 h2
      simp only [Option.some.injEq] at h;subst h
      simp [Instr.makeFunc,ha.evs h1,ha.evs h2]
    · cases h
  · split at h
    · rename_i h1 h2 h3
      simp only [Option.some.injEq] at h;subst h
      simp [ha.ev h3,convert,Go.underlying,ht.int h1 rfl,ht.int h2 rfl,Conv.intToInt]
    · cases h
  · split at h
    · rename_i h1 h2
      simp only [Option.some.injEq] at h;subst h
      simp [resolve,invoke,builtin,Builtin.len_,ha.ev h2,Go.underlying,ht.slice h1 rfl,goInt]
    · rename_i h1 h2
      simp only [Option.some.injEq] at h;subst h
      simp [resolve,invoke,builtin,Builtin.len_,ha.ev h2,Go.underlying,ht.str h1 rfl,goInt]
    · cases h
  · cases h
end
end Go.E


