/- Rules for proving that code of the model runs as a plain Lean function says: frames as sparse lists of known slots, and one rule for each form of code. Conditions: none (rules). -/
import Derived.WalkKit
import Derived.OrdersHeld
import Derived.Laws.Cells
import Derived.LaidEql
import Derived.Laws.StructEq
import Derived.Maps.AppendAt
import Derived.Deep.Slices
import Derived.Laws.Rows
import Derived.Laws.MakeOwn
namespace Go.E
set_option linter.unusedVariables false
set_option linter.unusedSimpArgs false


abbrev Fr:=List (Nat × Value)

def Fr.get:Fr→Nat→Option Value
  | [],_=>none
  | (j,v)::r,i=>match Nat.beq j i with
    | true=>some v
    | false=>Fr.get r i

def Fr.ev (F:Fr):Operand→Option Value
  | .tmp t=>F.get t
  | .const v=>some v
  | .func f=>some (.func (.func f) #[] #[])
  | .global g=>some (.pointer (some ⟨g,0,none⟩))


def Fits (n:Nat) (F:Fr) (a:Act):Prop:=a.defers=[]∧a.tmps.size=n∧∀ i v,F.get i=some v→a.tmps[i]? = some v

theorem Fits.ev {n:Nat}{F:Fr}{a:Act}(h:Fits n F a){x:Operand}{v:Value}(e:F.ev x=some v):a.eval x=v:=by
  cases x with
  | tmp t=>simp only [Fr.ev] at e;simp [Act.eval,Array.getD_eq_getD_getElem?,h.2.2 t v e]
  | const u=>simp only [Fr.ev,Option.some.injEq] at e;simpa [Act.eval] using e
  | func f=>simp only [Fr.ev,Option.some.injEq] at e;simpa [Act.eval] using e
  | global g=>simp only [Fr.ev,Option.some.injEq] at e;simpa [Act.eval] using e

theorem Fr.get_cons (j:Nat) (v:Value) (r:Fr) (i:Nat):Fr.get ((j,v)::r) i=if j=i then some v else Fr.get r i:=by
  by_cases h:j=i
  · subst h;simp [Fr.get]
  · have:Nat.beq j i=false:=by rw [Bool.eq_false_iff];intro hb;exact h (Nat.eq_of_beq_eq_true hb)
    simp [Fr.get,this,h]

theorem Fits.put {n:Nat}{F:Fr}{a:Act}(h:Fits n F a){d:Nat}(hd:Nat.blt d n=true) (v:Value):Fits n ((d,v)::F) (a.put (some d) v):=by
  have hd':d<n:=by simpa using hd
  refine⟨by simpa [Act.put] using h.1,by simp [Act.put,h.2.1],fun i u hu=>?_⟩
  rw [Fr.get_cons] at hu
  simp only [Act.put,Array.getElem?_setIfInBounds]
  by_cases hi:d=i
  · subst hi
    rw [if_pos rfl] at hu ⊢
    rw [h.2.1,if_pos hd']
    exact hu
  · rw [if_neg hi] at hu ⊢
    exact h.2.2 i u hu

def Fr.Has (F:Fr):Fr→Prop
  | []=>True
  | (i,v)::r=>F.get i=some v∧Fr.Has F r

theorem Fr.has_get {F:Fr}:∀ {F':Fr},F.Has F'→∀ i v,F'.get i=some v→F.get i=some v
  | [],_,i,v,h=>by simp [Fr.get] at h
  | (j,u)::r,⟨h1,h2⟩,i,v,h=>by
    rw [Fr.get_cons] at h
    by_cases hi:j=i
    · subst hi;rw [if_pos rfl] at h;rw [h1];exact h
    · rw [if_neg hi] at h;exact Fr.has_get h2 i v h

theorem Fits.weak {n:Nat}{F F':Fr}{a:Act}(h:Fits n F a) (hs:F.Has F'):Fits n F' a:=
  ⟨h.1,h.2.1,fun i v hv=>h.2.2 i v (Fr.has_get hs i v hv)⟩



abbrev Post:=Exit→Fr→World→Prop

def Post.up (n:Nat) (Q:Post):Exit→Act→World→Prop:=fun e a w=>∃ F,Fits n F a∧Q e F w

def WP (P:Program) (n:Nat) (c:Code) (Q:Post) (F:Fr) (w:World):Prop:=∀ a,Fits n F a→c.wp P (Q.up n) a w

def Post.after (K:Fr→World→Prop) (Q:Post):Post
  | .normal,F,w=>K F w
  | e,F,w=>Q e F w

def Post.block (id:Nat) (Q:Post):Post
  | .exit i,F,w=>match Nat.beq i id with
    | true=>Q .normal F w
    | false=>Q (.exit i) F w
  | e,F,w=>Q e F w

section
variable {P:Program}{n:Nat}{Q:Post}{F:Fr}{w:World}

theorem WP.weak {c:Code}(F':Fr) (hs:F.Has F') (h:WP P n c Q F' w):WP P n c Q F w:=fun a ha=>h a (ha.weak hs)

theorem WP.mono {c:Code}{Q':Post}(h:WP P n c Q F w) (hq:∀ e F w,Q e F w→Q' e F w):WP P n c Q' F w:=
  fun a ha=>wp_mono (h a ha) fun e _ w' ⟨F',hf,q⟩=>⟨F',hf,hq e F' w' q⟩

theorem WP.seq {x y:Code}(h:WP P n x (Q.after (WP P n y Q)) F w):WP P n (.seq x y) Q F w:=fun a ha=>
  wp_seq (wp_mono (h a ha) fun e a' w' ⟨F',hf,q⟩=>by cases e<;>first | exact q a' hf | exact⟨F',hf,q⟩)

theorem WP.skip (h:Q .normal F w):WP P n .skip Q F w:=fun _ ha=>wp_skip ⟨F,ha,h⟩

theorem WP.ret (h:Q .ret F w):WP P n .ret Q F w:=fun _ ha=>wp_ret ⟨F,ha,h⟩

theorem WP.exit {id:Nat}(h:Q (.exit id) F w):WP P n (.exit id) Q F w:=fun _ ha=>wp_exit ⟨F,ha,h⟩

theorem WP.block {id:Nat}{c:Code}(h:WP P n c (Q.block id) F w):WP P n (.block id c) Q F w:=fun a ha=>
  wp_block (wp_mono (h a ha) fun e a' w' ⟨F',hf,q⟩=>by
    cases e with
    | exit i=>
      simp only [Exit.inBlock]
      by_cases hi:i=id
      · subst hi;have hb:Nat.beq i i=true:=by simp
        simp only [Post.block,hb] at q;rw [if_pos rfl];exact⟨F',hf,q⟩
      · have:Nat.beq i id=false:=by rw [Bool.eq_false_iff];intro hb;exact hi (Nat.eq_of_beq_eq_true hb)
        simp only [Post.block,this] at q
        rw [if_neg hi];exact⟨F',hf,q⟩
    | _=>exact⟨F',hf,q⟩)

theorem WP.cond {c:Operand}{x y:Code}(b:Bool) (hc:F.ev c=some (.bool b)) (ht:b=true→WP P n x Q F w) (hf:b=false→WP P n y Q F w):
    WP P n (.cond c x y) Q F w:=fun a ha=>wp_cond_split (ha.ev hc) (fun h=>ht h a ha) (fun h=>hf h a ha)


theorem WP.loop {c:Code}{σ:Type}(J:σ→Fr→World→Prop) (μ:σ→Nat) (s0:σ) (h0:J s0 F w)
    (round:∀ s F w,J s F w→WP P n c (Q.after (fun F' w'=>∃ s' F'',F'.Has F''∧J s' F'' w'∧μ s'<μ s)) F w):WP P n (.loop c) Q F w:=fun a ha=>by
  intro b k cs
  have key:∀ m s F w a,μ s=m→J s F w→Fits n F a→
      ∃ e a' w',Q.up n e a' w'∧Arrives P (lone (b.at a (.code c::.inLoop c::k)) cs w) b k cs e a' w':=by
    intro m
    induction m using Nat.strongRecOn with
    | _ m ih=>
      intro s F w a hm hJ ha
      obtain⟨e,a1,w1,hq,harr⟩:=round s F w hJ a ha b (.inLoop c::k) cs
      cases e with
      | normal=>
        obtain⟨F1,hf1,s1,F2,hhas,hJ1,hlt⟩:=hq
        obtain⟨e2,a2,w2,hq2,harr2⟩:=ih (μ s1) (hm ▸ hlt) s1 F2 w1 a1 rfl hJ1 (hf1.weak hhas)
        exact⟨e2,a2,w2,hq2,.of_steps (Steps.trans harr (.one step_inLoop)) harr2⟩
      | exit id=>exact⟨_,a1,w1,hq,.pass (x:=.inLoop c) rfl (fun _ _=>.inl (by simp)) harr⟩
      | goto l=>exact⟨_,a1,w1,hq,.pass (x:=.inLoop c) rfl (fun _ _=>.inl (by simp)) harr⟩
      | ret=>exact⟨_,a1,w1,hq,.pass (x:=.inLoop c) rfl (fun _ _=>.inl (by simp)) harr⟩
      | panic ch=>exact⟨_,a1,w1,hq,.pass (x:=.inLoop c) rfl (fun _ _=>.inl (by simp)) harr⟩
      | outgrown=>exact⟨_,a1,w1,hq,.pass (x:=.inLoop c) rfl (fun _ _=>.inl (by simp)) harr⟩
  obtain⟨e,a',w',hq,harr⟩:=key _ s0 F w a rfl h0 ha
  exact⟨e,a',w',hq,.of_steps (.one step_loop) harr⟩

end
end Go.E


namespace Go.E
set_option linter.unusedVariables false
set_option linter.unusedSimpArgs false


inductive TD where
  | int (k:IntKind) | bool | str
  | struct (fs:List (Nat × Nat × Bool × Nat))
  | slice (e:Nat) | ptr (e:Nat) | arr (len e:Nat) | other

structure TI where
  id:Nat
  d:TD
  size:Nat
  zero:List Value
  bytes:Nat

abbrev TT:=List TI

def TT.get:TT→Nat→Option TI
  | [],_=>none
  | i::r,t=>match Nat.beq i.id t with
    | true=>some i
    | false=>TT.get r t

def TI.agg (i:TI):Bool:=match i.d with | .struct _ | .arr _ _=>true | _=>false

def fieldOk (P:Program) (f:Field) (g:Nat × Nat × Bool × Nat):Bool:=
  Nat.beq f.offset g.1 && Nat.beq f.type g.2.2.2 && !(f.name == "_") && (match P.info? f.type with | some i=>Nat.beq i.size g.2.1 | none=>false) && !(Nat.beq g.2.1 0) &&
  (match P.underlying f.type with | some (.struct _) | some (.array _ _)=>g.2.2.1 | some _=>!g.2.2.1 | none=>false)

def fieldsOk (P:Program):List Field→List (Nat × Nat × Bool × Nat)→Bool
  | [],[]=>true
  | f::fs,g::gs=>fieldOk P f g && fieldsOk P fs gs
  | _,_=>false

def descOk (P:Program) (d:TypeDesc):TD→Bool
  | .int k=>match d with | .int k'=>k == k' | _=>false
  | .bool=>match d with | .bool=>true | _=>false
  | .str=>match d with | .string=>true | _=>false
  | .slice e=>match d with | .slice e'=>Nat.beq e e' | _=>false
  | .ptr e=>match d with | .pointer e'=>Nat.beq e e' | _=>false
  | .arr n e=>match d with | .array n' e'=>Nat.beq n n' && Nat.beq e e' | _=>false
  | .struct fs=>match d with | .struct fs'=>fieldsOk P fs'.toList fs | _=>false
  | .other=>true

def notAgg (d:TypeDesc):Bool:=match d with | .struct _ | .array _ _=>false | _=>true

def infoOk (P:Program) (i:TI):Bool:=
  (match P.info? i.id with
   | some j=>Nat.beq j.size i.size && Nat.beq j.bytes i.bytes && Nat.beq i.zero.length i.size
   | none=>false) &&
  (match P.underlying i.id with
   | some d=>descOk P d i.d && (i.agg || notAgg d)
   | none=>false) &&
  (match i.d with
   | .struct _=>!(P.stoodInHeld i.id) && !(P.eqGuardType P.depth i.id)
   | _=>true)


structure TTok (P:Program) (T:TT):Prop where
  ok:∀ i∈T,infoOk P i=true
  zero:∀ i∈T,(P.info? i.id).map (fun j=>j.zero.map (fun v=>v.cells.toList))=some (some i.zero)

theorem TT.get_mem {T:TT}{t:Nat}{i:TI}(h:T.get t=some i):i∈T∧i.id=t:=by
  induction T with
  | nil=>simp [TT.get] at h
  | cons j r ih=>
    unfold TT.get at h
    cases hb:Nat.beq j.id t with
    | true=>rw [hb] at h;simp only [Option.some.injEq] at h;subst h;exact⟨List.mem_cons_self ..,Nat.eq_of_beq_eq_true hb⟩
    | false=>rw [hb] at h;obtain⟨h1,h2⟩:=ih h;exact⟨List.mem_cons_of_mem _ h1,h2⟩

section
variable {P:Program}{T:TT}(ht:TTok P T)
include ht

theorem TTok.info {t:Nat}{i:TI}(h:T.get t=some i):∃ j,P.info? t=some j∧j.size=i.size∧j.bytes=i.bytes∧(∃ z,j.zero=some z∧z.cells.toList=i.zero):=by
  obtain⟨hm,he⟩:=TT.get_mem h
  have h1:=ht.ok i hm
  have h2:=ht.zero i hm
  unfold infoOk at h1
  rw [he] at h1 h2
  rw [Bool.and_eq_true,Bool.and_eq_true] at h1
  replace h1:=h1.1
  cases hj:P.info? t with
  | none=>rw [hj] at h2;simp at h2
  | some j=>
    rw [hj] at h1 h2
    simp only [Option.map_some,Option.some.injEq] at h2
    cases hz:j.zero with
    | none=>rw [hz] at h2;simp at h2
    | some z=>
      rw [hz] at h2
      simp only [Option.map_some,Option.some.injEq] at h2
      have h3:=h1.1
      simp only [Bool.and_eq_true] at h3
      exact⟨j,rfl,Nat.eq_of_beq_eq_true h3.1.1,Nat.eq_of_beq_eq_true h3.1.2,z,hz,h2⟩

theorem TTok.zlen {t:Nat}{i:TI}(h:T.get t=some i):i.zero.length=i.size:=by
  obtain⟨hm,he⟩:=TT.get_mem h
  have h1:=ht.ok i hm
  unfold infoOk at h1
  rw [Bool.and_eq_true,Bool.and_eq_true] at h1
  replace h1:=h1.1
  cases hj:P.info? i.id with
  | none=>rw [hj] at h1;simp at h1
  | some j=>
    rw [hj] at h1
    have h3:=h1.1
    simp only [Bool.and_eq_true] at h3
    exact Nat.eq_of_beq_eq_true h3.2

theorem TTok.desc {t:Nat}{i:TI}(h:T.get t=some i):∃ d,P.underlying t=some d∧descOk P d i.d=true∧(i.agg || notAgg d)=true:=by
  obtain⟨hm,he⟩:=TT.get_mem h
  have h1:=ht.ok i hm
  unfold infoOk at h1
  rw [he,Bool.and_eq_true,Bool.and_eq_true] at h1
  replace h1:=h1.1
  cases hj:P.underlying t with
  | none=>rw [hj] at h1;simp at h1
  | some d=>rw [hj] at h1;have:=h1.2;simp only [Bool.and_eq_true] at this;exact⟨d,rfl,this⟩

theorem TTok.isAgg {t:Nat}{i:TI}(h:T.get t=some i) (w:World):(Go.isAgg t).run P w=.ok i.agg w:=by
  obtain⟨d,hd,hk,hn⟩:=ht.desc h
  unfold Go.isAgg Go.underlying
  have he:∀ (x:TypeDesc),P.underlying t=some x→(Go.underlying t).run P w=.ok x w:=by
    intro x hx;simp [Go.underlying,hx]
  unfold TI.agg at *
  cases hi:i.d with
  | struct fs=>
    rw [hi] at hk
    cases d<;>simp [descOk] at hk
    simp [hd]
  | arr n e=>
    rw [hi] at hk
    cases d<;>simp [descOk] at hk
    simp [hd]
  | _=>
    rw [hi] at hn
    cases d<;>simp [notAgg] at hn<;>simp [hd]

theorem TTok.sizeOf {t:Nat}{i:TI}(h:T.get t=some i) (w:World):(Go.sizeOf t).run P w=.ok i.size w:=by
  obtain⟨j,hj,hs,_⟩:=ht.info h
  simp [Go.sizeOf,typeInfo,hj,hs]
end


def seqb (a b:ByteArray):Bool:=a.toList == b.toList

def w64 (n:Int):Int:=IntKind.i64.wrap n

def intBin:BinOp→IntKind→Int→Int→Option Value
  | .add,k,a,b=>some (.int k (k.wrap (a+b)))
  | .sub,k,a,b=>some (.int k (k.wrap (a - b)))
  | .mul,k,a,b=>some (.int k (k.wrap (a*b)))
  | .eql,_,a,b=>some (.bool (a == b))
  | .neq,_,a,b=>some (.bool (a != b))
  | .lss,_,a,b=>some (.bool (decide (a<b)))
  | .leq,_,a,b=>some (.bool (decide (a≤b)))
  | .gtr,_,a,b=>some (.bool (decide (a>b)))
  | .geq,_,a,b=>some (.bool (decide (a≥b)))
  | .quo,k,a,.ofNat (b+1)=>some (.int k (k.wrap (a.tdiv (.ofNat (b+1)))))
  | .rem,k,a,.ofNat (b+1)=>some (.int k (a.tmod (.ofNat (b+1))))
  | _,_,_,_=>none

def kindEq:IntKind→IntKind→Bool
  | .i8,.i8 | .i16,.i16 | .i32,.i32 | .i64,.i64 | .u8,.u8 | .u16,.u16 | .u32,.u32 | .u64,.u64=>true
  | _,_=>false

theorem z94 {a b:IntKind}(h:kindEq a b=true):a=b:=by cases a<;>cases b<;>simp [kindEq] at h ⊢

def eqfs (T:TT) (E:TD→List Value→List Value→Option Bool):List (Nat × Nat × Bool × Nat)→List Value→List Value→Option Bool
  | [],_,_=>some true
  | g::gs,xs,ys=>match T.get g.2.2.2 with
    | some i=>match E i.d ((xs.drop g.1).take i.size) ((ys.drop g.1).take i.size),eqfs T E gs xs ys with
      | some a,some b=>some (a && b)
      | _,_=>none
    | none=>none

def eqFlat:TD→List Value→List Value→Option Bool
  | .int _,[.int k a],[.int k' b]=>match kindEq k k' with
    | true=>some (a == b)
    | false=>none
  | .bool,[.bool a],[.bool b]=>some (a == b)
  | .str,[.string a],[.string b]=>some (seqb a b)
  | _,_,_=>none


def eqc (T:TT):Nat→TD→List Value→List Value→Option Bool
  | 0,td,xs,ys=>eqFlat td xs ys
  | n+1,.struct fs,xs,ys=>eqfs T (eqc T n) fs xs ys
  | _+1,td,xs,ys=>eqFlat td xs ys

def binv (T:TT) (op:BinOp) (t:Nat):Value→Value→Option Value
  | .int k a,.int k' b=>match kindEq k k' with
    | true=>intBin op k a b
    | false=>none
  | .bool a,.bool b=>match op,T.get t with
    | .eql,some ⟨_,.bool,_,_,_⟩=>some (.bool (a == b))
    | .neq,some ⟨_,.bool,_,_,_⟩=>some (.bool (!(a == b)))
    | _,_=>none
  | .string a,.string b=>match op with
    | .eql=>some (.bool (seqb a b))
    | .neq=>some (.bool (!(seqb a b)))
    | _=>none
  | .agg ⟨xs⟩,.agg ⟨ys⟩=>match op,T.get t with
    | .eql,some ⟨_,.struct fs,_,_,_⟩=>match eqc T 9 (.struct fs) xs ys with
      | some b=>some (.bool b)
      | none=>none
    | .neq,some ⟨_,.struct fs,_,_,_⟩=>match eqc T 9 (.struct fs) xs ys with
      | some b=>some (.bool (!b))
      | none=>none
    | _,_=>none
  | _,_=>none

def nthv {α:Type}:List α→Nat→Option α
  | [],_=>none
  | a::_,0=>some a
  | _::r,n+1=>nthv r n

theorem z1p {α:Type}:∀ (l:List α) (n:Nat),nthv l n=l[n]?
  | [],_=>by simp [nthv]
  | _::_,0=>by simp [nthv]
  | _::r,n+1=>by simp [nthv,z1p r n]

def Fr.evs (F:Fr):List Operand→Option (List Value)
  | []=>some []
  | x::r=>match F.ev x,Fr.evs F r with
    | some v,some vs=>some (v::vs)
    | _,_=>none

theorem Fits.evs {n:Nat}{F:Fr}{a:Act}(h:Fits n F a):∀ {xs:List Operand}{vs:List Value},F.evs xs=some vs→xs.map a.eval=vs
  | [],vs,e=>by simp only [Fr.evs,Option.some.injEq] at e;simpa using e
  | x::r,vs,e=>by
    simp only [Fr.evs] at e
    split at e
    · rename_i v us h1 h2
      simp only [Option.some.injEq] at e
      subst e
      simp [h.ev h1,h.evs h2]
    · cases e


def pv (T:TT) (F:Fr):Op→Option Value
  | .move x | .assign x=>F.ev x
  | .pick c a b=>match F.ev c with
    | some (.bool true)=>F.ev a
    | some (.bool false)=>F.ev b
    | _=>none
  | .nilCheck x=>match F.ev x with
    | some (.pointer (some p))=>some (.pointer (some p))
    | _=>none
  | .binOp op t x y _=>match F.ev x,F.ev y with
    | some a,some b=>binv T op t a b
    | _,_=>none
  | .unOp .not _ x=>match F.ev x with
    | some (.bool b)=>some (.bool (!b))
    | _=>none
  | .unOp .neg _ x=>match F.ev x with
    | some (.int k n)=>some (.int k (k.wrap (0 - n)))
    | _=>none
  | .fieldAddr t x f=>match T.get t,F.ev x with
    | some ⟨_,.struct fs,_,_,_⟩,some (.pointer (some p))=>match nthv fs f with
      | some g=>some (.pointer (some (p.add g.1)))
      | none=>none
    | _,_=>none
  | .extract x i=>match F.ev x with
    | some (.tuple vs)=>nthv vs.toList i
    | _=>none
  | .makeFunc fn ⟨first⟩ ⟨cap⟩=>match F.evs first,F.evs cap with
    | some vs,some us=>some (.func fn ⟨vs⟩ ⟨us⟩)
    | _,_=>none
  | .convert s d x=>match T.get s,T.get d,F.ev x with
    | some ⟨_,.int _,_,_,_⟩,some ⟨_,.int k,_,_,_⟩,some (.int _ n)=>some (.int k (k.wrap n))
    | _,_,_=>none
  | .call { callee:=.builtin .len,args:=⟨[x]⟩,argTypes:=⟨[t]⟩ }=>match T.get t,F.ev x with
    | some ⟨_,.slice _,_,_,_⟩,some (.slice _ n _)=>some (.int .i64 (n:Nat))
    | some ⟨_,.str,_,_,_⟩,some (.string s)=>some (.int .i64 (s.size:Nat))
    | _,_=>none
  | _=>none

section
variable {P:Program}{T:TT}(ht:TTok P T)

theorem zb0 (k:IntKind) (a b:Int) (hb:b≠0) (t:TypeId) (w:World):(binOp .quo t (.int k a) (.int k b)).run P w=.ok (.int k (k.wrap (a.tdiv b))) w:=by
  simp [binOp,Op.intDiv,hb]

theorem zaZ (k:IntKind) (a b:Int) (hb:b≠0) (t:TypeId) (w:World):(binOp .rem t (.int k a) (.int k b)).run P w=.ok (.int k (a.tmod b)) w:=by
  simp [binOp,Op.intDiv,hb]

theorem zaj {op:BinOp}{k:IntKind}{a b:Int}{v:Value}(h:intBin op k a b=some v) (t:TypeId) (w:World):
    (binOp op t (.int k a) (.int k b)).run P w=.ok v w:=by
  unfold intBin at h
  split at h<;>simp only [Option.some.injEq,reduceCtorEq] at h<;>subst h<;>first
    | (simp [binOp,Op.intArith,Op.intCmp];done)
    | exact zb0 _ _ _ (by simp;omega) _ _
    | exact zaZ _ _ _ (by simp;omega) _ _

theorem TTok.bool {t:Nat}{i:TI}(ht:TTok P T) (h:T.get t=some i) (hd:i.d=.bool):P.underlying t=some .bool:=by
  obtain⟨d,h1,h2,_⟩:=ht.desc h
  rw [hd] at h2
  cases d<;>simp [descOk] at h2
  exact h1

theorem TTok.str {t:Nat}{i:TI}(ht:TTok P T) (h:T.get t=some i) (hd:i.d=.str):P.underlying t=some .string:=by
  obtain⟨d,h1,h2,_⟩:=ht.desc h
  rw [hd] at h2
  cases d<;>simp [descOk] at h2
  exact h1

theorem TTok.int {t:Nat}{i:TI}{k:IntKind}(ht:TTok P T) (h:T.get t=some i) (hd:i.d=.int k):P.underlying t=some (.int k):=by
  obtain⟨d,h1,h2,_⟩:=ht.desc h
  rw [hd] at h2
  cases d<;>simp [descOk] at h2
  subst h2
  exact h1

theorem TTok.slice {t e:Nat}{i:TI}(ht:TTok P T) (h:T.get t=some i) (hd:i.d=.slice e):P.underlying t=some (.slice e):=by
  obtain⟨d,h1,h2,_⟩:=ht.desc h
  rw [hd] at h2
  cases d<;>simp [descOk] at h2
  rw [h1,h2]

theorem TTok.plainS {t:Nat}{i:TI}{gs:List (Nat × Nat × Bool × Nat)}(ht:TTok P T) (h:T.get t=some i) (hd:i.d=.struct gs):P.stoodInHeld t=false∧P.eqGuardType P.depth t=false:=by
  obtain⟨hm,he⟩:=TT.get_mem h
  have h1:=ht.ok i hm
  unfold infoOk at h1
  rw [he,Bool.and_eq_true] at h1
  have h2:=h1.2
  rw [hd] at h2
  simpa using h2

theorem z6O:∀ {fs:List Field}{gs:List (Nat × Nat × Bool × Nat)},fieldsOk P fs gs=true→∀ {j:Nat}{g:Nat × Nat × Bool × Nat},gs[j]? = some g→∃ f,fs[j]? = some f∧fieldOk P f g=true
  | [],[],_,j,g,h=>by simp at h
  | [],_::_,h,_,_,_=>by simp [fieldsOk] at h
  | _::_,[],h,_,_,_=>by simp [fieldsOk] at h
  | f::fs,g'::gs,h,j,g,hj=>by
    simp only [fieldsOk,Bool.and_eq_true] at h
    cases j with
    | zero=>simp only [List.getElem?_cons_zero,Option.some.injEq] at hj;subst hj;exact⟨f,by simp,h.1⟩
    | succ j=>simp only [List.getElem?_cons_succ] at hj ⊢;exact z6O h.2 hj

theorem TTok.field {t:Nat}{i:TI}{gs:List (Nat × Nat × Bool × Nat)}(ht:TTok P T) (h:T.get t=some i) (hd:i.d=.struct gs){j:Nat}{g:Nat × Nat × Bool × Nat}(hj:gs[j]? = some g):
    ∃ fs f,P.underlying t=some (.struct fs)∧fs[j]? = some f∧f.offset=g.1∧g.2.1≠0∧(∃ k,P.info? f.type=some k∧k.size=g.2.1):=by
  obtain⟨d,h1,h2,_⟩:=ht.desc h
  rw [hd] at h2
  cases d<;>simp only [descOk,Bool.false_eq_true] at h2
  rename_i fs _
  obtain⟨f,hf,hok⟩:=z6O h2 hj
  simp only [fieldOk,Bool.and_eq_true] at hok
  obtain⟨⟨⟨⟨⟨ho,_⟩,_⟩,hs⟩,h0⟩,ha⟩:=hok
  refine⟨fs,f,h1,by simpa using hf,Nat.eq_of_beq_eq_true ho,?_,?_⟩
  · intro he;rw [he] at h0;simp at h0
  · cases hi:P.info? f.type with
    | none=>rw [hi] at hs;simp at hs
    | some k=>rw [hi] at hs;exact⟨k,rfl,Nat.eq_of_beq_eq_true hs⟩

theorem z8U {t:TypeId}(hu:P.underlying t=some .bool) (a b:Bool) (w:World):(binOp .eql t (.bool a) (.bool b)).run P w=.ok (.bool (a == b)) w:=by
  have h:∀ d,(Op.equalIn (d+1) t (.bool a) (.bool b)).run P w=.ok (a == b) w:=fun d=>by simp [Op.equalIn,Go.underlying,hu]
  simp only [binOp,Op.equal,Op.maxDepth]
  simp [h 9999]

theorem z8T {t:TypeId}(hu:P.underlying t=some .bool) (a b:Bool) (w:World):(binOp .neq t (.bool a) (.bool b)).run P w=.ok (.bool (!(a == b))) w:=by
  have h:∀ d,(Op.equalIn (d+1) t (.bool a) (.bool b)).run P w=.ok (a == b) w:=fun d=>by simp [Op.equalIn,Go.underlying,hu]
  simp only [binOp,Op.equal,Op.maxDepth]
  simp [h 9999]

def isVal (i:TI) (xs:List Value) (x:Value):Prop:=(i.agg=true∧x=.agg ⟨xs⟩)∨(i.agg=false∧xs=[x])

theorem z70 (ht:TTok P T){t:Nat}{i:TI}(hi:T.get t=some i){xs:List Value}{off:Nat}{x:Value}(hx:isVal i ((xs.drop off).take i.size) x) (w:World):(part t ⟨xs⟩ off).run P w=.ok x w:=by
  unfold part
  rcases hx with⟨ha,rfl⟩ | ⟨ha,hx⟩
  · have he:(⟨xs⟩:Array Value).extract off (off+i.size)=⟨(xs.drop off).take i.size⟩:=by
      apply Array.toList_inj.1
      simp [List.extract_eq_take_drop]
    simp only [Sem.run_bind,ht.isAgg hi,Result.andThen_ok,ha,if_true,ht.sizeOf hi,Sem.run_pure,he]
  · have hc:(⟨xs⟩:Array Value)[off]? = some x:=by
      have h0:((xs.drop off).take i.size)[0]? = some x:=by rw [hx];rfl
      rw [List.getElem?_take] at h0
      split at h0
      · simpa using h0
      · cases h0
    simp [ht.isAgg hi,ha,hc]

theorem z7T (ht:TTok P T){td:TD}{xs ys:List Value}{b:Bool}(h:eqFlat td xs ys=some b){t:Nat}{i:TI}(hi:T.get t=some i) (htd:i.d=td) (d:Nat) (w:World){x y:Value}(hx:isVal i xs x) (hy:isVal i ys y):
    (Op.equalIn (d+1) t x y).run P w=.ok b w:=by
  unfold eqFlat at h
  split at h
  · have hag:i.agg=false:=by unfold TI.agg;rw [htd]
    rcases hx with⟨h1,_⟩ | ⟨_,hx⟩
    · rw [hag] at h1;cases h1
    rcases hy with⟨h1,_⟩ | ⟨_,hy⟩
    · rw [hag] at h1;cases h1
    simp only [List.cons.injEq,and_true] at hx hy
    subst hx;subst hy
    split at h
    · rename_i hk
      simp only [Option.some.injEq] at h;subst h
      rw [← z94 hk]
      exact run_equalIn_int w d t _ _ _ _ (ht.int hi htd)
    · cases h
  · have hag:i.agg=false:=by unfold TI.agg;rw [htd]
    rcases hx with⟨h1,_⟩ | ⟨_,hx⟩
    · rw [hag] at h1;cases h1
    rcases hy with⟨h1,_⟩ | ⟨_,hy⟩
    · rw [hag] at h1;cases h1
    simp only [List.cons.injEq,and_true] at hx hy
    subst hx;subst hy
    simp only [Option.some.injEq] at h;subst h
    exact run_equalIn_bool' w d t _ _ (ht.bool hi htd)
  · have hag:i.agg=false:=by unfold TI.agg;rw [htd]
    rcases hx with⟨h1,_⟩ | ⟨_,hx⟩
    · rw [hag] at h1;cases h1
    rcases hy with⟨h1,_⟩ | ⟨_,hy⟩
    · rw [hag] at h1;cases h1
    simp only [List.cons.injEq,and_true] at hx hy
    subst hx;subst hy
    simp only [Option.some.injEq] at h;subst h
    exact run_equalIn_string w d t _ _ (ht.str hi htd)
  · cases h


def Shaped (E:TD→List Value→List Value→Option Bool):Prop:=∀ (i:TI) (zs zs':List Value) (a:Bool),E i.d zs zs'=some a→∃ x y,isVal i zs x∧isVal i zs' y

theorem z7j:Shaped eqFlat:=by
  intro i zs zs' a hz
  unfold eqFlat at hz
  split at hz
  · rename_i hd;exact⟨_,_,.inr ⟨by unfold TI.agg;rw [hd],rfl⟩,.inr ⟨by unfold TI.agg;rw [hd],rfl⟩⟩
  · rename_i hd;exact⟨_,_,.inr ⟨by unfold TI.agg;rw [hd],rfl⟩,.inr ⟨by unfold TI.agg;rw [hd],rfl⟩⟩
  · rename_i hd;exact⟨_,_,.inr ⟨by unfold TI.agg;rw [hd],rfl⟩,.inr ⟨by unfold TI.agg;rw [hd],rfl⟩⟩
  · cases hz

theorem z7R (n:Nat):Shaped (eqc T n):=by
  intro i zs zs' a hz
  cases n with
  | zero=>exact z7j i zs zs' a hz
  | succ n=>
    cases hd:i.d with
    | struct fs=>exact⟨_,_,.inl ⟨by unfold TI.agg;rw [hd],rfl⟩,.inl ⟨by unfold TI.agg;rw [hd],rfl⟩⟩
    | _=>rw [hd] at hz;exact z7j i zs zs' a (by rw [hd];exact hz)

theorem zbO (ht:TTok P T){E:TD→List Value→List Value→Option Bool}(hE:Shaped E) (d:Nat)
    (he:∀ (td:TD) (xs ys:List Value) (b:Bool),E td xs ys=some b→∀ (t:Nat) (i:TI),T.get t=some i→i.d=td→∀ (w:World),∀ x y,isVal i xs x→isVal i ys y→(Op.equalIn d t x y).run P w=.ok b w):
    ∀ (gs:List (Nat × Nat × Bool × Nat)) (xs ys:List Value) (b:Bool),eqfs T E gs xs ys=some b→∀ (fs:List Field),fieldsOk P fs gs=true→∀ (w:World),(Op.eqFields d ⟨xs⟩ ⟨ys⟩ fs).run P w=.ok b w:=by
  intro gs
  induction gs with
  | nil=>
    intro xs ys b h fs hfs w
    cases fs with
    | nil=>simp only [eqfs,Option.some.injEq] at h;subst h;simp [Op.eqFields]
    | cons f fs=>simp [fieldsOk] at hfs
  | cons g gs ih=>
    intro xs ys b h fs hfs w
    cases fs with
    | nil=>simp [fieldsOk] at hfs
    | cons f fs=>
      simp only [fieldsOk,Bool.and_eq_true] at hfs
      obtain⟨hok,hrest⟩:=hfs
      simp only [fieldOk,Bool.and_eq_true] at hok
      obtain⟨⟨⟨⟨⟨ho,hty⟩,hnm⟩,_⟩,_⟩,_⟩:=hok
      have hty':=Nat.eq_of_beq_eq_true hty
      have ho':=Nat.eq_of_beq_eq_true ho
      unfold eqfs at h
      split at h
      · rename_i i hi
        split at h
        · rename_i a c ha hc
          simp only [Option.some.injEq] at h
          subst h
          obtain⟨x,y,hx,hy⟩:=hE i _ _ a ha
          have hnm':f.name≠ "_":=by simpa using hnm
          have e1:=z70 ht hi hx w
          have e2:=z70 ht hi hy w
          have e3:=he i.d _ _ a ha g.2.2.2 i hi rfl w x y hx hy
          unfold Op.eqFields
          rw [← hty',← ho'] at *
          simp only [hnm',ne_eq,not_false_eq_true,if_true,Sem.run_bind,e1,e2,e3,Result.andThen_ok]
          cases a
          · simp
          · simp only [Bool.true_and]
            simpa using ih xs ys c hc fs hrest w
        · cases h
      · cases h

theorem z9r (ht:TTok P T):∀ (n:Nat) (td:TD) (xs ys:List Value) (b:Bool),eqc T n td xs ys=some b→∀ (t:Nat) (i:TI),T.get t=some i→i.d=td→∀ (d:Nat) (w:World),n<d→∀ x y,isVal i xs x→isVal i ys y→(Op.equalIn d t x y).run P w=.ok b w:=by
  intro n
  induction n with
  | zero=>
    intro td xs ys b h t i hi htd d w hd x y hx hy
    obtain⟨d,rfl⟩:∃ d',d=d'+1:=⟨d - 1,by omega⟩
    exact z7T ht h hi htd d w hx hy
  | succ n ih=>
    intro td xs ys b h t i hi htd d w hd x y hx hy
    obtain⟨d,rfl⟩:∃ d',d=d'+1:=⟨d - 1,by omega⟩
    cases td with
    | struct gs=>
      have hag:i.agg=true:=by unfold TI.agg;rw [htd]
      rcases hx with⟨_,rfl⟩ | ⟨h1,_⟩
      case inr=>rw [hag] at h1;cases h1
      rcases hy with⟨_,rfl⟩ | ⟨h1,_⟩
      case inr=>rw [hag] at h1;cases h1
      obtain⟨dd,h1,h2,_⟩:=ht.desc hi
      rw [htd] at h2
      cases dd<;>simp only [descOk,Bool.false_eq_true] at h2
      rename_i fs _
      have hfo:P.fieldsOf t=fs:=by unfold Program.fieldsOf;rw [h1]
      rw [run_equalIn_struct w d t _ _ (by rw [hfo];exact h1) (ht.plainS hi htd).1,hfo]
      exact zbO ht (z7R n) d (fun td xs ys b h t i hi htd w x y hx hy=>ih td xs ys b h t i hi htd d w (by omega) x y hx hy) gs xs ys b h fs.toList h2 w
    | _=>exact z7T ht h hi htd d w hx hy

include ht

theorem zbP {op:BinOp}{t:Nat}{x y v:Value}(h:binv T op t x y=some v) (w:World):(binOp op t x y).run P w=.ok v w:=by
  unfold binv at h
  split at h
  · split at h
    · rename_i hk;rw [← z94 hk];exact zaj h t w
    · cases h
  · split at h
    · simp only [Option.some.injEq] at h;subst h
      rename_i hg
      exact z8U (ht.bool hg rfl) _ _ w
    · simp only [Option.some.injEq] at h;subst h
      rename_i hg
      exact z8T (ht.bool hg rfl) _ _ w
    · cases h
  · split at h
    · simp only [Option.some.injEq] at h;subst h;simp [binOp,Op.stringOp,seqb]
    · simp only [Option.some.injEq] at h;subst h;simp [binOp,Op.stringOp,seqb]
    · cases h
  · split at h
    · rename_i hi
      split at h
      · rename_i b hb
        simp only [Option.some.injEq] at h;subst h
        rw [run_eql_struct,z9r ht 9 _ _ _ _ hb t _ hi rfl 10000 w (by omega) _ _ (.inl ⟨rfl,rfl⟩) (.inl ⟨rfl,rfl⟩)]
        rfl
      · cases h
    · rename_i hi
      split at h
      · rename_i b hb
        simp only [Option.some.injEq] at h;subst h
        rw [run_neq_struct,z9r ht 9 _ _ _ _ hb t _ hi rfl 10000 w (by omega) _ _ (.inl ⟨rfl,rfl⟩) (.inl ⟨rfl,rfl⟩)]
        rfl
      · cases h
    · cases h
  · cases h

theorem z9s {op:BinOp}{t:Nat}{X Y:Operand}{x y v:Value}(h:binv T op t x y=some v) (w:World):(eqGuard op t X Y x y).run P w=.ok () w:=by
  unfold binv at h
  split at h
  · unfold eqGuard;split<;>simp
  · unfold eqGuard;split<;>simp
  · unfold eqGuard;split<;>simp
  · split at h
    · rename_i hi;exact run_eqGuard_agg w _ t X Y _ _ (ht.plainS hi rfl).2
    · rename_i hi;exact run_eqGuard_agg w _ t X Y _ _ (ht.plainS hi rfl).2
    · cases h
  · cases h

theorem z8R {F:Fr}{n:Nat}{o:Oper}{v:Value}(h:pv T F o.op=some v){a:Act}(ha:Fits n F a) (w:World):
    (execOp a.eval o).run P w=.ok (.value v) w:=by
  unfold execOp
  unfold pv at h
  split at h<;>rename_i hop<;>(try rw [hop])
  · simp [ha.ev h]
  · simp [ha.ev h]
  · split at h
    · rename_i hc;simp [ha.ev hc,asBool,ha.ev h]
    · rename_i hc;simp [ha.ev hc,asBool,ha.ev h]
    · cases h
  · split at h
    · rename_i hc;simp only [Option.some.injEq] at h;subst h;simp [ha.ev hc]
    · cases h
  · split at h
    · rename_i hx hy
      simp [ha.ev hx,ha.ev hy,z9s ht h,zbP ht h]
    · cases h
  · split at h
    · rename_i hc;simp only [Option.some.injEq] at h;subst h;simp [ha.ev hc,Op.unary]
    · cases h
  · split at h
    · rename_i hc;simp only [Option.some.injEq] at h;subst h;simp [ha.ev hc,Op.unary,Op.intArith]
    · cases h
  · split at h
    · rename_i hg hx
      split at h
      · rename_i g hn
        simp only [Option.some.injEq] at h;subst h
        rw [z1p] at hn
        obtain⟨fs,f,h1,h2,h3,h4,⟨k,h5,h6⟩⟩:=ht.field hg rfl hn
        simp [ha.ev hx,Instr.fieldAt,Go.underlying,h1,h2,Instr.sureAddr,fieldPlace,Go.sizeOf,typeInfo,h5,h6,h4,h3]
      · cases h
    · cases h
  · split at h
    · rename_i vs hx
      rw [z1p] at h
      simp only [Array.getElem?_toList] at h
      simp [ha.ev hx,Instr.extract,h]
    · cases h
  · split at h
    · rename_i h1 h2
      simp only [Option.some.injEq] at h;subst h
      simp [Instr.makeFunc,ha.evs h1,ha.evs h2]
    · cases h
  · split at h
    · rename_i h1 h2 h3
      simp only [Option.some.injEq] at h;subst h
      simp [ha.ev h3,convert,Go.underlying,ht.int h1 rfl,ht.int h2 rfl,Conv.intToInt]
    · cases h
  · split at h
    · rename_i h1 h2
      simp only [Option.some.injEq] at h;subst h
      simp [resolve,invoke,builtin,Builtin.len_,ha.ev h2,Go.underlying,ht.slice h1 rfl,goInt]
    · rename_i h1 h2
      simp only [Option.some.injEq] at h;subst h
      simp [resolve,invoke,builtin,Builtin.len_,ha.ev h2,Go.underlying,ht.str h1 rfl,goInt]
    · cases h
  · cases h
end
end Go.E


namespace Go.E
open Go.RowKit
set_option linter.unusedVariables false
set_option linter.unusedSimpArgs false



structure Base where
  W:World
  D:Nat→Bool
  gone:∀ b,D b=true→b<W.heap.size→W.heap[b]? = some (.cells #[] 0 (0,0))

abbrev Base.of (w:World):Base:=⟨w,fun _=>false,fun _ h=>by cases h⟩
instance:Coe World Base:=⟨Base.of⟩
instance:CoeOut Base World:=⟨Base.W⟩


def Base.fr (B:Base) (b:Nat):Prop:=B.W.heap.size≤b∨B.D b=true

def Base.get (B:Base) (b:Nat):Option Obj:=bif B.D b then none else B.W.heap[b]?

structure Ext (B C:Base):Prop where
  os:C.W.os=B.W.os
  tape:C.W.tape=B.W.tape
  output:C.W.output=B.W.output
  size:B.W.heap.size≤C.W.heap.size
  block:∀ k,¬ B.fr k→C.get k=B.W.heap[k]?

abbrev onW (B:Base) (w:World):Prop:=Ext B w

theorem Base.fr_of {w:World}{b:Nat}:(Base.of w).fr b↔w.heap.size≤b:=⟨fun h=>h.elim id (fun h=>by cases h),.inl⟩
theorem Base.nfr_of {w:World}{b:Nat}:¬ (Base.of w).fr b↔b<w.heap.size:=by rw [Base.fr_of];omega
theorem Base.get_nfr {B:Base}{b:Nat}(h:¬ B.fr b):B.get b=B.W.heap[b]?:=by
  unfold Base.get
  cases hd:B.D b with
  | true=>exact absurd (.inr hd) h
  | false=>rfl
theorem Base.nfr_get {B:Base}{b:Nat}{o:Obj}(h:B.get b=some o):¬ B.fr b:=by
  unfold Base.get at h
  cases hd:B.D b with
  | true=>rw [hd] at h;cases h
  | false=>
    rw [hd] at h
    rintro(h2 | h2)
    · have h3:B.W.heap[b]? = some o:=h
      rw [Array.getElem?_eq_none h2] at h3;cases h3
    · rw [hd] at h2;cases h2
theorem Base.nfr_some {B:Base}{b:Nat}(h:¬ B.fr b):∃ o,B.W.heap[b]? = some o:=
  ⟨_,Array.getElem?_eq_getElem (Nat.lt_of_not_le fun e=>h (.inl e))⟩
theorem Ext.keep {B C:Base}(h:Ext B C){b:Nat}(hb:¬ B.fr b):¬ C.fr b:=by
  obtain⟨o,ho⟩:=Base.nfr_some hb
  exact Base.nfr_get ((h.block b hb).trans ho)
theorem Ext.same {B C:Base}(h:Ext B C){b:Nat}(hb:¬ B.fr b):C.W.heap[b]? = B.W.heap[b]?:=(Base.get_nfr (h.keep hb)).symm.trans (h.block b hb)
theorem Ext.of_below {w w':World}(h:Below w.heap.size w w'):Ext w w':=⟨h.os,h.tape,h.output,h.size,fun k hk=>h.block k (Base.nfr_of.1 hk)⟩
theorem Ext.below {w w':World}(h:Ext w w'):Below w.heap.size w w':=⟨h.os,h.tape,h.output,h.size,fun k hk=>h.block k (Base.nfr_of.2 hk)⟩
theorem Ext.old {w w':World}(h:Ext w w') (b:Nat) (hb:b<w.heap.size):w'.heap[b]? = w.heap[b]?:=h.block b (Base.nfr_of.2 hb)

theorem Ext.refl (B:Base):Ext B B:=⟨rfl,rfl,rfl,Nat.le_refl _,fun k hk=>Base.get_nfr hk⟩
theorem Ext.trans {a b c:Base}(h:Ext a b) (k:Ext b c):Ext a c:=
  ⟨k.os.trans h.os,k.tape.trans h.tape,k.output.trans h.output,Nat.le_trans h.size k.size,fun i hi=>(k.block i (h.keep hi)).trans (h.same hi)⟩
theorem Ext.alloc (w:World) (o:Obj):Ext w (w.alloc o):=Ext.of_below ((Below.refl _ _).alloc (Nat.le_refl _) o)
theorem Ext.draw (w:World):Ext w ({ w with drawn:=w.drawn+1 }:World):=Ext.of_below ⟨rfl,rfl,rfl,Nat.le_refl _,fun _ _=>rfl⟩

theorem Base.live {B:Base}{p:Addr}{v:Value}(hc:B.W.cell? p=some v):¬ B.fr p.block:=by
  have hl:=block_lt_of_cell hc
  rintro(h | h)
  · omega
  · have hg:=B.gone _ h hl
    unfold World.cell? at hc
    rw [hg] at hc
    simp at hc
theorem Ext.cell {B C:Base}(h:Ext B C){p:Addr}{v:Value}(hc:B.W.cell? p=some v):C.W.cell? p=some v:=by
  rw [World.cell?_of_block (w:=B.W) (h.same (Base.live hc))];exact hc


def At (w:World) (p:Addr) (cs:List Value):Prop:=∀ j u,cs[j]? = some u→w.cell? (p.add j)=some u

theorem At.ext {B C:Base}(h:Ext B C){p:Addr}{cs:List Value}(ha:At B.W p cs):At C.W p cs:=fun j u hu=>h.cell (ha j u hu)

theorem zbE (a:Addr) (i j:Nat):(a.add i).add j=a.add (i+j):=by
  unfold Addr.add
  by_cases hi:i=0<;>by_cases hj:j=0<;>simp [hi,hj,Nat.add_assoc]

theorem At.part {w:World}{p:Addr}{cs es:List Value}{i:Nat}(ha:At w p cs) (he:∀ j u,es[j]? = some u→cs[i+j]? = some u):At w (p.add i) es:=fun j u hu=>by
  rw [zbE];exact ha _ u (he j u hu)

theorem At.left {w:World}{p:Addr}{cs es:List Value}(ha:At w p (cs++es)):At w p cs:=fun j u hu=>ha j u (by
  rw [List.getElem?_append_left (List.getElem?_eq_some_iff.1 hu).1];exact hu)
theorem At.right {w:World}{p:Addr}{cs es:List Value}(ha:At w p (cs++es)):At w (p.add cs.length) es:=ha.part fun j u hu=>by
  rw [List.getElem?_append_right (Nat.le_add_right _ _)];simpa using hu


structure Ty (α:Type) where
  size:Nat
  ro:World→List Value→α→Prop
  own:World→List Value→α→List Nat→Prop

  req:World→Prop
  len:∀ {w cs x},ro w cs x→cs.length=size
  lenO:∀ {w cs x G},own w cs x G→cs.length=size
  ext:∀ {B C:Base}{cs x},Ext B C→ro B.W cs x→ro C.W cs x
  own_ro:∀ {w cs x G},own w cs x G→req w→ro w cs x
  loc:∀ {w w' cs x G},own w cs x G→(∀ g,g∈G→w'.heap[g]? = w.heap[g]?)→own w' cs x G
  lt:∀ {w cs x G},own w cs x G→∀ g,g∈G→g<w.heap.size
  one:∀ {w cs x},ro w cs x→∀ u,u∈cs→u.oneCell'=true
  oneO:∀ {w cs x G},own w cs x G→∀ u,u∈cs→u.oneCell'=true


def tFlat {α:Type}(f:α→Value) (h1:∀ x,(f x).oneCell'=true):Ty α where
  size:=1
  ro:=fun _ cs x=>cs=[f x]
  own:=fun _ cs x G=>cs=[f x]∧G=[]
  req:=fun _=>True
  len:=by rintro _ _ _ rfl;rfl
  lenO:=by rintro _ _ _ _ ⟨rfl,_⟩;rfl
  ext:=fun _ h=>h
  own_ro:=fun h _=>h.1
  loc:=fun h _=>h
  lt:=fun h g hg=>by rw [h.2] at hg;cases hg
  one:=by rintro _ _ x rfl u hu;simp only [List.mem_singleton] at hu;subst hu;exact h1 x
  oneO:=by rintro _ _ x _ ⟨rfl,_⟩ u hu;simp only [List.mem_singleton] at hu;subst hu;exact h1 x

def tInt:Ty Int:=tFlat (Value.int .i64) fun _=>rfl
def tIntK (k:IntKind):Ty Int:=tFlat (Value.int k) fun _=>rfl
def tBool:Ty Bool:=tFlat Value.bool fun _=>rfl
def tStr:Ty ByteArray:=tFlat Value.string fun _=>rfl

def tUnit:Ty Unit where
  size:=0
  ro:=fun _ cs _=>cs=[]
  own:=fun _ cs _ G=>cs=[]∧G=[]
  req:=fun _=>True
  len:=by rintro _ _ _ rfl;rfl
  lenO:=by rintro _ _ _ _ ⟨rfl,_⟩;rfl
  ext:=fun _ h=>h
  own_ro:=fun h _=>h.1
  loc:=fun h _=>h
  lt:=fun h g hg=>by rw [h.2] at hg;cases hg
  one:=by rintro _ _ _ rfl u hu;cases hu
  oneO:=by rintro _ _ _ _ ⟨rfl,_⟩ u hu;cases hu

def tPair {α β:Type}(T:Ty α) (U:Ty β):Ty (α × β) where
  size:=T.size+U.size
  ro:=fun w cs x=>∃ c d,cs=c++d∧T.ro w c x.1∧U.ro w d x.2
  own:=fun w cs x G=>∃ c d H K,cs=c++d∧G=H++K∧T.own w c x.1 H∧U.own w d x.2 K
  req:=fun w=>T.req w∧U.req w
  len:=by rintro _ _ _ ⟨c,d,rfl,h1,h2⟩;rw [List.length_append,T.len h1,U.len h2]
  lenO:=by rintro _ _ _ _ ⟨c,d,H,K,rfl,rfl,h1,h2⟩;rw [List.length_append,T.lenO h1,U.lenO h2]
  ext:=by rintro _ _ _ _ he ⟨c,d,rfl,h1,h2⟩;exact⟨c,d,rfl,T.ext he h1,U.ext he h2⟩
  own_ro:=by rintro _ _ _ _ ⟨c,d,H,K,rfl,rfl,h1,h2⟩ hq;exact⟨c,d,rfl,T.own_ro h1 hq.1,U.own_ro h2 hq.2⟩
  loc:=by
    rintro _ _ _ _ _ ⟨c,d,H,K,rfl,rfl,h1,h2⟩ hs
    exact⟨c,d,H,K,rfl,rfl,T.loc h1 fun g hg=>hs g (List.mem_append_left _ hg),U.loc h2 fun g hg=>hs g (List.mem_append_right _ hg)⟩
  lt:=by
    rintro _ _ _ _ ⟨c,d,H,K,rfl,rfl,h1,h2⟩ g hg
    rcases List.mem_append.1 hg with hg | hg
    · exact T.lt h1 g hg
    · exact U.lt h2 g hg
  one:=by
    rintro _ _ _ ⟨c,d,rfl,h1,h2⟩ u hu
    rcases List.mem_append.1 hu with hu | hu
    · exact T.one h1 u hu
    · exact U.one h2 u hu
  oneO:=by
    rintro _ _ _ _ ⟨c,d,H,K,rfl,rfl,h1,h2⟩ u hu
    rcases List.mem_append.1 hu with hu | hu
    · exact T.oneO h1 u hu
    · exact U.oneO h2 u hu

def tMap {α β:Type}(f:β→α) (T:Ty α):Ty β where
  size:=T.size
  ro:=fun w cs x=>T.ro w cs (f x)
  own:=fun w cs x G=>T.own w cs (f x) G
  req:=T.req
  len:=T.len
  lenO:=T.lenO
  ext:=T.ext
  own_ro:=T.own_ro
  loc:=T.loc
  lt:=T.lt
  one:=T.one
  oneO:=T.oneO


def Els {α:Type}(T:Ty α) (w:World):List Value→List α→Prop
  | cs,[]=>cs=[]
  | cs,x::xs=>∃ c d,cs=c++d∧T.ro w c x∧Els T w d xs

def ElsO {α:Type}(T:Ty α) (w:World):List Value→List α→List Nat→Prop
  | cs,[],G=>cs=[]∧G=[]
  | cs,x::xs,G=>∃ c d H K,cs=c++d∧G=H++K∧T.own w c x H∧ElsO T w d xs K

section
variable {α:Type}{T:Ty α}{w w':World}

theorem Els.length:∀ {xs:List α}{cs:List Value},Els T w cs xs→cs.length=xs.length*T.size
  | [],_,h=>by rw [h];simp
  | x::xs,_,⟨c,d,h,h1,h2⟩=>by rw [h,List.length_append,T.len h1,Els.length h2,List.length_cons,Nat.succ_mul];omega

theorem Els.ext {B C:Base}(he:Ext B C):∀ {xs:List α}{cs:List Value},Els T B.W cs xs→Els T C.W cs xs
  | [],_,h=>h
  | _::_,_,⟨c,d,h,h1,h2⟩=>⟨c,d,h,T.ext he h1,Els.ext he h2⟩

theorem Els.one:∀ {xs:List α}{cs:List Value},Els T w cs xs→∀ u,u∈cs→u.oneCell'=true
  | [],_,h,u,hu=>by rw [h] at hu;cases hu
  | _::_,_,⟨c,d,h,h1,h2⟩,u,hu=>by
    rw [h] at hu
    rcases List.mem_append.1 hu with hu | hu
    · exact T.one h1 u hu
    · exact Els.one h2 u hu

theorem ElsO.els (hq:T.req w):∀ {xs:List α}{cs:List Value}{G:List Nat},ElsO T w cs xs G→Els T w cs xs
  | [],_,_,h=>h.1
  | _::_,_,_,⟨c,d,_,_,h,_,h1,h2⟩=>⟨c,d,h,T.own_ro h1 hq,ElsO.els hq h2⟩
theorem ElsO.length:∀ {xs:List α}{cs:List Value}{G:List Nat},ElsO T w cs xs G→cs.length=xs.length*T.size
  | [],_,_,h=>by rw [h.1];simp
  | x::xs,_,_,⟨c,d,_,_,h,_,h1,h2⟩=>by rw [h,List.length_append,T.lenO h1,ElsO.length h2,List.length_cons,Nat.succ_mul];omega
theorem ElsO.one:∀ {xs:List α}{cs:List Value}{G:List Nat},ElsO T w cs xs G→∀ u,u∈cs→u.oneCell'=true
  | [],_,_,h,u,hu=>by rw [h.1] at hu;cases hu
  | _::_,_,_,⟨c,d,_,_,h,_,h1,h2⟩,u,hu=>by
    rw [h] at hu
    rcases List.mem_append.1 hu with hu | hu
    · exact T.oneO h1 u hu
    · exact ElsO.one h2 u hu

theorem ElsO.loc:∀ {xs:List α}{cs:List Value}{G:List Nat},ElsO T w cs xs G→(∀ g,g∈G→w'.heap[g]? = w.heap[g]?)→ElsO T w' cs xs G
  | [],_,_,h,_=>h
  | _::_,_,_,⟨c,d,H,K,h,hG,h1,h2⟩,hs=>by
    subst hG
    exact⟨c,d,H,K,h,rfl,T.loc h1 fun g hg=>hs g (List.mem_append_left _ hg),ElsO.loc h2 fun g hg=>hs g (List.mem_append_right _ hg)⟩

theorem ElsO.lt:∀ {xs:List α}{cs:List Value}{G:List Nat},ElsO T w cs xs G→∀ g,g∈G→g<w.heap.size
  | [],_,_,h,g,hg=>by rw [h.2] at hg;cases hg
  | _::_,_,_,⟨c,d,H,K,h,hG,h1,h2⟩,g,hg=>by
    subst hG
    rcases List.mem_append.1 hg with hg | hg
    · exact T.lt h1 g hg
    · exact ElsO.lt h2 g hg


theorem Els.at_:∀ {xs:List α}{cs:List Value},Els T w cs xs→∀ {i:Nat}{x:α},xs[i]? = some x→∃ es,T.ro w es x∧∀ j u,es[j]? = some u→cs[i*T.size+j]? = some u
  | [],_,_,i,x,hx=>by simp at hx
  | y::xs,_,⟨c,d,h,h1,h2⟩,i,x,hx=>by
    subst h
    cases i with
    | zero=>
      simp only [List.getElem?_cons_zero,Option.some.injEq] at hx
      subst hx
      refine⟨c,h1,fun j u hu=>?_⟩
      rw [Nat.zero_mul,Nat.zero_add,List.getElem?_append_left (List.getElem?_eq_some_iff.1 hu).1]
      exact hu
    | succ i=>
      simp only [List.getElem?_cons_succ] at hx
      obtain⟨es,h3,h4⟩:=Els.at_ h2 hx
      refine⟨es,h3,fun j u hu=>?_⟩
      have:(i+1)*T.size+j=c.length+(i*T.size+j):=by rw [T.len h1,Nat.succ_mul];omega
      rw [this,List.getElem?_append_right (Nat.le_add_right _ _)]
      simpa using h4 j u hu

theorem Els.append:∀ {xs ys:List α}{cs ds:List Value},Els T w cs xs→Els T w ds ys→Els T w (cs++ds) (xs++ys)
  | [],_,_,_,h,k=>by rw [h];simpa using k
  | _::_,_,_,_,⟨c,d,h,h1,h2⟩,k=>⟨c,d++_,by rw [h,List.append_assoc],h1,Els.append h2 k⟩

theorem ElsO.append:∀ {xs ys:List α}{cs ds:List Value}{G H:List Nat},ElsO T w cs xs G→ElsO T w ds ys H→ElsO T w (cs++ds) (xs++ys) (G++H)
  | [],_,_,_,_,_,h,k=>by rw [h.1,h.2];simpa using k
  | _::_,_,_,_,_,_,⟨c,d,H,K,h,hG,h1,h2⟩,k=>⟨c,d++_,H,K++_,by rw [h,List.append_assoc],by rw [hG,List.append_assoc],h1,ElsO.append h2 k⟩

theorem Els.drop:∀ {xs:List α}{cs:List Value},Els T w cs xs→∀ k,k≤xs.length→Els T w (cs.drop (k*T.size)) (xs.drop k)
  | xs,_,h,0,_=>by simpa using h
  | [],_,_,k+1,hk=>by simp at hk
  | x::xs,_,⟨c,d,h,h1,h2⟩,k+1,hk=>by
    subst h
    have:=Els.drop h2 k (by simpa using hk)
    rw [List.drop_succ_cons,Nat.succ_mul,Nat.add_comm,← List.drop_drop,← T.len h1]
    simpa [T.len h1] using this

theorem Els.take:∀ {xs:List α}{cs:List Value},Els T w cs xs→∀ k,k≤xs.length→Els T w (cs.take (k*T.size)) (xs.take k)
  | xs,_,h,0,_=>by simp [Els]
  | [],_,_,k+1,hk=>by simp at hk
  | x::xs,_,⟨c,d,h,h1,h2⟩,k+1,hk=>by
    subst h
    refine⟨c,d.take (k*T.size),?_,h1,Els.take h2 k (by simpa using hk)⟩
    rw [Nat.succ_mul,Nat.add_comm,← T.len h1,List.take_length_add_append]
end


def tSl {α:Type}(e:TypeId) (T:Ty α):Ty (List α) where
  size:=1
  ro:=fun w cs xs=>∃ A c els,cs=[.slice A xs.length c]∧xs.length≤c∧Els T w els xs∧(els≠[]→∃ p,A=some p∧At w p els)
  own:=fun w cs xs G=>∃ v els,cs=[v]∧w.ownsRow 0 e T.size v xs.length els∧∃ K,ElsO T w els xs K∧G=v.ownBlock.toList++K
  req:=T.req
  len:=by rintro _ _ _ ⟨_,_,_,rfl,_⟩;rfl
  lenO:=by rintro _ _ _ _ ⟨_,_,rfl,_⟩;rfl
  ext:=by
    rintro _ _ _ _ he ⟨A,c,els,rfl,hc,h1,h2⟩
    exact⟨A,c,els,rfl,hc,h1.ext he,fun hn=>let ⟨p,hp,ha⟩:=h2 hn;⟨p,hp,ha.ext he⟩⟩
  own_ro:=by
    rintro w _ xs G ⟨v,els,rfl,ho,K,hk,rfl⟩ hq
    rcases ho.2 with⟨rfl,hn⟩ | ⟨g,cap,cur,rfl,_,hh,hnc,_,hsz,htk⟩
    · have:xs=[]:=List.eq_nil_of_length_eq_zero hn
      subst this
      exact⟨none,0,[],rfl,Nat.le_refl _,rfl,fun h=>absurd rfl h⟩
    · refine⟨_,cap,els,rfl,hnc,hk.els hq,fun _=>⟨_,rfl,fun j u hu=>?_⟩⟩
      have:Addr.add ⟨g,0,none⟩ j=⟨g,j,none⟩:=by unfold Addr.add;by_cases hj:j=0<;>simp [hj]
      rw [this,cell_of_row w g j cur e (0,0) hh]
      rw [← htk] at hu
      have hj:=(List.getElem?_eq_some_iff.1 hu).1
      rw [List.getElem?_take] at hu
      split at hu
      · simpa using hu
      · cases hu
  loc:=by
    rintro w w' _ xs G ⟨v,els,rfl,ho,K,hk,rfl⟩ hs
    refine⟨v,els,rfl,⟨ho.1,?_⟩,K,hk.loc fun g hg=>hs g (List.mem_append_right _ hg),rfl⟩
    rcases ho.2 with h | ⟨g,cap,cur,rfl,h0,hh,h3⟩
    · exact .inl h
    · exact .inr ⟨g,cap,cur,rfl,h0,by rw [hs g (by simp [Value.ownBlock])];exact hh,h3⟩
  lt:=by
    rintro w _ xs G ⟨v,els,rfl,ho,K,hk,rfl⟩ g hg
    rcases List.mem_append.1 hg with hg | hg
    · rcases ho.2 with⟨rfl,_⟩ | ⟨g',cap,cur,rfl,_,hh,_⟩
      · simp [Value.ownBlock] at hg
      · simp only [Value.ownBlock,Option.toList,List.mem_singleton] at hg
        subst hg
        rcases Nat.lt_or_ge g w.heap.size with h | h
        · exact h
        · rw [Array.getElem?_eq_none h] at hh;cases hh
    · exact hk.lt g hg
  one:=by
    rintro _ _ _ ⟨_,_,_,rfl,_⟩ u hu
    simp only [List.mem_singleton] at hu;subst hu;rfl
  oneO:=by
    rintro _ _ _ _ ⟨_,_,rfl,ho,_⟩ u hu
    simp only [List.mem_singleton] at hu;subst hu
    rcases ho.2 with⟨rfl,_⟩ | ⟨g,cap,cur,rfl,_⟩<;>rfl


def tBor {α:Type}(W:Base) (T:Ty α):Ty α where
  size:=T.size
  ro:=T.ro
  own:=fun _ cs x G=>T.ro W.W cs x∧G=[]
  req:=fun w=>Ext W w
  len:=T.len
  lenO:=fun h=>T.len h.1
  ext:=T.ext
  own_ro:=fun h he=>T.ext he h.1
  loc:=fun h _=>h
  lt:=fun h g hg=>by rw [h.2] at hg;cases hg
  one:=T.one
  oneO:=fun h=>T.one h.1


class Reads (W:Base){α:Type}(T:Ty α):Prop where
  req:∀ {w:World},Ext W w→T.req w
instance {W:Base}:Reads W tInt:=⟨fun _=>trivial⟩
instance {W:Base}{k:IntKind}:Reads W (tIntK k):=⟨fun _=>trivial⟩
instance {W:Base}:Reads W tBool:=⟨fun _=>trivial⟩
instance {W:Base}:Reads W tStr:=⟨fun _=>trivial⟩
instance {W:Base}:Reads W tUnit:=⟨fun _=>trivial⟩
instance {W:Base}{α β:Type}{T:Ty α}{U:Ty β}[Reads W T] [Reads W U]:Reads W (tPair T U):=⟨fun h=>⟨Reads.req h,Reads.req h⟩⟩
instance {W:Base}{α β:Type}{f:β→α}{T:Ty α}[Reads W T]:Reads W (tMap f T):=⟨fun h=>Reads.req (T:=T) h⟩
instance {W:Base}{α:Type}{e:TypeId}{T:Ty α}[Reads W T]:Reads W (tSl e T):=⟨fun h=>Reads.req (T:=T) h⟩
instance {W:Base}{α:Type}{T:Ty α}:Reads W (tBor W T):=⟨fun h=>h⟩
end Go.E


namespace Go.E
open Go.RowKit
set_option linter.unusedVariables false
set_option linter.unusedSimpArgs false


structure Res where
  A:World→List Nat→Prop
  loc:∀ {w w' G},A w G→(∀ g,g∈G→w'.heap[g]? = w.heap[g]?)→A w' G
  lt:∀ {w G},A w G→∀ g,g∈G→g<w.heap.size

def SepU (w:World) (lo:Nat→Prop):List Res→List Nat→Prop
  | [],_=>True
  | R::Rs,U=>∃ G,R.A w G∧G.Nodup∧(∀ g,g∈G→lo g∧g ∉ U)∧SepU w lo Rs (G++U)


def Sep (w:World) (lo:Nat→Prop) (Rs:List Res):Prop:=SepU w lo Rs []

section
variable {w w':World}{lo:Nat→Prop}

theorem SepU.congr:∀ {Rs:List Res}{U V:List Nat},(∀ g,g∈V→g∈U)→SepU w lo Rs U→SepU w lo Rs V
  | [],_,_,_,_=>trivial
  | _::_,_,_,hs,⟨G,h1,h2,h3,h4⟩=>⟨G,h1,h2,fun g hg=>⟨(h3 g hg).1,fun hv=>(h3 g hg).2 (hs g hv)⟩,
      SepU.congr (fun g hg=>by rcases List.mem_append.1 hg with hg | hg;exact List.mem_append_left _ hg;exact List.mem_append_right _ (hs g hg)) h4⟩

theorem SepU.swap {R S:Res}{Rs:List Res}{U:List Nat}(h:SepU w lo (R::S::Rs) U):SepU w lo (S::R::Rs) U:=by
  obtain⟨G,h1,h2,h3,H,k1,k2,k3,h4⟩:=h
  refine⟨H,k1,k2,fun g hg=>⟨(k3 g hg).1,fun hu=>(k3 g hg).2 (List.mem_append_right _ hu)⟩,G,h1,h2,fun g hg=>⟨(h3 g hg).1,fun hu=>?_⟩,SepU.congr (fun g hg=>?_) h4⟩
  · rcases List.mem_append.1 hu with hu | hu
    · exact(k3 g hu).2 (List.mem_append_left _ hg)
    · exact(h3 g hg).2 hu
  · simp only [List.mem_append] at hg ⊢
    rcases hg with hg | hg | hg
    · exact .inr (.inl hg)
    · exact .inl hg
    · exact .inr (.inr hg)

theorem SepU.perm {Rs Rs':List Res}(hp:Rs.Perm Rs'):∀ {U:List Nat},SepU w lo Rs U→SepU w lo Rs' U:=by
  induction hp with
  | nil=>exact fun h=>h
  | cons R _ ih=>exact fun⟨G,h1,h2,h3,h4⟩=>⟨G,h1,h2,h3,ih h4⟩
  | swap R S Rs=>exact fun h=>h.swap
  | trans _ _ ih1 ih2=>exact fun h=>ih2 (ih1 h)

theorem Sep.perm {Rs Rs':List Res}(h:Sep w lo Rs) (hp:Rs.Perm Rs'):Sep w lo Rs':=SepU.perm hp h

theorem Sep.pick {A B:List Res}{R:Res}(h:Sep w lo (A++R::B)):Sep w lo (R::(A++B)):=h.perm List.perm_middle
theorem Sep.back {A B:List Res}{R:Res}(h:Sep w lo (R::(A++B))):Sep w lo (A++R::B):=h.perm List.perm_middle.symm

theorem SepU.tail {R:Res}{Rs:List Res}{U:List Nat}(h:SepU w lo (R::Rs) U):SepU w lo Rs U:=by
  obtain⟨G,_,_,_,h4⟩:=h
  exact h4.congr fun g hg=>List.mem_append_right _ hg

theorem Sep.tail {R:Res}{Rs:List Res}(h:Sep w lo (R::Rs)):Sep w lo Rs:=SepU.tail h
theorem Sep.nil:Sep w lo []:=trivial

theorem SepU.same (hs:∀ b,b<w.heap.size→w'.heap[b]? = w.heap[b]?):∀ {Rs:List Res}{U:List Nat},SepU w lo Rs U→SepU w' lo Rs U
  | [],_,_=>trivial
  | R::_,_,⟨G,h1,h2,h3,h4⟩=>⟨G,R.loc h1 fun g hg=>hs g (R.lt h1 g hg),h2,h3,SepU.same hs h4⟩

theorem Sep.ext {Rs:List Res}(h:Sep w lo Rs) (he:Ext w w'):Sep w' lo Rs:=SepU.same (fun b hb=>he.old b hb) h

theorem SepU.lower {lo':Nat→Prop}(hl:∀ b,lo b→lo' b):∀ {Rs:List Res}{U:List Nat},SepU w lo Rs U→SepU w lo' Rs U
  | [],_,_=>trivial
  | _::_,_,⟨G,h1,h2,h3,h4⟩=>⟨G,h1,h2,fun g hg=>⟨hl g (h3 g hg).1,(h3 g hg).2⟩,SepU.lower hl h4⟩


theorem SepU.append {B:Nat→Prop}:∀ {Ns Rs:List Res}{U:List Nat},SepU w B Ns U→(∀ V,(∀ g,g∈V→B g∨g∈U)→SepU w lo Rs V)→(∀ b,B b→lo b)→SepU w lo (Ns++Rs) U
  | [],_,_,_,hr,_=>hr _ fun _ hg=>.inr hg
  | _::_,_,U,⟨G,h1,h2,h3,h4⟩,hr,hl=>⟨G,h1,h2,fun g hg=>⟨hl g (h3 g hg).1,(h3 g hg).2⟩,
      SepU.append h4 (fun V hV=>hr V fun g hg=>by
        rcases hV g hg with h | h
        · exact .inl h
        · rcases List.mem_append.1 h with h | h
          · exact .inl (h3 g h).1
          · exact .inr h) hl⟩

theorem SepU.avoid {W:World}(he:Ext W w):∀ {Rs:List Res}{U V:List Nat},SepU W lo Rs U→(∀ g,g∈V→W.heap.size≤g∨g∈U)→SepU w lo Rs V
  | [],_,_,_,_=>trivial
  | R::_,_,_,⟨G,h1,h2,h3,h4⟩,hV=>⟨G,R.loc h1 (fun g hg=>he.old g (R.lt h1 g hg)),h2,fun g hg=>⟨(h3 g hg).1,fun hv=>by
        rcases hV g hv with h | h
        · exact absurd (R.lt h1 g hg) (by omega)
        · exact(h3 g hg).2 h⟩,
      SepU.avoid he h4 fun g hg=>by
        rcases List.mem_append.1 hg with h | h
        · exact .inr (List.mem_append_left _ h)
        · rcases hV g h with h | h
          · exact .inl h
          · exact .inr (List.mem_append_right _ h)⟩


theorem Sep.join {W:World}{Ns Rs:List Res}(hr:Sep W lo Rs) (he:Ext W w) (hn:Sep w (Base.of W).fr Ns) (hl:∀ b,W.heap.size≤b→lo b):Sep w lo (Ns++Rs):=
  SepU.append hn (fun _ hV=>SepU.avoid he hr fun g hg=>(hV g hg).imp Base.fr_of.1 id) fun b hb=>hl b (Base.fr_of.1 hb)


theorem Sep.upd {R R':Res}{Rs:List Res}(h:Sep w lo (R::Rs)) (hl:∀ b,w.heap.size≤b→lo b)
    (hu:∀ G,R.A w G→G.Nodup→(∀ g,g∈G→lo g)→∃ G',R'.A w' G'∧G'.Nodup∧(∀ g,g∈G'→g∈G∨w.heap.size≤g)∧(∀ b,b<w.heap.size→b ∉ G→w'.heap[b]? = w.heap[b]?)):
    Sep w' lo (R'::Rs):=by
  obtain⟨G,h1,h2,h3,h4⟩:=h
  obtain⟨G',k1,k2,k3,k4⟩:=hu G h1 h2 fun g hg=>(h3 g hg).1
  refine⟨G',k1,k2,fun g hg=>⟨?_,by simp⟩,?_⟩
  · rcases k3 g hg with h | h
    · exact(h3 g h).1
    · exact hl _ h
  ·
    have key:∀ {Ss:List Res}{U V:List Nat},SepU w lo Ss U→(∀ g,g∈G→g∈U)→(∀ g,g∈V→w.heap.size≤g∨g∈U)→SepU w' lo Ss V:=by
      intro Ss
      induction Ss with
      | nil=>exact fun _ _ _=>trivial
      | cons S Ss ih=>
        intro U V ⟨H,a1,a2,a3,a4⟩ hG hV
        refine⟨H,S.loc a1 fun g hg=>k4 g (S.lt a1 g hg) fun hgG=>(a3 g hg).2 (hG g hgG),a2,fun g hg=>⟨(a3 g hg).1,fun hv=>?_⟩,ih a4 (fun g hg=>List.mem_append_right _ (hG g hg)) fun g hg=>?_⟩
        · rcases hV g hv with h | h
          · exact absurd (S.lt a1 g hg) (by omega)
          · exact(a3 g hg).2 h
        · rcases List.mem_append.1 hg with h | h
          · exact .inr (List.mem_append_left _ h)
          · rcases hV g h with h | h
            · exact .inl h
            · exact .inr (List.mem_append_right _ h)
    refine key h4 (fun g hg=>List.mem_append_left _ hg) fun g hg=>?_
    simp only [List.append_nil] at hg
    rcases k3 g hg with h | h
    · exact .inr (List.mem_append_left _ h)
    · exact .inl h

theorem Sep.head {R:Res}{Rs:List Res}(h:Sep w lo (R::Rs)):∃ G,R.A w G∧G.Nodup∧∀ g,g∈G→lo g:=by
  obtain⟨G,h1,h2,h3,_⟩:=h
  exact⟨G,h1,h2,fun g hg=>(h3 g hg).1⟩


theorem Sep.conv {R R':Res}{Rs:List Res}(h:Sep w lo (R::Rs)) (hc:∀ G,R.A w G→R'.A w G):Sep w lo (R'::Rs):=by
  obtain⟨G,h1,h2,h3,h4⟩:=h
  exact⟨G,hc G h1,h2,h3,h4⟩
end


def Box (g:Nat) (cs:List Value) (e:TypeId):Res where
  A:=fun w G=>G=[g]∧w.heap[g]? = some (.cells ⟨cs⟩ e (0,0))
  loc:=fun⟨h1,h2⟩ hs=>⟨h1,by rw [hs g (by rw [h1];simp)];exact h2⟩
  lt:=by
    rintro w G ⟨h1,h2⟩ g' hg
    rw [h1,List.mem_singleton] at hg
    subst hg
    rcases Nat.lt_or_ge g' w.heap.size with h | h
    · exact h
    · rw [Array.getElem?_eq_none h] at h2;cases h2


def Own {α:Type}(T:Ty α) (cs:List Value) (x:α):Res where
  A:=fun w G=>T.own w cs x G
  loc:=T.loc
  lt:=T.lt


def Both (R S:Res):Res where
  A:=fun w G=>∃ H K,G=H++K∧R.A w H∧S.A w K
  loc:=by
    rintro w w' G ⟨H,K,rfl,h1,h2⟩ hs
    exact⟨H,K,rfl,R.loc h1 fun g hg=>hs g (List.mem_append_left _ hg),S.loc h2 fun g hg=>hs g (List.mem_append_right _ hg)⟩
  lt:=by
    rintro w G ⟨H,K,rfl,h1,h2⟩ g hg
    rcases List.mem_append.1 hg with hg | hg
    · exact R.lt h1 g hg
    · exact S.lt h2 g hg

theorem Sep.fuse {w:World}{lo:Nat→Prop}{R S:Res}{Rs:List Res}(h:Sep w lo (R::S::Rs)):Sep w lo (Both R S::Rs):=by
  obtain⟨G,h1,h2,h3,H,k1,k2,k3,h4⟩:=h
  refine⟨G++H,⟨G,H,rfl,h1,k1⟩,?_,fun g hg=>⟨?_,by simp⟩,h4.congr fun g hg=>?_⟩
  · rw [List.nodup_append]
    refine⟨h2,k2,fun a ha b hb hab=>?_⟩
    subst hab
    exact(k3 a hb).2 (by simp [ha])
  · rcases List.mem_append.1 hg with hg | hg
    · exact(h3 g hg).1
    · exact(k3 g hg).1
  · simp only [List.mem_append,List.append_nil] at hg ⊢
    rcases hg with hg | hg
    · exact .inr hg
    · exact .inl hg

theorem Sep.split {w:World}{lo:Nat→Prop}{R S:Res}{Rs:List Res}(h:Sep w lo (Both R S::Rs)):Sep w lo (R::S::Rs):=by
  obtain⟨G,⟨H,K,rfl,h1,k1⟩,h2,h3,h4⟩:=h
  rw [List.nodup_append] at h2
  refine⟨H,h1,h2.1,fun g hg=>⟨(h3 g (List.mem_append_left _ hg)).1,by simp⟩,K,k1,h2.2.1,fun g hg=>⟨(h3 g (List.mem_append_right _ hg)).1,?_⟩,h4.congr fun g hg=>?_⟩
  · simp only [List.append_nil]
    exact fun hH=>h2.2.2 g hH g hg rfl
  · simp only [List.mem_append,List.append_nil] at hg ⊢
    rcases hg with hg | hg
    · exact .inr hg
    · exact .inl hg
end Go.E


namespace Go.E
open Go.RowKit
set_option linter.unusedVariables false
set_option linter.unusedSimpArgs false


structure St (W:Base) (w:World) (Rs:List Res):Prop where
  ext:Ext W w
  sep:Sep w W.fr Rs

section
variable {W:Base}{w w':World}{Rs Ns A B:List Res}
theorem St.start (w:World):St w w []:=⟨Ext.refl w,trivial⟩
theorem St.le (h:St W w Rs):W.W.heap.size≤w.heap.size:=h.ext.size
theorem St.up (h:St W w Rs) (b:Nat) (hb:w.heap.size≤b):W.fr b:=.inl (Nat.le_trans h.le hb)

theorem St.join (h:St W w Rs) (k:St w w' Ns):St W w' (Ns++Rs):=⟨h.ext.trans k.ext,h.sep.join k.ext k.sep h.up⟩
theorem St.step (h:St W w Rs) (k:Ext w w'):St W w' Rs:=⟨h.ext.trans k,h.sep.ext k⟩
theorem St.pick {R:Res}(h:St W w (A++R::B)):St W w (R::(A++B)):=⟨h.ext,h.sep.pick⟩
theorem St.back {R:Res}(h:St W w (R::(A++B))):St W w (A++R::B):=⟨h.ext,h.sep.back⟩
theorem St.drop {R:Res}(h:St W w (R::B)):St W w B:=⟨h.ext,h.sep.tail⟩
theorem St.perm {Rs':List Res}(h:St W w Rs) (hp:Rs.Perm Rs'):St W w Rs':=⟨h.ext,h.sep.perm hp⟩
theorem St.fuse {R S:Res}(h:St W w (R::S::B)):St W w (Both R S::B):=⟨h.ext,h.sep.fuse⟩
theorem St.split {R S:Res}(h:St W w (Both R S::B)):St W w (R::S::B):=⟨h.ext,h.sep.split⟩
theorem St.conv {R R':Res}(h:St W w (R::B)) (hc:∀ G,R.A w G→R'.A w G):St W w (R'::B):=⟨h.ext,h.sep.conv hc⟩

theorem St.box {g:Nat}{cs:List Value}{e:TypeId}(h:St W w (Box g cs e::B)):At w ⟨g,0,none⟩ cs:=fun j u hu=>by
  obtain⟨G,⟨_,hh⟩,_⟩:=h.sep.head
  have:Addr.add ⟨g,0,none⟩ j=⟨g,j,none⟩:=by unfold Addr.add;by_cases hj:j=0<;>simp [hj]
  rw [this,cell_of_row w g j ⟨cs⟩ e (0,0) hh]
  simpa using hu
theorem St.own {α:Type}{T:Ty α}{cs:List Value}{x:α}[Reads W T] (h:St W w (Own T cs x::B)):T.ro w cs x:=by
  obtain⟨G,hA,_⟩:=h.sep.head
  exact T.own_ro hA (Reads.req h.ext)

theorem St.new (h:St W w Rs) (cs:List Value) (e:TypeId):St W (w.alloc (.cells ⟨cs⟩ e)) (Box w.heap.size cs e::Rs):=
  h.join (Ns:=[Box w.heap.size cs e]) ⟨Ext.alloc _ _,⟨[w.heap.size],⟨rfl,heap_alloc_new w _⟩,by simp,fun g hg=>by simp at hg;subst hg;exact⟨.inl (Nat.le_refl _),by simp⟩,trivial⟩⟩

def setAt:List Value→Nat→List Value→Option (List Value)
  | cs,_,[]=>some cs
  | cs,i,v::vs=>match Nat.blt i cs.length with
    | true=>setAt (cs.set i v) (i+1) vs
    | false=>none
end



def Quiet (P:Program) (n:Nat) (F:Fr) (w:Base) (o:Oper) (v:Value):Prop:=
  ∀ a (w':World),Fits n F a→Ext w w'→(execOp a.eval o).run P w'=.ok (.value v) w'

section
variable {P:Program}{T:TT}(ht:TTok P T){n:Nat}{F:Fr}{w:Base}{o:Oper}{v:Value}
include ht

theorem Quiet.pv (h:pv T F o.op=some v):Quiet P n F w o v:=fun _ w' ha _=>z8R ht h ha w'

theorem Quiet.load1 {t:Nat}{x:Operand}{i:TI}{p q:Addr}{cs:List Value}(ho:o.op=.load t x) (hi:T.get t=some i) (hag:i.agg=false) (hx:F.ev x=some (.pointer (some q)))
    (hat:At w p cs) (off:Nat) (hq:q=p.add off) (hv:nthv cs off=some v):Quiet P n F w o v:=fun a w' ha he=>by
  have hc:w'.cell? q=some v:=by rw [hq];rw [z1p] at hv;exact he.cell (hat off v hv)
  unfold execOp
  rw [ho]
  simp [ha.ev hx,Instr.loadAt,Instr.sureAddr,loadVar,ht.isAgg hi,hag,run_load,hc]

theorem Quiet.loadN {t:Nat}{x:Operand}{i:TI}{q:Addr}{cs:List Value}(ho:o.op=.load t x) (hi:T.get t=some i) (hag:i.agg=true) (hx:F.ev x=some (.pointer (some q)))
    (hat:At w q cs) (hl:cs.length=i.size):Quiet P n F w o (.agg ⟨cs⟩):=fun a w' ha he=>by
  have hr:=run_loadCells_list (P:=P) w' q cs fun j u hu=>he.cell (hat j u hu)
  unfold execOp
  rw [ho]
  simp [ha.ev hx,Instr.loadAt,Instr.sureAddr,loadVar,ht.isAgg hi,ht.sizeOf hi,hag]
  rw [← hl,hr]
  rfl

theorem Quiet.idx {α:Type}{U:Ty α}{t e:Nat}{x ix:Operand}{i j:TI}{A:Option Addr}{len c:Nat}{xs:List α}{k:IntKind}{m:Int}(ho:o.op=.indexAddr t x ix)
    (hi:T.get t=some i) (hd:i.d=.slice e) (hj:T.get e=some j) (hs:U.size=j.size) (hpos:0<U.size) (hx:F.ev x=some (.slice A len c)) (hm:F.ev ix=some (.int k m))
    {e':Nat}(hr:(tSl e' U).ro w [.slice A len c] xs){a:α}(h0:0≤m) (ha:xs[m.toNat]? = some a):
    ∃ q es,Quiet P n F w o (.pointer (some q))∧At w q es∧U.ro w es a:=by
  obtain⟨A',c',els,he,hc,hels,hat⟩:=hr
  simp only [List.cons.injEq,Value.slice.injEq,and_true] at he
  obtain⟨rfl,rfl,rfl⟩:=he
  obtain⟨es,h1,h2⟩:=hels.at_ ha
  have hlt:m.toNat<xs.length:=(List.getElem?_eq_some_iff.1 ha).1
  have hn:els≠[]:=fun hn=>by
    have hl:=U.len h1
    cases es with
    | nil=>simp at hl;omega
    | cons u r=>have:=h2 0 u (by simp);rw [hn] at this;simp at this
  obtain⟨p,rfl,hp⟩:=hat hn
  refine⟨p.add (m.toNat*j.size),es,fun b w' hb hex=>?_,?_,h1⟩
  · unfold execOp
    rw [ho]
    have hmm:m<xs.length:=by omega
    simp [hb.ev hx,hb.ev hm,Instr.indexAt,asIntOf,Go.underlying,ht.slice hi hd,h0,hmm,ht.sizeOf hj]
  · rw [← hs];exact hp.part fun j u hu=>h2 j u hu

theorem Quiet.cut {α:Type}{U:Ty α}{t e:Nat}{x:Operand}{lo hi:Option Operand}{i j:TI}{A:Option Addr}{len c:Nat}{xs:List α}(ho:o.op=.slice t x lo hi none)
    (hi':T.get t=some i) (hd:i.d=.slice e) (hj:T.get e=some j) (hs:U.size=j.size) (hx:F.ev x=some (.slice A len c)){e':Nat}
    (hr:(tSl e' U).ro w [.slice A len c] xs){l h:Nat}(hl:(lo=none∧l=0)∨∃ y k,lo=some y∧F.ev y=some (.int k (l:Int))) (hh:(hi=none∧h=xs.length)∨∃ y k,hi=some y∧F.ev y=some (.int k (h:Int)))
    (h1:l≤h) (h2:h≤xs.length):∃ A' c',Quiet P n F w o (.slice A' (h - l) c')∧(tSl e' U).ro w [.slice A' (h - l) c'] ((xs.take h).drop l):=by
  obtain⟨A',c',els,he,hc,hels,hat⟩:=hr
  simp only [List.cons.injEq,Value.slice.injEq,and_true] at he
  obtain⟨rfl,rfl,rfl⟩:=he
  refine⟨if c=l then A else A.map (·.add (l*j.size)),c - l,fun a w' ha _=>?_,?_⟩
  · unfold execOp
    rw [ho]
    have hcap:h≤c:=Nat.le_trans h2 hc
    have b:∀ (k:IntKind) (m y:Nat) (cd:BoundsCode),m≤y→(Instr.sliceBound (.int k (m:Int)) y cd).run P w'=.ok m w':=fun k m y cd hmy=>by
      simp [Instr.sliceBound,asIntOf,hmy]
    rcases hl with⟨rfl,rfl⟩ | ⟨y,k,rfl,hy⟩<;>rcases hh with⟨rfl,rfl⟩ | ⟨y',k',rfl,hy'⟩
    · simp [ha.ev hx,Instr.sliceAt,Instr.slice,Go.underlying,ht.slice hi' hd,Instr.sliceBounds,ht.sizeOf hj]
    · simp [ha.ev hx,ha.ev hy',Instr.sliceAt,Instr.slice,Go.underlying,ht.slice hi' hd,Instr.sliceBounds,ht.sizeOf hj,b,hcap]
    · simp [ha.ev hx,ha.ev hy,Instr.sliceAt,Instr.slice,Go.underlying,ht.slice hi' hd,Instr.sliceBounds,ht.sizeOf hj,b,h1]
    · simp [ha.ev hx,ha.ev hy,ha.ev hy',Instr.sliceAt,Instr.slice,Go.underlying,ht.slice hi' hd,Instr.sliceBounds,ht.sizeOf hj,b,hcap,h1]
  · have hlen:((xs.take h).drop l).length=h - l:=by simp [Nat.min_eq_left h2]
    refine⟨_,c - l,(els.take (h*U.size)).drop (l*U.size),by rw [hlen],by rw [hlen];omega,?_,fun hne=>?_⟩
    · exact Els.drop (Els.take hels h h2) l (by simp [Nat.min_eq_left h2];exact h1)
    · have hne':els≠[]:=by rintro rfl;simp at hne
      have hlt:l<h:=by
        rcases Nat.lt_or_ge l h with h' | h'
        · exact h'
        · have:l=h:=by omega
          subst this
          exact absurd (by rw [List.drop_eq_nil_iff,List.length_take];exact Nat.min_le_left _ _) hne
      obtain⟨p,rfl,hp⟩:=hat hne'
      rw [if_neg (by omega)]
      refine⟨p.add (l*j.size),rfl,?_⟩
      rw [← hs]
      refine hp.part fun m u hu=>?_
      rw [List.getElem?_drop,List.getElem?_take] at hu
      split at hu
      · exact hu
      · cases hu
end
end Go.E


namespace Go.E
open Go.RowKit
set_option linter.unusedVariables false
set_option linter.unusedSimpArgs false


def guardOf (ops:List Oper) (F:Fr) (o:Oper):Option Bool:=
  match o.guard with
  | none=>some true
  | some (j,b)=>match nthv ops j with
    | some oj=>match oj.dst with
      | some d=>match F.get d with
        | some (.bool true)=>some b
        | some (.bool false)=>some (!b)
        | some (.tuple _)=>some false
        | _=>none
      | none=>none
    | none=>none

theorem zf {l:List Oper}{F:Fr}{o:Oper}{r:Bool}(h:guardOf l F o=some r){n:Nat}{a:Act}(ha:Fits n F a):
    Region.wanted o (yielded l.toArray a.tmps)=r:=by
  unfold guardOf at h
  unfold Region.wanted
  split at h
  · rename_i hg;simp only [Option.some.injEq] at h;subst h;rw [hg]
  · rename_i j b hg
    rw [hg]
    split at h
    · rename_i oj hj
      rw [z1p] at hj
      split at h
      · rename_i d hd
        have hy:∀ v,a.tmps[d]? = some v→yielded l.toArray a.tmps j=match v with | .bool b=>some b | _=>none:=by
          intro v hv
          unfold yielded
          simp [hj,hd,hv]
          cases v<;>rfl
        show(yielded l.toArray a.tmps j == some b)=r
        split at h
        · rename_i hv;rw [hy _ (ha.2.2 d _ hv)];simp only [Option.some.injEq] at h;subst h;cases b<;>rfl
        · rename_i hv;rw [hy _ (ha.2.2 d _ hv)];simp only [Option.some.injEq] at h;subst h;cases b<;>rfl
        · rename_i hv;rw [hy _ (ha.2.2 d _ hv)];simp only [Option.some.injEq] at h;subst h;cases b<;>rfl
        · cases h
      · cases h
    · cases h


def RW (P:Program) (n:Nat) (ops:List Oper) (Q:Post) (rest:List Oper) (F:Fr) (w:World):Prop:=
  ∀ a,Fits n F a→wpList P ops.toArray (Q.up n) rest a w

section
variable {P:Program}{n:Nat}{Q:Post}{F:Fr}{w:World}{ops rest:List Oper}{o:Oper}

theorem WP.region {id:Nat}(h:RW P n ops Q ops F w):WP P n (.region id ops.toArray false) Q F w:=fun a ha=>wp_region_lit (h a ha)

theorem RW.nil (h:Q .normal F w):RW P n ops Q [] F w:=fun _ ha=>wpList_nil ⟨F,ha,h⟩

theorem RW.weak (F':Fr) (hs:F.Has F') (h:RW P n ops Q rest F' w):RW P n ops Q rest F w:=fun a ha=>h a (ha.weak hs)

theorem RW.ok {v:Value}{w':World}(hg:guardOf ops F o=some true) (hr:∀ a,Fits n F a→(execOp a.eval o).run P w=.ok (.value v) w'){d:Nat}(hd:o.dst=some d) (hn:Nat.blt d n=true)
    (h:RW P n ops Q rest ((d,v)::F) w'):RW P n ops Q (o::rest) F w:=fun a ha=>
  wpList_step fun K hK=>by
    rw [if_pos (zf hg ha)]
    unfold Oper.wp
    rw [hr a ha,Oper.upon_value,hd]
    exact hK _ _ (h _ (ha.put hn v))


theorem RW.ok0 {v:Value}{w':World}(hg:guardOf ops F o=some true) (hr:∀ a,Fits n F a→(execOp a.eval o).run P w=.ok (.value v) w') (hd:o.dst=none)
    (h:RW P n ops Q rest F w'):RW P n ops Q (o::rest) F w:=fun a ha=>
  wpList_step fun K hK=>by
    rw [if_pos (zf hg ha)]
    unfold Oper.wp
    rw [hr a ha,Oper.upon_value,hd]
    exact hK _ _ (h _ ha)

theorem RW.unit {w':World}(hg:guardOf ops F o=some true) (hr:∀ a,Fits n F a→(execOp a.eval o).run P w=.ok .skip w') (hd:o.dst=none)
    (h:RW P n ops Q rest F w'):RW P n ops Q (o::rest) F w:=fun a ha=>
  wpList_step fun K hK=>by
    rw [if_pos (zf hg ha)]
    unfold Oper.wp
    rw [hr a ha,Oper.upon_skip,hd]
    exact hK _ _ (h _ ha)

theorem RW.skip (hg:guardOf ops F o=some false){d:Nat}(hd:o.dst=some d) (hn:Nat.blt d n=true)
    (h:RW P n ops Q rest ((d,undef)::F) w):RW P n ops Q (o::rest) F w:=fun a ha=>
  wpList_step fun K hK=>by
    rw [if_neg (by rw [zf hg ha];simp),hd]
    exact hK _ _ (h _ (ha.put hn undef))

theorem RW.skip0 (hg:guardOf ops F o=some false) (hd:o.dst=none)
    (h:RW P n ops Q rest F w):RW P n ops Q (o::rest) F w:=fun a ha=>
  wpList_step fun K hK=>by
    rw [if_neg (by rw [zf hg ha];simp),hd]
    exact hK _ _ (h _ ha)

theorem RW.quiet {v:Value}(hg:guardOf ops F o=some true) (hq:Quiet P n F w o v){d:Nat}(hd:o.dst=some d) (hn:Nat.blt d n=true)
    (h:RW P n ops Q rest ((d,v)::F) w):RW P n ops Q (o::rest) F w:=RW.ok hg (fun a ha=>hq a w ha (Ext.refl w)) hd hn h


def pvs (T:TT) (n:Nat) (ops:List Oper):Nat→List Oper→Fr→Option (List Oper × Fr)
  | 0,rest,F=>some (rest,F)
  | _+1,[],F=>some ([],F)
  | k+1,o::rest,F=>match guardOf ops F o,o.dst with
    | some true,some d=>match Nat.blt d n,pv T F o.op with
      | true,some v=>pvs T n ops k rest ((d,v)::F)
      | _,_=>none
    | some true,none=>match pv T F o.op with
      | some _=>pvs T n ops k rest F
      | none=>none
    | some false,some d=>match Nat.blt d n with
      | true=>pvs T n ops k rest ((d,undef)::F)
      | false=>none
    | some false,none=>pvs T n ops k rest F
    | none,_=>none

theorem RW.run {T:TT}(ht:TTok P T) (k:Nat){rest':List Oper}{F':Fr}(hr:pvs T n ops k rest F=some (rest',F')) (h:RW P n ops Q rest' F' w):RW P n ops Q rest F w:=by
  induction k generalizing rest F with
  | zero=>simp only [pvs,Option.some.injEq,Prod.mk.injEq] at hr;obtain⟨rfl,rfl⟩:=hr;exact h
  | succ k ih=>
    cases rest with
    | nil=>simp only [pvs,Option.some.injEq,Prod.mk.injEq] at hr;obtain⟨rfl,rfl⟩:=hr;exact h
    | cons o rest=>
      unfold pvs at hr
      split at hr
      · rename_i d hg hd
        split at hr
        · rename_i v hn hv
          exact RW.ok hg (fun a ha=>z8R ht hv ha w) hd hn (ih hr)
        · cases hr
      · rename_i hg hd
        split at hr
        · rename_i v hv
          exact RW.ok0 hg (fun a ha=>z8R ht hv ha w) hd (ih hr)
        · cases hr
      · rename_i d hg hd
        split at hr
        · rename_i hn;exact RW.skip hg hd hn (ih hr)
        · cases hr
      · rename_i hg hd;exact RW.skip0 hg hd (ih hr)
      · cases hr


def chunks:Nat→List Value→List Value
  | 0,_=>[]
  | k+1,z=>z++chunks k z


def cellsV:Value→List Value
  | .agg ⟨cs⟩=>cs
  | v=>[v]

theorem z3k (v:Value):v.cells.toList=cellsV v:=by
  unfold Value.cells cellsV
  split<;>simp_all


def newOf (T:TT) (F:Fr):Op→Option (List Value × TypeId)
  | .alloc e=>match T.get e with
    | some i=>some (i.zero,e)
    | none=>none
  | .box e x=>match F.ev x with
    | some v=>some (cellsV v,e)
    | none=>none
  | _=>none

theorem z8S {T:TT}(ht:TTok P T){cs:List Value}{e:TypeId}(h:newOf T F o.op=some (cs,e)){a:Act}(ha:Fits n F a):
    (execOp a.eval o).run P w=.ok (.value (.pointer (some ⟨w.heap.size,0,none⟩))) (w.alloc (.cells ⟨cs⟩ e)):=by
  unfold newOf at h
  unfold execOp
  split at h<;>rename_i hop<;>(try rw [hop])
  · split at h
    · rename_i i hi
      simp only [Option.some.injEq,Prod.mk.injEq] at h
      obtain⟨rfl,rfl⟩:=h
      obtain⟨j,hj,_,_,z,hz,hzc⟩:=ht.info hi
      have hc:z.cells=⟨i.zero⟩:=by rw [← hzc]
      simp [Instr.alloc,zeroValue,typeInfo,hj,hz,newVar,newRow,hc]
    · cases h
  · split at h
    · rename_i v hv
      simp only [Option.some.injEq,Prod.mk.injEq] at h
      obtain⟨rfl,rfl⟩:=h
      have hc:v.cells=⟨cellsV v⟩:=by rw [← z3k]
      simp [Instr.box,newVar,newRow,ha.ev hv,hc]
    · cases h
  · cases h

theorem RW.new {T:TT}(ht:TTok P T){W:Base}{Rs:List Res}(hS:St W w Rs) (hg:guardOf ops F o=some true){cs:List Value}{e:TypeId}(hc:newOf T F o.op=some (cs,e))
    {d:Nat}(hd:o.dst=some d) (hn:Nat.blt d n=true)
    (h:∀ g (w':World),Ext w w'→St W w' (Box g cs e::Rs)→RW P n ops Q rest ((d,.pointer (some ⟨g,0,none⟩))::F) w'):RW P n ops Q (o::rest) F w:=
  RW.ok hg (fun _ ha=>z8S ht hc ha) hd hn (h _ _ (Ext.alloc _ _) (hS.new cs e))



def Ret (R:Value→World→Prop):Ending→World→Prop
  | .returned v,w=>R v w
  | _,_=>False


def Enters (P:Program) (f:FuncId):Prop:=∃ fn c,P.funcs[f]? = some fn∧fn.body=some c∧(fn.name == "runtime.NumGoroutine")=false

theorem zb2 {f:FuncId}(h:Enters P f) (args:Array Value):(callFunc f args).run P w=.ok (.enter f args) w:=by
  obtain⟨fn,c,h1,h2,h3⟩:=h
  unfold callFunc
  have h3':¬ fn.name = "runtime.NumGoroutine":=by simpa using h3
  simp [h1,h2,h3']

def callOf (F:Fr):Op→Option (FuncId × List Value)
  | .call { callee:=.value f,args:=⟨xs⟩,argTypes:=_ }=>match F.ev f,F.evs xs with
    | some (.func (.func g) ⟨first⟩ ⟨cap⟩),some vs=>some (g,first++vs++cap)
    | _,_=>none
  | _=>none

theorem z6z {f:FuncId}{vs:List Value}(hen:Enters P f) (h:callOf F o.op=some (f,vs)){a:Act}(ha:Fits n F a):
    (execOp a.eval o).run P w=.ok (.enter f ⟨vs⟩) w:=by
  unfold callOf at h
  unfold execOp
  split at h
  · rename_i hop
    rw [hop]
    split at h
    · rename_i hf hv
      simp only [Option.some.injEq,Prod.mk.injEq] at h
      obtain⟨rfl,rfl⟩:=h
      simp [resolve,ha.ev hf,Deferred.ofValue,invoke,ha.evs hv,zb2 hen]
    · cases h
  · cases h

def Fr.putO (F:Fr):Option Nat→Value→Fr
  | some d,v=>(d,v)::F
  | none,_=>F

def dstOk (n:Nat):Option Nat→Bool
  | some d=>Nat.blt d n
  | none=>true

theorem Fits.putO {a:Act}(ha:Fits n F a){d:Option Nat}(hd:dstOk n d=true) (v:Value):Fits n (F.putO d v) (a.put d v):=by
  cases d with
  | some d=>exact ha.put hd v
  | none=>exact ha

theorem RW.call (hg:guardOf ops F o=some true){f:FuncId}{vs:List Value}(hc:callOf F o.op=some (f,vs)) (hn:dstOk n o.dst=true) (hen:Enters P f)
    {R:Value→World→Prop}(hf:Calls P f ⟨vs⟩ w (Ret R)) (h:∀ v w',R v w'→RW P n ops Q rest (F.putO o.dst v) w'):RW P n ops Q (o::rest) F w:=fun a ha=>
  wpList_step fun K hK=>by
    rw [if_pos (zf hg ha)]
    unfold Oper.wp
    rw [z6z hen hc ha,Oper.upon_enter]
    refine hf.mono fun e w' he=>?_
    cases e with
    | returned v=>exact hK _ _ (h v w' he _ (ha.putO hn v))
    | panicked _=>exact he.elim
    | outgrown=>exact he.elim
end
end Go.E


namespace Go.E
open Go.RowKit
set_option linter.unusedVariables false
set_option linter.unusedSimpArgs false

theorem z8B (g off:Nat):Addr.add ⟨g,0,none⟩ off=⟨g,off,none⟩:=by unfold Addr.add;by_cases hj:off=0<;>simp [hj]
theorem z77 (g off i:Nat):Addr.add ⟨g,off,none⟩ i=⟨g,off+i,none⟩:=by unfold Addr.add;by_cases hj:i=0<;>simp [hj]

def oneCells:List Value→Bool
  | []=>true
  | v::vs=>match v.oneCell' with
    | true=>oneCells vs
    | false=>false

section
variable {P:Program}

theorem z1e (g off:Nat) (e:TypeId):∀ (vs:List Value) (i:Nat) (w:World) (cs cs':List Value),oneCells vs=true→w.heap[g]? = some (.cells ⟨cs⟩ e (0,0))→setAt cs (off+i) vs=some cs'→
    ∃ w',(storeCells ⟨g,off,none⟩ vs i).run P w=.ok () w'∧w'.heap[g]? = some (.cells ⟨cs'⟩ e (0,0))∧(∀ b,b≠g→w'.heap[b]? = w.heap[b]?)∧w'.heap.size=w.heap.size∧w'.os=w.os∧w'.tape=w.tape∧w'.output=w.output
  | [],i,w,cs,cs',_,hg,hs=>by
    simp only [setAt,Option.some.injEq] at hs
    subst hs
    exact⟨w,by simp [storeCells],hg,fun _ _=>rfl,rfl,rfl,rfl,rfl⟩
  | v::vs,i,w,cs,cs',h1,hg,hs=>by
    unfold oneCells at h1
    unfold setAt at hs
    split at h1
    · rename_i hv
      split at hs
      · rename_i hlt
        have hlt':off+i<cs.length:=by simpa using hlt
        have hc:w.cell? ⟨g,off+i,none⟩=some (cs[off+i]):=by rw [cell_of_row w g _ ⟨cs⟩ e (0,0) hg];simp [hlt']
        have hf:w.frozen? ⟨g,off+i,none⟩=false:=frozen_of_row w g _ ⟨cs⟩ e hg
        have hg1:(w.setCell ⟨g,off+i,none⟩ v).heap[g]? = some (.cells ⟨cs.set (off+i) v⟩ e (0,0)):=by
          rw [heap_setCell_same w g (off+i) ⟨cs⟩ e v hg]
          simp
        obtain⟨w',r1,r2,r3,r4,r5,r6,r7⟩:=z1e g off e vs (i+1) (w.setCell ⟨g,off+i,none⟩ v) _ cs' h1 hg1 hs
        refine⟨w',?_,r2,fun b hb=>(r3 b hb).trans (heap_setCell_other w _ b v hb),by rw [r4];simp,r5,r6,r7⟩
        unfold storeCells
        simp only [z77,Sem.run_bind]
        rw [run_store P w _ v _ hv]
        simp only [stored,hc,hf]
        exact r1
      · cases hs
    · cases h1

end

section
variable {P:Program}{n:Nat}{Q:Post}{F:Fr}{W:Base}{w:World}{ops rest:List Oper}{o:Oper}{T:TT}(ht:TTok P T)
include ht


theorem RW.store {A B:List Res}{g:Nat}{cs cs':List Value}{e:TypeId}(hS:St W w (A++Box g cs e::B)) (hg:guardOf ops F o=some true){t:Nat}{x y:Operand}(ho:o.op=.store t x y) (hd:o.dst=none)
    {i:TI}(hi:T.get t=some i){q:Addr}(hx:F.ev x=some (.pointer (some q))) (off:Nat) (hq:q=⟨g,off,none⟩){v:Value}(hy:F.ev y=some v) (hl:Nat.beq (cellsV v).length i.size=true)
    (h1:oneCells (cellsV v)=true) (hs:setAt cs off (cellsV v)=some cs') (h:∀ (w':World),St W w' (A++Box g cs' e::B)→RW P n ops Q rest F w'):RW P n ops Q (o::rest) F w:=by
  obtain⟨G,⟨hG,hh⟩,_,hlo⟩:=hS.sep.pick.head
  obtain⟨w',r1,r2,r3,r4,r5,r6,r7⟩:=z1e (P:=P) g off e (cellsV v) 0 w cs cs' h1 hh (by simpa using hs)
  have hge:W.fr g:=hlo g (by rw [hG];simp)
  refine RW.unit (w':=w') hg (fun a ha=>?_) hd (h w' (St.back ⟨⟨r5.trans hS.ext.os,r6.trans hS.ext.tape,r7.trans hS.ext.output,by rw [r4];exact hS.le,fun k hk=>?_⟩,?_⟩))
  · unfold execOp
    rw [ho]
    have hsz:v.cells.size=i.size:=by
      rw [← Array.length_toList,z3k];exact Nat.eq_of_beq_eq_true hl
    simp [ha.ev hx,ha.ev hy,Instr.storeAt,Instr.sureAddr,storeVar,ht.sizeOf hi,hsz,z3k,hq,r1]
  · show w'.heap[k]? = _;rw [r3 k (fun e=>hk (e ▸ hge))];exact hS.ext.block k hk
  · refine hS.sep.pick.upd hS.up fun G' hG' _ _=>?_
    obtain⟨e1,_⟩:=hG'
    exact⟨[g],⟨rfl,r2⟩,by simp,fun b hb=>.inl (by rw [e1];exact hb),fun b hb hn=>r3 b (by rintro rfl;exact hn (by rw [e1];simp))⟩
end
end Go.E


namespace Go.E
open Go.RowKit
set_option linter.unusedVariables false
set_option linter.unusedSimpArgs false

def startFr:Nat→List Value→Fr
  | _,[]=>[]
  | i,v::vs=>(i,v)::startFr (i+1) vs

theorem z7c:∀ (vs:List Value) (i j:Nat) (v:Value),(startFr i vs).get j=some v→i≤j∧vs[j - i]? = some v
  | [],i,j,v,h=>by simp [startFr,Fr.get] at h
  | u::vs,i,j,v,h=>by
    unfold startFr at h
    rw [Fr.get_cons] at h
    split at h
    · rename_i hij;subst hij;simpa using h
    · rename_i hij
      obtain⟨h1,h2⟩:=z7c vs (i+1) j v h
      refine⟨by omega,?_⟩
      have:j - i=(j - (i+1))+1:=by omega
      rw [this,List.getElem?_cons_succ]
      exact h2


inductive ResIs (P:Program) (F:Fr) (w:World):ResultVar→Value→Prop where
  | tmp {t:Tmp}{v:Value}(h:F.get t=some v):ResIs P F w (.tmp t) v
  | cell {a:Tmp}{ty:TypeId}{v:Value}{q:Addr}(h:F.get a=some (.pointer (some q))) (hl:(loadVar ty q).run P w=.ok v w):ResIs P F w (.cell a ty) v

inductive ResAll (P:Program) (F:Fr) (w:World):List ResultVar→List Value→Prop where
  | nil:ResAll P F w [] []
  | cons {r:ResultVar}{v:Value}{rs:List ResultVar}{vs:List Value}(h:ResIs P F w r v) (hs:ResAll P F w rs vs):ResAll P F w (r::rs) (v::vs)

def resVal:List Value→Value
  | [v]=>v
  | vs=>.tuple ⟨vs⟩


def RetP (P:Program) (rs:List ResultVar) (R:Value→World→Prop):Post
  | .normal,F,w=>∃ vs,ResAll P F w rs vs∧R (resVal vs) w
  | .ret,F,w=>∃ vs,ResAll P F w rs vs∧R (resVal vs) w
  | _,_,_=>False

section
variable {P:Program}

def resF (tmps:Array Value) (r:ResultVar):Sem Value:=
  match r with
  | .tmp t=>pure (tmps.getD t undef)
  | .cell a t=>do loadVar t (← asAddr (tmps.getD a undef))

theorem zak (fn:Func) (tmps:Array Value):results fn tmps=(do
    let vs ← fn.results.mapM (resF tmps)
    pure (if h:vs.size=1 then vs[0] else .tuple vs)):=by
  unfold results
  congr 2

theorem zaY {n:Nat}{F:Fr}{w:World}{a:Act}(ha:Fits n F a){r:ResultVar}{v:Value}(h:ResIs P F w r v):(resF a.tmps r).run P w=.ok v w:=by
  unfold resF
  cases h with
  | tmp h=>simp [ha.2.2 _ _ h]
  | cell h hl=>simp [ha.2.2 _ _ h,asAddr,hl]

theorem z6N {n:Nat}{F:Fr}{w:World}{a:Act}(ha:Fits n F a):∀ {rs:List ResultVar}{vs:List Value},ResAll P F w rs vs→(rs.mapM (resF a.tmps)).run P w=.ok vs w
  | [],_,.nil=>by simp
  | r::rs,_,.cons h hs=>by
    rw [List.mapM_cons,Sem.run_bind,zaY ha h,Result.andThen_ok,Sem.run_bind,z6N ha hs,Result.andThen_ok,Sem.run_pure]

theorem z7o {n:Nat}{F:Fr}{w:World}{a:Act}(ha:Fits n F a){fn:Func}{rs:List ResultVar}{vs:List Value}(hr:fn.results.toList=rs) (h:ResAll P F w rs vs):
    (results fn a.tmps).run P w=.ok (resVal vs) w:=by
  subst hr
  have hm:=z6N ha h
  have hvs:(if h:vs.toArray.size=1 then vs.toArray[0] else Value.tuple vs.toArray)=resVal vs:=by
    match vs with
    | []=>rfl
    | [v]=>rfl
    | v::u::r=>simp [resVal]
  rw [zak,← Array.toArray_toList (xs:=fn.results),List.mapM_toArray,Sem.run_bind,Sem.run_map,hm,Result.andThen_ok,Result.andThen_ok,Sem.run_pure,hvs]

theorem Calls.into {f:FuncId}{fn:Func}{c:Code}{vs:List Value}{w:World}{R:Value→World→Prop}(hf:P.funcs[f]? = some fn) (hb:fn.body=some c) (n:Nat) (hn:fn.ntmps=n)
    (hl:Nat.ble vs.length n=true) (rs:List ResultVar) (hr:fn.results.toList=rs) (h:WP P n c (RetP P rs R) (startFr 0 vs) w):Calls P f ⟨vs⟩ w (Ret R):=by
  refine calls_of_wp hf hb (wp_mono (h _ ?_) ?_)
  · have hl':vs.length≤n:=by simpa using hl
    refine⟨rfl,by simp [hn];omega,fun i v hv=>?_⟩
    obtain⟨_,h2⟩:=z7c vs 0 i v hv
    simp only [Nat.sub_zero] at h2
    have hi:=(List.getElem?_eq_some_iff.1 h2).1
    rw [Array.getElem?_append_left (by simpa using hi)]
    simpa using h2
  · rintro e a w' ⟨F,ha,hq⟩
    cases e with
    | normal=>obtain⟨us,h1,h2⟩:=hq;exact⟨ha.1,_,z7o ha hr h1,h2⟩
    | ret=>obtain⟨us,h1,h2⟩:=hq;exact⟨ha.1,_,z7o ha hr h1,h2⟩
    | exit i=>exact hq.elim
    | goto l=>exact hq.elim
    | panic c=>exact hq.elim
    | outgrown=>exact hq.elim
end
end Go.E


