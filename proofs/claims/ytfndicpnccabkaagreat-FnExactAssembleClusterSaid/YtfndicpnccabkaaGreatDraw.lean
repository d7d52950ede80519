/- Memory: what it means that a value stands for plain data (to be read, or owned), and how such facts live on from world to world. Conditions: none (definitions and rules). -/
import Derived.Test.YtfndicpnccabkaaGreatOps
import Derived.Test.YtfndicpnccabkaaGreatFwd
import Derived.Maps.AppendAt
import Derived.Deep.Slices
import Derived.Laws.Rows
import Derived.Laws.MakeOwn
import Derived.OrdersHeld
set_option linter.unusedVariables false
set_option linter.unusedSimpArgs false
namespace Go.E
open Go.RowKit



structure Base where
 W:World
 D:Nat→Bool
 gone:∀ b,D b=true→b<W.heap.size→W.heap[b]? = some (.cells #[] 0 (0,0))

abbrev Base.of (w:World):Base:=⟨w,fun _=>false,fun _ h=>by cases h⟩
instance:Coe World Base:=⟨Base.of⟩
instance:CoeOut Base World:=⟨Base.W⟩


def Base.fr (B:Base)(b:Nat):Prop:=B.W.heap.size≤b∨B.D b=true

def Base.get (B:Base)(b:Nat):Option Obj:=bif B.D b then none else B.W.heap[b]?

structure Ext (B C:Base):Prop where
 os:C.W.os=B.W.os
 tape:C.W.tape=B.W.tape
 output:C.W.output=B.W.output
 drawn:B.W.drawn≤C.W.drawn
 size:B.W.heap.size≤C.W.heap.size
 block:∀ k,¬ B.fr k→C.get k=B.W.heap[k]?

abbrev onW (B:Base)(w:World):Prop:=Ext B w

theorem Base.fr_of {w:World}{b:Nat}:(Base.of w).fr b↔w.heap.size≤b:=⟨fun h=>h.elim id (fun h=>by cases h),.inl⟩
theorem Base.nfr_of {w:World}{b:Nat}:¬ (Base.of w).fr b↔b<w.heap.size:=by rw[Base.fr_of];omega
theorem Base.get_nfr {B:Base}{b:Nat}(h:¬ B.fr b):B.get b=B.W.heap[b]?:=by
 unfold Base.get
 cases hd:B.D b with
 | true=>exact absurd (.inr hd) h
 | false=>rfl
theorem Base.nfr_get {B:Base}{b:Nat}{o:Obj}(h:B.get b=some o):¬ B.fr b:=by
 unfold Base.get at h
 cases hd:B.D b with
 | true=>rw[hd] at h;cases h
 | false=>
  rw[hd] at h
  rintro(h2 | h2)
  ·have h3:B.W.heap[b]? = some o:=h
   rw[Array.getElem?_eq_none h2] at h3;cases h3
  ·rw[hd] at h2;cases h2
theorem Base.nfr_some {B:Base}{b:Nat}(h:¬ B.fr b):∃ o,B.W.heap[b]? = some o:=
 ⟨_,Array.getElem?_eq_getElem (Nat.lt_of_not_le fun e=>h (.inl e))⟩
theorem Ext.keep {B C:Base}(h:Ext B C){b:Nat}(hb:¬ B.fr b):¬ C.fr b:=by
 obtain⟨o,ho⟩:=Base.nfr_some hb
 exact Base.nfr_get ((h.block b hb).trans ho)
theorem Ext.same {B C:Base}(h:Ext B C){b:Nat}(hb:¬ B.fr b):C.W.heap[b]? = B.W.heap[b]?:=(Base.get_nfr (h.keep hb)).symm.trans (h.block b hb)
theorem Ext.of_below {w w':World}(h:Below w.heap.size w w')(hd:w.drawn≤w'.drawn):Ext w w':=⟨h.os,h.tape,h.output,hd,h.size,fun k hk=>h.block k (Base.nfr_of.1 hk)⟩
theorem Ext.below {w w':World}(h:Ext w w'):Below w.heap.size w w':=⟨h.os,h.tape,h.output,h.size,fun k hk=>h.block k (Base.nfr_of.2 hk)⟩
theorem Ext.old {w w':World}(h:Ext w w')(b:Nat)(hb:b<w.heap.size):w'.heap[b]? = w.heap[b]?:=h.block b (Base.nfr_of.2 hb)

theorem Ext.refl (B:Base):Ext B B:=⟨rfl,rfl,rfl,Nat.le_refl _,Nat.le_refl _,fun k hk=>Base.get_nfr hk⟩
theorem Ext.trans {a b c:Base}(h:Ext a b)(k:Ext b c):Ext a c:=
 ⟨k.os.trans h.os,k.tape.trans h.tape,k.output.trans h.output,Nat.le_trans h.drawn k.drawn,Nat.le_trans h.size k.size,fun i hi=>(k.block i (h.keep hi)).trans (h.same hi)⟩
theorem Ext.alloc (w:World)(o:Obj):Ext w (w.alloc o):=Ext.of_below ((Below.refl _ _).alloc (Nat.le_refl _) o) (Nat.le_refl _)
theorem Ext.draw (w:World):Ext w ({ w with drawn:=w.drawn+1 }:World):=Ext.of_below ⟨rfl,rfl,rfl,Nat.le_refl _,fun _ _=>rfl⟩ (Nat.le_succ _)

theorem Base.live {B:Base}{p:Addr}{v:Value}(hc:B.W.cell? p=some v):¬ B.fr p.block:=by
 have hl:=block_lt_of_cell hc
 rintro(h | h)
 ·omega
 ·have hg:=B.gone _ h hl
  unfold World.cell? at hc
  rw[hg] at hc
  simp at hc
theorem Ext.cell {B C:Base}(h:Ext B C){p:Addr}{v:Value}(hc:B.W.cell? p=some v):C.W.cell? p=some v:=by
 rw[World.cell?_of_block (w:=B.W) (h.same (Base.live hc))];exact hc


def At (w:World)(p:Addr)(cs:List Value):Prop:=∀ j u,cs[j]? = some u→w.cell? (p.add j)=some u

theorem At.ext {B C:Base}(h:Ext B C){p:Addr}{cs:List Value}(ha:At B.W p cs):At C.W p cs:=fun j u hu=>h.cell (ha j u hu)

theorem zv0 (a:Addr)(i j:Nat):(a.add i).add j=a.add (i+j):=by
 unfold Addr.add
 by_cases hi:i=0<;>by_cases hj:j=0<;>simp[hi,hj,Nat.add_assoc]

theorem At.part {w:World}{p:Addr}{cs es:List Value}{i:Nat}(ha:At w p cs)(he:∀ j u,es[j]? = some u→cs[i+j]? = some u):At w (p.add i) es:=fun j u hu=>by
 rw[zv0];exact ha _ u (he j u hu)

theorem At.left {w:World}{p:Addr}{cs es:List Value}(ha:At w p (cs++es)):At w p cs:=fun j u hu=>ha j u (by
 rw[List.getElem?_append_left (List.getElem?_eq_some_iff.1 hu).1];exact hu)
theorem At.right {w:World}{p:Addr}{cs es:List Value}(ha:At w p (cs++es)):At w (p.add cs.length) es:=ha.part fun j u hu=>by
 rw[List.getElem?_append_right (Nat.le_add_right _ _)];simpa using hu


structure Ty (α:Type) where
 size:Nat
 ro:World→List Value→α→Prop
 own:World→List Value→α→List Nat→Prop

 req:World→Prop
 len:∀ {w cs x},ro w cs x→cs.length=size
 lenO:∀ {w cs x G},own w cs x G→cs.length=size
 ext:∀ {B C:Base}{cs x},Ext B C→ro B.W cs x→ro C.W cs x
 own_ro:∀ {w cs x G},own w cs x G→req w→ro w cs x
 loc:∀ {w w' cs x G},own w cs x G→(∀ g,g∈G→w'.heap[g]? = w.heap[g]?)→own w' cs x G
 lt:∀ {w cs x G},own w cs x G→∀ g,g∈G→g<w.heap.size
 one:∀ {w cs x},ro w cs x→∀ u,u∈cs→u.oneCell'=true
 oneO:∀ {w cs x G},own w cs x G→∀ u,u∈cs→u.oneCell'=true


def zvf {α:Type}(f:α→Value)(h1:∀ x,(f x).oneCell'=true):Ty α where
 size:=1
 ro:=fun _ cs x=>cs=[f x]
 own:=fun _ cs x G=>cs=[f x]∧G=[]
 req:=fun _=>True
 len:=by rintro _ _ _ rfl;rfl
 lenO:=by rintro _ _ _ _ ⟨rfl,_⟩;rfl
 ext:=fun _ h=>h
 own_ro:=fun h _=>h.1
 loc:=fun h _=>h
 lt:=fun h g hg=>by rw[h.2] at hg;cases hg
 one:=by rintro _ _ x rfl u hu;simp only[List.mem_singleton] at hu;subst hu;exact h1 x
 oneO:=by rintro _ _ x _ ⟨rfl,_⟩ u hu;simp only[List.mem_singleton] at hu;subst hu;exact h1 x

def z2z:Ty Int:=zvf (Value.int .i64) fun _=>rfl
def zxY (k:IntKind):Ty Int:=zvf (Value.int k) fun _=>rfl
def zbY:Ty Bool:=zvf Value.bool fun _=>rfl
def zxX:Ty ByteArray:=zvf Value.string fun _=>rfl

def z2W:Ty Unit where
 size:=0
 ro:=fun _ cs _=>cs=[]
 own:=fun _ cs _ G=>cs=[]∧G=[]
 req:=fun _=>True
 len:=by rintro _ _ _ rfl;rfl
 lenO:=by rintro _ _ _ _ ⟨rfl,_⟩;rfl
 ext:=fun _ h=>h
 own_ro:=fun h _=>h.1
 loc:=fun h _=>h
 lt:=fun h g hg=>by rw[h.2] at hg;cases hg
 one:=by rintro _ _ _ rfl u hu;cases hu
 oneO:=by rintro _ _ _ _ ⟨rfl,_⟩ u hu;cases hu

def zd {α β:Type}(T:Ty α)(U:Ty β):Ty (α×β) where
 size:=T.size+U.size
 ro:=fun w cs x=>∃ c d,cs=c++d∧T.ro w c x.1∧U.ro w d x.2
 own:=fun w cs x G=>∃ c d H K,cs=c++d∧G=H++K∧T.own w c x.1 H∧U.own w d x.2 K
 req:=fun w=>T.req w∧U.req w
 len:=by rintro _ _ _ ⟨c,d,rfl,h1,h2⟩;rw[List.length_append,T.len h1,U.len h2]
 lenO:=by rintro _ _ _ _ ⟨c,d,H,K,rfl,rfl,h1,h2⟩;rw[List.length_append,T.lenO h1,U.lenO h2]
 ext:=by rintro _ _ _ _ he ⟨c,d,rfl,h1,h2⟩;exact⟨c,d,rfl,T.ext he h1,U.ext he h2⟩
 own_ro:=by rintro _ _ _ _ ⟨c,d,H,K,rfl,rfl,h1,h2⟩ hq;exact⟨c,d,rfl,T.own_ro h1 hq.1,U.own_ro h2 hq.2⟩
 loc:=by
  rintro _ _ _ _ _ ⟨c,d,H,K,rfl,rfl,h1,h2⟩ hs
  exact⟨c,d,H,K,rfl,rfl,T.loc h1 fun g hg=>hs g (List.mem_append_left _ hg),U.loc h2 fun g hg=>hs g (List.mem_append_right _ hg)⟩
 lt:=by
  rintro _ _ _ _ ⟨c,d,H,K,rfl,rfl,h1,h2⟩ g hg
  rcases List.mem_append.1 hg with hg | hg
  ·exact T.lt h1 g hg
  ·exact U.lt h2 g hg
 one:=by
  rintro _ _ _ ⟨c,d,rfl,h1,h2⟩ u hu
  rcases List.mem_append.1 hu with hu | hu
  ·exact T.one h1 u hu
  ·exact U.one h2 u hu
 oneO:=by
  rintro _ _ _ _ ⟨c,d,H,K,rfl,rfl,h1,h2⟩ u hu
  rcases List.mem_append.1 hu with hu | hu
  ·exact T.oneO h1 u hu
  ·exact U.oneO h2 u hu

def zb4 {α β:Type}(f:β→α)(T:Ty α):Ty β where
 size:=T.size
 ro:=fun w cs x=>T.ro w cs (f x)
 own:=fun w cs x G=>T.own w cs (f x) G
 req:=T.req
 len:=T.len
 lenO:=T.lenO
 ext:=T.ext
 own_ro:=T.own_ro
 loc:=T.loc
 lt:=T.lt
 one:=T.one
 oneO:=T.oneO


def Els {α:Type}(T:Ty α)(w:World):List Value→List α→Prop
 | cs,[]=>cs=[]
 | cs,x::xs=>∃ c d,cs=c++d∧T.ro w c x∧Els T w d xs

def zaD {α:Type}(T:Ty α)(w:World):List Value→List α→List Nat→Prop
 | cs,[],G=>cs=[]∧G=[]
 | cs,x::xs,G=>∃ c d H K,cs=c++d∧G=H++K∧T.own w c x H∧zaD T w d xs K

section
variable {α:Type}{T:Ty α}{w w':World}

theorem Els.length:∀ {xs:List α}{cs:List Value},Els T w cs xs→cs.length=xs.length*T.size
 | [],_,h=>by rw[h];simp
 | x::xs,_,⟨c,d,h,h1,h2⟩=>by rw[h,List.length_append,T.len h1,Els.length h2,List.length_cons,Nat.succ_mul];omega

theorem Els.ext {B C:Base}(he:Ext B C):∀ {xs:List α}{cs:List Value},Els T B.W cs xs→Els T C.W cs xs
 | [],_,h=>h
 | _::_,_,⟨c,d,h,h1,h2⟩=>⟨c,d,h,T.ext he h1,Els.ext he h2⟩

theorem Els.one:∀ {xs:List α}{cs:List Value},Els T w cs xs→∀ u,u∈cs→u.oneCell'=true
 | [],_,h,u,hu=>by rw[h] at hu;cases hu
 | _::_,_,⟨c,d,h,h1,h2⟩,u,hu=>by
  rw[h] at hu
  rcases List.mem_append.1 hu with hu | hu
  ·exact T.one h1 u hu
  ·exact Els.one h2 u hu

theorem zaD.els (hq:T.req w):∀ {xs:List α}{cs:List Value}{G:List Nat},zaD T w cs xs G→Els T w cs xs
 | [],_,_,h=>h.1
 | _::_,_,_,⟨c,d,_,_,h,_,h1,h2⟩=>⟨c,d,h,T.own_ro h1 hq,zaD.els hq h2⟩
theorem zaD.length:∀ {xs:List α}{cs:List Value}{G:List Nat},zaD T w cs xs G→cs.length=xs.length*T.size
 | [],_,_,h=>by rw[h.1];simp
 | x::xs,_,_,⟨c,d,_,_,h,_,h1,h2⟩=>by rw[h,List.length_append,T.lenO h1,zaD.length h2,List.length_cons,Nat.succ_mul];omega
theorem zaD.one:∀ {xs:List α}{cs:List Value}{G:List Nat},zaD T w cs xs G→∀ u,u∈cs→u.oneCell'=true
 | [],_,_,h,u,hu=>by rw[h.1] at hu;cases hu
 | _::_,_,_,⟨c,d,_,_,h,_,h1,h2⟩,u,hu=>by
  rw[h] at hu
  rcases List.mem_append.1 hu with hu | hu
  ·exact T.oneO h1 u hu
  ·exact zaD.one h2 u hu

theorem zaD.loc:∀ {xs:List α}{cs:List Value}{G:List Nat},zaD T w cs xs G→(∀ g,g∈G→w'.heap[g]? = w.heap[g]?)→zaD T w' cs xs G
 | [],_,_,h,_=>h
 | _::_,_,_,⟨c,d,H,K,h,hG,h1,h2⟩,hs=>by
  subst hG
  exact⟨c,d,H,K,h,rfl,T.loc h1 fun g hg=>hs g (List.mem_append_left _ hg),zaD.loc h2 fun g hg=>hs g (List.mem_append_right _ hg)⟩

theorem zaD.lt:∀ {xs:List α}{cs:List Value}{G:List Nat},zaD T w cs xs G→∀ g,g∈G→g<w.heap.size
 | [],_,_,h,g,hg=>by rw[h.2] at hg;cases hg
 | _::_,_,_,⟨c,d,H,K,h,hG,h1,h2⟩,g,hg=>by
  subst hG
  rcases List.mem_append.1 hg with hg | hg
  ·exact T.lt h1 g hg
  ·exact zaD.lt h2 g hg


theorem Els.at_:∀ {xs:List α}{cs:List Value},Els T w cs xs→∀ {i:Nat}{x:α},xs[i]? = some x→∃ es,T.ro w es x∧∀ j u,es[j]? = some u→cs[i*T.size+j]? = some u
 | [],_,_,i,x,hx=>by simp at hx
 | y::xs,_,⟨c,d,h,h1,h2⟩,i,x,hx=>by
  subst h
  cases i with
  | zero=>
   simp only[List.getElem?_cons_zero,Option.some.injEq] at hx
   subst hx
   refine⟨c,h1,fun j u hu=>?_⟩
   rw[Nat.zero_mul,Nat.zero_add,List.getElem?_append_left (List.getElem?_eq_some_iff.1 hu).1]
   exact hu
  | succ i=>
   simp only[List.getElem?_cons_succ] at hx
   obtain⟨es,h3,h4⟩:=Els.at_ h2 hx
   refine⟨es,h3,fun j u hu=>?_⟩
   have:(i+1)*T.size+j=c.length+(i*T.size+j):=by rw[T.len h1,Nat.succ_mul];omega
   rw[this,List.getElem?_append_right (Nat.le_add_right _ _)]
   simpa using h4 j u hu

theorem Els.append:∀ {xs ys:List α}{cs ds:List Value},Els T w cs xs→Els T w ds ys→Els T w (cs++ds) (xs++ys)
 | [],_,_,_,h,k=>by rw[h];simpa using k
 | _::_,_,_,_,⟨c,d,h,h1,h2⟩,k=>⟨c,d++_,by rw[h,List.append_assoc],h1,Els.append h2 k⟩

theorem zaD.append:∀ {xs ys:List α}{cs ds:List Value}{G H:List Nat},zaD T w cs xs G→zaD T w ds ys H→zaD T w (cs++ds) (xs++ys) (G++H)
 | [],_,_,_,_,_,h,k=>by rw[h.1,h.2];simpa using k
 | _::_,_,_,_,_,_,⟨c,d,H,K,h,hG,h1,h2⟩,k=>⟨c,d++_,H,K++_,by rw[h,List.append_assoc],by rw[hG,List.append_assoc],h1,zaD.append h2 k⟩

theorem Els.drop:∀ {xs:List α}{cs:List Value},Els T w cs xs→∀ k,k≤xs.length→Els T w (cs.drop (k*T.size)) (xs.drop k)
 | xs,_,h,0,_=>by simpa using h
 | [],_,_,k+1,hk=>by simp at hk
 | x::xs,_,⟨c,d,h,h1,h2⟩,k+1,hk=>by
  subst h
  have:=Els.drop h2 k (by simpa using hk)
  rw[List.drop_succ_cons,Nat.succ_mul,Nat.add_comm,← List.drop_drop,← T.len h1]
  simpa [T.len h1] using this

theorem Els.take:∀ {xs:List α}{cs:List Value},Els T w cs xs→∀ k,k≤xs.length→Els T w (cs.take (k*T.size)) (xs.take k)
 | xs,_,h,0,_=>by simp[Els]
 | [],_,_,k+1,hk=>by simp at hk
 | x::xs,_,⟨c,d,h,h1,h2⟩,k+1,hk=>by
  subst h
  refine⟨c,d.take (k*T.size),?_,h1,Els.take h2 k (by simpa using hk)⟩
  rw[Nat.succ_mul,Nat.add_comm,← T.len h1,List.take_length_add_append]
end


def tSl {α:Type}(e:TypeId)(T:Ty α):Ty (List α) where
 size:=1
 ro:=fun w cs xs=>∃ A c els,cs=[.slice A xs.length c]∧xs.length≤c∧Els T w els xs∧(els≠[]→∃ p,A=some p∧At w p els)
 own:=fun w cs xs G=>∃ v els,cs=[v]∧w.ownsRow 0 e T.size v xs.length els∧∃ K,zaD T w els xs K∧G=v.ownBlock.toList++K
 req:=T.req
 len:=by rintro _ _ _ ⟨_,_,_,rfl,_⟩;rfl
 lenO:=by rintro _ _ _ _ ⟨_,_,rfl,_⟩;rfl
 ext:=by
  rintro _ _ _ _ he ⟨A,c,els,rfl,hc,h1,h2⟩
  exact⟨A,c,els,rfl,hc,h1.ext he,fun hn=>let ⟨p,hp,ha⟩:=h2 hn;⟨p,hp,ha.ext he⟩⟩
 own_ro:=by
  rintro w _ xs G ⟨v,els,rfl,ho,K,hk,rfl⟩ hq
  rcases ho.2 with⟨rfl,hn⟩ | ⟨g,cap,o,rfl,_,hh,q,_,O,H⟩
  ·have:xs=[]:=List.eq_nil_of_length_eq_zero hn
   subst this
   exact⟨none,0,[],rfl,Nat.le_refl _,rfl,fun h=>absurd rfl h⟩
  ·refine⟨_,cap,els,rfl,q,hk.els hq,fun _=>⟨_,rfl,fun j u hu=>?_⟩⟩
   have:Addr.add ⟨g,0,none⟩ j=⟨g,j,none⟩:=by unfold Addr.add;by_cases hj:j=0<;>simp[hj]
   rw[this,cell_of_row w g j o e (0,0) hh]
   rw[← H] at hu
   have hj:=(List.getElem?_eq_some_iff.1 hu).1
   rw[List.getElem?_take] at hu
   split at hu
   ·simpa using hu
   ·cases hu
 loc:=by
  rintro w w' _ xs G ⟨v,els,rfl,ho,K,hk,rfl⟩ hs
  refine⟨v,els,rfl,⟨ho.1,?_⟩,K,hk.loc fun g hg=>hs g (List.mem_append_right _ hg),rfl⟩
  rcases ho.2 with h | ⟨g,cap,o,rfl,h0,hh,h3⟩
  ·exact .inl h
  ·exact .inr ⟨g,cap,o,rfl,h0,by rw[hs g (by simp[Value.ownBlock])];exact hh,h3⟩
 lt:=by
  rintro w _ xs G ⟨v,els,rfl,ho,K,hk,rfl⟩ g hg
  rcases List.mem_append.1 hg with hg | hg
  ·rcases ho.2 with⟨rfl,_⟩ | ⟨g',cap,o,rfl,_,hh,_⟩
   ·simp[Value.ownBlock] at hg
   ·simp only[Value.ownBlock,Option.toList,List.mem_singleton] at hg
    subst hg
    rcases Nat.lt_or_ge g w.heap.size with h | h
    ·exact h
    ·rw[Array.getElem?_eq_none h] at hh;cases hh
  ·exact hk.lt g hg
 one:=by
  rintro _ _ _ ⟨_,_,_,rfl,_⟩ u hu
  simp only[List.mem_singleton] at hu;subst hu;rfl
 oneO:=by
  rintro _ _ _ _ ⟨_,_,rfl,ho,_⟩ u hu
  simp only[List.mem_singleton] at hu;subst hu
  rcases ho.2 with⟨rfl,_⟩ | ⟨g,cap,o,rfl,_⟩<;>rfl


def zv5 {α:Type}(W:Base)(T:Ty α):Ty α where
 size:=T.size
 ro:=T.ro
 own:=fun _ cs x G=>T.ro W.W cs x∧G=[]
 req:=fun w=>Ext W w
 len:=T.len
 lenO:=fun h=>T.len h.1
 ext:=T.ext
 own_ro:=fun h he=>T.ext he h.1
 loc:=fun h _=>h
 lt:=fun h g hg=>by rw[h.2] at hg;cases hg
 one:=T.one
 oneO:=fun h=>T.one h.1


class Reads (W:Base){α:Type}(T:Ty α):Prop where
 req:∀ {w:World},Ext W w→T.req w
instance {W:Base}:Reads W z2z:=⟨fun _=>trivial⟩
instance {W:Base}{k:IntKind}:Reads W (zxY k):=⟨fun _=>trivial⟩
instance {W:Base}:Reads W zbY:=⟨fun _=>trivial⟩
instance {W:Base}:Reads W zxX:=⟨fun _=>trivial⟩
instance {W:Base}:Reads W z2W:=⟨fun _=>trivial⟩
instance {W:Base}{α β:Type}{T:Ty α}{U:Ty β}[Reads W T] [Reads W U]:Reads W (zd T U):=⟨fun h=>⟨Reads.req h,Reads.req h⟩⟩
instance {W:Base}{α β:Type}{f:β→α}{T:Ty α}[Reads W T]:Reads W (zb4 f T):=⟨fun h=>Reads.req (T:=T) h⟩
instance {W:Base}{α:Type}{e:TypeId}{T:Ty α}[Reads W T]:Reads W (tSl e T):=⟨fun h=>Reads.req (T:=T) h⟩
instance {W:Base}{α:Type}{T:Ty α}:Reads W (zv5 W T):=⟨fun h=>h⟩
end Go.E



namespace Go.E
open Go.RowKit


structure Res where
 A:World→List Nat→Prop
 loc:∀ {w w' G},A w G→(∀ g,g∈G→w'.heap[g]? = w.heap[g]?)→A w' G
 lt:∀ {w G},A w G→∀ g,g∈G→g<w.heap.size

def zct (w:World)(lo:Nat→Prop):List Res→List Nat→Prop
 | [],_=>True
 | R::Rs,U=>∃ G,R.A w G∧G.Nodup∧(∀ g,g∈G→lo g∧g ∉ U)∧zct w lo Rs (G++U)


def Sep (w:World)(lo:Nat→Prop)(Rs:List Res):Prop:=zct w lo Rs []

section
variable {w w':World}{lo:Nat→Prop}

theorem zct.congr:∀ {Rs:List Res}{U V:List Nat},(∀ g,g∈V→g∈U)→zct w lo Rs U→zct w lo Rs V
 | [],_,_,_,_=>trivial
 | _::_,_,_,hs,⟨G,h1,h2,h3,h4⟩=>⟨G,h1,h2,fun g hg=>⟨(h3 g hg).1,fun hv=>(h3 g hg).2 (hs g hv)⟩,
   zct.congr (fun g hg=>by rcases List.mem_append.1 hg with hg | hg;exact List.mem_append_left _ hg;exact List.mem_append_right _ (hs g hg)) h4⟩

theorem zct.swap {R S:Res}{Rs:List Res}{U:List Nat}(h:zct w lo (R::S::Rs) U):zct w lo (S::R::Rs) U:=by
 obtain⟨G,h1,h2,h3,H,k1,k2,k3,h4⟩:=h
 refine⟨H,k1,k2,fun g hg=>⟨(k3 g hg).1,fun hu=>(k3 g hg).2 (List.mem_append_right _ hu)⟩,G,h1,h2,fun g hg=>⟨(h3 g hg).1,fun hu=>?_⟩,zct.congr (fun g hg=>?_) h4⟩
 ·rcases List.mem_append.1 hu with hu | hu
  ·exact(k3 g hu).2 (List.mem_append_left _ hg)
  ·exact(h3 g hg).2 hu
 ·simp only[List.mem_append] at hg ⊢
  rcases hg with hg | hg | hg
  ·exact .inr (.inl hg)
  ·exact .inl hg
  ·exact .inr (.inr hg)

theorem zct.perm {Rs o:List Res}(hp:Rs.Perm o):∀ {U:List Nat},zct w lo Rs U→zct w lo o U:=by
 induction hp with
 | nil=>exact fun h=>h
 | cons R _ ih=>exact fun⟨G,h1,h2,h3,h4⟩=>⟨G,h1,h2,h3,ih h4⟩
 | swap R S Rs=>exact fun h=>h.swap
 | trans _ _ ih1 ih2=>exact fun h=>ih2 (ih1 h)

theorem Sep.perm {Rs o:List Res}(h:Sep w lo Rs)(hp:Rs.Perm o):Sep w lo o:=zct.perm hp h

theorem Sep.pick {A B:List Res}{R:Res}(h:Sep w lo (A++R::B)):Sep w lo (R::(A++B)):=h.perm List.perm_middle
theorem Sep.back {A B:List Res}{R:Res}(h:Sep w lo (R::(A++B))):Sep w lo (A++R::B):=h.perm List.perm_middle.symm

theorem zct.tail {R:Res}{Rs:List Res}{U:List Nat}(h:zct w lo (R::Rs) U):zct w lo Rs U:=by
 obtain⟨G,_,_,_,h4⟩:=h
 exact h4.congr fun g hg=>List.mem_append_right _ hg

theorem Sep.tail {R:Res}{Rs:List Res}(h:Sep w lo (R::Rs)):Sep w lo Rs:=zct.tail h
theorem Sep.nil:Sep w lo []:=trivial

theorem zct.same (hs:∀ b,b<w.heap.size→w'.heap[b]? = w.heap[b]?):∀ {Rs:List Res}{U:List Nat},zct w lo Rs U→zct w' lo Rs U
 | [],_,_=>trivial
 | R::_,_,⟨G,h1,h2,h3,h4⟩=>⟨G,R.loc h1 fun g hg=>hs g (R.lt h1 g hg),h2,h3,zct.same hs h4⟩

theorem Sep.ext {Rs:List Res}(h:Sep w lo Rs)(he:Ext w w'):Sep w' lo Rs:=zct.same (fun b hb=>he.old b hb) h

theorem zct.append {B:Nat→Prop}:∀ {Ns Rs:List Res}{U:List Nat},zct w B Ns U→(∀ V,(∀ g,g∈V→B g∨g∈U)→zct w lo Rs V)→(∀ b,B b→lo b)→zct w lo (Ns++Rs) U
 | [],_,_,_,hr,_=>hr _ fun _ hg=>.inr hg
 | _::_,_,U,⟨G,h1,h2,h3,h4⟩,hr,hl=>⟨G,h1,h2,fun g hg=>⟨hl g (h3 g hg).1,(h3 g hg).2⟩,
   zct.append h4 (fun V hV=>hr V fun g hg=>by
    rcases hV g hg with h | h
    ·exact .inl h
    ·rcases List.mem_append.1 h with h | h
     ·exact .inl (h3 g h).1
     ·exact .inr h) hl⟩

theorem zct.avoid {W:World}(he:Ext W w):∀ {Rs:List Res}{U V:List Nat},zct W lo Rs U→(∀ g,g∈V→W.heap.size≤g∨g∈U)→zct w lo Rs V
 | [],_,_,_,_=>trivial
 | R::_,_,_,⟨G,h1,h2,h3,h4⟩,hV=>⟨G,R.loc h1 (fun g hg=>he.old g (R.lt h1 g hg)),h2,fun g hg=>⟨(h3 g hg).1,fun hv=>by
    rcases hV g hv with h | h
    ·exact absurd (R.lt h1 g hg) (by omega)
    ·exact(h3 g hg).2 h⟩,
   zct.avoid he h4 fun g hg=>by
    rcases List.mem_append.1 hg with h | h
    ·exact .inr (List.mem_append_left _ h)
    ·rcases hV g h with h | h
     ·exact .inl h
     ·exact .inr (List.mem_append_right _ h)⟩


theorem Sep.join {W:World}{Ns Rs:List Res}(hr:Sep W lo Rs)(he:Ext W w)(hn:Sep w (Base.of W).fr Ns)(hl:∀ b,W.heap.size≤b→lo b):Sep w lo (Ns++Rs):=
 zct.append hn (fun _ hV=>zct.avoid he hr fun g hg=>(hV g hg).imp Base.fr_of.1 id) fun b hb=>hl b (Base.fr_of.1 hb)


theorem Sep.upd {R R':Res}{Rs:List Res}(h:Sep w lo (R::Rs))(hl:∀ b,w.heap.size≤b→lo b)
  (hu:∀ G,R.A w G→G.Nodup→(∀ g,g∈G→lo g)→∃ G',R'.A w' G'∧G'.Nodup∧(∀ g,g∈G'→g∈G∨w.heap.size≤g)∧(∀ b,b<w.heap.size→b ∉ G→w'.heap[b]? = w.heap[b]?)):
  Sep w' lo (R'::Rs):=by
 obtain⟨G,h1,h2,h3,h4⟩:=h
 obtain⟨G',k1,k2,k3,k4⟩:=hu G h1 h2 fun g hg=>(h3 g hg).1
 refine⟨G',k1,k2,fun g hg=>⟨?_,by simp⟩,?_⟩
 ·rcases k3 g hg with h | h
  ·exact(h3 g h).1
  ·exact hl _ h
 ·
  have key:∀ {Ss:List Res}{U V:List Nat},zct w lo Ss U→(∀ g,g∈G→g∈U)→(∀ g,g∈V→w.heap.size≤g∨g∈U)→zct w' lo Ss V:=by
   intro Ss
   induction Ss with
   | nil=>exact fun _ _ _=>trivial
   | cons S Ss ih=>
    intro U V ⟨H,a1,a2,a3,a4⟩ hG hV
    refine⟨H,S.loc a1 fun g hg=>k4 g (S.lt a1 g hg) fun o=>(a3 g hg).2 (hG g o),a2,fun g hg=>⟨(a3 g hg).1,fun hv=>?_⟩,ih a4 (fun g hg=>List.mem_append_right _ (hG g hg)) fun g hg=>?_⟩
    ·rcases hV g hv with h | h
     ·exact absurd (S.lt a1 g hg) (by omega)
     ·exact(a3 g hg).2 h
    ·rcases List.mem_append.1 hg with h | h
     ·exact .inr (List.mem_append_left _ h)
     ·rcases hV g h with h | h
      ·exact .inl h
      ·exact .inr (List.mem_append_right _ h)
  refine key h4 (fun g hg=>List.mem_append_left _ hg) fun g hg=>?_
  simp only[List.append_nil] at hg
  rcases k3 g hg with h | h
  ·exact .inr (List.mem_append_left _ h)
  ·exact .inl h

theorem Sep.head {R:Res}{Rs:List Res}(h:Sep w lo (R::Rs)):∃ G,R.A w G∧G.Nodup∧∀ g,g∈G→lo g:=by
 obtain⟨G,h1,h2,h3,_⟩:=h
 exact⟨G,h1,h2,fun g hg=>(h3 g hg).1⟩


theorem Sep.conv {R R':Res}{Rs:List Res}(h:Sep w lo (R::Rs))(hc:∀ G,R.A w G→R'.A w G):Sep w lo (R'::Rs):=by
 obtain⟨G,h1,h2,h3,h4⟩:=h
 exact⟨G,hc G h1,h2,h3,h4⟩
end


def Box (g:Nat)(cs:List Value)(e:TypeId):Res where
 A:=fun w G=>G=[g]∧w.heap[g]? = some (.cells ⟨cs⟩ e (0,0))
 loc:=fun⟨h1,h2⟩ hs=>⟨h1,by rw[hs g (by rw[h1];simp)];exact h2⟩
 lt:=by
  rintro w G ⟨h1,h2⟩ g' hg
  rw[h1,List.mem_singleton] at hg
  subst hg
  rcases Nat.lt_or_ge g' w.heap.size with h | h
  ·exact h
  ·rw[Array.getElem?_eq_none h] at h2;cases h2


def Own {α:Type}(T:Ty α)(cs:List Value)(x:α):Res where
 A:=fun w G=>T.own w cs x G
 loc:=T.loc
 lt:=T.lt


def Both (R S:Res):Res where
 A:=fun w G=>∃ H K,G=H++K∧R.A w H∧S.A w K
 loc:=by
  rintro w w' G ⟨H,K,rfl,h1,h2⟩ hs
  exact⟨H,K,rfl,R.loc h1 fun g hg=>hs g (List.mem_append_left _ hg),S.loc h2 fun g hg=>hs g (List.mem_append_right _ hg)⟩
 lt:=by
  rintro w G ⟨H,K,rfl,h1,h2⟩ g hg
  rcases List.mem_append.1 hg with hg | hg
  ·exact R.lt h1 g hg
  ·exact S.lt h2 g hg

theorem Sep.fuse {w:World}{lo:Nat→Prop}{R S:Res}{Rs:List Res}(h:Sep w lo (R::S::Rs)):Sep w lo (Both R S::Rs):=by
 obtain⟨G,h1,h2,h3,H,k1,k2,k3,h4⟩:=h
 refine⟨G++H,⟨G,H,rfl,h1,k1⟩,?_,fun g hg=>⟨?_,by simp⟩,h4.congr fun g hg=>?_⟩
 ·rw[List.nodup_append]
  refine⟨h2,k2,fun a ha b hb o=>?_⟩
  subst o
  exact(k3 a hb).2 (by simp[ha])
 ·rcases List.mem_append.1 hg with hg | hg
  ·exact(h3 g hg).1
  ·exact(k3 g hg).1
 ·simp only[List.mem_append,List.append_nil] at hg ⊢
  rcases hg with hg | hg
  ·exact .inr hg
  ·exact .inl hg

theorem Sep.split {w:World}{lo:Nat→Prop}{R S:Res}{Rs:List Res}(h:Sep w lo (Both R S::Rs)):Sep w lo (R::S::Rs):=by
 obtain⟨G,⟨H,K,rfl,h1,k1⟩,h2,h3,h4⟩:=h
 rw[List.nodup_append] at h2
 refine⟨H,h1,h2.1,fun g hg=>⟨(h3 g (List.mem_append_left _ hg)).1,by simp⟩,K,k1,h2.2.1,fun g hg=>⟨(h3 g (List.mem_append_right _ hg)).1,?_⟩,h4.congr fun g hg=>?_⟩
 ·simp only[List.append_nil]
  exact fun hH=>h2.2.2 g hH g hg rfl
 ·simp only[List.mem_append,List.append_nil] at hg ⊢
  rcases hg with hg | hg
  ·exact .inr hg
  ·exact .inl hg
end Go.E



namespace Go.E
open Go.RowKit


structure St (W:Base) (w:World) (Rs:List Res):Prop where
 ext:Ext W w
 sep:Sep w W.fr Rs

section
variable {W:Base}{w w':World}{Rs Ns A B:List Res}
theorem St.start (w:World):St w w []:=⟨Ext.refl w,trivial⟩
theorem St.le (h:St W w Rs):W.W.heap.size≤w.heap.size:=h.ext.size
theorem St.up (h:St W w Rs)(b:Nat)(hb:w.heap.size≤b):W.fr b:=.inl (Nat.le_trans h.le hb)

theorem St.join (h:St W w Rs)(k:St w w' Ns):St W w' (Ns++Rs):=⟨h.ext.trans k.ext,h.sep.join k.ext k.sep h.up⟩
theorem St.step (h:St W w Rs)(k:Ext w w'):St W w' Rs:=⟨h.ext.trans k,h.sep.ext k⟩
theorem St.pick {R:Res}(h:St W w (A++R::B)):St W w (R::(A++B)):=⟨h.ext,h.sep.pick⟩
theorem St.back {R:Res}(h:St W w (R::(A++B))):St W w (A++R::B):=⟨h.ext,h.sep.back⟩
theorem St.drop {R:Res}(h:St W w (R::B)):St W w B:=⟨h.ext,h.sep.tail⟩
theorem St.perm {q:List Res}(h:St W w Rs)(hp:Rs.Perm q):St W w q:=⟨h.ext,h.sep.perm hp⟩
theorem St.fuse {R S:Res}(h:St W w (R::S::B)):St W w (Both R S::B):=⟨h.ext,h.sep.fuse⟩
theorem St.split {R S:Res}(h:St W w (Both R S::B)):St W w (R::S::B):=⟨h.ext,h.sep.split⟩
theorem St.conv {R R':Res}(h:St W w (R::B))(hc:∀ G,R.A w G→R'.A w G):St W w (R'::B):=⟨h.ext,h.sep.conv hc⟩

theorem St.box {g:Nat}{cs:List Value}{e:TypeId}(h:St W w (Box g cs e::B)):At w ⟨g,0,none⟩ cs:=fun j u hu=>by
 obtain⟨G,⟨_,hh⟩,_⟩:=h.sep.head
 have:Addr.add ⟨g,0,none⟩ j=⟨g,j,none⟩:=by unfold Addr.add;by_cases hj:j=0<;>simp[hj]
 rw[this,cell_of_row w g j ⟨cs⟩ e (0,0) hh]
 simpa using hu
theorem St.own {α:Type}{T:Ty α}{cs:List Value}{x:α}[Reads W T](h:St W w (Own T cs x::B)):T.ro w cs x:=by
 obtain⟨G,hA,_⟩:=h.sep.head
 exact T.own_ro hA (Reads.req h.ext)

theorem St.new (h:St W w Rs)(cs:List Value)(e:TypeId):St W (w.alloc (.cells ⟨cs⟩ e)) (Box w.heap.size cs e::Rs):=
 h.join (Ns:=[Box w.heap.size cs e]) ⟨Ext.alloc _ _,⟨[w.heap.size],⟨rfl,heap_alloc_new w _⟩,by simp,fun g hg=>by simp at hg;subst hg;exact⟨.inl (Nat.le_refl _),by simp⟩,trivial⟩⟩

def z9Q:List Value→Nat→List Value→Option (List Value)
 | cs,_,[]=>some cs
 | cs,i,v::vs=>match Nat.blt i cs.length with
  | true=>z9Q (cs.set i v) (i+1) vs
  | false=>none
end



def Quiet (P:Program)(n:Nat)(F:Fr)(w:Base)(o:Oper)(v:Value):Prop:=
 ∀ a (w':World),Fits n F a→Ext w w'→(execOp a.eval o).run P w'=.ok (.value v) w'

section
variable {P:Program}{T:TT}(ht:TTok P T){n:Nat}{F:Fr}{w:Base}{o:Oper}{v:Value}
include ht

theorem Quiet.pv (h:pv T F o.op=some v):Quiet P n F w o v:=fun _ w' ha _=>znc ht h ha w'

theorem Quiet.load1 {t:Nat}{x:Operand}{i:TI}{p q:Addr}{cs:List Value}(ho:o.op=.load t x)(hi:T.get t=some i)(G:i.agg=false)(hx:F.ev x=some (.pointer (some q)))
  (H:At w p cs)(off:Nat)(hq:q=p.add off)(hv:nthv cs off=some v):Quiet P n F w o v:=fun a w' ha he=>by
 have hc:w'.cell? q=some v:=by rw[hq];rw[z2U] at hv;exact he.cell (H off v hv)
 unfold execOp
 rw[ho]
 simp[ha.ev hx,Instr.loadAt,Instr.sureAddr,loadVar,ht.isAgg hi,G,run_load,hc]

theorem Quiet.loadN {t:Nat}{x:Operand}{i:TI}{q:Addr}{cs:List Value}(ho:o.op=.load t x)(hi:T.get t=some i)(G:i.agg=true)(hx:F.ev x=some (.pointer (some q)))
  (H:At w q cs)(hl:cs.length=i.size):Quiet P n F w o (.agg ⟨cs⟩):=fun a w' ha he=>by
 have hr:=run_loadCells_list (P:=P) w' q cs fun j u hu=>he.cell (H j u hu)
 unfold execOp
 rw[ho]
 simp[ha.ev hx,Instr.loadAt,Instr.sureAddr,loadVar,ht.isAgg hi,ht.sizeOf hi,G]
 rw[← hl,hr]
 rfl

theorem Quiet.idx {α:Type}{U:Ty α}{t e:Nat}{x ix:Operand}{i j:TI}{A:Option Addr}{len c:Nat}{xs:List α}{k:IntKind}{m:Int}(ho:o.op=.indexAddr t x ix)
  (hi:T.get t=some i)(hd:i.d=.slice e)(hj:T.get e=some j)(hs:U.size=j.size)(hpos:0<U.size)(hx:F.ev x=some (.slice A len c))(hm:F.ev ix=some (.int k m))
  {e':Nat}(hr:(tSl e' U).ro w [.slice A len c] xs){a:α}(h0:0≤m)(ha:xs[m.toNat]? = some a):
  ∃ q es,Quiet P n F w o (.pointer (some q))∧At w q es∧U.ro w es a:=by
 obtain⟨A',c',els,he,hc,G,H⟩:=hr
 simp only[List.cons.injEq,Value.slice.injEq,and_true] at he
 obtain⟨rfl,rfl,rfl⟩:=he
 obtain⟨es,h1,h2⟩:=G.at_ ha
 have Y:m.toNat<xs.length:=(List.getElem?_eq_some_iff.1 ha).1
 have hn:els≠[]:=fun hn=>by
  have hl:=U.len h1
  cases es with
  | nil=>simp at hl;omega
  | cons u r=>have:=h2 0 u (by simp);rw[hn] at this;simp at this
 obtain⟨p,rfl,hp⟩:=H hn
 refine⟨p.add (m.toNat*j.size),es,fun b w' hb X=>?_,?_,h1⟩
 ·unfold execOp
  rw[ho]
  have O:m<xs.length:=by omega
  simp[hb.ev hx,hb.ev hm,Instr.indexAt,asIntOf,Go.underlying,ht.slice hi hd,h0,O,ht.sizeOf hj]
 ·rw[← hs];exact hp.part fun j u hu=>h2 j u hu

theorem Quiet.cut {α:Type}{U:Ty α}{t e:Nat}{x:Operand}{lo hi:Option Operand}{i j:TI}{A:Option Addr}{len c:Nat}{xs:List α}(ho:o.op=.slice t x lo hi none)
  (O:T.get t=some i)(hd:i.d=.slice e)(hj:T.get e=some j)(hs:U.size=j.size)(hx:F.ev x=some (.slice A len c)){e':Nat}
  (hr:(tSl e' U).ro w [.slice A len c] xs){l h:Nat}(hl:(lo=none∧l=0)∨∃ y k,lo=some y∧F.ev y=some (.int k (l:Int)))(hh:(hi=none∧h=xs.length)∨∃ y k,hi=some y∧F.ev y=some (.int k (h:Int)))
  (h1:l≤h)(h2:h≤xs.length):∃ A' c',Quiet P n F w o (.slice A' (h - l) c')∧(tSl e' U).ro w [.slice A' (h - l) c'] ((xs.take h).drop l):=by
 obtain⟨A',c',els,he,hc,X,b0⟩:=hr
 simp only[List.cons.injEq,Value.slice.injEq,and_true] at he
 obtain⟨rfl,rfl,rfl⟩:=he
 refine⟨if c=l then A else A.map (·.add (l*j.size)),c - l,fun a w' ha _=>?_,?_⟩
 ·unfold execOp
  rw[ho]
  have G:h≤c:=Nat.le_trans h2 hc
  have q:∀ (k:IntKind) (m y:Nat) (cd:BoundsCode),m≤y→(Instr.sliceBound (.int k (m:Int)) y cd).run P w'=.ok m w':=fun k m y cd c0=>by
   simp[Instr.sliceBound,asIntOf,c0]
  rcases hl with⟨rfl,rfl⟩ | ⟨y,k,rfl,hy⟩<;>rcases hh with⟨rfl,rfl⟩ | ⟨y',k',rfl,a0⟩
  ·simp[ha.ev hx,Instr.sliceAt,Instr.slice,Go.underlying,ht.slice O hd,Instr.sliceBounds,ht.sizeOf hj]
  ·simp[ha.ev hx,ha.ev a0,Instr.sliceAt,Instr.slice,Go.underlying,ht.slice O hd,Instr.sliceBounds,ht.sizeOf hj,q,G]
  ·simp[ha.ev hx,ha.ev hy,Instr.sliceAt,Instr.slice,Go.underlying,ht.slice O hd,Instr.sliceBounds,ht.sizeOf hj,q,h1]
  ·simp[ha.ev hx,ha.ev hy,ha.ev a0,Instr.sliceAt,Instr.slice,Go.underlying,ht.slice O hd,Instr.sliceBounds,ht.sizeOf hj,q,G,h1]
 ·have H:((xs.take h).drop l).length=h - l:=by simp[Nat.min_eq_left h2]
  refine⟨_,c - l,(els.take (h*U.size)).drop (l*U.size),by rw[H],by rw[H];omega,?_,fun Z=>?_⟩
  ·exact Els.drop (Els.take X h h2) l (by simp[Nat.min_eq_left h2];exact h1)
  ·have Y:els≠[]:=by rintro rfl;simp at Z
   have e0:l<h:=by
    rcases Nat.lt_or_ge l h with h' | h'
    ·exact h'
    ·have:l=h:=by omega
     subst this
     exact absurd (by rw[List.drop_eq_nil_iff,List.length_take];exact Nat.min_le_left _ _) Z
   obtain⟨p,rfl,hp⟩:=b0 Y
   rw[if_neg (by omega)]
   refine⟨p.add (l*j.size),rfl,?_⟩
   rw[← hs]
   refine hp.part fun m u hu=>?_
   rw[List.getElem?_drop,List.getElem?_take] at hu
   split at hu
   ·exact hu
   ·cases hu
end
end Go.E



namespace Go.E
open Go.RowKit


def zc (ops:List Oper)(F:Fr)(o:Oper):Option Bool:=
 match o.guard with
 | none=>some true
 | some (j,b)=>match nthv ops j with
  | some oj=>match oj.dst with
   | some d=>match F.get d with
    | some (.bool true)=>some b
    | some (.bool false)=>some (!b)
    | some (.tuple _)=>some false
    | _=>none
   | none=>none
  | none=>none

theorem zq {l:List Oper}{F:Fr}{o:Oper}{r:Bool}(h:zc l F o=some r){n:Nat}{a:Act}(ha:Fits n F a):
  Region.wanted o (yielded l.toArray a.tmps)=r:=by
 unfold zc at h
 unfold Region.wanted
 split at h
 ·rename_i hg;simp only[Option.some.injEq] at h;subst h;rw[hg]
 ·rename_i j b hg
  rw[hg]
  split at h
  ·rename_i oj hj
   rw[z2U] at hj
   split at h
   ·rename_i d hd
    have hy:∀ v,a.tmps[d]? = some v→yielded l.toArray a.tmps j=match v with | .bool b=>some b | _=>none:=by
     intro v hv
     unfold yielded
     simp[hj,hd,hv]
     cases v<;>rfl
    show(yielded l.toArray a.tmps j == some b)=r
    split at h
    ·rename_i hv;rw[hy _ (ha.2.2 d _ hv)];simp only[Option.some.injEq] at h;subst h;cases b<;>rfl
    ·rename_i hv;rw[hy _ (ha.2.2 d _ hv)];simp only[Option.some.injEq] at h;subst h;cases b<;>rfl
    ·rename_i hv;rw[hy _ (ha.2.2 d _ hv)];simp only[Option.some.injEq] at h;subst h;cases b<;>rfl
    ·cases h
   ·cases h
  ·cases h


def RW (P:Program)(n:Nat)(ops:List Oper)(Q:Post)(rest:List Oper)(F:Fr)(w:World):Prop:=
 ∀ a,Fits n F a→wpList P ops.toArray (Q.up n) rest a w

section
variable {P:Program}{n:Nat}{Q:Post}{F:Fr}{w:World}{ops rest:List Oper}{o:Oper}

theorem RW.weak (F':Fr)(hs:F.Has F')(h:RW P n ops Q rest F' w):RW P n ops Q rest F w:=fun a ha=>h a (ha.weak hs)

theorem RW.ok {v:Value}{w':World}(hg:zc ops F o=some true)(hr:∀ a,Fits n F a→(execOp a.eval o).run P w=.ok (.value v) w'){d:Nat}(hd:o.dst=some d)(hn:Nat.blt d n=true)
  (h:RW P n ops Q rest ((d,v)::F) w'):RW P n ops Q (o::rest) F w:=fun a ha=>
 wpList_step fun K hK=>by
  rw[if_pos (zq hg ha)]
  unfold Oper.wp
  rw[hr a ha,Oper.upon_value,hd]
  exact hK _ _ (h _ (ha.put hn v))


theorem RW.ok0 {v:Value}{w':World}(hg:zc ops F o=some true)(hr:∀ a,Fits n F a→(execOp a.eval o).run P w=.ok (.value v) w')(hd:o.dst=none)
  (h:RW P n ops Q rest F w'):RW P n ops Q (o::rest) F w:=fun a ha=>
 wpList_step fun K hK=>by
  rw[if_pos (zq hg ha)]
  unfold Oper.wp
  rw[hr a ha,Oper.upon_value,hd]
  exact hK _ _ (h _ ha)

theorem RW.unit {w':World}(hg:zc ops F o=some true)(hr:∀ a,Fits n F a→(execOp a.eval o).run P w=.ok .skip w')(hd:o.dst=none)
  (h:RW P n ops Q rest F w'):RW P n ops Q (o::rest) F w:=fun a ha=>
 wpList_step fun K hK=>by
  rw[if_pos (zq hg ha)]
  unfold Oper.wp
  rw[hr a ha,Oper.upon_skip,hd]
  exact hK _ _ (h _ ha)

theorem RW.skip (hg:zc ops F o=some false){d:Nat}(hd:o.dst=some d)(hn:Nat.blt d n=true)
  (h:RW P n ops Q rest ((d,undef)::F) w):RW P n ops Q (o::rest) F w:=fun a ha=>
 wpList_step fun K hK=>by
  rw[if_neg (by rw[zq hg ha];simp),hd]
  exact hK _ _ (h _ (ha.put hn undef))

theorem RW.skip0 (hg:zc ops F o=some false)(hd:o.dst=none)
  (h:RW P n ops Q rest F w):RW P n ops Q (o::rest) F w:=fun a ha=>
 wpList_step fun K hK=>by
  rw[if_neg (by rw[zq hg ha];simp),hd]
  exact hK _ _ (h _ ha)

theorem RW.quiet {v:Value}(hg:zc ops F o=some true)(hq:Quiet P n F w o v){d:Nat}(hd:o.dst=some d)(hn:Nat.blt d n=true)
  (h:RW P n ops Q rest ((d,v)::F) w):RW P n ops Q (o::rest) F w:=RW.ok hg (fun a ha=>hq a w ha (Ext.refl w)) hd hn h


def pvs (T:TT)(n:Nat)(ops:List Oper):Nat→List Oper→Fr→Option (List Oper×Fr)
 | 0,rest,F=>some (rest,F)
 | _+1,[],F=>some ([],F)
 | k+1,o::rest,F=>match zc ops F o,o.dst with
  | some true,some d=>match Nat.blt d n,pv T F o.op with
   | true,some v=>pvs T n ops k rest ((d,v)::F)
   | _,_=>none
  | some true,none=>match pv T F o.op with
   | some _=>pvs T n ops k rest F
   | none=>none
  | some false,some d=>match Nat.blt d n with
   | true=>pvs T n ops k rest ((d,undef)::F)
   | false=>none
  | some false,none=>pvs T n ops k rest F
  | none,_=>none

def chunks:Nat→List Value→List Value
 | 0,_=>[]
 | k+1,z=>z++chunks k z


def z3c:Value→List Value
 | .agg ⟨cs⟩=>cs
 | v=>[v]

theorem z7X (v:Value):v.cells.toList=z3c v:=by
 unfold Value.cells z3c
 split<;>simp_all


def zsv (T:TT)(F:Fr):Op→Option (List Value×TypeId)
 | .alloc e=>match T.get e with
  | some i=>some (i.zero,e)
  | none=>none
 | .box e x=>match F.ev x with
  | some v=>some (z3c v,e)
  | none=>none
 | _=>none

theorem znd {T:TT}(ht:TTok P T){cs:List Value}{e:TypeId}(h:zsv T F o.op=some (cs,e)){a:Act}(ha:Fits n F a):
  (execOp a.eval o).run P w=.ok (.value (.pointer (some ⟨w.heap.size,0,none⟩))) (w.alloc (.cells ⟨cs⟩ e)):=by
 unfold zsv at h
 unfold execOp
 split at h<;>rename_i q<;>(try rw[q])
 ·split at h
  ·rename_i i hi
   simp only[Option.some.injEq,Prod.mk.injEq] at h
   obtain⟨rfl,rfl⟩:=h
   obtain⟨j,hj,_,_,z,hz,G⟩:=ht.info hi
   have hc:z.cells=⟨i.zero⟩:=by rw[← G]
   simp[Instr.alloc,zeroValue,typeInfo,hj,hz,newVar,newRow,hc]
  ·cases h
 ·split at h
  ·rename_i v hv
   simp only[Option.some.injEq,Prod.mk.injEq] at h
   obtain⟨rfl,rfl⟩:=h
   have hc:v.cells=⟨z3c v⟩:=by rw[← z7X]
   simp[Instr.box,newVar,newRow,ha.ev hv,hc]
  ·cases h
 ·cases h

def Ret (R:Value→World→Prop):Ending→World→Prop
 | .returned v,w=>R v w
 | _,_=>False


def Enters (P:Program)(f:FuncId):Prop:=∃ fn c,P.funcs[f]? = some fn∧fn.body=some c∧(fn.name == "runtime.NumGoroutine")=false

theorem zne {f:FuncId}(h:Enters P f)(q:Array Value):(callFunc f q).run P w=.ok (.enter f q) w:=by
 obtain⟨fn,c,h1,h2,h3⟩:=h
 unfold callFunc
 have G:¬ fn.name = "runtime.NumGoroutine":=by simpa using h3
 simp[h1,h2,G]

def zjA (F:Fr):Op→Option (FuncId×List Value)
 | .call { callee:=.value f,args:=⟨xs⟩,argTypes:=_ }=>match F.ev f,F.evs xs with
  | some (.func (.func g) ⟨first⟩ ⟨cap⟩),some vs=>some (g,first++vs++cap)
  | _,_=>none
 | _=>none

theorem zgH {f:FuncId}{vs:List Value}(q:Enters P f)(h:zjA F o.op=some (f,vs)){a:Act}(ha:Fits n F a):
  (execOp a.eval o).run P w=.ok (.enter f ⟨vs⟩) w:=by
 unfold zjA at h
 unfold execOp
 split at h
 ·rename_i G
  rw[G]
  split at h
  ·rename_i hf hv
   simp only[Option.some.injEq,Prod.mk.injEq] at h
   obtain⟨rfl,rfl⟩:=h
   simp[resolve,ha.ev hf,Deferred.ofValue,invoke,ha.evs hv,zne q]
  ·cases h
 ·cases h

def Fr.putO (F:Fr):Option Nat→Value→Fr
 | some d,v=>(d,v)::F
 | none,_=>F

def zhM (n:Nat):Option Nat→Bool
 | some d=>Nat.blt d n
 | none=>true

theorem Fits.putO {a:Act}(ha:Fits n F a){d:Option Nat}(hd:zhM n d=true)(v:Value):Fits n (F.putO d v) (a.put d v):=by
 cases d with
 | some d=>exact ha.put hd v
 | none=>exact ha

end
end Go.E



namespace Go.E
open Go.RowKit

theorem zpy (g off:Nat):Addr.add ⟨g,0,none⟩ off=⟨g,off,none⟩:=by unfold Addr.add;by_cases hj:off=0<;>simp[hj]
theorem zi9 (g off i:Nat):Addr.add ⟨g,off,none⟩ i=⟨g,off+i,none⟩:=by unfold Addr.add;by_cases hj:i=0<;>simp[hj]

def z9W:List Value→Bool
 | []=>true
 | v::vs=>match v.oneCell' with
  | true=>z9W vs
  | false=>false

section
variable {P:Program}

theorem z3F (g off:Nat)(e:TypeId):∀ (vs:List Value) (i:Nat) (w:World) (cs cs':List Value),z9W vs=true→w.heap[g]? = some (.cells ⟨cs⟩ e (0,0))→z9Q cs (off+i) vs=some cs'→
  ∃ w',(storeCells ⟨g,off,none⟩ vs i).run P w=.ok () w'∧w'.heap[g]? = some (.cells ⟨cs'⟩ e (0,0))∧(∀ b,b≠g→w'.heap[b]? = w.heap[b]?)∧w'.heap.size=w.heap.size∧w'.os=w.os∧w'.tape=w.tape∧w'.output=w.output∧w'.drawn=w.drawn
 | [],i,w,cs,cs',_,hg,hs=>by
  simp only[z9Q,Option.some.injEq] at hs
  subst hs
  exact⟨w,by simp[storeCells],hg,fun _ _=>rfl,rfl,rfl,rfl,rfl,rfl⟩
 | v::vs,i,w,cs,cs',h1,hg,hs=>by
  unfold z9W at h1
  unfold z9Q at hs
  split at h1
  ·rename_i hv
   split at hs
   ·rename_i H
    have q:off+i<cs.length:=by simpa using H
    have hc:w.cell? ⟨g,off+i,none⟩=some (cs[off+i]):=by rw[cell_of_row w g _ ⟨cs⟩ e (0,0) hg];simp[q]
    have hf:w.frozen? ⟨g,off+i,none⟩=false:=frozen_of_row w g _ ⟨cs⟩ e hg
    have G:(w.setCell ⟨g,off+i,none⟩ v).heap[g]? = some (.cells ⟨cs.set (off+i) v⟩ e (0,0)):=by
     rw[heap_setCell_same w g (off+i) ⟨cs⟩ e v hg]
     simp
    obtain⟨w',r1,r2,r3,r4,r5,r6,r7,r8⟩:=z3F g off e vs (i+1) (w.setCell ⟨g,off+i,none⟩ v) _ cs' h1 G hs
    refine⟨w',?_,r2,fun b hb=>(r3 b hb).trans (heap_setCell_other w _ b v hb),by rw[r4];simp,r5,r6,r7,r8⟩
    unfold storeCells
    simp only[zi9,Sem.run_bind]
    rw[run_store P w _ v _ hv]
    simp only[stored,hc,hf]
    exact r1
   ·cases hs
  ·cases h1

end

section
variable {P:Program}{n:Nat}{Q:Post}{F:Fr}{W:Base}{w:World}{ops rest:List Oper}{o:Oper}{T:TT}(ht:TTok P T)
include ht


end
end Go.E



namespace Go.E
open Go.RowKit

def ziw:Nat→List Value→Fr
 | _,[]=>[]
 | i,v::vs=>(i,v)::ziw (i+1) vs

theorem ziv:∀ (vs:List Value) (i j:Nat) (v:Value),(ziw i vs).get j=some v→i≤j∧vs[j - i]? = some v
 | [],i,j,v,h=>by simp[ziw,Fr.get] at h
 | u::vs,i,j,v,h=>by
  unfold ziw at h
  rw[Fr.get_cons] at h
  split at h
  ·rename_i o;subst o;simpa using h
  ·rename_i o
   obtain⟨h1,h2⟩:=ziv vs (i+1) j v h
   refine⟨by omega,?_⟩
   have:j - i=(j - (i+1))+1:=by omega
   rw[this,List.getElem?_cons_succ]
   exact h2


inductive ResIs (P:Program) (F:Fr) (w:World):ResultVar→Value→Prop where
 | tmp {t:Tmp}{v:Value}(h:F.get t=some v):ResIs P F w (.tmp t) v
 | cell {a:Tmp}{ty:TypeId}{v:Value}{q:Addr}(h:F.get a=some (.pointer (some q))) (hl:(loadVar ty q).run P w=.ok v w):ResIs P F w (.cell a ty) v

inductive ResAll (P:Program) (F:Fr) (w:World):List ResultVar→List Value→Prop where
 | nil:ResAll P F w [] []
 | cons {r:ResultVar}{v:Value}{rs:List ResultVar}{vs:List Value}(h:ResIs P F w r v) (hs:ResAll P F w rs vs):ResAll P F w (r::rs) (v::vs)

def znh:List Value→Value
 | [v]=>v
 | vs=>.tuple ⟨vs⟩


def zya (P:Program)(rs:List ResultVar)(R:Value→World→Prop):Post
 | .normal,F,w=>∃ vs,ResAll P F w rs vs∧R (znh vs) w
 | .ret,F,w=>∃ vs,ResAll P F w rs vs∧R (znh vs) w
 | _,_,_=>False

section
variable {P:Program}

def zxV (tmps:Array Value)(r:ResultVar):Sem Value:=
 match r with
 | .tmp t=>pure (tmps.getD t undef)
 | .cell a t=>do loadVar t (← asAddr (tmps.getD a undef))

theorem zr1 (fn:Func)(o:Array Value):results fn o=(do
  let vs ← fn.results.mapM (zxV o)
  pure (if h:vs.size=1 then vs[0] else .tuple vs)):=by
 unfold results
 congr 2

theorem zs6 {n:Nat}{F:Fr}{w:World}{a:Act}(ha:Fits n F a){r:ResultVar}{v:Value}(h:ResIs P F w r v):(zxV a.tmps r).run P w=.ok v w:=by
 unfold zxV
 cases h with
 | tmp h=>simp[ha.2.2 _ _ h]
 | cell h hl=>simp[ha.2.2 _ _ h,asAddr,hl]

theorem zhc {n:Nat}{F:Fr}{w:World}{a:Act}(ha:Fits n F a):∀ {rs:List ResultVar}{vs:List Value},ResAll P F w rs vs→(rs.mapM (zxV a.tmps)).run P w=.ok vs w
 | [],_,.nil=>by simp
 | r::rs,_,.cons h hs=>by
  rw[List.mapM_cons,Sem.run_bind,zs6 ha h,Result.andThen_ok,Sem.run_bind,zhc ha hs,Result.andThen_ok,Sem.run_pure]

theorem ziH {n:Nat}{F:Fr}{w:World}{a:Act}(ha:Fits n F a){fn:Func}{rs:List ResultVar}{vs:List Value}(hr:fn.results.toList=rs)(h:ResAll P F w rs vs):
  (results fn a.tmps).run P w=.ok (znh vs) w:=by
 subst hr
 have hm:=zhc ha h
 have o:(if h:vs.toArray.size=1 then vs.toArray[0] else Value.tuple vs.toArray)=znh vs:=by
  match vs with
  | []=>rfl
  | [v]=>rfl
  | v::u::r=>simp[znh]
 rw[zr1,← Array.toArray_toList (xs:=fn.results),List.mapM_toArray,Sem.run_bind,Sem.run_map,hm,Result.andThen_ok,Result.andThen_ok,Sem.run_pure,o]

end
end Go.E



namespace Go.E

section
variable {P:Program}{ops:Array Oper}{Q:Exit→Act→World→Prop}{md:Region.Mode}{T V:World→Prop}{wr:Nat→Bool}


def zhQ (wr:Nat→Bool)(listed:Array Bool):Prop:=∀ k,wr k=true→listed.getD k false=false

def zaE (P:Program)(md:Region.Mode)(ops:Array Oper)(Q:Exit→Act→World→Prop)(wr:Nat→Bool)(T V:World→Prop):Nat→Array Bool→Act→World→Prop
 | 0,listed,a,w=>Region.ready md ops listed=[]∧Q .normal a w
 | fu+1,listed,a,w=>
  (Region.ready md ops listed=[]→Q .normal a w)∧
  ∀ i∈Region.ready md ops listed,wpOp P ops Q i (fun a' w'=>((zhQ wr (listed.setIfInBounds i true)→T w')∧V w')∧zaE P md ops Q wr T V fu (listed.setIfInBounds i true) a' w') a w

theorem zkc:∀ (fu:Nat) (o:Array Bool) (a:Act) (w:World),zaE P md ops Q wr T V fu o a w→wpAny P md ops Q fu o a w
 | 0,_,_,_,h=>h
 | fu+1,_,_,_,h=>⟨h.1,fun i hi=>wpOp_mono (fun a' w' h'=>zkc fu _ a' w' h'.2) (h.2 i hi)⟩

theorem z4w {listed:Array Bool}{i k:Nat}(h:i≠k):(listed.setIfInBounds i true).getD k false=listed.getD k false:=by
 simp[Array.getD_eq_getD_getElem?,Array.getElem?_setIfInBounds_ne h]

theorem zmQ {i:Nat}{oi:Oper}{v:Value}(hi:ops[i]? = some oi)(Z:∀ (j:Nat) (o:Oper) cs b,ops[j]? = some o→o.op≠.select cs b)
  (hQ:∀ c a w,Q (.panic c) (a.put oi.dst v) w→Q (.panic c) a w)(p0:wr i=false)
  (c0:∀ (j:Nat) (oj:Oper),wr j=true→ops[j]? = some oj→∃ e,e∈oj.after∧Region.binds md e=true∧e.on=i):
  ∀ (fu:Nat) (listed:Array Bool) (a:Act) (w:World),
   (∀ j oj,ops[j]? = some oj→j≠i→listed.getD j true=false→(∀ e∈oj.after,Region.binds md e=true→e.on≠i)→oi.apart ops oj=true)→
   i∈Region.ready md ops listed→YieldsIf P ops T oi v a→zhQ wr listed→T w→V w→
   zaE P md ops Q wr T V fu (listed.setIfInBounds i true) (a.put oi.dst v) w→zaE P md ops Q wr T V (fu+1) listed a w:=by
 intro fu
 induction fu with
 | zero=>
  intro listed a w _ hr hy _ hT hV H
  refine⟨fun h=>(by rw[h] at hr;cases hr),fun j hj=>?_⟩
  by_cases hji:j=i
  ·subst hji;exact hy.wpOp hi hT ⟨⟨fun _=>hT,hV⟩,H⟩
  ·have:=ready_mono hj hji
   rw[H.1] at this
   cases this
 | succ fu ih=>
  intro listed a w q hr hy f0 hT hV H
  refine⟨fun h=>(by rw[h] at hr;cases hr),fun j hj=>?_⟩
  by_cases hji:j=i
  ·subst hji;exact hy.wpOp hi hT ⟨⟨fun _=>hT,hV⟩,H⟩
  ·have h1:=H.2 j (ready_mono hj hji)
   obtain⟨O,oj,a0,b0⟩:=mem_ready.1 hj
   have X:∀ e∈oj.after,Region.binds md e=true→e.on≠i:=fun e he hb j0=>by
    have h1:=b0 e he hb
    have h0:=(mem_ready.1 hr).1
    rw[j0] at h1
    rcases Nat.lt_or_ge i listed.size with h' | h'
    ·simp[h'] at h0 h1;rw[h0] at h1;cases h1
    ·simp[Array.getElem?_eq_none h'] at h1
   have i0:wr j=false:=by
    cases hw:wr j with
    | false=>rfl
    | true=>
     obtain⟨e,he,hb,ho⟩:=c0 j oj hw a0
     exact absurd ho (X e he hb)
   have h2:=wpOp_putIf a0 (q j oj a0 hji O X) (fun cs b=>Z i oi cs b hi) (fun cs b=>Z j oj cs b a0) hQ hy h1
   have G:∀ k ok,ops[k]? = some ok→k≠i→(listed.setIfInBounds j true).getD k true=false→
     (∀ e∈ok.after,Region.binds md e=true→e.on≠i)→oi.apart ops ok=true:=fun k ok hk k0 g0 o0=>by
    refine q k ok hk k0 ?_ o0
    by_cases hjk:j=k
    ·subst hjk;exact O
    ·rw[getD_set_ne true hjk] at g0;exact g0
   have e0:zhQ wr (listed.setIfInBounds j true):=fun k hk=>by
    rw[z4w (by rintro rfl;rw[i0] at hk;cases hk)]
    exact f0 k hk
   have Y:zhQ wr ((listed.setIfInBounds i true).setIfInBounds j true):=fun k hk=>by
    rw[z4w (by rintro rfl;rw[i0] at hk;cases hk),z4w (by rintro rfl;rw[p0] at hk;cases hk)]
    exact f0 k hk
   refine wpOp_mono (fun a' w' h3=>⟨⟨fun _=>h3.2.1.1 Y,h3.2.1.2⟩,ih (listed.setIfInBounds j true) a' w' G (ready_mono hr (Ne.symm hji)) h3.1 e0 (h3.2.1.1 Y) h3.2.1.2 ?_⟩) h2
   rw[Array.setIfInBounds_comm _ _ hji]
   exact h3.2.2

theorem zkQ {i:Nat}{oi:Oper}{v:Value}(hi:ops[i]? = some oi)(Y:∀ (j:Nat) (o:Oper) cs b,ops[j]? = some o→o.op≠.select cs b)
  (hQ:∀ c a w,Q (.panic c) (a.put oi.dst v) w→Q (.panic c) a w)(c0:wr i=false):
  ∀ (fu:Nat) (listed:Array Bool) (a:Act) (w:World),
   (∀ j oj,ops[j]? = some oj→j≠i→listed.getD j true=false→(∀ e∈oj.after,Region.binds md e=true→e.on≠i)→oi.apart ops oj=true)→
   i∈Region.ready md ops listed→YieldsIf P ops V oi v a→(zhQ wr listed→T w)→V w→
   zaE P md ops Q wr T V fu (listed.setIfInBounds i true) (a.put oi.dst v) w→zaE P md ops Q wr T V (fu+1) listed a w:=by
 intro fu
 induction fu with
 | zero=>
  intro listed a w _ hr hy hT hV H
  refine⟨fun h=>(by rw[h] at hr;cases hr),fun j hj=>?_⟩
  by_cases hji:j=i
  ·subst hji;exact hy.wpOp hi hV ⟨⟨fun hn=>hT fun k hk=>by have:=hn k hk;rwa [z4w (by rintro rfl;rw[c0] at hk;cases hk)] at this,hV⟩,H⟩
  ·have:=ready_mono hj hji
   rw[H.1] at this
   cases this
 | succ fu ih=>
  intro listed a w q hr hy hT hV H
  refine⟨fun h=>(by rw[h] at hr;cases hr),fun j hj=>?_⟩
  by_cases hji:j=i
  ·subst hji;exact hy.wpOp hi hV ⟨⟨fun hn=>hT fun k hk=>by have:=hn k hk;rwa [z4w (by rintro rfl;rw[c0] at hk;cases hk)] at this,hV⟩,H⟩
  ·have h1:=H.2 j (ready_mono hj hji)
   obtain⟨O,oj,b0,Z⟩:=mem_ready.1 hj
   have a0:∀ e∈oj.after,Region.binds md e=true→e.on≠i:=fun e he hb f0=>by
    have h1:=Z e he hb
    have h0:=(mem_ready.1 hr).1
    rw[f0] at h1
    rcases Nat.lt_or_ge i listed.size with h' | h'
    ·simp[h'] at h0 h1;rw[h0] at h1;cases h1
    ·simp[Array.getElem?_eq_none h'] at h1
   have h2:=wpOp_putIf b0 (q j oj b0 hji O a0) (fun cs b=>Y i oi cs b hi) (fun cs b=>Y j oj cs b b0) hQ hy h1
   have G:∀ k ok,ops[k]? = some ok→k≠i→(listed.setIfInBounds j true).getD k true=false→
     (∀ e∈ok.after,Region.binds md e=true→e.on≠i)→oi.apart ops ok=true:=fun k ok hk g0 e0 i0=>by
    refine q k ok hk g0 ?_ i0
    by_cases hjk:j=k
    ·subst hjk;exact O
    ·rw[getD_set_ne true hjk] at e0;exact e0
   have X:zhQ wr (listed.setIfInBounds j true)→zhQ wr ((listed.setIfInBounds i true).setIfInBounds j true):=fun hn k hk=>by
    rw[Array.setIfInBounds_comm _ _ (Ne.symm hji),z4w (by rintro rfl;rw[c0] at hk;cases hk)]
    exact hn k hk
   refine wpOp_mono (fun a' w' h3=>⟨⟨fun hn=>h3.2.1.1 (X hn),h3.2.1.2⟩,ih (listed.setIfInBounds j true) a' w' G (ready_mono hr (Ne.symm hji)) h3.1 (fun hn=>h3.2.1.1 (X hn)) h3.2.1.2 ?_⟩) h2
   rw[Array.setIfInBounds_comm _ _ hji]
   exact h3.2.2

theorem z9G {i:Nat}{oi:Oper}{v:Value}{fu:Nat}{listed:Array Bool}{a:Act}{w:World}(hi:ops[i]? = some oi)
  (hs:Region.noSelect ops=true)(hf:Region.free md ops listed i=true)(hr:(Region.ready md ops listed).contains i=true)
  (hQ:∀ c a w,Q (.panic c) (a.put oi.dst v) w→Q (.panic c) a w)(o:wr i=false)(hy:YieldsIf P ops V oi v a)(hT:zhQ wr listed→T w)(hV:V w)
  (h:zaE P md ops Q wr T V fu (listed.setIfInBounds i true) (a.put oi.dst v) w):zaE P md ops Q wr T V (fu+1) listed a w:=
 zkQ hi (Region.noSelect_spec hs) hQ o fu listed a w (Region.free_spec hi hf) (by simpa using hr) hy hT hV h

theorem zoE {i:Nat}{oi:Oper}{v:Value}{fu:Nat}{listed:Array Bool}{a:Act}{w:World}(hi:ops[i]? = some oi)
  (hs:Region.noSelect ops=true)(hf:Region.free md ops listed i=true)(hr:(Region.ready md ops listed).contains i=true)
  (hQ:∀ c a w,Q (.panic c) (a.put oi.dst v) w→Q (.panic c) a w)(q:wr i=false)
  (o:∀ (j:Nat) (oj:Oper),wr j=true→ops[j]? = some oj→∃ e,e∈oj.after∧Region.binds md e=true∧e.on=i)
  (hy:YieldsIf P ops T oi v a)(hn:zhQ wr listed)(hT:T w)(hV:V w)
  (h:zaE P md ops Q wr T V fu (listed.setIfInBounds i true) (a.put oi.dst v) w):zaE P md ops Q wr T V (fu+1) listed a w:=
 zmQ hi (Region.noSelect_spec hs) hQ q o fu listed a w (Region.free_spec hi hf) (by simpa using hr) hy hn hT hV h

theorem zqz {rs:List Nat}{fu:Nat}{listed:Array Bool}{a:Act}{w:World}(hr:Region.ready md ops listed=rs)(o:rs≠[])
  (h:∀ i∈rs,wpOp P ops Q i (fun a' w'=>((zhQ wr (listed.setIfInBounds i true)→T w')∧V w')∧zaE P md ops Q wr T V fu (listed.setIfInBounds i true) a' w') a w):zaE P md ops Q wr T V (fu+1) listed a w:=
 ⟨fun h0=>absurd (hr ▸ h0) o,hr ▸ h⟩

theorem zoF {o:Array Bool}{a:Act}{w:World}(hr:Region.ready md ops o=[])(h:Q .normal a w):
  ∀ fu,zaE P md ops Q wr T V fu o a w
 | 0=>⟨hr,h⟩
 | _+1=>⟨fun _=>h,by rw[hr];simp⟩

theorem zoD {id:Nat}{a:Act}{w:World}(hm:P.follows .mixedOrders=true)
  (h:zaE P .any ops Q wr T V ops.size (Array.replicate ops.size false) a { w with drawn:=w.drawn+1 }):(Code.region id ops true).wp P Q a w:=
 wp_region_any hm (zkc _ _ _ _ h)
end
end Go.E



namespace Go.E
open Go.RowKit


def Post.only (Q:Post):Post
 | .normal,F,w=>Q .normal F w
 | _,_,_=>False


def DW (P:Program)(n:Nat)(ops:List Oper)(Q:Post)(W9:Base)(w0:World)(wr:Nat→Bool)(fu:Nat)(listed:Array Bool)(F:Fr)(w:World):Prop:=
 Region.noSelect ops.toArray=true→(zhQ wr listed→Ext w0 w)→Ext W9 w→∀ a,Fits n F a→zaE P .any ops.toArray (Q.only.up n) wr (onW w0) (onW W9) fu listed a w


def LW (P:Program)(n:Nat)(ops:List Oper)(Q:Post)(W9:Base)(w0:World)(wr:Nat→Bool)(fu:Nat)(listed:Array Bool)(i:Nat)(F:Fr)(w:World):Prop:=
 Region.noSelect ops.toArray=true→(zhQ wr listed→Ext w0 w)→Ext W9 w→∀ a,Fits n F a→wpOp P ops.toArray (Q.only.up n) i (fun a' w'=>((zhQ wr (listed.setIfInBounds i true)→Ext w0 w')∧Ext W9 w')∧zaE P .any ops.toArray (Q.only.up n) wr (onW w0) (onW W9) fu (listed.setIfInBounds i true) a' w') a w

theorem zes {n:Nat}{Q:Post}(v:Value)(d:Option Nat):∀ c a w,Post.up n Q.only (.panic c) (a.put d v) w→Post.up n Q.only (.panic c) a w:=by
 rintro c a w ⟨F',_,h⟩;exact h.elim

def zhi (ops:List Oper)(listed:Array Bool)(i:Nat):Bool:=
 match Region.free .any ops.toArray listed i with
 | true=>(Region.ready .any ops.toArray listed).contains i
 | false=>false

theorem zcn {ops:List Oper}{listed:Array Bool}{i:Nat}(h:zhi ops listed i=true):Region.free .any ops.toArray listed i=true∧(Region.ready .any ops.toArray listed).contains i=true:=by
 unfold zhi at h
 split at h
 ·rename_i hf;exact⟨hf,h⟩
 ·cases h

def marked (listed:Array Bool):List Nat→Array Bool
 | []=>listed
 | i::r=>marked (listed.setIfInBounds i true) r

def zje (ops:List Oper):List Nat→Array Bool→Bool
 | [],_=>true
 | i::r,listed=>match zhi ops listed i with
  | true=>zje ops r (listed.setIfInBounds i true)
  | false=>false


def zvs (T:TT)(n:Nat)(ops:List Oper):List Nat→Fr→Option Fr
 | [],F=>some F
 | i::r,F=>match nthv ops i with
  | some o=>match zc ops F o,o.dst with
   | some true,some d=>match Nat.blt d n,pv T F o.op with
    | true,some v=>zvs T n ops r ((d,v)::F)
    | _,_=>none
   | some false,some d=>match Nat.blt d n with
    | true=>zvs T n ops r ((d,undef)::F)
    | false=>none
   | some true,none=>match pv T F o.op with
    | some _=>zvs T n ops r F
    | none=>none
   | some false,none=>zvs T n ops r F
   | none,_=>none
  | _=>none

section
variable {P:Program}{n:Nat}{Q:Post}{F:Fr}{w w0:World}{W9:Base}{ops:List Oper}{wr:Nat→Bool}{fu:Nat}{listed:Array Bool}

theorem WP.drawn {id:Nat}(hm:P.follows .mixedOrders=true)(k:Nat)(hk:ops.toArray.size=k)(hs:Region.noSelect ops.toArray=true)
  (hv:Ext W9 w)(h:DW P n ops Q W9 w wr k (Array.replicate k false) F { w with drawn:=w.drawn+1 }):WP P n (.region id ops.toArray true) Q F w:=fun a ha=>by
 subst hk
 refine wp_mono (zoD hm (h hs (fun _=>Ext.draw w) (hv.trans (Ext.draw w)) a ha)) ?_
 rintro e a' w' ⟨F',h1,h2⟩
 cases e<;>first | exact⟨F',h1,h2⟩ | exact h2.elim

theorem DW.weak (F':Fr)(hs:F.Has F')(h:DW P n ops Q W9 w0 wr fu listed F' w):DW P n ops Q W9 w0 wr fu listed F w:=fun hn he hv a ha=>h hn he hv a (ha.weak hs)

theorem DW.done (hr:Region.ready .any ops.toArray listed=[])(h:Q .normal F w):DW P n ops Q W9 w0 wr fu listed F w:=fun _ he _ _ ha=>zoF hr ⟨F,ha,h⟩ fu


theorem zhQ.back {i:Nat}(hw:wr i=false)(h:zhQ wr (listed.setIfInBounds i true)):zhQ wr listed:=fun k hk=>by
 have:=h k hk
 rwa [z4w (by rintro rfl;rw[hw] at hk;cases hk)] at this

theorem DW.quiet {o:Oper}{v:Value}(i:Nat)(X:wr i=false)(q:∀ (j:Nat) (oj:Oper),wr j=true→ops[j]? = some oj→∃ e,e∈oj.after∧Region.binds .any e=true∧e.on=i)(G:zhQ wr listed)(hi:nthv ops i=some o)(hf:zhi ops listed i=true)(hg:zc ops F o=some true)(hq:Quiet P n F w0 o v){d:Nat}(hd:o.dst=some d)(hn:Nat.blt d n=true)
  (h:DW P n ops Q W9 w0 wr fu (listed.setIfInBounds i true) ((d,v)::F) w):DW P n ops Q W9 w0 wr (fu+1) listed F w:=fun hs he hv a ha=>by
 rw[z2U] at hi
 obtain⟨h1,h2⟩:=zcn hf
 refine zoE (oi:=o) (v:=v) (by simpa using hi) hs h1 h2 (zes v _) X (fun j oj hj H=>q j oj hj (by simpa using H)) (.inl ⟨zq hg ha,fun w' O=>hq a w' ha O⟩) G (he G) hv ?_
 rw[hd]
 exact h hs (fun _=>he G) hv _ (ha.put hn v)


theorem DW.quietV {o:Oper}{v:Value}(i:Nat)(q:wr i=false)(hi:nthv ops i=some o)(hf:zhi ops listed i=true)(hg:zc ops F o=some true)(hq:Quiet P n F W9 o v){d:Nat}(hd:o.dst=some d)(hn:Nat.blt d n=true)
  (h:DW P n ops Q W9 w0 wr fu (listed.setIfInBounds i true) ((d,v)::F) w):DW P n ops Q W9 w0 wr (fu+1) listed F w:=fun hs he hv a ha=>by
 rw[z2U] at hi
 obtain⟨h1,h2⟩:=zcn hf
 refine z9G (oi:=o) (v:=v) (by simpa using hi) hs h1 h2 (zes v _) q (.inl ⟨zq hg ha,fun w' G=>hq a w' ha G⟩) he hv ?_
 rw[hd]
 exact h hs (fun hn'=>he (hn'.back q)) hv _ (ha.put hn v)

theorem DW.run {T:TT}(ht:TTok P T)(l:List Nat)(q:∀ i,i∈l→wr i=false)(hl:zje ops l listed=true){F':Fr}(hr:zvs T n ops l F=some F')
  (h:DW P n ops Q W9 w0 wr fu (marked listed l) F' w):DW P n ops Q W9 w0 wr (fu+l.length) listed F w:=by
 induction l generalizing listed F with
 | nil=>simp only[zvs,Option.some.injEq] at hr;subst hr;exact h
 | cons i l ih=>
  unfold zje at hl
  split at hl
  ·rename_i X
   unfold zvs at hr
   split at hr
   ·rename_i o hi
    obtain⟨hf,O⟩:=zcn X
    rw[z2U] at hi
    have H:ops.toArray[i]? = some o:=by simpa using hi
    split at hr
    ·rename_i d hg hd
     split at hr
     ·rename_i v hn hv
      intro hs he G a ha
      refine z9G (oi:=o) (v:=v) H hs hf O (zes v _) (q i (by simp)) (.inl ⟨zq hg ha,fun w' _=>znc ht hv ha w'⟩) he G ?_
      rw[hd]
      exact ih (fun j hj=>q j (by simp[hj])) hl hr h hs (fun hn'=>he (hn'.back (q i (by simp)))) G _ (ha.put hn v)
     ·cases hr
    ·rename_i d hg hd
     split at hr
     ·rename_i hn
      intro hs he G a ha
      refine z9G (oi:=o) (v:=undef) H hs hf O (zes undef _) (q i (by simp)) (.inr ⟨zq hg ha,rfl⟩) he G ?_
      rw[hd]
      exact ih (fun j hj=>q j (by simp[hj])) hl hr h hs (fun hn'=>he (hn'.back (q i (by simp)))) G _ (ha.put hn undef)
     ·cases hr
    ·rename_i hg hd
     split at hr
     ·rename_i v hv
      intro hs he G a ha
      refine z9G (oi:=o) (v:=v) H hs hf O (zes v _) (q i (by simp)) (.inl ⟨zq hg ha,fun w' _=>znc ht hv ha w'⟩) he G ?_
      rw[hd]
      exact ih (fun j hj=>q j (by simp[hj])) hl hr h hs (fun hn'=>he (hn'.back (q i (by simp)))) G _ ha
     ·cases hr
    ·rename_i hg hd
     intro hs he G a ha
     refine z9G (oi:=o) (v:=undef) H hs hf O (zes undef _) (q i (by simp)) (.inr ⟨zq hg ha,rfl⟩) he G ?_
     rw[hd]
     exact ih (fun j hj=>q j (by simp[hj])) hl hr h hs (fun hn'=>he (hn'.back (q i (by simp)))) G _ ha
    ·cases hr
   ·cases hr
  ·cases hl


theorem DW.loud (rs:List Nat)(hr:Region.ready .any ops.toArray listed=rs)(q:rs≠[])(h:∀ i,i∈rs→LW P n ops Q W9 w0 wr fu listed i F w):DW P n ops Q W9 w0 wr (fu+1) listed F w:=fun hs he hv a ha=>
 zqz hr q fun i hi=>h i hi hs he hv a ha

theorem DW.one (i:Nat)(hr:Region.ready .any ops.toArray listed=[i])(h:LW P n ops Q W9 w0 wr fu listed i F w):DW P n ops Q W9 w0 wr (fu+1) listed F w:=
 DW.loud [i] hr (by simp) (by rintro j hj;simp only[List.mem_singleton] at hj;subst hj;exact h)

theorem DW.two (i j:Nat)(hr:Region.ready .any ops.toArray listed=[i,j])(h:LW P n ops Q W9 w0 wr fu listed i F w)(h':LW P n ops Q W9 w0 wr fu listed j F w):DW P n ops Q W9 w0 wr (fu+1) listed F w:=
 DW.loud [i,j] hr (by simp) (by
  rintro k hk
  simp only[List.mem_cons,List.not_mem_nil,or_false] at hk
  rcases hk with rfl | rfl
  ·exact h
  ·exact h')

theorem LW.skip {o:Oper}{i:Nat}(q:wr i=false)(hi:nthv ops i=some o)(hg:zc ops F o=some false)(hn:zhM n o.dst=true)
  (h:DW P n ops Q W9 w0 wr fu (listed.setIfInBounds i true) (F.putO o.dst undef) w):LW P n ops Q W9 w0 wr fu listed i F w:=fun hs he hv a ha=>by
 rw[z2U] at hi
 have G:ops.toArray[i]? = some o:=by simpa using hi
 unfold wpOp
 simp only[G]
 rw[if_neg (by rw[zq hg ha];simp)]
 exact⟨⟨fun hn'=>he (hn'.back q),hv⟩,h hs (fun hn'=>he (hn'.back q)) hv _ (ha.putO hn undef)⟩

theorem LW.ok {o:Oper}{v:Value}{w':World}{i:Nat}(q:wr i=false)(hi:nthv ops i=some o)(hg:zc ops F o=some true)(hr:∀ a,Fits n F a→(execOp a.eval o).run P w=.ok (.value v) w')(hw:Ext w w')(hn:zhM n o.dst=true)
  (h:DW P n ops Q W9 w0 wr fu (listed.setIfInBounds i true) (F.putO o.dst v) w'):LW P n ops Q W9 w0 wr fu listed i F w:=fun hs he hv a ha=>by
 rw[z2U] at hi
 have G:ops.toArray[i]? = some o:=by simpa using hi
 unfold wpOp
 simp only[G]
 rw[if_pos (zq hg ha)]
 refine .inl ?_
 unfold Oper.wp
 rw[hr a ha,Oper.upon_value]
 exact⟨⟨fun hn'=>(he (hn'.back q)).trans hw,hv.trans hw⟩,h hs (fun hn'=>(he (hn'.back q)).trans hw) (hv.trans hw) _ (ha.putO hn v)⟩


theorem LW.okW {o:Oper}{v:Value}{w':World}{i:Nat}(X:wr i=true)(O:i<listed.size)(hi:nthv ops i=some o)(hg:zc ops F o=some true)(hr:∀ a,Fits n F a→(execOp a.eval o).run P w=.ok (.value v) w')(hn:zhM n o.dst=true)(hW:Ext W9 w')
  (h:DW P n ops Q W9 w0 wr fu (listed.setIfInBounds i true) (F.putO o.dst v) w'):LW P n ops Q W9 w0 wr fu listed i F w:=fun hs he hv a ha=>by
 rw[z2U] at hi
 have H:ops.toArray[i]? = some o:=by simpa using hi
 have G:¬ zhQ wr (listed.setIfInBounds i true):=fun q=>by
  have:=q i X
  simp[Array.getD_eq_getD_getElem?,O] at this
 unfold wpOp
 simp only[H]
 rw[if_pos (zq hg ha)]
 refine .inl ?_
 unfold Oper.wp
 rw[hr a ha,Oper.upon_value]
 exact⟨⟨fun q=>absurd q G,hW⟩,h hs (fun q=>absurd q G) hW _ (ha.putO hn v)⟩

theorem LW.unitW {o:Oper}{w':World}{i:Nat}(X:wr i=true)(O:i<listed.size)(hi:nthv ops i=some o)(hg:zc ops F o=some true)(hr:∀ a,Fits n F a→(execOp a.eval o).run P w=.ok .skip w')(hd:o.dst=none)(hW:Ext W9 w')
  (h:DW P n ops Q W9 w0 wr fu (listed.setIfInBounds i true) F w'):LW P n ops Q W9 w0 wr fu listed i F w:=fun hs he hv a ha=>by
 rw[z2U] at hi
 have H:ops.toArray[i]? = some o:=by simpa using hi
 have G:¬ zhQ wr (listed.setIfInBounds i true):=fun q=>by
  have:=q i X
  simp[Array.getD_eq_getD_getElem?,O] at this
 unfold wpOp
 simp only[H]
 rw[if_pos (zq hg ha)]
 refine .inl ?_
 unfold Oper.wp
 rw[hr a ha,Oper.upon_skip,hd]
 exact⟨⟨fun q=>absurd q G,hW⟩,h hs (fun q=>absurd q G) hW _ ha⟩

theorem LW.call {o:Oper}{i:Nat}(q:wr i=false)(hi:nthv ops i=some o)(hg:zc ops F o=some true){f:FuncId}{vs:List Value}(hc:zjA F o.op=some (f,vs))(hn:zhM n o.dst=true)(G:Enters P f)
  {R:Value→World→Prop}(hf:Calls P f ⟨vs⟩ w (Ret R))(h:∀ v w',R v w'→Ext w w'∧DW P n ops Q W9 w0 wr fu (listed.setIfInBounds i true) (F.putO o.dst v) w'):LW P n ops Q W9 w0 wr fu listed i F w:=fun hs he hv a ha=>by
 rw[z2U] at hi
 have H:ops.toArray[i]? = some o:=by simpa using hi
 unfold wpOp
 simp only[H]
 rw[if_pos (zq hg ha)]
 refine .inl ?_
 unfold Oper.wp
 rw[zgH G hc ha,Oper.upon_enter]
 refine hf.mono fun e w' hr=>?_
 cases e with
 | returned v=>exact⟨⟨fun hn'=>(he (hn'.back q)).trans (h v w' hr).1,hv.trans (h v w' hr).1⟩,(h v w' hr).2 hs (fun hn'=>(he (hn'.back q)).trans (h v w' hr).1) (hv.trans (h v w' hr).1) _ (ha.putO hn v)⟩
 | panicked _=>exact hr.elim
 | outgrown=>exact hr.elim

theorem LW.new {T:TT}(ht:TTok P T){W:Base}{Rs:List Res}(hS:St W w Rs){o:Oper}{i:Nat}(q:wr i=false)(hi:nthv ops i=some o)(hg:zc ops F o=some true){cs:List Value}{e:TypeId}(hc:zsv T F o.op=some (cs,e))
  {d:Nat}(hd:o.dst=some d)(hn:Nat.blt d n=true)
  (h:∀ g (w':World),Ext w w'→St W w' (Box g cs e::Rs)→DW P n ops Q W9 w0 wr fu (listed.setIfInBounds i true) ((d,.pointer (some ⟨g,0,none⟩))::F) w'):LW P n ops Q W9 w0 wr fu listed i F w:=by
 refine LW.ok q hi hg (fun _ ha=>znd ht hc ha) (Ext.alloc w (.cells ⟨cs⟩ e)) (by rw[hd];exact hn) ?_
 rw[hd]
 exact h _ _ (Ext.alloc w (.cells ⟨cs⟩ e)) (hS.new cs e)

theorem Quiet.later {w1 w2:Base}{o:Oper}{v:Value}(he:Ext w1 w2)(h:Quiet P n F w1 o v):Quiet P n F w2 o v:=fun a w' ha hw=>h a w' ha (he.trans hw)


variable {T:TT}(ht:TTok P T){rest:List Oper}{o:Oper}
include ht

theorem RW.idx {α:Type}{U:Ty α}{w1:Base}(he:Ext w1 w)(hg:zc ops F o=some true){t e:Nat}{x ix:Operand}{i j:TI}{A:Option Addr}{len c:Nat}{xs:List α}{k:IntKind}{m:Int}(ho:o.op=.indexAddr t x ix)
  (hi:T.get t=some i)(hd:i.d=.slice e)(hj:T.get e=some j)(hs:U.size=j.size)(hpos:0<U.size)(hx:F.ev x=some (.slice A len c))(hm:F.ev ix=some (.int k m))
  {e':Nat}(hr:(tSl e' U).ro w1 [.slice A len c] xs){a:α}(h0:0≤m)(ha:xs[m.toNat]? = some a){d:Nat}(G:o.dst=some d)(hn:Nat.blt d n=true)
  (h:∀ q es,At w1 q es→U.ro w1 es a→RW P n ops Q rest ((d,.pointer (some q))::F) w):RW P n ops Q (o::rest) F w:=by
 obtain⟨q,es,h1,h2,h3⟩:=Quiet.idx (n:=n) ht ho hi hd hj hs hpos hx hm hr h0 ha
 exact RW.quiet hg (h1.later he) G hn (h q es h2 h3)

theorem RW.cut {α:Type}{U:Ty α}{w1:Base}(he:Ext w1 w)(hg:zc ops F o=some true){t e:Nat}{x:Operand}{lo hi:Option Operand}{i j:TI}{A:Option Addr}{len c:Nat}{xs:List α}(ho:o.op=.slice t x lo hi none)
  (G:T.get t=some i)(hd:i.d=.slice e)(hj:T.get e=some j)(hs:U.size=j.size)(hx:F.ev x=some (.slice A len c)){e':Nat}
  (hr:(tSl e' U).ro w1 [.slice A len c] xs){l h:Nat}(hl:(lo=none∧l=0)∨∃ y k,lo=some y∧F.ev y=some (.int k (l:Int)))(hh:(hi=none∧h=xs.length)∨∃ y k,hi=some y∧F.ev y=some (.int k (h:Int)))
  (h1:l≤h)(h2:h≤xs.length){d:Nat}(q:o.dst=some d)(hn:Nat.blt d n=true)
  (hk:∀ A' c',(tSl e' U).ro w1 [.slice A' (h - l) c'] ((xs.take h).drop l)→RW P n ops Q rest ((d,.slice A' (h - l) c')::F) w):RW P n ops Q (o::rest) F w:=by
 obtain⟨A',c',k1,k2⟩:=Quiet.cut (n:=n) ht ho G hd hj hs hx hr hl hh h1 h2
 exact RW.quiet hg (k1.later he) q hn (hk A' c' k2)
end


def Lst (k m:Nat)(listed:Array Bool):Prop:=listed.size=k∧∀ i,listed.getD i false=m.testBit i

theorem Lst.start (k:Nat):Lst k 0 (Array.replicate k false):=⟨by simp,fun i=>by
 simp only[Array.getD_eq_getD_getElem?,Array.getElem?_replicate,Nat.zero_testBit]
 split<;>rfl⟩

theorem Lst.getT {k m:Nat}{listed:Array Bool}(h:Lst k m listed){i:Nat}(hi:i<k):listed.getD i true=m.testBit i:=by
 rw[← h.2 i]
 have hs:i<listed.size:=by rw[h.1];exact hi
 simp[Array.getD_eq_getD_getElem?,Array.getElem?_eq_getElem hs]

theorem Lst.set {k m m' i:Nat}{listed:Array Bool}(h:Lst k m listed)(hi:i<k)(hm:m ||| 2 ^ i=m'):Lst k m' (listed.setIfInBounds i true):=⟨by simp[h.1],fun j=>by
 subst hm
 rw[Nat.testBit_or,Nat.testBit_two_pow,← h.2 j]
 have hs:i<listed.size:=by rw[h.1];exact hi
 by_cases hij:i=j
 ·subst hij;simp[Array.getD_eq_getD_getElem?,hs]
 ·simp[Array.getD_eq_getD_getElem?,Array.getElem?_setIfInBounds_ne hij,hij]⟩

def bits (p:Nat→Bool):Nat→Nat
 | 0=>0
 | k+1=>match p k with
  | true=>bits p k ||| 2 ^ k
  | false=>bits p k

theorem zjB (p:Nat→Bool):∀ (k j:Nat),(bits p k).testBit j=true→p j=true
 | 0,j,h=>by simp[bits] at h
 | k+1,j,h=>by
  unfold bits at h
  split at h
  ·rename_i hk
   rw[Nat.testBit_or,Nat.testBit_two_pow,Bool.or_eq_true,decide_eq_true_eq] at h
   rcases h with h | rfl
   ·exact zjB p k j h
   ·exact hk
  ·exact zjB p k j h

def zhn (o:Oper):List Nat:=(o.after.toList.filter fun e=>Region.binds .any e).map fun e=>e.on
def zmK (ops:List Oper)(i j:Nat):Bool:=
 Nat.beq j i || match nthv ops i,nthv ops j with
  | some oi,some oj=>(zhn oj).contains i || oi.apart ops.toArray oj
  | _,_=>true

def z97 (ops:List Oper):List (List Nat×Nat):=(List.range ops.length).map fun i=>(((nthv ops i).map zhn).getD [],bits (zmK ops i) ops.length)

def zd2 (sk:List (List Nat×Nat))(q m i:Nat):Bool:=
 match nthv sk i with
 | some (d,a)=>!m.testBit i && d.all (fun j=>m.testBit j) && Nat.beq (a ||| m) q
 | none=>false
def zhd (sk:List (List Nat×Nat))(k m:Nat):List Nat:=
 (List.range k).filter fun i=>!m.testBit i && ((nthv sk i).map fun x=>x.1.all fun j=>m.testBit j).getD false

theorem zrt {k m:Nat}{listed:Array Bool}(h:Lst k m listed)(o:Oper):(zhn o).all (fun j=>m.testBit j)=o.after.all fun e=>!Region.binds .any e || listed.getD e.on false:=by
 unfold zhn
 rw[← Array.all_toList]
 induction o.after.toList with
 | nil=>rfl
 | cons e l ih=>
  by_cases hb:Region.binds .any e=true
  ·simp only[List.filter_cons,hb,if_true,List.map_cons,List.all_cons,ih,Bool.not_true,Bool.false_or,h.2]
  ·have q:=Bool.eq_false_iff.2 hb
   simp only[List.filter_cons,q,Bool.false_eq_true,if_false,List.all_cons,ih,Bool.not_false,Bool.true_or,Bool.true_and]

theorem zfS {ops:List Oper}{sk:List (List Nat×Nat)}(q:z97 ops=sk){i:Nat}{o:Oper}(hi:ops[i]? = some o):nthv sk i=some (zhn o,bits (zmK ops i) ops.length):=by
 subst q
 have hl:=(List.getElem?_eq_some_iff.1 hi).1
 rw[z2U]
 unfold z97
 rw[List.getElem?_map,List.getElem?_range hl]
 simp[z2U,hi]

theorem ziL {ops:List Oper}{sk:List (List Nat×Nat)}(G:z97 ops=sk){k m:Nat}{listed:Array Bool}(hk:ops.length=k)(h:Lst k m listed):Region.ready .any ops.toArray listed=zhd sk k m:=by
 unfold Region.ready zhd
 rw[show ops.toArray.size=k by simpa using hk]
 refine List.filter_congr fun i hi=>?_
 have q:i<k:=List.mem_range.1 hi
 obtain⟨o,ho⟩:∃ o,ops[i]? = some o:=⟨_,List.getElem?_eq_getElem (by omega)⟩
 rw[zfS G ho,h.getT q]
 simp only[List.getElem?_toArray,ho,Option.map_some,Option.getD_some]
 rw[zrt h o]

theorem zdq {ops:List Oper}{sk:List (List Nat×Nat)}(O:z97 ops=sk){k m i:Nat}{listed:Array Bool}(hk:ops.length=k)(h:Lst k m listed){o:Oper}(ho:ops[i]? = some o)(hf:zd2 sk (2 ^ k - 1) m i=true):
  zhi ops listed i=true:=by
 have Z:i<k:=by rw[← hk];exact(List.getElem?_eq_some_iff.1 ho).1
 unfold zd2 at hf
 rw[zfS O ho] at hf
 simp only[Bool.and_eq_true,Nat.beq_eq] at hf
 obtain⟨⟨h1,h2⟩,h3⟩:=hf
 have a0:(Region.ready .any ops.toArray listed).contains i=true:=by
  rw[ziL O hk h,List.contains_iff_mem]
  unfold zhd
  rw[List.mem_filter,zfS O ho]
  exact⟨List.mem_range.2 Z,by simp only[Option.map_some,Option.getD_some,h1,h2,Bool.and_self]⟩
 have Y:Region.free .any ops.toArray listed i=true:=by
  unfold Region.free
  simp only[List.getElem?_toArray,ho,List.all_eq_true,List.mem_range,List.size_toArray]
  intro j hj
  obtain⟨oj,H⟩:∃ o,ops[j]? = some o:=⟨_,List.getElem?_eq_getElem hj⟩
  have hb:((bits (zmK ops i) ops.length) ||| m).testBit j=true:=by
   rw[h3,Nat.testBit_two_pow_sub_one];simpa using (by omega:j<k)
  rw[Nat.testBit_or,Bool.or_eq_true] at hb
  rcases hb with hb | hb
  ·have:=zjB _ _ _ hb
   unfold zmK at this
   simp only[z2U,ho,H,Bool.or_eq_true,Nat.beq_eq] at this
   rcases this with this | this | this
   ·simp[this]
   ·have hc:∃ e,e∈oj.after∧Region.binds .any e=true∧e.on=i:=by
     rw[List.contains_iff_mem] at this
     unfold zhn at this
     obtain⟨e,he,rfl⟩:=List.mem_map.1 this
     obtain⟨q,G⟩:=List.mem_filter.1 he
     exact⟨e,by simpa using q,by simpa using G,rfl⟩
    obtain⟨e,q,G,X⟩:=hc
    simp only[H,Bool.or_eq_true]
    refine .inr (.inl ?_)
    rw[Array.any_eq_true']
    exact⟨e,q,by simp[G,X]⟩
   ·simp only[H,Bool.or_eq_true]
    exact .inr (.inr this)
  ·simp only[h.getT (show j<k by omega),hb,Bool.or_true,Bool.true_or]
 unfold zhi
 rw[Y]
 exact a0


def DM (P:Program)(n:Nat)(ops:List Oper)(Q:Post)(W9:Base)(w0:World)(wm fu k m:Nat)(F:Fr)(w:World):Prop:=∀ listed,Lst k m listed→DW P n ops Q W9 w0 (fun j=>wm.testBit j) fu listed F w

def LM (P:Program)(n:Nat)(ops:List Oper)(Q:Post)(W9:Base)(w0:World)(wm fu k m:Nat)(i:Nat)(F:Fr)(w:World):Prop:=∀ listed,Lst k m listed→LW P n ops Q W9 w0 (fun j=>wm.testBit j) fu listed i F w

def zv7 (sk:List (List Nat×Nat))(wm k i:Nat):Bool:=(List.range k).all fun j=>!wm.testBit j || ((nthv sk j).map fun x=>x.1.contains i).getD true

theorem zrN {ops:List Oper}{sk:List (List Nat×Nat)}(H:z97 ops=sk){k wm i:Nat}(hk:ops.length=k)(h:zv7 sk wm k i=true)(j:Nat)(oj:Oper)(hw:wm.testBit j=true)(ho:ops[j]? = some oj):
  ∃ e,e∈oj.after∧Region.binds .any e=true∧e.on=i:=by
 unfold zv7 at h
 rw[List.all_eq_true] at h
 have:=h j (List.mem_range.2 (by rw[← hk];exact(List.getElem?_eq_some_iff.1 ho).1))
 rw[zfS H ho,hw] at this
 simp only[Bool.not_true,Bool.false_or,Option.map_some,Option.getD_some,List.contains_iff_mem] at this
 unfold zhn at this
 obtain⟨e,he,rfl⟩:=List.mem_map.1 this
 obtain⟨q,G⟩:=List.mem_filter.1 he
 exact⟨e,by simpa using q,by simpa using G,rfl⟩

theorem zst {k m wm:Nat}{listed:Array Bool}(h:Lst k m listed)(h0:Nat.beq (m &&& wm) 0=true):zhQ (fun j=>wm.testBit j) listed:=fun j hj=>by
 rw[h.2 j]
 have q:m &&& wm=0:=by simpa using h0
 have G:wm.testBit j=true:=hj
 have h1:(m &&& wm).testBit j=false:=by rw[q];simp
 rw[Nat.testBit_and] at h1
 cases hm:m.testBit j with
 | false=>rfl
 | true=>rw[hm,G] at h1;cases h1

def zbP (sk:List (List Nat×Nat))(q:Nat):List Nat→Nat→Option Nat
 | [],m=>some m
 | i::r,m=>match zd2 sk q m i with
  | true=>zbP sk q r (m ||| 2 ^ i)
  | false=>none

section
variable {P:Program}{n:Nat}{Q:Post}{F:Fr}{w w0:World}{W9:Base}{ops:List Oper}{wm fu k m m':Nat}{sk:List (List Nat×Nat)}{o:Oper}

theorem DM.weak (F':Fr)(hs:F.Has F')(h:DM P n ops Q W9 w0 wm fu k m F' w):DM P n ops Q W9 w0 wm fu k m F w:=fun l hl=>DW.weak F' hs (h l hl)

theorem zcC (hk:ops.length=k){i:Nat}(hi:nthv ops i=some o):i<k:=by
 rw[z2U] at hi
 rw[← hk];exact(List.getElem?_eq_some_iff.1 hi).1

theorem DM.quiet {v:Value}(q:z97 ops=sk∧ops.length=k)(i m':Nat)(hm:m ||| 2 ^ i=m')(H:wm.testBit i=false)(O:zv7 sk wm k i=true)(G:Nat.beq (m &&& wm) 0=true)(hi:nthv ops i=some o)(hf:zd2 sk (2 ^ k - 1) m i=true)(hg:zc ops F o=some true)(hq:Quiet P n F w0 o v){d:Nat}(hd:o.dst=some d)(hn:Nat.blt d n=true)
  (h:DM P n ops Q W9 w0 wm fu k m' ((d,v)::F) w):DM P n ops Q W9 w0 wm (fu+1) k m F w:=fun l hl=>
 DW.quiet i H (fun j oj hj ho=>zrN q.1 q.2 O j oj hj ho) (zst hl G) hi (zdq q.1 q.2 hl (by rw[← z2U];exact hi) hf) hg hq hd hn (h _ (hl.set (zcC q.2 hi) hm))

theorem zgN (q:z97 ops=sk∧ops.length=k):∀ (l:List Nat){m m':Nat}{listed:Array Bool},zbP sk (2 ^ k - 1) l m=some m'→Lst k m listed→zje ops l listed=true∧Lst k m' (marked listed l)
 | [],m,m',listed,h,hl=>by
  simp only[zbP,Option.some.injEq] at h;subst h
  exact⟨rfl,hl⟩
 | i::r,m,m',listed,h,hl=>by
  unfold zbP at h
  split at h
  ·rename_i hf
   have hi:∃ o,ops[i]? = some o:=by
    rcases Nat.lt_or_ge i ops.length with h' | h'
    ·exact⟨_,List.getElem?_eq_getElem h'⟩
    ·unfold zd2 at hf
     have:nthv sk i=none:=by
      rw[← q.1,z2U]
      unfold z97
      rw[List.getElem?_map,List.getElem?_eq_none (by simpa using h')]
      rfl
     rw[this] at hf
     cases hf
   obtain⟨o,hi⟩:=hi
   have h1:=zdq q.1 q.2 hl hi hf
   have h2:=hl.set (show i<k by rw[← q.2];exact(List.getElem?_eq_some_iff.1 hi).1) rfl
   obtain⟨h3,h4⟩:=zgN q r h h2
   refine⟨?_,h4⟩
   unfold zje
   rw[h1]
   exact h3
  ·cases h

theorem DM.run {T:TT}(ht:TTok P T)(q:z97 ops=sk∧ops.length=k)(l:List Nat)(m':Nat)(G:l.all (fun i=>!wm.testBit i)=true)(hl:zbP sk (2 ^ k - 1) l m=some m'){F':Fr}(hr:zvs T n ops l F=some F')
  (h:DM P n ops Q W9 w0 wm fu k m' F' w):DM P n ops Q W9 w0 wm (fu+l.length) k m F w:=fun _ hL=>
 DW.run ht l (fun i hi=>by have:=List.all_eq_true.1 G i hi;simpa using this) (zgN q l hl hL).1 hr (h _ (zgN q l hl hL).2)

theorem DM.loud (q:z97 ops=sk∧ops.length=k)(rs:List Nat)(hr:zhd sk k m=rs)(G:rs≠[])(h:∀ i,i∈rs→LM P n ops Q W9 w0 wm fu k m i F w):DM P n ops Q W9 w0 wm (fu+1) k m F w:=fun l hl=>
 DW.loud rs (by rw[ziL q.1 q.2 hl];exact hr) G fun i hi=>h i hi l hl

theorem DM.two (q:z97 ops=sk∧ops.length=k)(i j:Nat)(hr:zhd sk k m=[i,j])(h:LM P n ops Q W9 w0 wm fu k m i F w)(h':LM P n ops Q W9 w0 wm fu k m j F w):DM P n ops Q W9 w0 wm (fu+1) k m F w:=
 DM.loud q [i,j] hr (by simp) (by
  rintro a ha
  simp only[List.mem_cons,List.not_mem_nil,or_false] at ha
  rcases ha with rfl | rfl
  ·exact h
  ·exact h')

theorem LM.skip (q:z97 ops=sk∧ops.length=k){i:Nat}(m':Nat)(hm:m ||| 2 ^ i=m')(G:wm.testBit i=false)(hi:nthv ops i=some o)(hg:zc ops F o=some false)(hn:zhM n o.dst=true)
  (h:DM P n ops Q W9 w0 wm fu k m' (F.putO o.dst undef) w):LM P n ops Q W9 w0 wm fu k m i F w:=fun _ hl=>
 LW.skip G hi hg hn (h _ (hl.set (zcC q.2 hi) hm))

theorem LM.ok (q:z97 ops=sk∧ops.length=k){v:Value}{w':World}{i:Nat}(m':Nat)(hm:m ||| 2 ^ i=m')(G:wm.testBit i=false)(hi:nthv ops i=some o)(hg:zc ops F o=some true)(hr:∀ a,Fits n F a→(execOp a.eval o).run P w=.ok (.value v) w')(hw:Ext w w')(hn:zhM n o.dst=true)
  (h:DM P n ops Q W9 w0 wm fu k m' (F.putO o.dst v) w'):LM P n ops Q W9 w0 wm fu k m i F w:=fun _ hl=>
 LW.ok G hi hg hr hw hn (h _ (hl.set (zcC q.2 hi) hm))

theorem LM.okW (q:z97 ops=sk∧ops.length=k){v:Value}{w':World}{i:Nat}(m':Nat)(hm:m ||| 2 ^ i=m')(G:wm.testBit i=true)(hi:nthv ops i=some o)(hg:zc ops F o=some true)(hr:∀ a,Fits n F a→(execOp a.eval o).run P w=.ok (.value v) w')(hn:zhM n o.dst=true)(hW:Ext W9 w')
  (h:DM P n ops Q W9 w0 wm fu k m' (F.putO o.dst v) w'):LM P n ops Q W9 w0 wm fu k m i F w:=fun _ hl=>
 LW.okW G (by rw[hl.1];exact zcC q.2 hi) hi hg hr hn hW (h _ (hl.set (zcC q.2 hi) hm))

theorem LM.unitW (q:z97 ops=sk∧ops.length=k){w':World}{i:Nat}(m':Nat)(hm:m ||| 2 ^ i=m')(G:wm.testBit i=true)(hi:nthv ops i=some o)(hg:zc ops F o=some true)(hr:∀ a,Fits n F a→(execOp a.eval o).run P w=.ok .skip w')(hd:o.dst=none)(hW:Ext W9 w')
  (h:DM P n ops Q W9 w0 wm fu k m' F w'):LM P n ops Q W9 w0 wm fu k m i F w:=fun _ hl=>
 LW.unitW G (by rw[hl.1];exact zcC q.2 hi) hi hg hr hd hW (h _ (hl.set (zcC q.2 hi) hm))

variable {T:TT}(ht:TTok P T)
include ht

theorem DM.idx {α:Type}{U:Ty α}{w1:Base}(he:Ext w1 w0)(Y:z97 ops=sk∧ops.length=k)(i m':Nat)(O:m ||| 2 ^ i=m')(Z:wm.testBit i=false)(a0:zv7 sk wm k i=true)(X:Nat.beq (m &&& wm) 0=true)(hi:nthv ops i=some o)(hf:zd2 sk (2 ^ k - 1) m i=true)(hg:zc ops F o=some true){t e:Nat}{x ix:Operand}{j j':TI}{A:Option Addr}{len c:Nat}{xs:List α}{kk:IntKind}{mm:Int}(ho:o.op=.indexAddr t x ix)
  (hj:T.get t=some j)(hd:j.d=.slice e)(H:T.get e=some j')(hs:U.size=j'.size)(hpos:0<U.size)(hx:F.ev x=some (.slice A len c))(hm:F.ev ix=some (.int kk mm))
  {e':Nat}(hr:(tSl e' U).ro w1 [.slice A len c] xs){a:α}(h0:0≤mm)(ha:xs[mm.toNat]? = some a){d:Nat}(G:o.dst=some d)(hn:Nat.blt d n=true)
  (h:∀ q es,At w1 q es→U.ro w1 es a→DM P n ops Q W9 w0 wm fu k m' ((d,.pointer (some q))::F) w):DM P n ops Q W9 w0 wm (fu+1) k m F w:=by
 obtain⟨q,es,h1,h2,h3⟩:=Quiet.idx (n:=n) ht ho hj hd H hs hpos hx hm hr h0 ha
 exact DM.quiet Y i m' O Z a0 X hi hf hg (h1.later he) G hn (h q es h2 h3)

theorem DM.cut {α:Type}{U:Ty α}{w1:Base}(he:Ext w1 w0)(X:z97 ops=sk∧ops.length=k)(n' m':Nat)(H:m ||| 2 ^ n'=m')(Y:wm.testBit n'=false)(Z:zv7 sk wm k n'=true)(O:Nat.beq (m &&& wm) 0=true)(hni:nthv ops n'=some o)(hf:zd2 sk (2 ^ k - 1) m n'=true)(hg:zc ops F o=some true){t e:Nat}{x:Operand}{lo hi:Option Operand}{i j:TI}{A:Option Addr}{len c:Nat}{xs:List α}(ho:o.op=.slice t x lo hi none)
  (G:T.get t=some i)(hd:i.d=.slice e)(hj:T.get e=some j)(hs:U.size=j.size)(hx:F.ev x=some (.slice A len c)){e':Nat}
  (hr:(tSl e' U).ro w1 [.slice A len c] xs){l h:Nat}(hl:(lo=none∧l=0)∨∃ y k,lo=some y∧F.ev y=some (.int k (l:Int)))(hh:(hi=none∧h=xs.length)∨∃ y k,hi=some y∧F.ev y=some (.int k (h:Int)))
  (h1:l≤h)(h2:h≤xs.length){d:Nat}(q:o.dst=some d)(hn:Nat.blt d n=true)
  (hk:∀ A' c',(tSl e' U).ro w1 [.slice A' (h - l) c'] ((xs.take h).drop l)→DM P n ops Q W9 w0 wm fu k m' ((d,.slice A' (h - l) c')::F) w):DM P n ops Q W9 w0 wm (fu+1) k m F w:=by
 obtain⟨A',c',k1,k2⟩:=Quiet.cut (n:=n) ht ho G hd hj hs hx hr hl hh h1 h2
 exact DM.quiet X n' m' H Y Z O hni hf hg (k1.later he) q hn (hk A' c' k2)

end
end Go.E



