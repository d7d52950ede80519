/- Linked lists that are never changed once made: stacks of numbers, arrays of nine stacks, binders with the stacks of their moment; as types of data, to be read. Conditions: none (definitions and rules). -/
import Derived.Test.YtngggnjnenfgbaaGreatDoorFreeze
import Derived.LaidEql
import Derived.Test.YtngggnjnenfgbaaGreatDoorShort
import Derived.Test.YtngggnjnenfgbaaGreatDoorLoops
namespace Go.E
open Go.RowKit
set_option linter.unusedVariables false
set_option linter.unusedSimpArgs false


def Row (w:World) (g:Nat) (cs:List Value):Prop:=∃ e,w.heap[g]? = some (.cells ⟨cs⟩ e (0,0))

theorem Row.at {w:World}{g:Nat}{cs:List Value}(h:Row w g cs):At w ⟨g,0,none⟩ cs:=fun j u hu=>by
  obtain⟨e,hh⟩:=h
  have:Addr.add ⟨g,0,none⟩ j=⟨g,j,none⟩:=by unfold Addr.add;by_cases hj:j=0<;>simp [hj]
  rw [this,cell_of_row w g j ⟨cs⟩ e (0,0) hh]
  simpa using hu

theorem Row.ext {B C:Base}(he:Ext B C){g:Nat}{c:Value}{cs:List Value}(h:Row B.W g (c::cs)):Row C.W g (c::cs):=by
  have hl:¬ B.fr (Addr.add ⟨g,0,none⟩ 0).block:=Base.live (h.at 0 c rfl)
  obtain⟨e,hh⟩:=h
  exact⟨e,(he.same hl).trans hh⟩


def Lnk (w:World):Option Addr→List Int→Prop
  | A,[]=>A=none
  | A,x::xs=>∃ g A',A=some ⟨g,0,none⟩∧Row w g [.int .i64 x,.pointer A']∧Lnk w A' xs

theorem Lnk.ext {B C:Base}(he:Ext B C):∀ {xs:List Int}{A:Option Addr},Lnk B.W A xs→Lnk C.W A xs
  | [],_,h=>h
  | _::_,_,⟨g,A',h1,h2,h3⟩=>⟨g,A',h1,h2.ext he,Lnk.ext he h3⟩

theorem Lnk.isNil {w:World}{A:Option Addr}:∀ {xs:List Int},Lnk w A xs→A.isNone=xs.isEmpty
  | [],h=>by rw [show A=none from h];rfl
  | _::_,⟨_,_,h1,_⟩=>by rw [h1];rfl

theorem Lnk.openN {w:World}{A:Option Addr}{xs:List Int}{x:Int}(h:Lnk w A xs) (hx:xs.head? = some x):
    ∃ g A',A=some ⟨g,0,none⟩∧At w ⟨g,0,none⟩ [.int .i64 x,.pointer A']∧Lnk w A' xs.tail:=by
  cases xs with
  | nil=>cases hx
  | cons y ys=>
    simp only [List.head?_cons,Option.some.injEq] at hx
    subst hx
    obtain⟨g,A',h1,h2,h3⟩:=h
    exact⟨g,A',h1,h2.at,h3⟩


theorem Lnk.same {w:World}:∀ {xs ys:List Int}{A:Option Addr},Lnk w A xs→Lnk w A ys→xs=ys
  | [],[],_,_,_=>rfl
  | [],_::_,_,h,⟨_,_,k,_⟩=>by rw [show _=none from h] at k;cases k
  | _::_,[],_,⟨_,_,k,_⟩,h=>by rw [show _=none from h] at k;cases k
  | x::xs,y::ys,_,⟨g,A',h1,⟨e,h2⟩,h3⟩,⟨g',B',k1,⟨e',k2⟩,k3⟩=>by
    rw [h1] at k1
    simp only [Option.some.injEq,Addr.mk.injEq,and_true] at k1
    subst k1
    rw [h2] at k2
    simp only [Option.some.injEq,Obj.cells.injEq,Array.mk.injEq,List.cons.injEq,Value.int.injEq,Value.pointer.injEq,and_true,true_and] at k2
    obtain⟨⟨rfl,rfl⟩,_⟩:=k2
    rw [Lnk.same h3 k3]


def Lnks (w:World):List (Option Addr)→List (List Int)→Prop
  | [],[]=>True
  | A::As,xs::xss=>Lnk w A xs∧Lnks w As xss
  | _,_=>False

theorem Lnks.ext {B C:Base}(he:Ext B C):∀ {As:List (Option Addr)}{xss:List (List Int)},Lnks B.W As xss→Lnks C.W As xss
  | [],[],h=>h
  | _::_,_::_,⟨h1,h2⟩=>⟨h1.ext he,Lnks.ext he h2⟩
  | [],_::_,h=>h.elim
  | _::_,[],h=>h.elim

theorem Lnks.length {w:World}:∀ {As:List (Option Addr)}{xss:List (List Int)},Lnks w As xss→As.length=xss.length
  | [],[],_=>rfl
  | _::_,_::_,⟨_,h2⟩=>by rw [List.length_cons,List.length_cons,Lnks.length h2]
  | [],_::_,h=>h.elim
  | _::_,[],h=>h.elim

theorem Lnks.at {w:World}:∀ {As:List (Option Addr)}{xss:List (List Int)}{i:Nat}{xs:List Int},Lnks w As xss→xss[i]? = some xs→∃ A,As[i]? = some A∧Lnk w A xs
  | A::_,_::_,0,_,⟨h1,_⟩,e=>by simp at e;subst e;exact⟨A,rfl,h1⟩
  | _::_,_::_,i+1,_,⟨_,h2⟩,e=>by
    simp only [List.getElem?_cons_succ] at e ⊢
    exact Lnks.at h2 e
  | [],[],_,_,_,e=>by simp at e
  | [],_::_,_,_,h,_=>h.elim
  | _::_,[],_,_,h,_=>h.elim

theorem Lnks.set {w:World}{A:Option Addr}{xs:List Int}(hl:Lnk w A xs):∀ {As:List (Option Addr)}{xss:List (List Int)}(i:Nat),Lnks w As xss→Lnks w (As.set i A) (xss.set i xs)
  | _::_,_::_,0,⟨_,h2⟩=>⟨hl,h2⟩
  | _::_,_::_,i+1,⟨h1,h2⟩=>⟨h1,Lnks.set hl i h2⟩
  | [],[],_,h=>h
  | [],_::_,_,h=>h.elim
  | _::_,[],_,h=>h.elim


def tStk:Ty (List Int) where
  size:=1
  ro:=fun w cs xs=>∃ A,cs=[.pointer A]∧Lnk w A xs
  own:=fun _ _ _ _=>False
  req:=fun _=>True
  len:=by rintro _ _ _ ⟨_,rfl,_⟩;rfl
  lenO:=fun h=>h.elim
  ext:=fun he ⟨A,h1,h2⟩=>⟨A,h1,h2.ext he⟩
  own_ro:=fun h _=>h.elim
  loc:=fun h _=>h.elim
  lt:=fun h=>h.elim
  one:=by
    rintro _ _ _ ⟨A,rfl,_⟩ u hu
    simp only [List.mem_singleton] at hu;subst hu;rfl
  oneO:=fun h=>h.elim


def tStks:Ty (List (List Int)) where
  size:=9
  ro:=fun w cs xss=>∃ a0 a1 a2 a3 a4 a5 a6 a7 a8,cs=[.pointer a0,.pointer a1,.pointer a2,.pointer a3,.pointer a4,.pointer a5,.pointer a6,.pointer a7,.pointer a8]∧Lnks w [a0,a1,a2,a3,a4,a5,a6,a7,a8] xss
  own:=fun _ _ _ _=>False
  req:=fun _=>True
  len:=by rintro _ _ _ ⟨_,_,_,_,_,_,_,_,_,rfl,_⟩;rfl
  lenO:=fun h=>h.elim
  ext:=fun he ⟨a0,a1,a2,a3,a4,a5,a6,a7,a8,h1,h2⟩=>⟨a0,a1,a2,a3,a4,a5,a6,a7,a8,h1,h2.ext he⟩
  own_ro:=fun h _=>h.elim
  loc:=fun h _=>h.elim
  lt:=fun h=>h.elim
  one:=by
    rintro _ _ _ ⟨_,_,_,_,_,_,_,_,_,rfl,_⟩ u hu
    simp only [List.mem_cons,List.not_mem_nil,or_false] at hu
    rcases hu with rfl | rfl | rfl | rfl | rfl | rfl | rfl | rfl | rfl<;>rfl
  oneO:=fun h=>h.elim


def Bnd (w:World):Option Addr→List (Int × List (List Int))→Prop
  | A,[]=>A=none
  | A,b::bs=>∃ g A' cs,A=some ⟨g,0,none⟩∧Row w g (.int .i64 b.1::(cs++[.pointer A']))∧tStks.ro w cs b.2∧Bnd w A' bs

theorem Bnd.ext {B C:Base}(he:Ext B C):∀ {bs:List (Int × List (List Int))}{A:Option Addr},Bnd B.W A bs→Bnd C.W A bs
  | [],_,h=>h
  | _::_,_,⟨g,A',cs,h1,h2,h3,h4⟩=>⟨g,A',cs,h1,h2.ext he,tStks.ext he h3,Bnd.ext he h4⟩

theorem Bnd.isNil {w:World}{A:Option Addr}:∀ {xs:List (Int × List (List Int))},Bnd w A xs→A.isNone=xs.isEmpty
  | [],h=>by rw [show A=none from h];rfl
  | _::_,⟨_,_,_,h1,_⟩=>by rw [h1];rfl

theorem Bnd.openN {w:World}{A:Option Addr}{bs:List (Int × List (List Int))}{b:Int × List (List Int)}(h:Bnd w A bs) (hx:bs.head? = some b):
    ∃ g a0 a1 a2 a3 a4 a5 a6 a7 a8 A',A=some ⟨g,0,none⟩∧At w ⟨g,0,none⟩ [.int .i64 b.1,.pointer a0,.pointer a1,.pointer a2,.pointer a3,.pointer a4,.pointer a5,.pointer a6,.pointer a7,.pointer a8,.pointer A']∧
      tStks.ro w [.pointer a0,.pointer a1,.pointer a2,.pointer a3,.pointer a4,.pointer a5,.pointer a6,.pointer a7,.pointer a8] b.2∧Bnd w A' bs.tail:=by
  cases bs with
  | nil=>cases hx
  | cons y ys=>
    simp only [List.head?_cons,Option.some.injEq] at hx
    subst hx
    obtain⟨g,A',cs,h1,h2,h3,h4⟩:=h
    have h5:=h3
    obtain⟨a0,a1,a2,a3,a4,a5,a6,a7,a8,rfl,_⟩:=h3
    exact⟨g,a0,a1,a2,a3,a4,a5,a6,a7,a8,A',h1,h2.at,h5,h4⟩


def tBnd:Ty (List (Int × List (List Int))) where
  size:=1
  ro:=fun w cs bs=>∃ A,cs=[.pointer A]∧Bnd w A bs
  own:=fun _ _ _ _=>False
  req:=fun _=>True
  len:=by rintro _ _ _ ⟨_,rfl,_⟩;rfl
  lenO:=fun h=>h.elim
  ext:=fun he ⟨A,h1,h2⟩=>⟨A,h1,h2.ext he⟩
  own_ro:=fun h _=>h.elim
  loc:=fun h _=>h.elim
  lt:=fun h=>h.elim
  one:=by
    rintro _ _ _ ⟨A,rfl,_⟩ u hu
    simp only [List.mem_singleton] at hu;subst hu;rfl
  oneO:=fun h=>h.elim

theorem bndNil (w:World):tBnd.ro w [.pointer none] []:=⟨none,rfl,rfl⟩
theorem stksNil (w:World):tStks.ro w [.pointer none,.pointer none,.pointer none,.pointer none,.pointer none,.pointer none,.pointer none,.pointer none,.pointer none] [[],[],[],[],[],[],[],[],[]]:=
  ⟨none,none,none,none,none,none,none,none,none,rfl,rfl,rfl,rfl,rfl,rfl,rfl,rfl,rfl,rfl,trivial⟩

theorem z5p {w:World}{A:Option Addr}{xs:List Int}(h:tStk.ro w [.pointer A] xs):Lnk w A xs:=by
  obtain⟨B,h1,h2⟩:=h
  simp only [List.cons.injEq,Value.pointer.injEq,and_true] at h1
  subst h1
  exact h2
theorem z9B {w:World}{A:Option Addr}{xs:List (Int × List (List Int))}(h:tBnd.ro w [.pointer A] xs):Bnd w A xs:=by
  obtain⟨B,h1,h2⟩:=h
  simp only [List.cons.injEq,Value.pointer.injEq,and_true] at h1
  subst h1
  exact h2
theorem z8g {w:World}{A:Option Addr}{xs:List Int}(h:tStk.ro w [.pointer A] xs):A.isNone=xs.isEmpty:=(z5p h).isNil
theorem zcR {w:World}{A:Option Addr}{xs:List (Int × List (List Int))}(h:tBnd.ro w [.pointer A] xs):A.isNone=xs.isEmpty:=(z9B h).isNil
theorem z6i {w:World}{A:Option Addr}{xs:List Int}{x:Int}(h:tStk.ro w [.pointer A] xs) (hx:xs.head? = some x):
    ∃ g A',A=some ⟨g,0,none⟩∧At w ⟨g,0,none⟩ [.int .i64 x,.pointer A']∧tStk.ro w [.pointer A'] xs.tail:=by
  obtain⟨g,A',h1,h2,h3⟩:=(z5p h).openN hx
  exact⟨g,A',h1,h2,A',rfl,h3⟩
theorem za5 {w:World}{A:Option Addr}{bs:List (Int × List (List Int))}{b:Int × List (List Int)}(h:tBnd.ro w [.pointer A] bs) (hx:bs.head? = some b):
    ∃ g a0 a1 a2 a3 a4 a5 a6 a7 a8 A',A=some ⟨g,0,none⟩∧At w ⟨g,0,none⟩ [.int .i64 b.1,.pointer a0,.pointer a1,.pointer a2,.pointer a3,.pointer a4,.pointer a5,.pointer a6,.pointer a7,.pointer a8,.pointer A']∧
      tStks.ro w [.pointer a0,.pointer a1,.pointer a2,.pointer a3,.pointer a4,.pointer a5,.pointer a6,.pointer a7,.pointer a8] b.2∧tBnd.ro w [.pointer A'] bs.tail:=by
  obtain⟨g,a0,a1,a2,a3,a4,a5,a6,a7,a8,A',h1,h2,h3,h4⟩:=(z9B h).openN hx
  exact⟨g,a0,a1,a2,a3,a4,a5,a6,a7,a8,A',h1,h2,h3,A',rfl,h4⟩
theorem z8L {w:World}{cs:List Value}{xss:List (List Int)}(h:tStks.ro w cs xss):
    ∃ a0 a1 a2 a3 a4 a5 a6 a7 a8,cs=[.pointer a0,.pointer a1,.pointer a2,.pointer a3,.pointer a4,.pointer a5,.pointer a6,.pointer a7,.pointer a8]:=by
  obtain⟨a0,a1,a2,a3,a4,a5,a6,a7,a8,h1,_⟩:=h
  exact⟨a0,a1,a2,a3,a4,a5,a6,a7,a8,h1⟩
theorem z8f {W w:World}{cs:List Value}{xss:List (List Int)}{g:Nat}{i:Nat}{xs:List Int}(h:tStks.ro W cs xss) (hat:At w ⟨g,0,none⟩ cs) (hx:xss[i]? = some xs):
    ∃ A,At w ⟨g,i,none⟩ [.pointer A]∧tStk.ro W [.pointer A] xs:=by
  obtain⟨a0,a1,a2,a3,a4,a5,a6,a7,a8,h1,h2⟩:=h
  obtain⟨A,hA,hl⟩:=h2.at hx
  refine⟨A,fun j u hu=>?_,A,rfl,hl⟩
  cases j with
  | zero=>
    simp only [List.getElem?_cons_zero,Option.some.injEq] at hu
    subst hu
    have hc:cs[i]? = some (.pointer A):=by
      rw [h1,show([Value.pointer a0,.pointer a1,.pointer a2,.pointer a3,.pointer a4,.pointer a5,.pointer a6,.pointer a7,.pointer a8]:List Value)=[a0,a1,a2,a3,a4,a5,a6,a7,a8].map Value.pointer from rfl,List.getElem?_map,hA];rfl
    have:=hat i _ hc
    have ha:Addr.add ⟨g,0,none⟩ i=⟨g,i,none⟩:=by unfold Addr.add;by_cases hj:i=0<;>simp [hj]
    rw [ha] at this
    exact this
  | succ j=>simp at hu

theorem zdm {α:Type}:∀ {l:List α},l.length=9→∃ a0 a1 a2 a3 a4 a5 a6 a7 a8,l=[a0,a1,a2,a3,a4,a5,a6,a7,a8]
  | [a0,a1,a2,a3,a4,a5,a6,a7,a8],_=>⟨a0,a1,a2,a3,a4,a5,a6,a7,a8,rfl⟩
  | [],h=>by simp at h
  | [_],h=>by simp at h
  | [_,_],h=>by simp at h
  | [_,_,_],h=>by simp at h
  | [_,_,_,_],h=>by simp at h
  | [_,_,_,_,_],h=>by simp at h
  | [_,_,_,_,_,_],h=>by simp at h
  | [_,_,_,_,_,_,_],h=>by simp at h
  | [_,_,_,_,_,_,_,_],h=>by simp at h
  | _::_::_::_::_::_::_::_::_::_::l,h=>by simp only [List.length_cons] at h;omega

theorem z9L {w:World}{cs:List Value}{xss:List (List Int)}{i:Nat}{A:Option Addr}{xs:List Int}(h:tStks.ro w cs xss) (hl:tStk.ro w [.pointer A] xs):
    tStks.ro w (cs.set i (.pointer A)) (xss.set i xs):=by
  obtain⟨a0,a1,a2,a3,a4,a5,a6,a7,a8,h1,h2⟩:=h
  have h3:=h2.set (z5p hl) i
  obtain⟨b0,b1,b2,b3,b4,b5,b6,b7,b8,e⟩:=zdm (l:=[a0,a1,a2,a3,a4,a5,a6,a7,a8].set i A) (by simp)
  refine⟨b0,b1,b2,b3,b4,b5,b6,b7,b8,?_,e ▸ h3⟩
  rw [h1,show([Value.pointer a0,.pointer a1,.pointer a2,.pointer a3,.pointer a4,.pointer a5,.pointer a6,.pointer a7,.pointer a8]:List Value)=[a0,a1,a2,a3,a4,a5,a6,a7,a8].map Value.pointer from rfl,← List.map_set,e]
  rfl

section
variable {W:Base}{w:World}{Rs:List Res}{g:Nat}{e:TypeId}
theorem St.freezeRow {cs:List Value}(h:St W w (Box g cs e::Rs)):∃ W1:Base,Ext W W1∧Row W1.W g cs∧St W1 w Rs:=by
  obtain⟨W1,G,h1,⟨_,hh⟩,h3,h4⟩:=h.freezeR
  exact⟨W1,h1,⟨e,hh⟩,h4⟩

theorem St.newLnk {x:Int}{A:Option Addr}{xs:List Int}(h:St W w (Box g [.int .i64 x,.pointer A] e::Rs)) (hl:tStk.ro W.W [.pointer A] xs):
    ∃ W1:Base,Ext W W1∧tStk.ro W1.W [.pointer (some ⟨g,0,none⟩)] (x::xs)∧St W1 w Rs:=by
  obtain⟨W1,h1,h2,h3⟩:=h.freezeRow
  exact⟨W1,h1,⟨_,rfl,g,A,rfl,h2,(z5p hl).ext h1⟩,h3⟩

theorem St.newBnd {lam:Int}{a0 a1 a2 a3 a4 a5 a6 a7 a8 A:Option Addr}{ss:List (List Int)}{bs:List (Int × List (List Int))}
    (h:St W w (Box g [.int .i64 lam,.pointer a0,.pointer a1,.pointer a2,.pointer a3,.pointer a4,.pointer a5,.pointer a6,.pointer a7,.pointer a8,.pointer A] e::Rs))
    (hs:tStks.ro W.W [.pointer a0,.pointer a1,.pointer a2,.pointer a3,.pointer a4,.pointer a5,.pointer a6,.pointer a7,.pointer a8] ss) (hb:tBnd.ro W.W [.pointer A] bs):
    ∃ W1:Base,Ext W W1∧tBnd.ro W1.W [.pointer (some ⟨g,0,none⟩)] ((lam,ss)::bs)∧St W1 w Rs:=by
  obtain⟨W1,h1,h2,h3⟩:=h.freezeRow
  exact⟨W1,h1,⟨_,rfl,g,A,_,rfl,h2,tStks.ext h1 hs,(z9B hb).ext h1⟩,h3⟩
end


section
variable {P:Program}{T:TT}(ht:TTok P T){n:Nat}{F:Fr}{w:Base}{o:Oper}{v:Value}
include ht

theorem TTok.ptr {t e:Nat}{i:TI}(h:T.get t=some i) (hd:i.d=.ptr e):P.underlying t=some (.pointer e):=by
  obtain⟨d,h1,h2,_⟩:=ht.desc h
  rw [hd] at h2
  cases d<;>simp [descOk] at h2
  subst h2
  exact h1

theorem TTok.arr {t len e:Nat}{i:TI}(h:T.get t=some i) (hd:i.d=.arr len e):P.underlying t=some (.array len e):=by
  obtain⟨d,h1,h2,_⟩:=ht.desc h
  rw [hd] at h2
  cases d<;>simp [descOk] at h2
  obtain⟨rfl,rfl⟩:=h2
  exact h1


theorem Quiet.ptrNil {t u e:Nat}{x y:Operand}{i:TI}{A:Option Addr}{b:Bool}(h:A.isNone=b)
    (ho:o.op=.binOp .eql t x y u) (hi:T.get t=some i) (hd:i.d=.ptr e) (hx:F.ev x=some (.pointer A)) (hy:F.ev y=some (.pointer none)):Quiet P n F w o (.bool b):=by
  subst h
  intro a w' ha _
  unfold execOp
  rw [ho]
  have hu:=ht.ptr hi hd
  have hg:(eqGuard .eql t x y (.pointer A) (.pointer none)).run P w'=.ok () w':=by unfold eqGuard;simp
  have h:∀ d,(Op.equalIn (d+1) t (.pointer A) (.pointer none)).run P w'=.ok A.isNone w':=fun d=>by cases A<;>simp [Op.equalIn,run_underlying hu]
  have hb:(binOp .eql t (.pointer A) (.pointer none)).run P w'=.ok (.bool A.isNone) w':=by
    simp only [binOp,Op.equal,Op.maxDepth]
    simp [h 9999]
  simp [ha.ev hx,ha.ev hy,hg,hb]

theorem Quiet.ptrNotNil {t u e:Nat}{x y:Operand}{i:TI}{A:Option Addr}{b:Bool}(h:A.isNone=b)
    (ho:o.op=.binOp .neq t x y u) (hi:T.get t=some i) (hd:i.d=.ptr e) (hx:F.ev x=some (.pointer A)) (hy:F.ev y=some (.pointer none)):Quiet P n F w o (.bool (!b)):=by
  subst h
  intro a w' ha _
  unfold execOp
  rw [ho]
  have hu:=ht.ptr hi hd
  have hg:(eqGuard .neq t x y (.pointer A) (.pointer none)).run P w'=.ok () w':=by unfold eqGuard;simp
  have h:∀ d,(Op.equalIn (d+1) t (.pointer A) (.pointer none)).run P w'=.ok A.isNone w':=fun d=>by cases A<;>simp [Op.equalIn,run_underlying hu]
  have hb:(binOp .neq t (.pointer A) (.pointer none)).run P w'=.ok (.bool (!A.isNone)) w':=by
    simp only [binOp,Op.equal,Op.maxDepth]
    simp [h 9999]
  simp [ha.ev hx,ha.ev hy,hg,hb]


theorem Quiet.ptrNe {t u e:Nat}{x y:Operand}{i j:TI}{A B:Option Addr}{xs ys:List Int}(hA:Lnk w.W A xs) (hB:Lnk w.W B ys)
    (ho:o.op=.binOp .neq t x y u) (hi:T.get t=some i) (hd:i.d=.ptr e) (hj:T.get e=some j) (hs:j.size≠0) (hx:F.ev x=some (.pointer A)) (hy:F.ev y=some (.pointer B)):Quiet P n F w o (.bool (decide (A≠B))):=by
  intro a w' ha he
  have hA:=Lnk.ext he hA
  have hB:=Lnk.ext he hB
  unfold execOp
  rw [ho]
  have hu:=ht.ptr hi hd
  have hg:(eqGuard .neq t x y (.pointer A) (.pointer B)).run P w'=.ok () w':=by unfold eqGuard;simp
  have h:∀ d,(Op.equalIn (d+1) t (.pointer A) (.pointer B)).run P w'=.ok (decide (A=B)) w':=fun d=>by
    cases A with
    | none=>cases B<;>simp [Op.equalIn,run_underlying hu]
    | some p=>
      cases B with
      | none=>simp [Op.equalIn,run_underlying hu]
      | some q=>
        by_cases hpq:p=q
        · subst hpq
          simp [Op.equalIn,run_underlying hu,ht.sizeOf hj,hs,run_sameAddr_same]
        · cases xs with
          | nil=>exact absurd hA (by simp [Lnk])
          | cons x1 xs=>
            cases ys with
            | nil=>exact absurd hB (by simp [Lnk])
            | cons y1 ys=>
              obtain⟨g,A',e1,⟨ea,h1⟩,_⟩:=hA
              obtain⟨g',B',e2,⟨eb,h2⟩,_⟩:=hB
              simp only [Option.some.injEq] at e1 e2
              subst e1;subst e2
              simp [Op.equalIn,run_underlying hu,ht.sizeOf hj,hs,run_sameAddr_other w' hpq h1 h2,hpq]
  have hb:(binOp .neq t (.pointer A) (.pointer B)).run P w'=.ok (.bool (decide (A≠B))) w':=by
    simp only [binOp,Op.equal,Op.maxDepth]
    simp [h 9999]
  simp [ha.ev hx,ha.ev hy,hg,hb]


theorem Quiet.arrAddr {t len e:Nat}{x ix:Operand}{i j:TI}{g:Nat}{k:IntKind}{m:Int}(ho:o.op=.indexAddr t x ix) (hi:T.get t=some i) (hd:i.d=.arr len e) (hj:T.get e=some j) (hs:j.size=1)
    (hx:F.ev x=some (.pointer (some ⟨g,0,none⟩))) (hm:F.ev ix=some (.int k m)) (h0:0≤m) (hlt:m.toNat<len):Quiet P n F w o (.pointer (some ⟨g,m.toNat,none⟩)):=by
  intro a w' ha _
  have hu:=ht.arr hi hd
  have hmm:m<len:=by omega
  unfold execOp
  rw [ho]
  simp [ha.ev hx,ha.ev hm,Instr.indexAt,Instr.sureAddr,asIntOf,Go.underlying,hu,h0,hmm,ht.sizeOf hj,hs,z8B]
end

section
variable {P:Program}{n:Nat}{Q:Post}{F:Fr}{W:Base}{w:World}{ops rest:List Oper}{o:Oper}{T:TT}(ht:TTok P T)
include ht


theorem RW.storeStk {B:List Res}{g:Nat}{cs:List Value}{xss:List (List Int)}{A:Option Addr}{xs:List Int}{e i:Nat}(hS:St W w (Box g cs e::B)) (hs:tStks.ro W.W cs xss) (hl:tStk.ro W.W [.pointer A] xs) (hlt:i<9)
    (hg:guardOf ops F o=some true){t:Nat}{x y:Operand}(ho:o.op=.store t x y) (hd:o.dst=none){j:TI}(hj:T.get t=some j) (hj1:j.size=1) (hx:F.ev x=some (.pointer (some ⟨g,i,none⟩))) (hy:F.ev y=some (.pointer A))
    (h:∀ (w':World) cs',tStks.ro W.W cs' (xss.set i xs)→St W w' (Box g cs' e::B)→RW P n ops Q rest F w'):RW P n ops Q (o::rest) F w:=by
  have hc:cs.length=9:=tStks.len hs
  refine RW.store ht (A:=[]) (cs':=cs.set i (.pointer A)) hS hg ho hd hj hx i rfl hy (by rw [hj1];rfl) rfl ?_ (fun w' hS'=>h w' _ (z9L hs hl) hS')
  show setAt cs i [.pointer A]=_
  unfold setAt
  rw [show Nat.blt i cs.length=true from by simp;omega]
  rfl

theorem LM.storeStk {B:List Res}{g:Nat}{cs:List Value}{xss:List (List Int)}{A:Option Addr}{xs:List Int}{e i:Nat}(hS:St W w (Box g cs e::B)) (hs:tStks.ro W.W cs xss) (hl:tStk.ro W.W [.pointer A] xs) (hlt:i<9)
    {W9:Base}{w0:World}{wm fuel kk mm ii:Nat}{sk:List (List Nat × Nat)}(d:Ext W9 W) (hsk:skOf ops=sk∧ops.length=kk) (m':Nat) (hm':mm ||| 2 ^ ii=m') (hwi:wm.testBit ii=true) (hni:nthv ops ii=some o)
    (hg:guardOf ops F o=some true){t:Nat}{x y:Operand}(ho:o.op=.store t x y) (hd:o.dst=none){j:TI}(hj:T.get t=some j) (hj1:j.size=1) (hx:F.ev x=some (.pointer (some ⟨g,i,none⟩))) (hy:F.ev y=some (.pointer A))
    (h:∀ (w':World) cs',tStks.ro W.W cs' (xss.set i xs)→St W w' (Box g cs' e::B)→DM P n ops Q W9 w0 wm fuel kk m' F w'):LM P n ops Q W9 w0 wm fuel kk mm ii F w:=by
  have hc:cs.length=9:=tStks.len hs
  have hset:setAt cs i [.pointer A]=some (cs.set i (.pointer A)):=by
    unfold setAt
    rw [show Nat.blt i cs.length=true from by simp;omega]
    rfl
  obtain⟨G,⟨hG,hh⟩,_,hlo⟩:=hS.sep.head
  obtain⟨w',r1,r2,r3,r4,r5,r6,r7⟩:=z1e (P:=P) g i e [.pointer A] 0 w cs _ rfl hh (by simpa using hset)
  have hge:W.fr g:=hlo g (by rw [hG];simp)
  have hS':St W w' (Box g (cs.set i (.pointer A)) e::B):=by
    refine⟨⟨r5.trans hS.ext.os,r6.trans hS.ext.tape,r7.trans hS.ext.output,by rw [r4];exact hS.le,fun k hk=>?_⟩,?_⟩
    · show w'.heap[k]? = _;rw [r3 k (fun e=>hk (e ▸ hge))];exact hS.ext.block k hk
    · refine hS.sep.upd hS.up fun G' hG' _ _=>?_
      obtain⟨e1,_⟩:=hG'
      exact⟨[g],⟨rfl,r2⟩,by simp,fun b hb=>.inl (by rw [e1];exact hb),fun b hb hn=>r3 b (by rintro rfl;exact hn (by rw [e1];simp))⟩
  refine LM.unitW hsk (w':=w') m' hm' hwi hni hg (fun a ha=>?_) hd (d.trans hS'.ext) (h w' _ (z9L hs hl) hS')
  unfold execOp
  rw [ho]
  simp [ha.ev hx,ha.ev hy,Instr.storeAt,Instr.sureAddr,storeVar,ht.sizeOf hj,hj1,cellsV,r1,Value.cells]
end
end Go.E


namespace Go.E
open Go.RowKit
set_option linter.unusedVariables false
set_option linter.unusedSimpArgs false


def Bor (W:Base){α:Type}(T U:Ty α):Prop:=∀ {w:World}{cs:List Value}{x:α},T.ro W.W cs x→U.own w cs x []
theorem Bor.bor {W:Base}{α:Type}{T:Ty α}:Bor W T (tBor W T):=fun h=>⟨h,rfl⟩
theorem Bor.int {W:Base}:Bor W tInt tInt:=fun h=>⟨h,rfl⟩
theorem Bor.bool {W:Base}:Bor W tBool tBool:=fun h=>⟨h,rfl⟩
theorem Bor.str {W:Base}:Bor W tStr tStr:=fun h=>⟨h,rfl⟩
theorem Bor.unit {W:Base}:Bor W tUnit tUnit:=fun h=>⟨h,rfl⟩
theorem Bor.pair {W:Base}{α β:Type}{T T':Ty α}{U U':Ty β}(h:Bor W T T') (k:Bor W U U'):Bor W (tPair T U) (tPair T' U'):=by
  rintro w _ x ⟨c,d,rfl,h1,h2⟩
  exact⟨c,d,[],[],rfl,rfl,h h1,k h2⟩
theorem Bor.map {W:Base}{α β:Type}{f:β→α}{T T':Ty α}(h:Bor W T T'):Bor W (tMap f T) (tMap f T'):=fun k=>h k

theorem Els.bor {W:Base}{α:Type}{T U:Ty α}(hf:Bor W T U){w:World}:∀ {xs:List α}{cs:List Value},Els T W.W cs xs→ElsO U w cs xs []
  | [],_,h=>⟨h,rfl⟩
  | _::_,_,⟨c,d,h,h1,h2⟩=>⟨c,d,[],[],h,rfl,hf h1,Els.bor hf h2⟩

theorem RW.appendBor {α:Type}{V U:Ty α}{P:Program}{T:TT}(ht:TTok P T){W W0:Base}(hfl:Bor W0 V U){n:Nat}{ops rest:List Oper}{Q:Post}{F:Fr}{w:World}{B:List Res}{o:Oper}{e:Nat}{A:Option Addr}{k:Nat}{xs ys:List α}
    (hS:St W w (Own (tSl e U) [.slice A xs.length k] xs::B)) (hg:guardOf ops F o=some true)
    {t:Nat}{s x:Operand}{i j:TI}(ho:o.op=.call { callee:=.builtin .append,args:=#[s,x],argTypes:=#[t,t] }) (hi:T.get t=some i) (hd:i.d=.slice e) (hj:T.get e=some j) (hs:U.size=j.size) (hpos:0<U.size)
    (hx:F.ev s=some (.slice A xs.length k)){A2:Option Addr}{k2:Nat}(hy:F.ev x=some (.slice A2 ys.length k2)){e':Nat}(hr:(tSl e' V).ro W0.W [.slice A2 ys.length k2] ys) (he0:Ext W0 w)
    (y:(xs.length:Int)+ys.length≤4294967296) (hb:j.bytes≤32768){d:Nat}(hd':o.dst=some d) (hn:Nat.blt d n=true)
    (h:∀ A' k' (w':World),St W w' (Own (tSl e U) [.slice A' (xs++ys).length k'] (xs++ys)::B)→RW P n ops Q rest ((d,.slice A' (xs++ys).length k')::F) w'):RW P n ops Q (o::rest) F w:=by
  obtain⟨A3,c3,els,he,hc,h1,h2⟩:=hr
  simp only [List.cons.injEq,Value.slice.injEq,and_true] at he
  obtain⟨rfl,_,rfl⟩:=he
  have b:=(hS.flatEls (U:=U) (els:=els) (ys:=ys) (Els.bor hfl h1)).bring 1 rfl
  have hm:(xs.length+ys.length)*j.bytes≤4294967296*32768:=Nat.mul_le_mul (by omega) hb
  exact RW.append ht b hg ho hi hd hj hs hpos hx hy (fun hn=>let ⟨p,hp,ha⟩:=h2 hn;⟨p,hp,ha.ext he0⟩) (by simp only [maxLen];omega) (by omega) hd' hn h

theorem LM.appendBor {α:Type}{V U:Ty α}{P:Program}{T:TT}(ht:TTok P T){W W0:Base}(hfl:Bor W0 V U){n:Nat}{ops:List Oper}{Q:Post}{F:Fr}{w:World}{B:List Res}{o:Oper}{e:Nat}{A:Option Addr}{k:Nat}{xs ys:List α}
    (hS:St W w (Own (tSl e U) [.slice A xs.length k] xs::B)){wm fuel kk mm ii:Nat}{w0:World}{sk:List (List Nat × Nat)}(hsk:skOf ops=sk∧ops.length=kk) (m':Nat) (hm':mm ||| 2 ^ ii=m') (hwi:wm.testBit ii=true) (hni:nthv ops ii=some o) (hg:guardOf ops F o=some true)
    {t:Nat}{s x:Operand}{i j:TI}(ho:o.op=.call { callee:=.builtin .append,args:=#[s,x],argTypes:=#[t,t] }) (hi:T.get t=some i) (hd:i.d=.slice e) (hj:T.get e=some j) (hs:U.size=j.size) (hpos:0<U.size)
    (hx:F.ev s=some (.slice A xs.length k)){A2:Option Addr}{k2:Nat}(hy:F.ev x=some (.slice A2 ys.length k2)){e':Nat}(hr:(tSl e' V).ro W0.W [.slice A2 ys.length k2] ys) (he0:Ext W0 w)
    (y:(xs.length:Int)+ys.length≤4294967296) (hb:j.bytes≤32768){d:Nat}(hd':o.dst=some d) (hn:Nat.blt d n=true)
    (h:∀ A' k' (w':World),St W w' (Own (tSl e U) [.slice A' (xs++ys).length k'] (xs++ys)::B)→DM P n ops Q W w0 wm fuel kk m' ((d,.slice A' (xs++ys).length k')::F) w'):LM P n ops Q W w0 wm fuel kk mm ii F w:=by
  obtain⟨A3,c3,els,he,hc,h1,h2⟩:=hr
  simp only [List.cons.injEq,Value.slice.injEq,and_true] at he
  obtain⟨rfl,_,rfl⟩:=he
  have b:=(hS.flatEls (U:=U) (els:=els) (ys:=ys) (Els.bor hfl h1)).bring 1 rfl
  have hm:(xs.length+ys.length)*j.bytes≤4294967296*32768:=Nat.mul_le_mul (by omega) hb
  exact LM.append ht b hsk m' hm' hwi hni hg ho hi hd hj hs hpos hx hy (fun hn=>let ⟨p,hp,ha⟩:=h2 hn;⟨p,hp,ha.ext he0⟩) (by simp only [maxLen];omega) (by omega) hd' hn h
end Go.E


namespace Go.E
open Go.RowKit Go.Proofs
set_option linter.unusedVariables false
set_option linter.unusedSimpArgs false

theorem q1B {P:Program}{T:TT}{n:Nat}{F:Fr}{w:Base}{o:Oper}{v:Value}{t:Nat}{x:Operand}{i:TI}{p q:Addr}{cs:List Value}(hat:At w.W p cs) (off:Nat) (ht:TTok P T:=by exact ttok) (ho:o.op=.load t x:=by exact rfl) (hi:T.get t=some i:=by exact rfl) (hag:i.agg=false:=by exact rfl) (hx:F.ev x=some (.pointer (some q)):=by exact rfl) (hq:q=p.add off:=by exact rfl) (hv:nthv cs off=some v:=by exact rfl):Quiet P n F w o v:=Quiet.load1 ht ho hi hag hx hat off hq hv

abbrev ty95:Ty (List Int):=tStk
abbrev z5J:Ty (List (Int × List (List Int))):=tBnd
abbrev ty97:Ty (List (List Int)):=tStks

def z4Q (fuel:Nat) (x0 x1:List Int):Option Bool:=some (decide (x0=x1))
theorem zbg:Enters Tryz.prog 125:=⟨_,_,Tryz.func125,rfl,by kernel_rfl⟩
set_option maxRecDepth 100000 in
theorem z6E {W:Base}{w:World}(hE:Ext W w){c0:Option Addr}{x0:(List Int)}{d0:Option Addr}{x1:(List Int)}(F0:ty95.ro W [.pointer c0] x0) (G0:ty95.ro W [.pointer d0] x1){fuel:Nat}{r:Bool}(hm:z4Q fuel x0 x1=some r):
    Calls Tryz.prog 125 ⟨[.pointer c0,.pointer d0]⟩ w (Ret fun v w8=>v=.bool r∧St w w8 []):=by
  refine Calls.into Tryz.func125 rfl 33 rfl rfl _ rfl ?_
  have hr:r=decide (x0=x1):=(Option.some.inj hm).symm
  subst hr
  have hS:=St.start w
  refine WP.seq ?_
  refine WP.region ?_
  refine RW.run ttok 1 rfl ?_
  refine RW.nil ?_
  refine WP.seq ?_
  refine WP.cut (fun(t2:Unit) F w9=>decide (x0=x1)=true∧Ext w w9∧St w w9 []∧F=[]) ?_ ?_
  · skip
    rintro t2 F S0 ⟨C0,K0,o0,rfl⟩
    refine WP.seq ?_
    refine WP.region ?_
    refine RW.run ttok 1 rfl ?_
    refine RW.nil ?_
    refine WP.ret ?_
    exact⟨_,.cons (.tmp rfl) .nil,by rw [C0];rfl,o0⟩
  · skip
    refine WP.block ?_
    refine WP.weak [(0,.pointer c0),(1,.pointer d0)] ⟨rfl,rfl,trivial⟩ ?_
    refine WP.loop (fun(s1:(List Int) × (List Int)) F w9=>∃ d o,decide (x0=x1)=decide (s1.1=s1.2)∧Ext w w9∧ty95.ro W [.pointer d] s1.1∧ty95.ro W [.pointer o] s1.2∧St w w9 []∧F=[(0,.pointer d),(1,.pointer o)]) (fun s1=>s1.1.length) (x0,x1) ⟨c0,d0,rfl,(Ext.refl _),F0,G0,hS,rfl⟩ ?_
    rintro s1 F O0 ⟨d,o,hd,b0,O,Y,b,rfl⟩
    refine WP.seq ?_
    refine WP.seq ?_
    refine WP.region ?_
    refine RW.run ttok 2 rfl ?_
    refine RW.quiet rfl (Quiet.ptrNe ttok (Lnk.ext (hE.trans b.ext) (z5p O)) (Lnk.ext (hE.trans b.ext) (z5p Y)) rfl rfl rfl rfl (by decide) rfl rfl) rfl rfl ?_
    refine RW.nil ?_
    refine WP.cond (decide (d≠o)) rfl (fun hc=>?_) (fun hc=>?_)
    · skip
      refine WP.skip ?_
      refine WP.block ?_
      refine WP.seq ?_
      refine WP.seq ?_
      refine WP.cut (fun(G:(List Int) × (List Int) × Bool) F w9=>∃ e0 f0,(G.1.length=s1.1.length∧(G.2.2=true→decide (x0=x1)=false)∧(G.2.2=false→∃ y xs ys,G.1=y::xs∧G.2.1=y::ys∧decide (x0=x1)=decide (xs=ys)))∧Ext O0 w9∧ty95.ro W [.pointer e0] G.1∧ty95.ro W [.pointer f0] G.2.1∧St w w9 []∧F=[(0,.pointer e0),(1,.pointer f0),(24,.bool G.2.2)]) ?_ ?_
      · skip
        rintro G F T0 ⟨e0,f0,⟨hlen,v0,y0⟩,k0,H0,J0,H,rfl⟩
        refine WP.cond G.2.2 rfl (fun hc=>?_) (fun hc=>?_)
        · skip
          refine WP.seq ?_
          refine WP.region ?_
          refine RW.run ttok 1 rfl ?_
          refine RW.nil ?_
          refine WP.ret ?_
          exact⟨_,.cons (.tmp rfl) .nil,by rw [v0 hc];rfl,H⟩
        · skip
          obtain⟨y38,xs,ys,e1,e2,e3⟩:=y0 hc
          refine WP.skip ?_
          refine WP.drawnM 0 mixed 10 (by kernel_rfl) (by kernel_rfl) [([],1023),([0],1022),([1],1021),([2],1019),([],1023),([4],1007),([5],991),([6],959),([3,0,1,2,3],1014),([7,8,0,1,2,3,4,5,6,7,8],879)] (by kernel_rfl) H.ext (fun hsk36=>?_)
          have p0:=H.step (Ext.draw _)
          refine DM.run (fuel:=8) ttok hsk36 [0,4] 17 (by kernel_rfl) (by kernel_rfl) rfl ?_
          obtain⟨R0,g0,rfl,q0,A0⟩:=z6i H0 (x:=y38) (by rw [e1];rfl)
          refine DM.run (fuel:=7) ttok hsk36 [1] 19 (by kernel_rfl) (by kernel_rfl) rfl ?_
          refine DM.run (fuel:=6) ttok hsk36 [2] 23 (by kernel_rfl) (by kernel_rfl) rfl ?_
          refine DM.load1 ttok hsk36 3 31 (by kernel_rfl) (by kernel_rfl) (by kernel_rfl) (by kernel_rfl) rfl (by kernel_rfl) rfl rfl rfl rfl rfl (At.ext (hE.trans H.ext) q0) 1 rfl rfl rfl rfl ?_
          refine DM.run (fuel:=4) ttok hsk36 [8] 287 (by kernel_rfl) (by kernel_rfl) rfl ?_
          obtain⟨E0,D0,rfl,r0,B0⟩:=z6i J0 (x:=y38) (by rw [e2];rfl)
          refine DM.run (fuel:=3) ttok hsk36 [5] 319 (by kernel_rfl) (by kernel_rfl) rfl ?_
          refine DM.run (fuel:=2) ttok hsk36 [6] 383 (by kernel_rfl) (by kernel_rfl) rfl ?_
          refine DM.weak [(0,.pointer g0),(1,.pointer (some ⟨E0,0,none⟩)),(31,.pointer (some ((⟨E0,0,none⟩:Addr).add 1)))] ⟨rfl,rfl,rfl,trivial⟩ ?_
          refine DM.load1 ttok hsk36 7 511 (by kernel_rfl) (by kernel_rfl) (by kernel_rfl) (by kernel_rfl) rfl (by kernel_rfl) rfl rfl rfl rfl rfl (At.ext (hE.trans H.ext) r0) 1 rfl rfl rfl rfl ?_
          refine DM.run (fuel:=0) ttok hsk36 [9] 1023 (by kernel_rfl) (by kernel_rfl) rfl ?_
          refine DM.done hsk36 (by kernel_rfl) ?_
          exact⟨(G.1.tail,G.2.1.tail),[(0,.pointer g0),(1,.pointer D0)],⟨rfl,rfl,trivial⟩,⟨g0,D0,by rw [e1,e2];exact e3,((b0.trans k0).trans (Ext.draw _)),A0,B0,p0,rfl⟩,by show G.1.tail.length<s1.1.length;rw [← hlen,e1];simp⟩
      · skip
        refine WP.drawnM 0 mixed 17 (by kernel_rfl) (by kernel_rfl) [([],131071),([0],131070),([1],131069),([2],131067),([3,2],131059),([2,4],131051),([5,2],131039),([6],131007),([7,6],130879),([8,6],130751),([9,6],130495),([6],131007),([11,6],128959),([12,6],126911),([13,6],122815),([10,14,6],113599),([6,15],98239)] (by kernel_rfl) b.ext (fun hsk50=>?_)
        have a0:=b.step (Ext.draw _)
        refine DM.run (fuel:=16) ttok hsk50 [0] 1 (by kernel_rfl) (by kernel_rfl) rfl ?_
        refine DM.quietP hsk50 1 3 (by kernel_rfl) (by kernel_rfl) rfl (by kernel_rfl) rfl (fun _=>Quiet.ptrNil ttok (z8g O) rfl rfl rfl rfl rfl) rfl rfl ?_
        refine DM.run (fuel:=14) ttok hsk50 [2] 7 (by kernel_rfl) (by kernel_rfl) rfl ?_
        by_cases hg52:s1.1.isEmpty=true
        · skip
          have hb:decide (x0=x1)=false:=by
            rw [hd]
            refine decide_eq_false fun e=>of_decide_eq_true hc ?_
            exact(by
              have h1:=z5p O
              have h2:=z5p Y
              rw [← e] at h2
              rw [List.isEmpty_iff] at hg52
              rw [hg52] at h1 h2
              exact(show d=none from h1).trans (show o=none from h2).symm)
          refine DM.know 10 rfl (congrArg Value.bool hg52) ?_
          refine DM.run (fuel:=0) ttok hsk50 [3,4,5,6,7,8,9,10,11,12,13,14,15,16] 131071 (by kernel_rfl) (by kernel_rfl) rfl ?_
          refine DM.weak [(0,.pointer d),(1,.pointer o),(24,.bool true)] ⟨rfl,rfl,rfl,trivial⟩ ?_
          refine DM.done hsk50 (by kernel_rfl) ?_
          exact⟨(s1.1,s1.2,true),[(0,.pointer d),(1,.pointer o),(24,.bool true)],⟨rfl,rfl,rfl,trivial⟩,d,o,⟨rfl,fun _=>hb,fun h=>by cases h⟩,(Ext.draw _),O,Y,a0,rfl⟩
        · skip
          refine DM.know 10 rfl (congrArg Value.bool (Bool.eq_false_iff.2 hg52)) ?_
          refine DM.run (fuel:=13) ttok hsk50 [3] 15 (by kernel_rfl) (by kernel_rfl) rfl ?_
          refine DM.quietP hsk50 4 31 (by kernel_rfl) (by kernel_rfl) rfl (by kernel_rfl) rfl (fun _=>Quiet.ptrNil ttok (z8g Y) rfl rfl rfl rfl rfl) rfl rfl ?_
          refine DM.run (fuel:=10) ttok hsk50 [5,6] 127 (by kernel_rfl) (by kernel_rfl) rfl ?_
          refine DM.weak [(0,.pointer d),(1,.pointer o),(14,.bool s1.2.isEmpty)] ⟨rfl,rfl,rfl,trivial⟩ ?_
          by_cases hg53:s1.2.isEmpty=true
          · skip
            have hb:decide (x0=x1)=false:=by
              rw [hd]
              refine decide_eq_false fun e=>hg52 ?_
              rw [e];exact hg53
            refine DM.know 14 rfl (congrArg Value.bool hg53) ?_
            refine DM.run (fuel:=0) ttok hsk50 [7,8,9,10,11,12,13,14,15,16] 131071 (by kernel_rfl) (by kernel_rfl) rfl ?_
            refine DM.weak [(0,.pointer d),(1,.pointer o),(24,.bool true)] ⟨rfl,rfl,rfl,trivial⟩ ?_
            refine DM.done hsk50 (by kernel_rfl) ?_
            exact⟨(s1.1,s1.2,true),[(0,.pointer d),(1,.pointer o),(24,.bool true)],⟨rfl,rfl,rfl,trivial⟩,d,o,⟨rfl,fun _=>hb,fun h=>by cases h⟩,(Ext.draw _),O,Y,a0,rfl⟩
          · skip
            have hq1:∃ y xs,s1.1=y::xs:=by
              cases hs:s1.1 with
              | nil=>rw [hs] at hg52;exact absurd rfl hg52
              | cons y xs=>exact⟨y,xs,rfl⟩
            have hq2:∃ y xs,s1.2=y::xs:=by
              cases hs:s1.2 with
              | nil=>rw [hs] at hg53;exact absurd rfl hg53
              | cons y xs=>exact⟨y,xs,rfl⟩
            obtain⟨y54,xs,e1⟩:=hq1
            obtain⟨y60,ys,e2⟩:=hq2
            refine DM.know 14 rfl (congrArg Value.bool (Bool.eq_false_iff.2 hg53)) ?_
            refine DM.run (fuel:=8) ttok hsk50 [7,11] 2303 (by kernel_rfl) (by kernel_rfl) rfl ?_
            obtain⟨i0,P0,rfl,t0,M0⟩:=z6i O (x:=y54) (by rw [e1];rfl)
            refine DM.run (fuel:=7) ttok hsk50 [8] 2559 (by kernel_rfl) (by kernel_rfl) rfl ?_
            refine DM.run (fuel:=6) ttok hsk50 [9] 3071 (by kernel_rfl) (by kernel_rfl) rfl ?_
            refine DM.load1 ttok hsk50 10 4095 (by kernel_rfl) (by kernel_rfl) (by kernel_rfl) (by kernel_rfl) rfl (by kernel_rfl) rfl rfl rfl rfl rfl (At.ext (hE.trans b.ext) t0) 0 rfl rfl rfl rfl ?_
            obtain⟨j0,Q0,rfl,u0,N0⟩:=z6i Y (x:=y60) (by rw [e2];rfl)
            refine DM.run (fuel:=4) ttok hsk50 [12] 8191 (by kernel_rfl) (by kernel_rfl) rfl ?_
            refine DM.run (fuel:=3) ttok hsk50 [13] 16383 (by kernel_rfl) (by kernel_rfl) rfl ?_
            refine DM.load1 ttok hsk50 14 32767 (by kernel_rfl) (by kernel_rfl) (by kernel_rfl) (by kernel_rfl) rfl (by kernel_rfl) rfl rfl rfl rfl rfl (At.ext (hE.trans b.ext) u0) 0 rfl rfl rfl rfl ?_
            refine DM.run (fuel:=0) ttok hsk50 [15,16] 131071 (by kernel_rfl) (by kernel_rfl) rfl ?_
            refine DM.weak [(0,.pointer (some ⟨i0,0,none⟩)),(1,.pointer (some ⟨j0,0,none⟩)),(24,.bool (y54 != y60))] ⟨rfl,rfl,rfl,trivial⟩ ?_
            refine DM.done hsk50 (by kernel_rfl) ?_
            exact⟨(s1.1,s1.2,(y54 != y60)),[(0,.pointer (some ⟨i0,0,none⟩)),(1,.pointer (some ⟨j0,0,none⟩)),(24,.bool (y54 != y60))],⟨rfl,rfl,rfl,trivial⟩,(some ⟨i0,0,none⟩),(some ⟨j0,0,none⟩),⟨rfl,fun h=>by
              rw [hd]
              refine decide_eq_false fun e=>?_
              rw [e1,e2] at e
              have:y54=y60:=(List.cons.inj e).1
              subst this
              simp at h,fun h=>⟨y54,xs,ys,e1,by
                have:y54=y60:=by simpa using h
                rw [e2,this],by
                have:y54=y60:=by simpa using h
                rw [hd,e1,e2,this]
                simp⟩⟩,(Ext.draw _),O,Y,a0,rfl⟩
    · skip
      refine WP.exit ?_
      refine⟨(),[],trivial,?_,b0,b,rfl⟩
      have e:d=o:=Classical.byContradiction fun hn=>by rw [decide_eq_true hn] at hc;cases hc
      subst e
      rw [hd]
      exact decide_eq_true ((z5p O).same (z5p Y))

end Go.E


