/- What is one's own may become settled in the middle of a call: a new base to stand on. Conditions: none (rules). -/
import Derived.Test.YtfndicpnccabkaaGreatField
set_option linter.unusedVariables false
set_option linter.unusedSimpArgs false
namespace Go.E
open Go.RowKit


def zx3 (W:Base)(G:List Nat)(b:Nat):Bool:=(Nat.ble W.W.heap.size b || W.D b) && !G.contains b

theorem zg5 {W:Base}{G:List Nat}{b:Nat}:zx3 W G b=true↔W.fr b∧b ∉ G:=by
 unfold zx3 Base.fr
 simp

def zcr (W:Base)(w:World)(G:List Nat):Array Obj:=w.heap.mapIdx fun b o=>bif zx3 W G b then .cells #[] 0 (0,0) else o

theorem zcq {W:Base}{w:World}{G:List Nat}:(zcr W w G).size=w.heap.size:=by simp[zcr]
theorem zrx {W:Base}{w:World}{G:List Nat}{b:Nat}(h:zx3 W G b=true)(hb:b<w.heap.size):(zcr W w G)[b]? = some (.cells #[] 0 (0,0)):=by
 simp[zcr,h,hb]
theorem zeH {W:Base}{w:World}{G:List Nat}{b:Nat}(h:zx3 W G b=false):(zcr W w G)[b]? = w.heap[b]?:=by
 simp[zcr,h]


def cover (W:Base)(w:World)(G:List Nat):Base where
 W:={ w with heap:=zcr W w G }
 D:=zx3 W G
 gone:=fun b h hb=>zrx h (by simpa [zcq] using hb)

section
variable {W:Base}{w w':World}{G:List Nat}{Rs:List Res}

theorem zmA {b:Nat}:(cover W w G).fr b↔w.heap.size≤b∨(W.fr b∧b ∉ G):=by
 unfold Base.fr cover
 simp only[zcq,zg5]
 rfl

theorem zpg {b:Nat}(h:¬ W.fr b):zx3 W G b=false:=by
 rw[Bool.eq_false_iff]
 exact fun e=>h (zg5.1 e).1

theorem zgq (h:Ext W w):Ext W (cover W w G):=by
 refine⟨h.os,h.tape,h.output,h.drawn,?_,fun k hk=>?_⟩
 ·show _≤(zcr W w G).size
  rw[zcq];exact h.size
 ·show(bif zx3 W G k then none else(zcr W w G)[k]?)=_
  rw[zpg hk,cond_false,zeH (zpg hk)]
  exact h.same hk


theorem zkM (h:Ext W w):Ext W (Base.of (cover W w G).W):=by
 refine⟨h.os,h.tape,h.output,h.drawn,?_,fun k hk=>?_⟩
 ·show _≤(zcr W w G).size
  rw[zcq];exact h.size
 ·show(zcr W w G)[k]? = _
  rw[zeH (zpg hk)]
  exact h.same hk

theorem zoq:Ext (cover W w G) w:=by
 refine⟨rfl,rfl,rfl,Nat.le_refl _,?_,fun k hk=>?_⟩
 ·show(zcr W w G).size≤_
  rw[zcq];exact Nat.le_refl _
 ·show w.heap[k]? = (zcr W w G)[k]?
  rw[zeH]
  rw[Bool.eq_false_iff]
  exact fun e=>hk (zmA.2 (.inr (zg5.1 e)))

theorem zct.cover:∀ {Rs:List Res}{U:List Nat},zct w W.fr Rs U→(∀ g,g∈G→g∈U)→zct w (Go.E.cover W w G).fr Rs U
 | [],_,_,_=>trivial
 | _::_,_,⟨H,h1,h2,h3,h4⟩,hG=>⟨H,h1,h2,fun g hg=>⟨zmA.2 (.inr ⟨(h3 g hg).1,fun e=>(h3 g hg).2 (hG g e)⟩),(h3 g hg).2⟩,zct.cover h4 fun g hg=>List.mem_append_right _ (hG g hg)⟩


theorem St.freezeR {R:Res}(h:St W w (R::Rs)):∃ (W1:Base) (G:List Nat),Ext W W1∧R.A W1.W G∧Ext W (Base.of W1.W)∧St W1 w Rs:=by
 obtain⟨G,h1,h2,h3,h4⟩:=h.sep
 refine⟨cover W w G,G,zgq h.ext,R.loc h1 fun g hg=>?_,zkM h.ext,zoq,?_⟩
 ·show(zcr W w G)[g]? = _
  rw[zeH]
  rw[Bool.eq_false_iff]
  exact fun e=>(zg5.1 e).2 hg
 ·exact(zct.cover h4 fun g hg=>by simpa using hg).congr fun g hg=>by cases hg

theorem St.freeze {α:Type}{T:Ty α}{cs:List Value}{x:α}[Reads W T](h:St W w (Own T cs x::Rs)):∃ W1:Base,Ext W W1∧T.ro W1.W cs x∧St W1 w Rs:=by
 obtain⟨W1,G,h1,h2,h3,h4⟩:=h.freezeR
 exact⟨W1,h1,T.own_ro h2 (Reads.req h3),h4⟩

theorem St.lend {R:Res}(h:St W w (R::Rs)):∃ (W1:Base) (G:List Nat),Ext W W1∧R.A W1.W G∧Ext W (Base.of W1.W)∧St W1 w Rs∧∀ (w':World) (Ss:List Res),St W1 w' Ss→St W w' (R::Ss):=by
 obtain⟨G,h1,h2,h3,h4⟩:=h.sep
 have hG:∀ g,g∈G→(zcr W w G)[g]? = w.heap[g]?:=fun g hg=>by
  rw[zeH]
  rw[Bool.eq_false_iff]
  exact fun e=>(zg5.1 e).2 hg
 have hA:R.A (cover W w G).W G:=R.loc h1 hG
 have o:∀ g,g∈G→¬ (cover W w G).fr g:=fun g hg e=>by
  rcases zmA.1 e with e | e
  ·have:=R.lt h1 g hg;omega
  ·exact e.2 hg
 refine⟨cover W w G,G,zgq h.ext,hA,zkM h.ext,⟨zoq,(zct.cover h4 fun g hg=>by simpa using hg).congr fun g hg=>by cases hg⟩,fun w' Ss k=>?_⟩
 refine⟨(zgq h.ext).trans k.ext,G,R.loc hA fun g hg=>k.ext.same (o g hg),h2,h3,?_⟩
 have key:∀ {Ss:List Res}{U V:List Nat},zct w' (cover W w G).fr Ss U→(∀ g,g∈V→g∈U∨g∈G)→zct w' W.fr Ss V:=by
  intro Ss
  induction Ss with
  | nil=>exact fun _ _=>trivial
  | cons S Ss ih=>
   intro U V ⟨H,a1,a2,a3,a4⟩ hV
   refine⟨H,a1,a2,fun g hg=>⟨Classical.byContradiction fun hn=>(zgq h.ext).keep hn (a3 g hg).1,fun hv=>?_⟩,ih a4 fun g hg=>?_⟩
   ·rcases hV g hv with e | e
    ·exact(a3 g hg).2 e
    ·exact o g e (a3 g hg).1
   ·rcases List.mem_append.1 hg with e | e
    ·exact .inl (List.mem_append_left _ e)
    ·rcases hV g e with e | e
     ·exact .inl (List.mem_append_right _ e)
     ·exact .inr e
 exact key k.sep fun g hg=>.inr (by simpa using hg)
end
end Go.E



