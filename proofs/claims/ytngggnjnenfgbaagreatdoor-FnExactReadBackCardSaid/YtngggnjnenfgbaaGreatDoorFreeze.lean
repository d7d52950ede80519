/- What is one's own may become settled in the middle of a call: a new base to stand on. Conditions: none (rules). -/
import Derived.Test.YtngggnjnenfgbaaGreatDoorField
namespace Go.E
open Go.RowKit
set_option linter.unusedVariables false
set_option linter.unusedSimpArgs false


def offB (W:Base) (G:List Nat) (b:Nat):Bool:=(Nat.ble W.W.heap.size b || W.D b) && !G.contains b

theorem z72 {W:Base}{G:List Nat}{b:Nat}:offB W G b=true↔W.fr b∧b ∉ G:=by
  unfold offB Base.fr
  simp

def coverH (W:Base) (w:World) (G:List Nat):Array Obj:=w.heap.mapIdx fun b o=>bif offB W G b then .cells #[] 0 (0,0) else o

theorem z5e {W:Base}{w:World}{G:List Nat}:(coverH W w G).size=w.heap.size:=by simp [coverH]
theorem zaw {W:Base}{w:World}{G:List Nat}{b:Nat}(h:offB W G b=true) (hb:b<w.heap.size):(coverH W w G)[b]? = some (.cells #[] 0 (0,0)):=by
  simp [coverH,h,hb]
theorem z6u {W:Base}{w:World}{G:List Nat}{b:Nat}(h:offB W G b=false):(coverH W w G)[b]? = w.heap[b]?:=by
  simp [coverH,h]


def cover (W:Base) (w:World) (G:List Nat):Base where
  W:={ w with heap:=coverH W w G }
  D:=offB W G
  gone:=fun b h hb=>zaw h (by simpa [z5e] using hb)

section
variable {W:Base}{w w':World}{G:List Nat}{Rs:List Res}

theorem za4 {b:Nat}:(cover W w G).fr b↔w.heap.size≤b∨(W.fr b∧b ∉ G):=by
  unfold Base.fr cover
  simp only [z5e,z72]
  rfl

theorem z9w {b:Nat}(h:¬ W.fr b):offB W G b=false:=by
  rw [Bool.eq_false_iff]
  exact fun e=>h (z72.1 e).1

theorem zbC (h:Ext W w):Ext W (cover W w G):=by
  refine⟨h.os,h.tape,h.output,?_,fun k hk=>?_⟩
  · show _≤(coverH W w G).size
    rw [z5e];exact h.size
  · show(bif offB W G k then none else(coverH W w G)[k]?)=_
    rw [z9w hk,cond_false,z6u (z9w hk)]
    exact h.same hk


theorem zav (h:Ext W w):Ext W (Base.of (cover W w G).W):=by
  refine⟨h.os,h.tape,h.output,?_,fun k hk=>?_⟩
  · show _≤(coverH W w G).size
    rw [z5e];exact h.size
  · show(coverH W w G)[k]? = _
    rw [z6u (z9w hk)]
    exact h.same hk

theorem zbB:Ext (cover W w G) w:=by
  refine⟨rfl,rfl,rfl,?_,fun k hk=>?_⟩
  · show(coverH W w G).size≤_
    rw [z5e];exact Nat.le_refl _
  · show w.heap[k]? = (coverH W w G)[k]?
    rw [z6u]
    rw [Bool.eq_false_iff]
    exact fun e=>hk (za4.2 (.inr (z72.1 e)))

theorem SepU.cover:∀ {Rs:List Res}{U:List Nat},SepU w W.fr Rs U→(∀ g,g∈G→g∈U)→SepU w (Go.E.cover W w G).fr Rs U
  | [],_,_,_=>trivial
  | _::_,_,⟨H,h1,h2,h3,h4⟩,hG=>⟨H,h1,h2,fun g hg=>⟨za4.2 (.inr ⟨(h3 g hg).1,fun e=>(h3 g hg).2 (hG g e)⟩),(h3 g hg).2⟩,SepU.cover h4 fun g hg=>List.mem_append_right _ (hG g hg)⟩


theorem St.freezeR {R:Res}(h:St W w (R::Rs)):∃ (W1:Base) (G:List Nat),Ext W W1∧R.A W1.W G∧Ext W (Base.of W1.W)∧St W1 w Rs:=by
  obtain⟨G,h1,h2,h3,h4⟩:=h.sep
  refine⟨cover W w G,G,zbC h.ext,R.loc h1 fun g hg=>?_,zav h.ext,zbB,?_⟩
  · show(coverH W w G)[g]? = _
    rw [z6u]
    rw [Bool.eq_false_iff]
    exact fun e=>(z72.1 e).2 hg
  · exact(SepU.cover h4 fun g hg=>by simpa using hg).congr fun g hg=>by cases hg

theorem St.freeze {α:Type}{T:Ty α}{cs:List Value}{x:α}[Reads W T] (h:St W w (Own T cs x::Rs)):∃ W1:Base,Ext W W1∧T.ro W1.W cs x∧St W1 w Rs:=by
  obtain⟨W1,G,h1,h2,h3,h4⟩:=h.freezeR
  exact⟨W1,h1,T.own_ro h2 (Reads.req h3),h4⟩

theorem St.unbase {W1:Base}(he:Ext W W1) (h:St W1 w Rs):St W w Rs:=
  ⟨he.trans h.ext,SepU.lower (fun b hb=>Classical.byContradiction fun hn=>he.keep hn hb) h.sep⟩


end
end Go.E


