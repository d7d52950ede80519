/- What is one's own may become settled in the middle of a call: a new base to stand on. Conditions: none (rules). -/
import Derived.Test.YtfndicpnccabkaaGreatField
namespace Go.E
open Go.RowKit
set_option linter.unusedVariables false
set_option linter.unusedSimpArgs false


def offB (W:Base) (G:List Nat) (b:Nat):Bool:=(Nat.ble W.W.heap.size b || W.D b) && !G.contains b

theorem zbk {W:Base}{G:List Nat}{b:Nat}:offB W G b=true↔W.fr b∧b ∉ G:=by
  unfold offB Base.fr
  simp

def coverH (W:Base) (w:World) (G:List Nat):Array Obj:=w.heap.mapIdx fun b o=>bif offB W G b then .cells #[] 0 (0,0) else o

theorem z8U {W:Base}{w:World}{G:List Nat}:(coverH W w G).size=w.heap.size:=by simp [coverH]
theorem ziY {W:Base}{w:World}{G:List Nat}{b:Nat}(h:offB W G b=true) (hb:b<w.heap.size):(coverH W w G)[b]? = some (.cells #[] 0 (0,0)):=by
  simp [coverH,h,hb]
theorem zam {W:Base}{w:World}{G:List Nat}{b:Nat}(h:offB W G b=false):(coverH W w G)[b]? = w.heap[b]?:=by
  simp [coverH,h]


def cover (W:Base) (w:World) (G:List Nat):Base where
  W:={ w with heap:=coverH W w G }
  D:=offB W G
  gone:=fun b h hb=>ziY h (by simpa [z8U] using hb)

section
variable {W:Base}{w w':World}{G:List Nat}{Rs:List Res}

theorem zfa {b:Nat}:(cover W w G).fr b↔w.heap.size≤b∨(W.fr b∧b ∉ G):=by
  unfold Base.fr cover
  simp only [z8U,zbk]
  rfl

theorem zh4 {b:Nat}(h:¬ W.fr b):offB W G b=false:=by
  rw [Bool.eq_false_iff]
  exact fun e=>h (zbk.1 e).1

theorem zby (h:Ext W w):Ext W (cover W w G):=by
  refine⟨h.os,h.tape,h.output,h.drawn,?_,fun k hk=>?_⟩
  · show _≤(coverH W w G).size
    rw [z8U];exact h.size
  · show(bif offB W G k then none else(coverH W w G)[k]?)=_
    rw [zh4 hk,cond_false,zam (zh4 hk)]
    exact h.same hk


theorem zeu (h:Ext W w):Ext W (Base.of (cover W w G).W):=by
  refine⟨h.os,h.tape,h.output,h.drawn,?_,fun k hk=>?_⟩
  · show _≤(coverH W w G).size
    rw [z8U];exact h.size
  · show(coverH W w G)[k]? = _
    rw [zam (zh4 hk)]
    exact h.same hk

theorem zgu:Ext (cover W w G) w:=by
  refine⟨rfl,rfl,rfl,Nat.le_refl _,?_,fun k hk=>?_⟩
  · show(coverH W w G).size≤_
    rw [z8U];exact Nat.le_refl _
  · show w.heap[k]? = (coverH W w G)[k]?
    rw [zam]
    rw [Bool.eq_false_iff]
    exact fun e=>hk (zfa.2 (.inr (zbk.1 e)))

theorem SepU.cover:∀ {Rs:List Res}{U:List Nat},SepU w W.fr Rs U→(∀ g,g∈G→g∈U)→SepU w (Go.E.cover W w G).fr Rs U
  | [],_,_,_=>trivial
  | _::_,_,⟨H,h1,h2,h3,h4⟩,hG=>⟨H,h1,h2,fun g hg=>⟨zfa.2 (.inr ⟨(h3 g hg).1,fun e=>(h3 g hg).2 (hG g e)⟩),(h3 g hg).2⟩,SepU.cover h4 fun g hg=>List.mem_append_right _ (hG g hg)⟩


theorem St.freezeR {R:Res}(h:St W w (R::Rs)):∃ (W1:Base) (G:List Nat),Ext W W1∧R.A W1.W G∧Ext W (Base.of W1.W)∧St W1 w Rs:=by
  obtain⟨G,h1,h2,h3,h4⟩:=h.sep
  refine⟨cover W w G,G,zby h.ext,R.loc h1 fun g hg=>?_,zeu h.ext,zgu,?_⟩
  · show(coverH W w G)[g]? = _
    rw [zam]
    rw [Bool.eq_false_iff]
    exact fun e=>(zbk.1 e).2 hg
  · exact(SepU.cover h4 fun g hg=>by simpa using hg).congr fun g hg=>by cases hg

theorem St.freeze {α:Type}{T:Ty α}{cs:List Value}{x:α}[Reads W T] (h:St W w (Own T cs x::Rs)):∃ W1:Base,Ext W W1∧T.ro W1.W cs x∧St W1 w Rs:=by
  obtain⟨W1,G,h1,h2,h3,h4⟩:=h.freezeR
  exact⟨W1,h1,T.own_ro h2 (Reads.req h3),h4⟩

theorem St.lend {R:Res}(h:St W w (R::Rs)):∃ (W1:Base) (G:List Nat),Ext W W1∧R.A W1.W G∧Ext W (Base.of W1.W)∧St W1 w Rs∧∀ (w':World) (Ss:List Res),St W1 w' Ss→St W w' (R::Ss):=by
  obtain⟨G,h1,h2,h3,h4⟩:=h.sep
  have hG:∀ g,g∈G→(coverH W w G)[g]? = w.heap[g]?:=fun g hg=>by
    rw [zam]
    rw [Bool.eq_false_iff]
    exact fun e=>(zbk.1 e).2 hg
  have hA:R.A (cover W w G).W G:=R.loc h1 hG
  have hlt:∀ g,g∈G→¬ (cover W w G).fr g:=fun g hg e=>by
    rcases zfa.1 e with e | e
    · have:=R.lt h1 g hg;omega
    · exact e.2 hg
  refine⟨cover W w G,G,zby h.ext,hA,zeu h.ext,⟨zgu,(SepU.cover h4 fun g hg=>by simpa using hg).congr fun g hg=>by cases hg⟩,fun w' Ss k=>?_⟩
  refine⟨(zby h.ext).trans k.ext,G,R.loc hA fun g hg=>k.ext.same (hlt g hg),h2,h3,?_⟩
  have key:∀ {Ss:List Res}{U V:List Nat},SepU w' (cover W w G).fr Ss U→(∀ g,g∈V→g∈U∨g∈G)→SepU w' W.fr Ss V:=by
    intro Ss
    induction Ss with
    | nil=>exact fun _ _=>trivial
    | cons S Ss ih=>
      intro U V ⟨H,a1,a2,a3,a4⟩ hV
      refine⟨H,a1,a2,fun g hg=>⟨Classical.byContradiction fun hn=>(zby h.ext).keep hn (a3 g hg).1,fun hv=>?_⟩,ih a4 fun g hg=>?_⟩
      · rcases hV g hv with e | e
        · exact(a3 g hg).2 e
        · exact hlt g e (a3 g hg).1
      · rcases List.mem_append.1 hg with e | e
        · exact .inl (List.mem_append_left _ e)
        · rcases hV g e with e | e
          · exact .inl (List.mem_append_right _ e)
          · exact .inr e
  exact key k.sep fun g hg=>.inr (by simpa using hg)
end
end Go.E


