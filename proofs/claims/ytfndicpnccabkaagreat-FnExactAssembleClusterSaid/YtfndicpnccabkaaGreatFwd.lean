/- What runs draws forward: the count of draws never falls. Conditions: none. -/
import Derived.WalkKit
set_option linter.unusedVariables false
set_option linter.unusedSimpArgs false
namespace Go.E
theorem zjD {α:Type}:∀ (x:Ask α) (w:World),w.drawn≤(w.ask x).2.drawn
 | .done a,w=>Nat.le_refl _
 | .ask what range k,w=>by
  unfold World.ask
  dsimp only
  split
  ·exact zjD _ _
  ·have h2:=zjD (k ((Question.extern what range).cut (w.tape w.drawn (Question.extern what range)))) ({ w with drawn:=w.drawn+1 }:World)
   exact Nat.le_of_succ_le (show w.drawn+1≤_ from h2)
theorem zs1 (w:World)(c:Sys):w.drawn≤(w.sys c).2.drawn:=by
 have h:=zjD (Kernel.perform c w.os) w
 unfold World.sys
 split
 ·exact Nat.le_refl _
 ·rename_i r os w' e
  rw[e] at h
  exact h
theorem znK (w:World)(a:Addr)(n:Nat):(w.freeze a n).drawn=w.drawn:=by
 unfold World.freeze
 split<;>rfl
theorem zqA {P:Program}{w:World}{a:Addr}{u:TypeId}{k:Addr}{v:Value}{o:Bool}{r:World×List Addr}(h:w.viewStore P a u k v o=.ok r):r.1.drawn=w.drawn:=by
 unfold World.viewStore at h
 simp only[bind,Except.bind,throw,throwThe,MonadExceptOf.throw,pure,Except.pure] at h
 repeat (split at h<;>try (cases h;done))
 all_goals (first | (cases h;rfl) | skip)
theorem zt2 {P:Program}{w:World}{a:Addr}{v:Value}{o:Bool}{r:World×List Addr}(h:w.farStore P a v o=.ok r):r.1.drawn=w.drawn:=by
 unfold World.farStore at h
 split at h
 ·split at h
  ·rename_i r' hr
   cases h
   exact zqA hr
  ·cases h
 ·cases h
theorem zsa {α:Type}{P:Program}:∀ (x:Sem α){w w':World}{a:α},x.run P w=.ok a w'→w.drawn≤w'.drawn:=by
 intro x
 induction x with
 | pure a=>intro w w' b h;simp only[Sem.run,Result.ok.injEq] at h;rw[← h.2];exact Nat.le_refl _
 | load m a k ih=>
  intro w w' b h
  unfold Sem.run at h
  split at h
  ·exact ih _ h
  ·split at h
   ·exact ih _ h
   ·cases h
 | store m a v k ih=>
  intro w w' b h
  cases v<;>simp only[Sem.run,reduceCtorEq] at h
  all_goals
   split at h
   ·split at h
    ·cases h
    ·have h2:=ih h
     exact h2
   ·split at h
    ·rename_i w1 l hr
     have h2:=ih h
     rw[zt2 hr] at h2
     exact h2
    ·cases h
 | new o k ih=>intro w w' b h;unfold Sem.run at h;have h2:=ih _ h;exact h2
 | shape r k ih=>intro w w' b h;unfold Sem.run at h;exact ih _ h
 | freeze a n k ih=>intro w w' b h;unfold Sem.run at h;have h2:=ih h;rw[znK] at h2;exact h2
 | frozen a k ih=>intro w w' b h;unfold Sem.run at h;exact ih _ h
 | getObj r k ih=>
  intro w w' b h
  unfold Sem.run at h
  split at h
  ·cases h
  ·exact ih _ h
  ·cases h
 | setObj r o k ih=>
  intro w w' b h
  unfold Sem.run at h
  split at h
  ·cases h
  ·have h2:=ih h
   exact h2
  ·cases h
 | choose q k ih=>
  intro w w' b h
  unfold Sem.run at h
  split at h
  ·exact ih _ h
  ·have h2:=ih _ h
   exact Nat.le_of_succ_le (show w.drawn+1≤_ from h2)
 | sys c k ih=>intro w w' b h;unfold Sem.run at h;have h2:=ih _ h;exact Nat.le_trans (zs1 _ _) h2
 | program k ih=>intro w w' b h;unfold Sem.run at h;exact ih _ h
 | mark m k ih=>intro w w' b h;unfold Sem.run at h;exact ih h
 | halt h0=>intro w w' b h;unfold Sem.run at h;cases h
end Go.E



