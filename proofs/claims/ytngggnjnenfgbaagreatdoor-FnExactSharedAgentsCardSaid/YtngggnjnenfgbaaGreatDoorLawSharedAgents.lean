/- SharedAgents: the plain law. Conditions: none but the argument's own size. -/
import Derived.Test.YtngggnjnenfgbaaGreatDoorRdImplb
import Derived.Test.YtngggnjnenfgbaaGreatDoorRdShare
namespace Go.E
open Go.RowKit Go.Proofs
set_option linter.unusedSimpArgs false
set_option linter.unusedVariables false

theorem lawSharedAgents {x0:D.Net}(h0:D.Net.wf x0):∃ fuel,z1y fuel x0=some true:=by
  obtain⟨fuel,hf⟩:∃ n:Nat,18446744073709551616≤n:=⟨_,Nat.le_refl _⟩
  refine⟨fuel,?_⟩
  unfold z1y
  obtain⟨r0,e0,s0⟩:=z7X (l:=(1048576:Int)) hf h0 (by decide) (by omega)
  rw [e0,Option.bind_some]
  rcases s0 with s0 | ⟨s0,t0⟩
  · rw [if_pos (by simp [s0])]
  rw [if_neg (by simp [s0])]
  have z0:D.Net.sz x0≤1048576:=by omega
  obtain⟨r,a0,a1,b0⟩:=z6D hf h0 z0
  have m0:=fun {β:Type}(g:_→Option β)=>z41 (g:=g) a0
  have m1:=fun {β:Type}(g:_→Option β)=>z41 (g:=g) a1
  have m2:=fun {β:Type}(g:_→Option β)=>z41 (g:=g) (z7W hf z0)
  have m3:=fun {β:Type}(g:_→Option β)=>z41 (g:=g) (z85 hf z0)
  have m4:=fun {β:Type}(g:_→Option β) (k:Int) (h0:0≤k) (h1:k+(ctNet x0:Nat)≤2147483648)=>z41 (g:=g) (z6U hf z0 h0 h1)
  have c0:=za3 (x:=x0)
  have m5:=fun {β:Type}(g:_→Option β)=>z41 (g:=g) (z5L hf b0)
  have m6:=fun {β:Type}(g:_→Option β) (k:Int) (h0:0≤k) (h1:k+(z4A r.1:Nat)≤2147483648)=>z41 (g:=g) (z4Z hf b0 h0 h1)
  have m7:=fun {β:Type}(g:_→Option β) (k:Int) (h0:0≤k) (h1:k+(z4A r.1:Nat)≤2147483648)=>z41 (g:=g) (z63 hf b0 h0 h1)
  have d0:=z6h (xs:=r.1)
  simp (disch:=omega) only [↓reduceIte,↓m0,↓m1,↓m2,↓m3,↓m4,↓m5,↓m6,↓m7,lt_f,Bool.not_true,Bool.false_eq_true,bne_self_eq_false]
  simp (disch:=omega) only [↓reduceIte,↓zT,↓m0,↓m1,↓m2,↓m3,↓m4,↓m5,↓m6,↓m7,lt_f,Bool.not_true,Bool.false_eq_true,bne_self_eq_false]
  simp (disch:=omega) only [↓reduceIte,↓zv,↓m0,↓m1,↓m2,↓m3,↓m4,↓m5,↓m6,↓m7,lt_f,Bool.not_true,Bool.false_eq_true,bne_self_eq_false]
  simp (disch:=omega) only [↓reduceIte,↓zS,↓m0,↓m1,↓m2,↓m3,↓m4,↓m5,↓m6,↓m7,lt_f,Bool.not_true,Bool.false_eq_true,bne_self_eq_false]
end Go.E


