/- SplitNet: the plain law. Conditions: none but the arguments' own size. -/
import Derived.Test.YtfndicpnccabkaaGreatSplitShard
import Derived.Test.YtfndicpnccabkaaGreatSplitSame
namespace Go.E
open Go.RowKit Go.Proofs
set_option linter.unusedSimpArgs false
set_option linter.unusedVariables false

theorem lawSplitNet {x0:D.Net}{x1:(List Int)}{x2:Int}(h0:D.Net.wf x0) (h1:(WfL I64) x1) (h2:I64 x2):∃ fuel,z2C fuel x0 x1 x2=some true:=by
  obtain⟨fuel,hf⟩:∃ n:Nat,18446744073709551616≤n:=⟨_,Nat.le_refl _⟩
  refine⟨fuel,?_⟩
  unfold z2C
  by_cases q1:(x1.length:Int)>1048576
  · rw [if_pos (decide_eq_true q1)]
  rw [if_neg (by simpa using q1)]
  obtain⟨r0,e0,s0⟩:=z9N (l:=(1048576:Int)) hf h0 (by decide) (by omega)
  rw [e0,Option.bind_some]
  rcases s0 with s0 | ⟨s0,t0⟩
  · rw [if_pos (by simp [s0])]
  rw [if_neg (by simp [s0])]
  have z1:x1.length≤1048576:=by omega
  have z0:D.Net.sz x0≤1048576:=by omega
  obtain⟨r,a0,a1,b1,_⟩:=z7P (k:=x2) hf z0 z1
  have b0:r.1.sz≤1048576:=Nat.le_trans b1 (by decide)
  have m0:=fun {β:Type}(g:_→Option β)=>z2G (g:=g) a0
  have m1:=fun {β:Type}(g:_→Option β)=>z2G (g:=g) a1
  have m2:=fun {β:Type}(g:_→Option β)=>z2G (g:=g) (z9M hf z0)
  have m3:=fun {β:Type}(g:_→Option β)=>z2G (g:=g) (z9V hf z0)
  have m4:=fun {β:Type}(g:_→Option β) (k:Int) (h0:0≤k) (h1:k+(ctNet x0:Nat)≤2147483648)=>z2G (g:=g) (z8v hf z0 h0 h1)
  have c0:=zc2 (x:=x0)
  have m5:=fun {β:Type}(g:_→Option β)=>z2G (g:=g) (z6Y hf z1)
  have m6:=fun {β:Type}(g:_→Option β)=>z2G (g:=g) (z41 hf z1)
  have m7:=fun {β:Type}(g:_→Option β) (k:Int) (h0:0≤k) (h1:k+(z1e x1:Nat)≤2147483648)=>z2G (g:=g) (z1x hf z1 h0 h1)
  have c1:=z4O (xs:=x1)
  have m8:=fun {β:Type}(g:_→Option β)=>z2G (g:=g) (z9p hf b0)
  have m9:=fun {β:Type}(g:_→Option β) (k:Int) (h0:0≤k) (h1:k+(ctGrid r.1:Nat)≤2147483648)=>z2G (g:=g) (zab hf b0 h0 h1)
  have m10:=fun {β:Type}(g:_→Option β) (k:Int) (h0:0≤k) (h1:k+(ctGrid r.1:Nat)≤2147483648)=>z2G (g:=g) (zac hf b0 h0 h1)
  have d0:=ze5 (x:=r.1)
  simp (disch:=omega) only [↓reduceIte,↓m0,↓m1,↓m2,↓m3,↓m4,↓m5,↓m6,↓m7,↓m8,↓m9,↓m10,lt_f,Bool.not_true,Bool.false_eq_true,bne_self_eq_false,z7r]
  simp (disch:=omega) only [↓reduceIte,↓z13,↓m0,↓m1,↓m2,↓m3,↓m4,↓m5,↓m6,↓m7,↓m8,↓m9,↓m10,lt_f,Bool.not_true,Bool.false_eq_true,bne_self_eq_false,z7r]
  simp (disch:=omega) only [↓reduceIte,↓zK,↓m0,↓m1,↓m2,↓m3,↓m4,↓m5,↓m6,↓m7,↓m8,↓m9,↓m10,lt_f,Bool.not_true,Bool.false_eq_true,bne_self_eq_false,z7r]
  simp (disch:=omega) only [↓reduceIte,↓z12,↓m0,↓m1,↓m2,↓m3,↓m4,↓m5,↓m6,↓m7,↓m8,↓m9,↓m10,lt_f,Bool.not_true,Bool.false_eq_true,bne_self_eq_false,z7r]
end Go.E


