/- Models of functions and proofs that the code runs as they say (written by program). Conditions: the model gives a value. -/
import Derived.Test.YtijgffjimnbcpaaGreatFA
namespace Go.E
open Go.RowKit Go.Proofs
set_option linter.unusedVariables false
set_option linter.unusedSimpArgs false
set_option maxHeartbeats 2000000
set_option maxRecDepth 100000

theorem zc8:Enters Tryz.prog 81:=⟨_,_,Tryz.func81,rfl,by kernel_rfl⟩
def z1s (fuel:Nat) (x0:(List Int)):Option ((List Int)):=(if decide ((([]:(List Int)).length:Int)+(x0.length:Int)≤4294967296)=true then some (([]:(List Int))++x0) else none)

theorem z4S {W w:World}(hE:Ext W w){d:Option Addr}{y:Nat}{x0:(List Int)}(o:ty80.ro W [sl d x0 y] x0){fuel:Nat}{r:(List Int)}(hm:z1s fuel x0=some r):
  Calls Tryz.prog 81 ⟨[sl d x0 y]⟩ w (Ret fun v w8=>∃ A0 k0,v=sl A0 r k0∧St w w8 [ow ty80 A0 r k0]):=by
 refine into Tryz.func81 8 _ ?_;unfold z1s at hm;have hS:=St.start w;refine sq<|rg<|rr 1 ?_;refine rn<|sq<|sq<|rg<|rr 1 ?_;refine qt (qNilEq) ?_;refine rn ?_;cases d with
 | none=>
  have e:=z9o (by decide) o;subst e;refine cd true (fun _=>?_) (fun hc=>by cases hc);refine sq<|rg<|rr 1 ?_;refine rn<|rt ?_;have hr:r=[]:=by simpa using hm.symm
  subst hr;exact⟨_,.cons (.tmp rfl) .nil,none,0,rfl,hS.nilSl tInt 2⟩
 | some p=>
  refine cd false (fun hc=>by cases hc) (fun _=>?_);refine sp<|sq<|rg<|n0 (U:=tInt) hS (fun A1 k1 w1 e1 q=>?_);refine rr 1 ?_
  by_cases hk:decide ((([]:(List Int)).length:Int)+(x0.length:Int)≤4294967296)=true
  case neg=>rw [if_neg hk] at hm;cases hm
  rw [if_pos hk] at hm;cases hm;refine ap Flat.int q (ty80.ext (hE.trans q.ext) o) hk (fun A2 k2 w2 z=>?_);refine rr 1 ?_;refine rn<|rt ?_;exact⟨_,.cons (.tmp rfl) .nil,A2,k2,rfl,z⟩

end Go.E


