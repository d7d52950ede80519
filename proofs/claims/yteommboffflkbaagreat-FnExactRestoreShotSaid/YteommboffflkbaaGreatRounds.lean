/- What the functions that mark data and look for the marks give (written by program). Conditions: counts stay small. -/
import Derived.Test.YteommboffflkbaaGreatShort
import Derived.Test.YteommboffflkbaaGreatSizesW
import Derived.Test.YteommboffflkbaaGreatFM
import Derived.Test.YteommboffflkbaaGreatHN
import Derived.Test.YteommboffflkbaaGreatHNb
import Derived.Test.YteommboffflkbaaGreatHR
import Derived.Test.YteommboffflkbaaGreatFGe
import Derived.Test.YteommboffflkbaaGreatFA
namespace Go.E
open Go.RowKit Go.Proofs
set_option linter.unusedSimpArgs false
set_option linter.unusedVariables false

def zdg (fu:Nat) (x:Int) (k:Int):Int:=k
def zag (x:Int):Nat:=1
def z7Z (fu:Nat) (xs:List Int) (k:Int):List Int:=markL (zdg fu) zag xs k
def z1y (xs:List Int):Nat:=sumL zag xs
theorem z4W {fu:Nat}{xs:List Int}{k:Int}(hf:Big fu) (hl:xs.length≤1048576) (h0:0≤k) (h1:k+(z1y xs:Nat)≤2147483648):z1V fu xs k=some (k+(z1y xs:Nat),z7Z fu xs k):=by
 unfold z1V
 rw [z8P (f:=zdg fu) (c:=zag) (xs:=xs) (k:=k) (by have:=hl;omega) hf h0 h1 ?_ ?_]
 ·rfl
 ·intro i x ys k hi d hx hm h0 h1
  unfold zag at h1
  unfold z6A zdg zag
  rw [if_pos (dct (show(i:Int)<xs.length by omega))]
  rw [if_pos (dct (show 0≤(i:Int)∧(i:Int).toNat<ys.length from⟨by omega,by rw [d];simpa using hi⟩))]
  simp (disch:=omega) only [z8J,Int.toNat_natCast,Int.ofNat_one,Int.natCast_one]
 ·intro k ys;unfold z6A;rw [if_neg (by simp)]

theorem z9h {xs:List Int}:z1y xs≤64*(xs.length):=by
 have h:=zb6 (c:=zag) (g:=(fun _=>0)) (m:=64) (xs:=xs) fun x _=>by
  unfold zag
  omega
 rw [zda (fun _=>rfl)] at h
 exact h

def elAddressS (fu:Nat) (x:D.Qf) (k:Int):D.Qf:=(⟨k,k+1,k+1+1⟩:D.Qf)
def ecAddressS (x:D.Qf):Nat:=1+1+1
def mkAddressS (fu:Nat) (xs:List D.Qf) (k:Int):List D.Qf:=markL (elAddressS fu) ecAddressS xs k
def ctAddressS (xs:List D.Qf):Nat:=sumL ecAddressS xs
theorem zc1 {fu:Nat}{xs:List D.Qf}{k:Int}(hf:Big fu) (hl:xs.length≤1048576) (h0:0≤k) (h1:k+(ctAddressS xs:Nat)≤2147483648):z3j fu xs k=some (k+(ctAddressS xs:Nat),mkAddressS fu xs k):=by
 unfold z3j
 rw [z8P (f:=elAddressS fu) (c:=ecAddressS) (xs:=xs) (k:=k) (by have:=hl;omega) hf h0 h1 ?_ ?_]
 ·rfl
 ·intro i x ys k hi d hx hm h0 h1
  unfold ecAddressS at h1
  unfold z5n elAddressS ecAddressS
  rw [if_pos (dct (show(i:Int)<xs.length by omega))]
  simp only [zd hx,bsm]
  simp (disch:=omega) only [z8J,bsm,Int.toNat_natCast]
  all_goals (refine congrArg some (congrArg Rd.next (Prod.ext ?_ ?_));rotate_left;first | rfl | (dsimp only;simp only [Int.natCast_add,Int.natCast_one,Int.ofNat_one,← Int.add_assoc]))
  all_goals (dsimp only;simp only [Int.natCast_add,Int.natCast_one,Int.ofNat_one];try omega)
 ·intro k ys;unfold z5n;rw [if_neg (by simp)]

theorem zem {xs:List D.Qf}:ctAddressS xs≤64*(xs.length):=by
 have h:=zb6 (c:=ecAddressS) (g:=(fun _=>0)) (m:=64) (xs:=xs) fun x _=>by
  unfold ecAddressS
  omega
 rw [zda (fun _=>rfl)] at h
 exact h

def elParcelS (fu:Nat) (x:D.Qe) (k:Int):D.Qe:=(⟨k,(⟨k+1,k+1+1,k+1+1+1,(z7Z fu x.Qz.Data (k+1+1+1+1)),(mkAddressS fu x.Qz.QX (k+1+1+1+1+((z1y x.Qz.Data:Nat):Int)))⟩:D.Qb),(⟨k+1+((1+1+1+z1y x.Qz.Data+ctAddressS x.Qz.QX:Nat):Int),k+1+((1+1+1+z1y x.Qz.Data+ctAddressS x.Qz.QX:Nat):Int)+1,k+1+((1+1+1+z1y x.Qz.Data+ctAddressS x.Qz.QX:Nat):Int)+1+1⟩:D.Qf),(⟨k+1+((1+1+1+z1y x.Qz.Data+ctAddressS x.Qz.QX:Nat):Int)+((1+1+1:Nat):Int),k+1+((1+1+1+z1y x.Qz.Data+ctAddressS x.Qz.QX:Nat):Int)+((1+1+1:Nat):Int)+1,k+1+((1+1+1+z1y x.Qz.Data+ctAddressS x.Qz.QX:Nat):Int)+((1+1+1:Nat):Int)+1+1⟩:D.Qf)⟩:D.Qe)
def ecParcelS (x:D.Qe):Nat:=1+1+1+1+z1y x.Qz.Data+ctAddressS x.Qz.QX+1+1+1+1+1+1
def mkParcelS (fu:Nat) (xs:List D.Qe) (k:Int):List D.Qe:=markL (elParcelS fu) ecParcelS xs k
def ctParcelS (xs:List D.Qe):Nat:=sumL ecParcelS xs
theorem zf3 {fu:Nat}{xs:List D.Qe}{k:Int}(hf:Big fu) (hl:szL D.Qe.sz xs≤1048576) (h0:0≤k) (h1:k+(ctParcelS xs:Nat)≤2147483648):z65 fu xs k=some (k+(ctParcelS xs:Nat),mkParcelS fu xs k):=by
 unfold z65
 rw [z8P (f:=elParcelS fu) (c:=ecParcelS) (xs:=xs) (k:=k) (by have:=(z2C hl);omega) hf h0 h1 ?_ ?_]
 ·rfl
 ·intro i x ys k hi d hx hm h0 h1
  unfold ecParcelS at h1
  have hsx:=z2G hl hm
  simp only [D.Qe.sz,D.Qb.sz] at hsx
  unfold z64 elParcelS ecParcelS
  rw [if_pos (dct (show(i:Int)<xs.length by omega))]
  simp only [zd hx,bsm]
  simp (disch:=omega) only [z4W hf (show x.Qz.Data.length≤1048576 by omega),zc1 hf (show x.Qz.QX.length≤1048576 by omega),z8J,bsm,Int.toNat_natCast]
  all_goals (refine congrArg some (congrArg Rd.next (Prod.ext ?_ ?_));rotate_left;first | rfl | (dsimp only;simp only [Int.natCast_add,Int.natCast_one,Int.ofNat_one,← Int.add_assoc]))
  all_goals (dsimp only;simp only [Int.natCast_add,Int.natCast_one,Int.ofNat_one];try omega)
 ·intro k ys;unfold z64;rw [if_neg (by simp)]

theorem zj8 {xs:List D.Qe}:ctParcelS xs≤64*(szL D.Qe.sz xs):=by
 have h:=zb6 (c:=ecParcelS) (g:=D.Qe.sz) (m:=64) (xs:=xs) fun x _=>by
  unfold ecParcelS
  simp only [D.Qe.sz,D.Qb.sz]
  have:=z9h (xs:=x.Qz.Data)
  have:=zem (xs:=x.Qz.QX)
  omega
 exact h

def elParcelSS (fu:Nat) (x:(List D.Qe)) (k:Int):(List D.Qe):=(mkParcelS fu x (k))
def ecParcelSS (x:(List D.Qe)):Nat:=ctParcelS x
def mkParcelSS (fu:Nat) (xs:List (List D.Qe)) (k:Int):List (List D.Qe):=markL (elParcelSS fu) ecParcelSS xs k
def ctParcelSS (xs:List (List D.Qe)):Nat:=sumL ecParcelSS xs
theorem zab {fu:Nat}{xs:List (List D.Qe)}{k:Int}(hf:Big fu) (hl:szL (fun x=>szL D.Qe.sz x) xs≤1048576) (h0:0≤k) (h1:k+(ctParcelSS xs:Nat)≤2147483648):z3i fu xs k=some (k+(ctParcelSS xs:Nat),mkParcelSS fu xs k):=by
 unfold z3i
 rw [z8P (f:=elParcelSS fu) (c:=ecParcelSS) (xs:=xs) (k:=k) (by have:=(z2C hl);omega) hf h0 h1 ?_ ?_]
 ·rfl
 ·intro i x ys k hi d hx hm h0 h1
  unfold ecParcelSS at h1
  have hsx:=z2G hl hm
  unfold z5m elParcelSS ecParcelSS
  rw [if_pos (dct (show(i:Int)<xs.length by omega))]
  simp only [zd hx,bsm]
  simp (disch:=omega) only [zf3 hf (show szL D.Qe.sz x≤1048576 by omega),z8J,bsm,Int.toNat_natCast]
  all_goals (refine congrArg some (congrArg Rd.next (Prod.ext ?_ ?_));rotate_left;first | rfl | (dsimp only;simp only [Int.natCast_add,Int.natCast_one,Int.ofNat_one,← Int.add_assoc]))
  all_goals (dsimp only;simp only [Int.natCast_add,Int.natCast_one,Int.ofNat_one];try omega)
 ·intro k ys;unfold z5m;rw [if_neg (by simp)]

theorem zcq {xs:List (List D.Qe)}:ctParcelSS xs≤64*(szL (fun x=>szL D.Qe.sz x) xs):=by
 have h:=zb6 (c:=ecParcelSS) (g:=(fun x=>szL D.Qe.sz x)) (m:=64) (xs:=xs) fun x _=>by
  unfold ecParcelSS
  have:=zj8 (xs:=x)
  omega
 exact h

def zc9 (fu:Nat) (x:(List Int)) (k:Int):(List Int):=(z7Z fu x (k))
def z92 (x:(List Int)):Nat:=z1y x
def z8O (fu:Nat) (xs:List (List Int)) (k:Int):List (List Int):=markL (zc9 fu) z92 xs k
def z2W (xs:List (List Int)):Nat:=sumL z92 xs
theorem zaB {fu:Nat}{xs:List (List Int)}{k:Int}(hf:Big fu) (hl:szL (fun x=>x.length) xs≤1048576) (h0:0≤k) (h1:k+(z2W xs:Nat)≤2147483648):z43 fu xs k=some (k+(z2W xs:Nat),z8O fu xs k):=by
 unfold z43
 rw [z8P (f:=zc9 fu) (c:=z92) (xs:=xs) (k:=k) (by have:=(z2C hl);omega) hf h0 h1 ?_ ?_]
 ·rfl
 ·intro i x ys k hi d hx hm h0 h1
  unfold z92 at h1
  have hsx:=z2G hl hm
  unfold z66 zc9 z92
  rw [if_pos (dct (show(i:Int)<xs.length by omega))]
  simp only [zd hx,bsm]
  simp (disch:=omega) only [z4W hf (show x.length≤1048576 by omega),z8J,bsm,Int.toNat_natCast]
  all_goals (refine congrArg some (congrArg Rd.next (Prod.ext ?_ ?_));rotate_left;first | rfl | (dsimp only;simp only [Int.natCast_add,Int.natCast_one,Int.ofNat_one,← Int.add_assoc]))
  all_goals (dsimp only;simp only [Int.natCast_add,Int.natCast_one,Int.ofNat_one];try omega)
 ·intro k ys;unfold z66;rw [if_neg (by simp)]

theorem zd1 {xs:List (List Int)}:z2W xs≤64*(szL (fun x=>x.length) xs):=by
 have h:=zb6 (c:=z92) (g:=(fun x=>x.length)) (m:=64) (xs:=xs) fun x _=>by
  unfold z92
  have:=z9h (xs:=x)
  omega
 exact h

def elShardCellS (fu:Nat) (x:D.Qb) (k:Int):D.Qb:=(⟨k,k+1,k+1+1,(z7Z fu x.Data (k+1+1+1)),(mkAddressS fu x.QX (k+1+1+1+((z1y x.Data:Nat):Int)))⟩:D.Qb)
def ecShardCellS (x:D.Qb):Nat:=1+1+1+z1y x.Data+ctAddressS x.QX
def mkShardCellS (fu:Nat) (xs:List D.Qb) (k:Int):List D.Qb:=markL (elShardCellS fu) ecShardCellS xs k
def ctShardCellS (xs:List D.Qb):Nat:=sumL ecShardCellS xs
theorem zdy {fu:Nat}{xs:List D.Qb}{k:Int}(hf:Big fu) (hl:szL D.Qb.sz xs≤1048576) (h0:0≤k) (h1:k+(ctShardCellS xs:Nat)≤2147483648):z3E fu xs k=some (k+(ctShardCellS xs:Nat),mkShardCellS fu xs k):=by
 unfold z3E
 rw [z8P (f:=elShardCellS fu) (c:=ecShardCellS) (xs:=xs) (k:=k) (by have:=(z2C hl);omega) hf h0 h1 ?_ ?_]
 ·rfl
 ·intro i x ys k hi d hx hm h0 h1
  unfold ecShardCellS at h1
  have hsx:=z2G hl hm
  unfold D.Qb.sz at hsx
  unfold z42 elShardCellS ecShardCellS
  rw [if_pos (dct (show(i:Int)<xs.length by omega))]
  simp only [zd hx,bsm]
  simp (disch:=omega) only [z4W hf (show x.Data.length≤1048576 by omega),zc1 hf (show x.QX.length≤1048576 by omega),z8J,bsm,Int.toNat_natCast]
  all_goals (refine congrArg some (congrArg Rd.next (Prod.ext ?_ ?_));rotate_left;first | rfl | (dsimp only;simp only [Int.natCast_add,Int.natCast_one,Int.ofNat_one,← Int.add_assoc]))
  all_goals (dsimp only;simp only [Int.natCast_add,Int.natCast_one,Int.ofNat_one];try omega)
 ·intro k ys;unfold z42;rw [if_neg (by simp)]

theorem zgf {xs:List D.Qb}:ctShardCellS xs≤64*(szL D.Qb.sz xs):=by
 have h:=zb6 (c:=ecShardCellS) (g:=D.Qb.sz) (m:=64) (xs:=xs) fun x _=>by
  unfold ecShardCellS
  unfold D.Qb.sz
  have:=z9h (xs:=x.Data)
  have:=zem (xs:=x.QX)
  omega
 exact h

def elShardVarS (fu:Nat) (x:D.Qn) (k:Int):D.Qn:=(⟨((k).tmod 3 == 0),((k+1).tmod 3 == 0),(⟨k+1+1,k+1+1+1,k+1+1+1+1⟩:D.Qf)⟩:D.Qn)
def ecShardVarS (x:D.Qn):Nat:=1+1+1+1+1
def mkShardVarS (fu:Nat) (xs:List D.Qn) (k:Int):List D.Qn:=markL (elShardVarS fu) ecShardVarS xs k
def ctShardVarS (xs:List D.Qn):Nat:=sumL ecShardVarS xs
theorem ze7 {fu:Nat}{xs:List D.Qn}{k:Int}(hf:Big fu) (hl:xs.length≤1048576) (h0:0≤k) (h1:k+(ctShardVarS xs:Nat)≤2147483648):z4o fu xs k=some (k+(ctShardVarS xs:Nat),mkShardVarS fu xs k):=by
 unfold z4o
 rw [z8P (f:=elShardVarS fu) (c:=ecShardVarS) (xs:=xs) (k:=k) (by have:=hl;omega) hf h0 h1 ?_ ?_]
 ·rfl
 ·intro i x ys k hi d hx hm h0 h1
  unfold ecShardVarS at h1
  unfold z4E elShardVarS ecShardVarS
  rw [if_pos (dct (show(i:Int)<xs.length by omega))]
  simp only [zd hx,bsm]
  simp (disch:=omega) only [z8J,bsm,Int.toNat_natCast]
  all_goals (refine congrArg some (congrArg Rd.next (Prod.ext ?_ ?_));rotate_left;first | rfl | (dsimp only;simp only [Int.natCast_add,Int.natCast_one,Int.ofNat_one,← Int.add_assoc]))
  all_goals (dsimp only;simp only [Int.natCast_add,Int.natCast_one,Int.ofNat_one];try omega)
 ·intro k ys;unfold z4E;rw [if_neg (by simp)]

theorem zgF {xs:List D.Qn}:ctShardVarS xs≤64*(xs.length):=by
 have h:=zb6 (c:=ecShardVarS) (g:=(fun _=>0)) (m:=64) (xs:=xs) fun x _=>by
  unfold ecShardVarS
  omega
 rw [zda (fun _=>rfl)] at h
 exact h

def elShardRedexS (fu:Nat) (x:D.Qk) (k:Int):D.Qk:=(⟨(⟨k,k+1,k+1+1⟩:D.Qf),(⟨k+((1+1+1:Nat):Int),k+((1+1+1:Nat):Int)+1,k+((1+1+1:Nat):Int)+1+1⟩:D.Qf)⟩:D.Qk)
def ecShardRedexS (x:D.Qk):Nat:=1+1+1+1+1+1
def mkShardRedexS (fu:Nat) (xs:List D.Qk) (k:Int):List D.Qk:=markL (elShardRedexS fu) ecShardRedexS xs k
def ctShardRedexS (xs:List D.Qk):Nat:=sumL ecShardRedexS xs
theorem zdj {fu:Nat}{xs:List D.Qk}{k:Int}(hf:Big fu) (hl:xs.length≤1048576) (h0:0≤k) (h1:k+(ctShardRedexS xs:Nat)≤2147483648):z39 fu xs k=some (k+(ctShardRedexS xs:Nat),mkShardRedexS fu xs k):=by
 unfold z39
 rw [z8P (f:=elShardRedexS fu) (c:=ecShardRedexS) (xs:=xs) (k:=k) (by have:=hl;omega) hf h0 h1 ?_ ?_]
 ·rfl
 ·intro i x ys k hi d hx hm h0 h1
  unfold ecShardRedexS at h1
  unfold z3s elShardRedexS ecShardRedexS
  rw [if_pos (dct (show(i:Int)<xs.length by omega))]
  simp only [zd hx,bsm]
  simp (disch:=omega) only [z8J,bsm,Int.toNat_natCast]
  all_goals (refine congrArg some (congrArg Rd.next (Prod.ext ?_ ?_));rotate_left;first | rfl | (dsimp only;simp only [Int.natCast_add,Int.natCast_one,Int.ofNat_one,← Int.add_assoc]))
  all_goals (dsimp only;simp only [Int.natCast_add,Int.natCast_one,Int.ofNat_one];try omega)
 ·intro k ys;unfold z3s;rw [if_neg (by simp)]

theorem zfc {xs:List D.Qk}:ctShardRedexS xs≤64*(xs.length):=by
 have h:=zb6 (c:=ecShardRedexS) (g:=(fun _=>0)) (m:=64) (xs:=xs) fun x _=>by
  unfold ecShardRedexS
  omega
 rw [zda (fun _=>rfl)] at h
 exact h

def elShardS (fu:Nat) (x:D.Qp) (k:Int):D.Qp:=(⟨(mkShardCellS fu x.Cells (k)),(mkShardVarS fu x.QG (k+((ctShardCellS x.Cells:Nat):Int))),(mkShardRedexS fu x.Qu (k+((ctShardCellS x.Cells:Nat):Int)+((ctShardVarS x.QG:Nat):Int)))⟩:D.Qp)
def ecShardS (x:D.Qp):Nat:=ctShardCellS x.Cells+ctShardVarS x.QG+ctShardRedexS x.Qu
def mkShardS (fu:Nat) (xs:List D.Qp) (k:Int):List D.Qp:=markL (elShardS fu) ecShardS xs k
def ctShardS (xs:List D.Qp):Nat:=sumL ecShardS xs
theorem zb9 {fu:Nat}{xs:List D.Qp}{k:Int}(hf:Big fu) (hl:szL D.Qp.sz xs≤1048576) (h0:0≤k) (h1:k+(ctShardS xs:Nat)≤2147483648):z4P fu xs k=some (k+(ctShardS xs:Nat),mkShardS fu xs k):=by
 unfold z4P
 rw [z8P (f:=elShardS fu) (c:=ecShardS) (xs:=xs) (k:=k) (by have:=(z2C hl);omega) hf h0 h1 ?_ ?_]
 ·rfl
 ·intro i x ys k hi d hx hm h0 h1
  unfold ecShardS at h1
  have hsx:=z2G hl hm
  unfold D.Qp.sz at hsx
  unfold z6z elShardS ecShardS
  rw [if_pos (dct (show(i:Int)<xs.length by omega))]
  simp only [zd hx,bsm]
  simp (disch:=omega) only [zdy hf (show szL D.Qb.sz x.Cells≤1048576 by omega),ze7 hf (show x.QG.length≤1048576 by omega),zdj hf (show x.Qu.length≤1048576 by omega),z8J,bsm,Int.toNat_natCast]
  all_goals (refine congrArg some (congrArg Rd.next (Prod.ext ?_ ?_));rotate_left;first | rfl | (dsimp only;simp only [Int.natCast_add,Int.natCast_one,Int.ofNat_one,← Int.add_assoc]))
  all_goals (dsimp only;simp only [Int.natCast_add,Int.natCast_one,Int.ofNat_one];try omega)
 ·intro k ys;unfold z6z;rw [if_neg (by simp)]

theorem zdG {xs:List D.Qp}:ctShardS xs≤64*(szL D.Qp.sz xs):=by
 have h:=zb6 (c:=ecShardS) (g:=D.Qp.sz) (m:=64) (xs:=xs) fun x _=>by
  unfold ecShardS
  unfold D.Qp.sz
  have:=zgf (xs:=x.Cells)
  have:=zgF (xs:=x.QG)
  have:=zfc (xs:=x.Qu)
  omega
 exact h

def mkCluster (fu:Nat) (x:D.Qa) (k:Int):D.Qa:=(⟨(⟨mkShardS fu x.Qi.Qc (k),x.Qi.Qy⟩:D.Qi),mkParcelSS fu x.Qh (k+((ctShardS x.Qi.Qc:Nat):Int)),z8O fu x.Qo (k+((ctShardS x.Qi.Qc:Nat):Int)+((ctParcelSS x.Qh:Nat):Int)),z7Z fu x.QU (k+((ctShardS x.Qi.Qc:Nat):Int)+((ctParcelSS x.Qh:Nat):Int)+((z2W x.Qo:Nat):Int)),z7Z fu x.QZ (k+((ctShardS x.Qi.Qc:Nat):Int)+((ctParcelSS x.Qh:Nat):Int)+((z2W x.Qo:Nat):Int)+((z1y x.QU:Nat):Int))⟩:D.Qa)
def ctCluster (x:D.Qa):Nat:=ctShardS x.Qi.Qc+ctParcelSS x.Qh+z2W x.Qo+z1y x.QU+z1y x.QZ
theorem zaZ {fu:Nat}{x:D.Qa}{k:Int}:(⟨(⟨(mkCluster fu x k).Qi.Qc,x.Qi.Qy⟩:D.Qi),(mkCluster fu x k).Qh,(mkCluster fu x k).Qo,(mkCluster fu x k).QU,(mkCluster fu x k).QZ⟩:D.Qa)=mkCluster fu x k:=rfl
theorem zf4 {fu:Nat}{x:D.Qa}{k:Int}(hf:Big fu) (hs:x.sz≤1048576) (h0:0≤k) (h1:k+(ctCluster x:Nat)≤2147483648):z2R fu x k=some (k+(ctCluster x:Nat),(mkCluster fu x k).Qi.Qc,(mkCluster fu x k).Qh,(mkCluster fu x k).Qo,(mkCluster fu x k).QU,(mkCluster fu x k).QZ):=by
 unfold ctCluster at h1 ⊢
 simp only [D.Qa.sz,D.Qi.sz] at hs
 unfold z2R mkCluster
 simp (disch:=omega) only [zb9 hf (show szL D.Qp.sz x.Qi.Qc≤1048576 by omega),zab hf (show szL (fun x=>szL D.Qe.sz x) x.Qh≤1048576 by omega),zaB hf (show szL (fun x=>x.length) x.Qo≤1048576 by omega),z4W hf (show x.QU.length≤1048576 by omega),z4W hf (show x.QZ.length≤1048576 by omega),bsm,z8i]
 all_goals try simp only [Int.natCast_add,Int.add_assoc]

theorem zj9 {x:D.Qa}:ctCluster x≤64*x.sz:=by
 unfold ctCluster
 simp only [D.Qa.sz,D.Qi.sz]
 have:=zdG (xs:=x.Qi.Qc)
 have:=zcq (xs:=x.Qh)
 have:=zd1 (xs:=x.Qo)
 have:=z9h (xs:=x.QU)
 have:=z9h (xs:=x.QZ)
 omega

end Go.E


namespace Go.E
open Go.RowKit Go.Proofs
set_option linter.unusedSimpArgs false
set_option linter.unusedVariables false
set_option maxHeartbeats 1000000

theorem z8u {fu:Nat}{xs:List Int}{k:Int}(hf:Big fu) (hl:xs.length≤1048576) (h0:0≤k) (h1:k+(z1y xs:Nat)≤2147483648):z1W fu (z7Z fu xs k) k=some (k+(z1y xs:Nat)):=by
 unfold z1W
 have hlen:(z7Z fu xs k).length=xs.length:=z24 _ _
 rw [z9T (f:=zdg fu) (c:=zag) (xs:=xs) (k:=k) (by have:=hl;omega) hf h0 h1 ?_ ?_]
 ·rfl
 ·intro i x k' hi hx hm h0 h1
  unfold zag at h1
  have d:(z7Z fu xs k)[i]? = some (zdg fu x k'):=hx
  unfold z4r
  rw [if_pos (dct (show(i:Int)<(z7Z fu xs k).length by rw [hlen];omega))]
  simp only [zd d,bsm]
  unfold zdg zag
  simp (disch:=omega) only [z8J,bsm,lt_f,if_false,bne_self_eq_false,Bool.false_eq_true,beq_self_eq_true,Bool.not_true,Int.ofNat_one,Int.natCast_one]
 ·intro k';show z4r fu (z7Z fu xs k) (k',((z7Z fu xs k).length:Int))=_;unfold z4r;rw [if_neg (by simp)]

theorem zc8 {fu:Nat}{xs:List D.Qf}{k:Int}(hf:Big fu) (hl:xs.length≤1048576) (h0:0≤k) (h1:k+(ctAddressS xs:Nat)≤2147483648):z3k fu (mkAddressS fu xs k) k=some (k+(ctAddressS xs:Nat)):=by
 unfold z3k
 have hlen:(mkAddressS fu xs k).length=xs.length:=z24 _ _
 rw [z9T (f:=elAddressS fu) (c:=ecAddressS) (xs:=xs) (k:=k) (by have:=hl;omega) hf h0 h1 ?_ ?_]
 ·rfl
 ·intro i x k' hi hx hm h0 h1
  unfold ecAddressS at h1
  have d:(mkAddressS fu xs k)[i]? = some (elAddressS fu x k'):=hx
  unfold z3c
  rw [if_pos (dct (show(i:Int)<(mkAddressS fu xs k).length by rw [hlen];omega))]
  simp only [zd d,bsm]
  unfold elAddressS ecAddressS
  simp (disch:=omega) only [z8J,bsm,lt_f,if_false,bne_self_eq_false,Bool.false_eq_true,beq_self_eq_true,Bool.not_true,Int.ofNat_one,Int.natCast_one]
  try (refine congrArg some (congrArg Rd.next (Prod.ext ?_ rfl));dsimp only;simp only [Int.natCast_add,Int.natCast_one,Int.ofNat_one];try omega)
 ·intro k';show z3c fu (mkAddressS fu xs k) (k',((mkAddressS fu xs k).length:Int))=_;unfold z3c;rw [if_neg (by simp)]

theorem zf8 {fu:Nat}{xs:List D.Qe}{k:Int}(hf:Big fu) (hl:szL D.Qe.sz xs≤1048576) (h0:0≤k) (h1:k+(ctParcelS xs:Nat)≤2147483648):z67 fu (mkParcelS fu xs k) k=some (k+(ctParcelS xs:Nat)):=by
 unfold z67
 have hlen:(mkParcelS fu xs k).length=xs.length:=z24 _ _
 rw [z9T (f:=elParcelS fu) (c:=ecParcelS) (xs:=xs) (k:=k) (by have:=(z2C hl);omega) hf h0 h1 ?_ ?_]
 ·rfl
 ·intro i x k' hi hx hm h0 h1
  unfold ecParcelS at h1
  have hsx:=z2G hl hm
  simp only [D.Qe.sz,D.Qb.sz] at hsx
  have d:(mkParcelS fu xs k)[i]? = some (elParcelS fu x k'):=hx
  unfold z3G
  rw [if_pos (dct (show(i:Int)<(mkParcelS fu xs k).length by rw [hlen];omega))]
  simp only [zd d,bsm]
  unfold elParcelS ecParcelS
  simp only [Int.natCast_add,Int.natCast_one,Int.ofNat_one,← Int.add_assoc] at h1 ⊢
  simp (disch:=omega) only [z8u hf (show x.Qz.Data.length≤1048576 by omega),zc8 hf (show x.Qz.QX.length≤1048576 by omega),z8J,bsm,lt_f,if_false,bne_self_eq_false,Bool.false_eq_true,beq_self_eq_true,Bool.not_true,Int.ofNat_one,Int.natCast_one]
  try (refine congrArg some (congrArg Rd.next (Prod.ext ?_ rfl));dsimp only;simp only [Int.natCast_add,Int.natCast_one,Int.ofNat_one];try omega)
 ·intro k';show z3G fu (mkParcelS fu xs k) (k',((mkParcelS fu xs k).length:Int))=_;unfold z3G;rw [if_neg (by simp)]

theorem zeG {fu:Nat}{xs:List (List D.Qe)}{k:Int}(hf:Big fu) (hl:szL (fun x=>szL D.Qe.sz x) xs≤1048576) (h0:0≤k) (h1:k+(ctParcelSS xs:Nat)≤2147483648):z5d fu (mkParcelSS fu xs k) k=some (k+(ctParcelSS xs:Nat)):=by
 unfold z5d
 have hlen:(mkParcelSS fu xs k).length=xs.length:=z24 _ _
 rw [z9T (f:=elParcelSS fu) (c:=ecParcelSS) (xs:=xs) (k:=k) (by have:=(z2C hl);omega) hf h0 h1 ?_ ?_]
 ·rfl
 ·intro i x k' hi hx hm h0 h1
  unfold ecParcelSS at h1
  have hsx:=z2G hl hm
  have d:(mkParcelSS fu xs k)[i]? = some (elParcelSS fu x k'):=hx
  unfold z3b
  rw [if_pos (dct (show(i:Int)<(mkParcelSS fu xs k).length by rw [hlen];omega))]
  simp only [zd d,bsm]
  unfold elParcelSS ecParcelSS
  simp (disch:=omega) only [zf8 hf (show szL D.Qe.sz x≤1048576 by omega),z8J,bsm,lt_f,if_false,bne_self_eq_false,Bool.false_eq_true,beq_self_eq_true,Bool.not_true,Int.ofNat_one,Int.natCast_one]
  try (refine congrArg some (congrArg Rd.next (Prod.ext ?_ rfl));dsimp only;simp only [Int.natCast_add,Int.natCast_one,Int.ofNat_one];try omega)
 ·intro k';show z3b fu (mkParcelSS fu xs k) (k',((mkParcelSS fu xs k).length:Int))=_;unfold z3b;rw [if_neg (by simp)]

theorem zf9 {fu:Nat}{xs:List (List Int)}{k:Int}(hf:Big fu) (hl:szL (fun x=>x.length) xs≤1048576) (h0:0≤k) (h1:k+(z2W xs:Nat)≤2147483648):z68 fu (z8O fu xs k) k=some (k+(z2W xs:Nat)):=by
 unfold z68
 have hlen:(z8O fu xs k).length=xs.length:=z24 _ _
 rw [z9T (f:=zc9 fu) (c:=z92) (xs:=xs) (k:=k) (by have:=(z2C hl);omega) hf h0 h1 ?_ ?_]
 ·rfl
 ·intro i x k' hi hx hm h0 h1
  unfold z92 at h1
  have hsx:=z2G hl hm
  have d:(z8O fu xs k)[i]? = some (zc9 fu x k'):=hx
  unfold z3H
  rw [if_pos (dct (show(i:Int)<(z8O fu xs k).length by rw [hlen];omega))]
  simp only [zd d,bsm]
  unfold zc9 z92
  simp (disch:=omega) only [z8u hf (show x.length≤1048576 by omega),z8J,bsm,lt_f,if_false,bne_self_eq_false,Bool.false_eq_true,beq_self_eq_true,Bool.not_true,Int.ofNat_one,Int.natCast_one]
  try (refine congrArg some (congrArg Rd.next (Prod.ext ?_ rfl));dsimp only;simp only [Int.natCast_add,Int.natCast_one,Int.ofNat_one];try omega)
 ·intro k';show z3H fu (z8O fu xs k) (k',((z8O fu xs k).length:Int))=_;unfold z3H;rw [if_neg (by simp)]

def elBoolS (fu:Nat) (x:Bool) (k:Int):Bool:=((k).tmod 3 == 0)
def ecBoolS (x:Bool):Nat:=1
def mkBoolS (fu:Nat) (xs:List Bool) (k:Int):List Bool:=markL (elBoolS fu) ecBoolS xs k
def ctBoolS (xs:List Bool):Nat:=sumL ecBoolS xs
theorem zdr {fu:Nat}{xs:List Bool}{k:Int}(hf:Big fu) (hl:xs.length≤1048576) (h0:0≤k) (h1:k+(ctBoolS xs:Nat)≤2147483648):z5F fu xs k=some (k+(ctBoolS xs:Nat),mkBoolS fu xs k):=by
 unfold z5F
 rw [z8P (f:=elBoolS fu) (c:=ecBoolS) (xs:=xs) (k:=k) (by have:=hl;omega) hf h0 h1 ?_ ?_]
 ·rfl
 ·intro i x ys k hi d hx hm h0 h1
  unfold ecBoolS at h1
  unfold z7o elBoolS ecBoolS
  rw [if_pos (dct (show(i:Int)<xs.length by omega))]
  rw [if_pos (dct (show 0≤(i:Int)∧(i:Int).toNat<ys.length from⟨by omega,by rw [d];simpa using hi⟩))]
  simp (disch:=omega) only [z8J,Int.toNat_natCast,Int.ofNat_one,Int.natCast_one]
 ·intro k ys;unfold z7o;rw [if_neg (by simp)]

theorem zhe {xs:List Bool}:ctBoolS xs≤64*(xs.length):=by
 have h:=zb6 (c:=ecBoolS) (g:=(fun _=>0)) (m:=64) (xs:=xs) fun x _=>by
  unfold ecBoolS
  omega
 rw [zda (fun _=>rfl)] at h
 exact h

theorem zdE {fu:Nat}{xs:List D.Qb}{k:Int}(hf:Big fu) (hl:szL D.Qb.sz xs≤1048576) (h0:0≤k) (h1:k+(ctShardCellS xs:Nat)≤2147483648):z3F fu (mkShardCellS fu xs k) k=some (k+(ctShardCellS xs:Nat)):=by
 unfold z3F
 have hlen:(mkShardCellS fu xs k).length=xs.length:=z24 _ _
 rw [z9T (f:=elShardCellS fu) (c:=ecShardCellS) (xs:=xs) (k:=k) (by have:=(z2C hl);omega) hf h0 h1 ?_ ?_]
 ·rfl
 ·intro i x k' hi hx hm h0 h1
  unfold ecShardCellS at h1
  have hsx:=z2G hl hm
  unfold D.Qb.sz at hsx
  have d:(mkShardCellS fu xs k)[i]? = some (elShardCellS fu x k'):=hx
  unfold z2w
  rw [if_pos (dct (show(i:Int)<(mkShardCellS fu xs k).length by rw [hlen];omega))]
  simp only [zd d,bsm]
  unfold elShardCellS ecShardCellS
  simp (disch:=omega) only [z8u hf (show x.Data.length≤1048576 by omega),zc8 hf (show x.QX.length≤1048576 by omega),z8J,bsm,lt_f,if_false,bne_self_eq_false,Bool.false_eq_true,beq_self_eq_true,Bool.not_true,Int.ofNat_one,Int.natCast_one]
  try (refine congrArg some (congrArg Rd.next (Prod.ext ?_ rfl));dsimp only;simp only [Int.natCast_add,Int.natCast_one,Int.ofNat_one];try omega)
 ·intro k';show z2w fu (mkShardCellS fu xs k) (k',((mkShardCellS fu xs k).length:Int))=_;unfold z2w;rw [if_neg (by simp)]

theorem zec {fu:Nat}{xs:List D.Qn}{k:Int}(hf:Big fu) (hl:xs.length≤1048576) (h0:0≤k) (h1:k+(ctShardVarS xs:Nat)≤2147483648):z4p fu (mkShardVarS fu xs k) k=some (k+(ctShardVarS xs:Nat)):=by
 unfold z4p
 have hlen:(mkShardVarS fu xs k).length=xs.length:=z24 _ _
 rw [z9T (f:=elShardVarS fu) (c:=ecShardVarS) (xs:=xs) (k:=k) (by have:=hl;omega) hf h0 h1 ?_ ?_]
 ·rfl
 ·intro i x k' hi hx hm h0 h1
  unfold ecShardVarS at h1
  have d:(mkShardVarS fu xs k)[i]? = some (elShardVarS fu x k'):=hx
  unfold z2S
  rw [if_pos (dct (show(i:Int)<(mkShardVarS fu xs k).length by rw [hlen];omega))]
  simp only [zd d,bsm]
  unfold elShardVarS ecShardVarS
  simp (disch:=omega) only [z8J,bsm,lt_f,if_false,bne_self_eq_false,Bool.false_eq_true,beq_self_eq_true,Bool.not_true,Int.ofNat_one,Int.natCast_one]
  try (refine congrArg some (congrArg Rd.next (Prod.ext ?_ rfl));dsimp only;simp only [Int.natCast_add,Int.natCast_one,Int.ofNat_one];try omega)
 ·intro k';show z2S fu (mkShardVarS fu xs k) (k',((mkShardVarS fu xs k).length:Int))=_;unfold z2S;rw [if_neg (by simp)]

theorem zdm {fu:Nat}{xs:List D.Qk}{k:Int}(hf:Big fu) (hl:xs.length≤1048576) (h0:0≤k) (h1:k+(ctShardRedexS xs:Nat)≤2147483648):z3a fu (mkShardRedexS fu xs k) k=some (k+(ctShardRedexS xs:Nat)):=by
 unfold z3a
 have hlen:(mkShardRedexS fu xs k).length=xs.length:=z24 _ _
 rw [z9T (f:=elShardRedexS fu) (c:=ecShardRedexS) (xs:=xs) (k:=k) (by have:=hl;omega) hf h0 h1 ?_ ?_]
 ·rfl
 ·intro i x k' hi hx hm h0 h1
  unfold ecShardRedexS at h1
  have d:(mkShardRedexS fu xs k)[i]? = some (elShardRedexS fu x k'):=hx
  unfold z28
  rw [if_pos (dct (show(i:Int)<(mkShardRedexS fu xs k).length by rw [hlen];omega))]
  simp only [zd d,bsm]
  unfold elShardRedexS ecShardRedexS
  simp only [Int.natCast_add,Int.natCast_one,Int.ofNat_one,← Int.add_assoc] at h1 ⊢
  simp (disch:=omega) only [z8J,bsm,lt_f,if_false,bne_self_eq_false,Bool.false_eq_true,beq_self_eq_true,Bool.not_true,Int.ofNat_one,Int.natCast_one]
  try (refine congrArg some (congrArg Rd.next (Prod.ext ?_ rfl));dsimp only;simp only [Int.natCast_add,Int.natCast_one,Int.ofNat_one];try omega)
 ·intro k';show z28 fu (mkShardRedexS fu xs k) (k',((mkShardRedexS fu xs k).length:Int))=_;unfold z28;rw [if_neg (by simp)]

theorem zg2 {fu:Nat}{xs:List D.Qp}{k:Int}(hf:Big fu) (hl:szL D.Qp.sz xs≤1048576) (h0:0≤k) (h1:k+(ctShardS xs:Nat)≤2147483648):z76 fu (mkShardS fu xs k) k=some (k+(ctShardS xs:Nat)):=by
 unfold z76
 have hlen:(mkShardS fu xs k).length=xs.length:=z24 _ _
 rw [z9T (f:=elShardS fu) (c:=ecShardS) (xs:=xs) (k:=k) (by have:=(z2C hl);omega) hf h0 h1 ?_ ?_]
 ·rfl
 ·intro i x k' hi hx hm h0 h1
  unfold ecShardS at h1
  have hsx:=z2G hl hm
  unfold D.Qp.sz at hsx
  have d:(mkShardS fu xs k)[i]? = some (elShardS fu x k'):=hx
  unfold z4q
  rw [if_pos (dct (show(i:Int)<(mkShardS fu xs k).length by rw [hlen];omega))]
  simp only [zd d,bsm]
  unfold elShardS ecShardS
  simp (disch:=omega) only [zdE hf (show szL D.Qb.sz x.Cells≤1048576 by omega),zec hf (show x.QG.length≤1048576 by omega),zdm hf (show x.Qu.length≤1048576 by omega),z8J,bsm,lt_f,if_false,bne_self_eq_false,Bool.false_eq_true,beq_self_eq_true,Bool.not_true,Int.ofNat_one,Int.natCast_one]
  try (refine congrArg some (congrArg Rd.next (Prod.ext ?_ rfl));dsimp only;simp only [Int.natCast_add,Int.natCast_one,Int.ofNat_one];try omega)
 ·intro k';show z4q fu (mkShardS fu xs k) (k',((mkShardS fu xs k).length:Int))=_;unfold z4q;rw [if_neg (by simp)]

theorem zfa {fu:Nat}{x:D.Qa}{k:Int}(hf:Big fu) (hs:x.sz≤1048576) (h0:0≤k) (h1:k+(ctCluster x:Nat)≤2147483648):z44 fu (mkCluster fu x k) k=some (k+(ctCluster x:Nat)):=by
 unfold ctCluster at h1 ⊢
 simp only [D.Qa.sz,D.Qi.sz] at hs
 unfold z44 mkCluster
 simp (disch:=omega) only [zg2 hf (show szL D.Qp.sz x.Qi.Qc≤1048576 by omega),zeG hf (show szL (fun x=>szL D.Qe.sz x) x.Qh≤1048576 by omega),zf9 hf (show szL (fun x=>x.length) x.Qo≤1048576 by omega),z8u hf (show x.QU.length≤1048576 by omega),z8u hf (show x.QZ.length≤1048576 by omega),bsm,lt_f,if_false,z9K]
 all_goals try simp only [Int.natCast_add,Int.add_assoc]

end Go.E


namespace Go.E
open Go.RowKit Go.Proofs
set_option linter.unusedSimpArgs false
set_option linter.unusedVariables false

def mkWatched (fu:Nat) (x:D.Qx) (k:Int):D.Qx:=(⟨(⟨(⟨mkShardS fu x.Qa.Qi.Qc (k),x.Qa.Qi.Qy⟩:D.Qi),mkParcelSS fu x.Qa.Qh (k+((ctShardS x.Qa.Qi.Qc:Nat):Int)),z8O fu x.Qa.Qo (k+((ctShardS x.Qa.Qi.Qc:Nat):Int)+((ctParcelSS x.Qa.Qh:Nat):Int)),z7Z fu x.Qa.QU (k+((ctShardS x.Qa.Qi.Qc:Nat):Int)+((ctParcelSS x.Qa.Qh:Nat):Int)+((z2W x.Qa.Qo:Nat):Int)),z7Z fu x.Qa.QZ (k+((ctShardS x.Qa.Qi.Qc:Nat):Int)+((ctParcelSS x.Qa.Qh:Nat):Int)+((z2W x.Qa.Qo:Nat):Int)+((z1y x.Qa.QU:Nat):Int))⟩:D.Qa),(⟨mkBoolS fu x.Qq.QC (k+((ctShardS x.Qa.Qi.Qc:Nat):Int)+((ctParcelSS x.Qa.Qh:Nat):Int)+((z2W x.Qa.Qo:Nat):Int)+((z1y x.Qa.QU:Nat):Int)+((z1y x.Qa.QZ:Nat):Int)),mkShardS fu x.Qq.Qc (k+((ctShardS x.Qa.Qi.Qc:Nat):Int)+((ctParcelSS x.Qa.Qh:Nat):Int)+((z2W x.Qa.Qo:Nat):Int)+((z1y x.Qa.QU:Nat):Int)+((z1y x.Qa.QZ:Nat):Int)+((ctBoolS x.Qq.QC:Nat):Int)),z8O fu x.Qq.Qo (k+((ctShardS x.Qa.Qi.Qc:Nat):Int)+((ctParcelSS x.Qa.Qh:Nat):Int)+((z2W x.Qa.Qo:Nat):Int)+((z1y x.Qa.QU:Nat):Int)+((z1y x.Qa.QZ:Nat):Int)+((ctBoolS x.Qq.QC:Nat):Int)+((ctShardS x.Qq.Qc:Nat):Int)),mkBoolS fu x.Qq.Qt (k+((ctShardS x.Qa.Qi.Qc:Nat):Int)+((ctParcelSS x.Qa.Qh:Nat):Int)+((z2W x.Qa.Qo:Nat):Int)+((z1y x.Qa.QU:Nat):Int)+((z1y x.Qa.QZ:Nat):Int)+((ctBoolS x.Qq.QC:Nat):Int)+((ctShardS x.Qq.Qc:Nat):Int)+((z2W x.Qq.Qo:Nat):Int)),mkParcelSS fu x.Qq.QK (k+((ctShardS x.Qa.Qi.Qc:Nat):Int)+((ctParcelSS x.Qa.Qh:Nat):Int)+((z2W x.Qa.Qo:Nat):Int)+((z1y x.Qa.QU:Nat):Int)+((z1y x.Qa.QZ:Nat):Int)+((ctBoolS x.Qq.QC:Nat):Int)+((ctShardS x.Qq.Qc:Nat):Int)+((z2W x.Qq.Qo:Nat):Int)+((ctBoolS x.Qq.Qt:Nat):Int))⟩:D.Qq)⟩:D.Qx)
def ctWatched (x:D.Qx):Nat:=ctShardS x.Qa.Qi.Qc+ctParcelSS x.Qa.Qh+z2W x.Qa.Qo+z1y x.Qa.QU+z1y x.Qa.QZ+ctBoolS x.Qq.QC+ctShardS x.Qq.Qc+z2W x.Qq.Qo+ctBoolS x.Qq.Qt+ctParcelSS x.Qq.QK
theorem zf2 {fu:Nat}{x:D.Qx}{k:Int}(hf:Big fu) (hs:x.sz≤1048576) (h0:0≤k) (h1:k+(ctWatched x:Nat)≤2147483648):z63 fu x k=some (k+(ctWatched x:Nat),(mkWatched fu x k).Qa.Qi.Qc,(mkWatched fu x k).Qa.Qh,(mkWatched fu x k).Qa.Qo,(mkWatched fu x k).Qa.QU,(mkWatched fu x k).Qa.QZ,(mkWatched fu x k).Qq.QC,(mkWatched fu x k).Qq.Qc,(mkWatched fu x k).Qq.Qo,(mkWatched fu x k).Qq.Qt,(mkWatched fu x k).Qq.QK):=by
 unfold ctWatched at h1 ⊢
 simp only [D.Qx.sz,D.Qa.sz,D.Qi.sz,D.Qq.sz] at hs
 unfold z63 mkWatched
 simp (disch:=omega) only [zb9 hf (show szL D.Qp.sz x.Qa.Qi.Qc≤1048576 by omega),zab hf (show szL (fun x=>szL D.Qe.sz x) x.Qa.Qh≤1048576 by omega),zaB hf (show szL (fun x=>x.length) x.Qa.Qo≤1048576 by omega),z4W hf (show x.Qa.QU.length≤1048576 by omega),z4W hf (show x.Qa.QZ.length≤1048576 by omega),zdr hf (show x.Qq.QC.length≤1048576 by omega),zb9 hf (show szL D.Qp.sz x.Qq.Qc≤1048576 by omega),zaB hf (show szL (fun x=>x.length) x.Qq.Qo≤1048576 by omega),zdr hf (show x.Qq.Qt.length≤1048576 by omega),zab hf (show szL (fun x=>szL D.Qe.sz x) x.Qq.QK≤1048576 by omega),bsm,z2R,z8i,z9G]
 all_goals try simp only [Int.natCast_add,Int.add_assoc]

theorem zj7 {x:D.Qx}:ctWatched x≤64*x.sz:=by
 unfold ctWatched
 simp only [D.Qx.sz,D.Qa.sz,D.Qi.sz,D.Qq.sz]
 have:=zdG (xs:=x.Qa.Qi.Qc)
 have:=zcq (xs:=x.Qa.Qh)
 have:=zd1 (xs:=x.Qa.Qo)
 have:=z9h (xs:=x.Qa.QU)
 have:=z9h (xs:=x.Qa.QZ)
 have:=zhe (xs:=x.Qq.QC)
 have:=zdG (xs:=x.Qq.Qc)
 have:=zd1 (xs:=x.Qq.Qo)
 have:=zhe (xs:=x.Qq.Qt)
 have:=zcq (xs:=x.Qq.QK)
 omega

end Go.E


namespace Go.E
open Go.RowKit Go.Proofs
set_option linter.unusedVariables false
set_option linter.unusedSimpArgs false
set_option maxHeartbeats 20000000
set_option maxRecDepth 100000

def z1O (fu:Nat) (o:D.Qa × Int) (d:Int × (List D.Qp) × (List (List D.Qe)) × (List (List Int)) × (List Int) × (List Int)) (q:Bool):Option Bool:=(if q=true then some false else((z44 fu (⟨(⟨d.2.1,o.1.Qi.Qy⟩:D.Qi),d.2.2.1,d.2.2.2.1,d.2.2.2.2.1,d.2.2.2.2.2⟩:D.Qa) 1).bind fun h=>(if(decide (h<0))=true then some false else(if(h != d.1)=true then some false else some true))))
def z1o (fu:Nat) (x0:D.Qx) (O:D.Qa × Int) (h:D.Qa × Int) (M:Bool):Option Bool:=(if M=true then some false else((z2R fu h.1 1).bind fun d=>((z44 fu (⟨(⟨d.2.1,h.1.Qi.Qy⟩:D.Qi),d.2.2.1,d.2.2.2.1,d.2.2.2.2.1,d.2.2.2.2.2⟩:D.Qa) 1).bind fun o=>(if(decide (o<0))=true then some false else(if(o != d.1)=true then some false else((z35 fu x0).bind fun G=>((z47 fu G).bind fun q=>((z36 fu q.1 O.1).bind fun H=>(if(!H)=true then z1O fu h d true else z1O fu h d (q.2 != O.2))))))))))
def z1P (fu:Nat) (x0:D.Qx) (h:D.Qa × Int) (O:D.Qx) (d:D.Qa × Int) (M:Bool):Option Bool:=(if M=true then some false else((z35 fu x0).bind fun o=>((z7G fu O o).bind fun q=>(if(!q)=true then some false else((z63 fu O 1).bind fun G=>(if(decide (G.1<0))=true then z1o fu x0 h d true else((z36 fu d.1 h.1).bind fun H=>(if(!H)=true then z1o fu x0 h d true else z1o fu x0 h d (d.2 != h.2)))))))))
def z3t (fu:Nat) (x0:D.Qx):Option (Bool):=((z7D fu x0 1048576).bind fun G=>(if(decide (G<0))=true then some true else((z35 fu x0).bind fun H=>((z5R fu H).bind fun h=>((z35 fu x0).bind fun q=>((z47 fu q).bind fun d=>((z36 fu d.1 h.1).bind fun o=>(if(!o)=true then z1P fu x0 h q d true else z1P fu x0 h q d (d.2 != h.2)))))))))

theorem laws_FnExactRestoreShot_ok {W w:World}(hE:Ext W w){E3:List Value}{x0:D.Qx}(X0:ty69.ro W E3 x0){fu:Nat}{r:Bool}(hm:z3t fu x0=some r):
  CL 14 ⟨[.agg ⟨E3⟩]⟩ w (RB w r):=by
 obtain⟨A1,k2,A4,k5,A7,J3,u3,K3,v3,L3,y3,M3,A3,N3,B3,O3,C3,P3,D3,Q3,x4,h3,h6,j6,k6,m6,n6,o6,p6,q6,r6⟩:=zfs X0;subst x4;refine into Tryz.func14 96 _ ?_;unfold z3t at hm;have hS:=St.start w;refine sq<|rg<|nw hS (fun S2 K6 g6 R0=>?_);refine rr 1 ?_;refine rn<|sq<|rg<|rr 1 ?_;refine rn<|sq<|rg<|lN ((R0.bring 0 rfl).box) ?_;refine rr 1 ?_;obtain⟨E6,k3,hm⟩:=bS hm;refine ca zpR (laws_szWatched_ok (hE.trans R0.ext) X0 k3) (fun F6 L6 a3=>?_);obtain⟨rfl,b3⟩:=a3;have F0:=R0.join b3;refine rr 1 ?_;refine rn<|sq<|sq<|rg<|rr 2 ?_;refine rn<|ci hm (fun hm=>?_) (fun hm=>?_)
 ·refine sq<|rg<|rr 1 ?_;refine rn<|rt ?_;cases hm;exact⟨_,tR rfl,rfl,(F0.taken 0)⟩
 ·refine sp<|sq<|rg<|lN ((F0.bring 0 rfl).box) ?_;obtain⟨m5,m3,hm⟩:=bS hm;refine ca zfm (laws_toWatched_ok (hE.trans F0.ext) X0 m3) (fun G6 M6 c3=>?_);obtain⟨V5,s6,W5,t6,X5,u6,Y5,v6,a6,x6,b6,y6,c6,A6,d6,B6,e6,C6,f6,D6,rfl,d3⟩:=c3;have p0:=F0.join d3;obtain⟨g0,n3,hm⟩:=bS hm;refine ca zpO (zdv (Ext.refl _) (zcz m5 ((p0.bring 0 rfl).own) ((p0.bring 1 rfl).own) ((p0.bring 2 rfl).own) ((p0.bring 3 rfl).own) ((p0.bring 4 rfl).own) ((p0.bring 5 rfl).own) ((p0.bring 6 rfl).own) ((p0.bring 7 rfl).own) ((p0.bring 8 rfl).own) ((p0.bring 9 rfl).own)) n3) (fun H6 N6 e3=>?_);obtain⟨N2,U2,O2,V2,P2,W2,Q2,X2,R2,Y2,rfl,f3⟩:=e3;have g3:=p0.join f3;refine rr 3 ?_;refine nw g3 (fun T2 O6 i6 i3=>?_);have j3:=i3.bring 0 rfl;refine so (A:=[]) j3 0 (fun P6 S0=>?_);refine rr 1 ?_;refine rn<|sq<|rg<|lN ((S0.bring 16 rfl).box) ?_;obtain⟨j0,o3,hm⟩:=bS hm;refine ca zfm (laws_toWatched_ok (hE.trans S0.ext) X0 o3) (fun J6 B5 t1=>?_);obtain⟨Y0,B2,a1,C2,d1,D2,e1,E2,f1,F2,g1,G2,i1,H2,j1,J2,m1,K2,n1,L2,rfl,u1⟩:=t1;have R1:=S0.join u1;refine nw R1 (fun p1 C5 t4 S1=>?_);have T1:=S1.bring 0 rfl;refine so (A:=[]) T1 0 (fun D5 f0=>?_);refine rn<|sq<|rg<|lN ((f0.bring 0 rfl).box) ?_;obtain⟨d,j2,hm⟩:=bS hm;refine ca zkj (zbr (Ext.refl _) (zcz j0 ((f0.bring 1 rfl).own) ((f0.bring 2 rfl).own) ((f0.bring 3 rfl).own) ((f0.bring 4 rfl).own) ((f0.bring 5 rfl).own) ((f0.bring 6 rfl).own) ((f0.bring 7 rfl).own) ((f0.bring 8 rfl).own) ((f0.bring 9 rfl).own) ((f0.bring 10 rfl).own)) j2) (fun n5 E5 v1=>?_);obtain⟨q,S,G,X,H,Y,M,Z,O,a0,rfl,y1⟩:=v1;have U1:=f0.join y1;refine rr 3 ?_;refine nw U1 (fun u0 F5 u4 V1=>?_);have W1:=V1.bring 0 rfl;refine so (A:=[]) W1 0 (fun r3 d0=>?_);refine rr 1 ?_;refine rn<|sq<|sq<|ct (fun(T0:Bool) F w9=>z1P fu x0 g0 j0 d T0=some r∧Ext r3 w9∧St w w9 [Box u0 [sl q d.1.Qi.Qc S,iv d.1.Qi.Qy.Qg,iv d.1.Qi.Qy.Qj,iv d.1.Qi.Qy.Qs,sl G d.1.Qh X,sl H d.1.Qo Y,sl M d.1.QU Z,sl O d.1.QZ a0] 40,ow ty34 q d.1.Qi.Qc S,ow ty38 G d.1.Qh X,ow ty28 H d.1.Qo Y,ow ty29 M d.1.QU Z,ow ty29 O d.1.QZ a0,Box p1 [sl Y0 j0.Qa.Qi.Qc B2,iv j0.Qa.Qi.Qy.Qg,iv j0.Qa.Qi.Qy.Qj,iv j0.Qa.Qi.Qy.Qs,sl a1 j0.Qa.Qh C2,sl d1 j0.Qa.Qo D2,sl e1 j0.Qa.QU E2,sl f1 j0.Qa.QZ F2,sl g1 j0.Qq.QC G2,sl i1 j0.Qq.Qc H2,sl j1 j0.Qq.Qo J2,sl m1 j0.Qq.Qt K2,sl n1 j0.Qq.QK L2] 75,ow ty34 Y0 j0.Qa.Qi.Qc B2,ow ty38 a1 j0.Qa.Qh C2,ow ty28 d1 j0.Qa.Qo D2,ow ty29 e1 j0.Qa.QU E2,ow ty29 f1 j0.Qa.QZ F2,ow ty56 g1 j0.Qq.QC G2,ow ty34 i1 j0.Qq.Qc H2,ow ty28 j1 j0.Qq.Qo J2,ow ty56 m1 j0.Qq.Qt K2,ow ty38 n1 j0.Qq.QK L2,Box T2 [sl N2 g0.1.Qi.Qc U2,iv g0.1.Qi.Qy.Qg,iv g0.1.Qi.Qy.Qj,iv g0.1.Qi.Qy.Qs,sl O2 g0.1.Qh V2,sl P2 g0.1.Qo W2,sl Q2 g0.1.QU X2,sl R2 g0.1.QZ Y2] 40,ow ty34 N2 g0.1.Qi.Qc U2,ow ty38 O2 g0.1.Qh V2,ow ty28 P2 g0.1.Qo W2,ow ty29 Q2 g0.1.QU X2,ow ty29 R2 g0.1.QZ Y2,Box S2 [sl A1 x0.Qa.Qi.Qc k2,iv x0.Qa.Qi.Qy.Qg,iv x0.Qa.Qi.Qy.Qj,iv x0.Qa.Qi.Qy.Qs,sl A4 x0.Qa.Qh k5,sl A7 x0.Qa.Qo J3,sl u3 x0.Qa.QU K3,sl v3 x0.Qa.QZ L3,sl y3 x0.Qq.QC M3,sl A3 x0.Qq.Qc N3,sl B3 x0.Qq.Qo O3,sl C3 x0.Qq.Qt P3,sl D3 x0.Qq.QK Q3] 69]∧F=[(1,.pointer (some ⟨S2,0,none⟩)),(4,.pointer (some ⟨T2,0,none⟩)),(5,iv g0.2),(6,.pointer (some ⟨p1,0,none⟩)),(7,.pointer (some ⟨u0,0,none⟩)),(8,iv d.2),(40,.bool T0)]) ?_ ?_
  ·rintro T0 F G5 ⟨hm,F3,r0,rfl⟩;unfold z1P at hm;refine ci hm (fun hm=>?_) (fun hm=>?_)
   ·refine sq<|rg<|rr 1 ?_;refine rn<|rt ?_;cases hm;exact⟨_,tR rfl,rfl,(r0.taken 0)⟩
   ·refine sp<|sq<|sq<|dn 0 mixed 5 [([],31),([],31),([1],29),([0,2,2],26),([3],23)] r0.ext (fun o0=>?_);have J0:=r0.step (Ext.draw _);refine dL o0 0 ((r0.bring 6 rfl).box) ?_;refine dL o0 1 ((r0.bring 23 rfl).box) ?_;obtain⟨p3,m2,hm⟩:=bS hm;refine o1 o0 2 (mc o0 zfm (laws_toWatched_ok (hE.trans J0.ext) X0 m2) (fun o5 H5 B1=>?_));obtain⟨R3,B4,S3,C4,T3,D4,U3,E4,V3,F4,W3,G4,X3,H4,Y3,J4,a4,K4,b4,L4,rfl,G0⟩:=B1;refine⟨G0.ext,?_⟩;have o:=J0.join G0;obtain⟨c5,n2,hm⟩:=bS hm;refine o1 o0 3 (mc o0 zpP (laws_eqWatched_ok (Ext.refl _) (zcz j0 ((o.bring 17 rfl).own) ((o.bring 18 rfl).own) ((o.bring 19 rfl).own) ((o.bring 20 rfl).own) ((o.bring 21 rfl).own) ((o.bring 22 rfl).own) ((o.bring 23 rfl).own) ((o.bring 24 rfl).own) ((o.bring 25 rfl).own) ((o.bring 26 rfl).own)) (zcz p3 ((o.bring 0 rfl).own) ((o.bring 1 rfl).own) ((o.bring 2 rfl).own) ((o.bring 3 rfl).own) ((o.bring 4 rfl).own) ((o.bring 5 rfl).own) ((o.bring 6 rfl).own) ((o.bring 7 rfl).own) ((o.bring 8 rfl).own) ((o.bring 9 rfl).own)) n2) (fun p5 J5 C1=>?_));obtain⟨rfl,H0⟩:=C1;refine⟨H0.ext,?_⟩;have B0:=o.join H0;refine dr 0 o0 [4] ?_;refine dd o0 ?_;refine ci hm (fun hm=>?_) (fun hm=>?_)
    ·refine sq<|rg<|rr 1 ?_;refine rn<|rt ?_;cases hm;exact⟨_,tR rfl,rfl,(B0.taken 0)⟩
    ·refine sp<|sq<|rg<|rr 1 ?_;refine rn<|sq<|rg<|lN ((B0.bring 16 rfl).box) ?_;refine rr 1 ?_;obtain⟨d5,o2,hm⟩:=bS hm;refine ca zpN (laws_markWatched_ok (W:=w) (RR:=_) (x0:=j0) (x1:=1) ((((((((((B0.bring 26 rfl).bring 26 rfl).bring 26 rfl).bring 26 rfl).bring 26 rfl).bring 26 rfl).bring 26 rfl).bring 26 rfl).bring 26 rfl).bring 26 rfl)  o2) (fun q5 s3 D1=>?_);obtain⟨rfl,b0⟩:=D1;refine rr 1 ?_;refine rn<|sq<|sq<|ct (fun(U0:Bool) F w9=>z1o fu x0 g0 d U0=some r∧Ext s3 w9∧St w w9 [Box u0 [sl q d.1.Qi.Qc S,iv d.1.Qi.Qy.Qg,iv d.1.Qi.Qy.Qj,iv d.1.Qi.Qy.Qs,sl G d.1.Qh X,sl H d.1.Qo Y,sl M d.1.QU Z,sl O d.1.QZ a0] 40,ow ty34 q d.1.Qi.Qc S,ow ty38 G d.1.Qh X,ow ty28 H d.1.Qo Y,ow ty29 M d.1.QU Z,ow ty29 O d.1.QZ a0,Box T2 [sl N2 g0.1.Qi.Qc U2,iv g0.1.Qi.Qy.Qg,iv g0.1.Qi.Qy.Qj,iv g0.1.Qi.Qy.Qs,sl O2 g0.1.Qh V2,sl P2 g0.1.Qo W2,sl Q2 g0.1.QU X2,sl R2 g0.1.QZ Y2] 40,ow ty34 N2 g0.1.Qi.Qc U2,ow ty38 O2 g0.1.Qh V2,ow ty28 P2 g0.1.Qo W2,ow ty29 Q2 g0.1.QU X2,ow ty29 R2 g0.1.QZ Y2,Box S2 [sl A1 x0.Qa.Qi.Qc k2,iv x0.Qa.Qi.Qy.Qg,iv x0.Qa.Qi.Qy.Qj,iv x0.Qa.Qi.Qy.Qs,sl A4 x0.Qa.Qh k5,sl A7 x0.Qa.Qo J3,sl u3 x0.Qa.QU K3,sl v3 x0.Qa.QZ L3,sl y3 x0.Qq.QC M3,sl A3 x0.Qq.Qc N3,sl B3 x0.Qq.Qo O3,sl C3 x0.Qq.Qt P3,sl D3 x0.Qq.QK Q3] 69]∧F=[(1,.pointer (some ⟨S2,0,none⟩)),(4,.pointer (some ⟨T2,0,none⟩)),(5,iv g0.2),(7,.pointer (some ⟨u0,0,none⟩)),(61,.bool U0)]) ?_ ?_
     ·rintro U0 F K5 ⟨hm,G3,C0,rfl⟩;unfold z1o at hm;refine ci hm (fun hm=>?_) (fun hm=>?_)
      ·refine sq<|rg<|rr 1 ?_;refine rn<|rt ?_;cases hm;exact⟨_,tR rfl,rfl,(C0.taken 0)⟩
      ·refine sp<|sq<|rg<|rr 1 ?_;refine rn<|sq<|rg<|lN ((C0.bring 0 rfl).box) ?_;refine rr 1 ?_;obtain⟨h,p2,hm⟩:=bS hm;refine ca zkk (laws_markCluster_ok (W:=w) (RR:=_) (x0:=d.1) (x1:=1) (((((C0.bring 5 rfl).bring 5 rfl).bring 5 rfl).bring 5 rfl).bring 5 rfl)  p2) (fun r5 L5 E1=>?_);obtain⟨rfl,D0⟩:=E1;refine rr 1 ?_;refine rn<|sq<|rg<|rr 1 ?_;refine rn<|sq<|rg<|lN ((D0.bring 5 rfl).box) ?_;refine rr 1 ?_;have hn213:=(D0.bring 0 rfl).lenEq;have X1:=(D0.bring 0 rfl).reLen hn213;have K0:=(X1.bring 5 rfl).reBox (cs':=[.slice q h.2.1.length S,iv d.1.Qi.Qy.Qg,iv d.1.Qi.Qy.Qj,iv d.1.Qi.Qy.Qs,.slice G d.1.Qh.length X,.slice H d.1.Qo.length Y,.slice M d.1.QU.length Z,.slice O d.1.QZ.length a0]) (by show([.slice q d.1.Qi.Qc.length S,iv d.1.Qi.Qy.Qg,iv d.1.Qi.Qy.Qj,iv d.1.Qi.Qy.Qs,.slice G d.1.Qh.length X,.slice H d.1.Qo.length Y,.slice M d.1.QU.length Z,.slice O d.1.QZ.length a0]:List Value)=[.slice q h.2.1.length S,iv d.1.Qi.Qy.Qg,iv d.1.Qi.Qy.Qj,iv d.1.Qi.Qy.Qs,.slice G d.1.Qh.length X,.slice H d.1.Qo.length Y,.slice M d.1.QU.length Z,.slice O d.1.QZ.length a0];first | (simp only [sl,hn213];done) | (simp only [sl,hn213];rfl));have hn216:=(K0.bring 2 rfl).lenEq;have Y1:=(K0.bring 2 rfl).reLen hn216;have L0:=(Y1.bring 1 rfl).reBox (cs':=[.slice q h.2.1.length S,iv d.1.Qi.Qy.Qg,iv d.1.Qi.Qy.Qj,iv d.1.Qi.Qy.Qs,.slice G h.2.2.1.length X,.slice H d.1.Qo.length Y,.slice M d.1.QU.length Z,.slice O d.1.QZ.length a0]) (by show([.slice q h.2.1.length S,iv d.1.Qi.Qy.Qg,iv d.1.Qi.Qy.Qj,iv d.1.Qi.Qy.Qs,.slice G d.1.Qh.length X,.slice H d.1.Qo.length Y,.slice M d.1.QU.length Z,.slice O d.1.QZ.length a0]:List Value)=[.slice q h.2.1.length S,iv d.1.Qi.Qy.Qg,iv d.1.Qi.Qy.Qj,iv d.1.Qi.Qy.Qs,.slice G h.2.2.1.length X,.slice H d.1.Qo.length Y,.slice M d.1.QU.length Z,.slice O d.1.QZ.length a0];first | (simp only [sl,hn216];done) | (simp only [sl,hn216];rfl));have hn219:=(L0.bring 3 rfl).lenEq;have a2:=(L0.bring 3 rfl).reLen hn219;have M0:=(a2.bring 1 rfl).reBox (cs':=[.slice q h.2.1.length S,iv d.1.Qi.Qy.Qg,iv d.1.Qi.Qy.Qj,iv d.1.Qi.Qy.Qs,.slice G h.2.2.1.length X,.slice H h.2.2.2.1.length Y,.slice M d.1.QU.length Z,.slice O d.1.QZ.length a0]) (by show([.slice q h.2.1.length S,iv d.1.Qi.Qy.Qg,iv d.1.Qi.Qy.Qj,iv d.1.Qi.Qy.Qs,.slice G h.2.2.1.length X,.slice H d.1.Qo.length Y,.slice M d.1.QU.length Z,.slice O d.1.QZ.length a0]:List Value)=[.slice q h.2.1.length S,iv d.1.Qi.Qy.Qg,iv d.1.Qi.Qy.Qj,iv d.1.Qi.Qy.Qs,.slice G h.2.2.1.length X,.slice H h.2.2.2.1.length Y,.slice M d.1.QU.length Z,.slice O d.1.QZ.length a0];first | (simp only [sl,hn219];done) | (simp only [sl,hn219];rfl));have hn222:=(M0.bring 4 rfl).lenEq;have d2:=(M0.bring 4 rfl).reLen hn222;have N0:=(d2.bring 1 rfl).reBox (cs':=[.slice q h.2.1.length S,iv d.1.Qi.Qy.Qg,iv d.1.Qi.Qy.Qj,iv d.1.Qi.Qy.Qs,.slice G h.2.2.1.length X,.slice H h.2.2.2.1.length Y,.slice M h.2.2.2.2.1.length Z,.slice O d.1.QZ.length a0]) (by show([.slice q h.2.1.length S,iv d.1.Qi.Qy.Qg,iv d.1.Qi.Qy.Qj,iv d.1.Qi.Qy.Qs,.slice G h.2.2.1.length X,.slice H h.2.2.2.1.length Y,.slice M d.1.QU.length Z,.slice O d.1.QZ.length a0]:List Value)=[.slice q h.2.1.length S,iv d.1.Qi.Qy.Qg,iv d.1.Qi.Qy.Qj,iv d.1.Qi.Qy.Qs,.slice G h.2.2.1.length X,.slice H h.2.2.2.1.length Y,.slice M h.2.2.2.2.1.length Z,.slice O d.1.QZ.length a0];first | (simp only [sl,hn222];done) | (simp only [sl,hn222];rfl));have hn225:=(N0.bring 5 rfl).lenEq;have e2:=(N0.bring 5 rfl).reLen hn225;have q0:=(e2.bring 1 rfl).reBox (cs':=[.slice q h.2.1.length S,iv d.1.Qi.Qy.Qg,iv d.1.Qi.Qy.Qj,iv d.1.Qi.Qy.Qs,.slice G h.2.2.1.length X,.slice H h.2.2.2.1.length Y,.slice M h.2.2.2.2.1.length Z,.slice O h.2.2.2.2.2.length a0]) (by show([.slice q h.2.1.length S,iv d.1.Qi.Qy.Qg,iv d.1.Qi.Qy.Qj,iv d.1.Qi.Qy.Qs,.slice G h.2.2.1.length X,.slice H h.2.2.2.1.length Y,.slice M h.2.2.2.2.1.length Z,.slice O d.1.QZ.length a0]:List Value)=[.slice q h.2.1.length S,iv d.1.Qi.Qy.Qg,iv d.1.Qi.Qy.Qj,iv d.1.Qi.Qy.Qs,.slice G h.2.2.1.length X,.slice H h.2.2.2.1.length Y,.slice M h.2.2.2.2.1.length Z,.slice O h.2.2.2.2.2.length a0];first | (simp only [sl,hn225];done) | (simp only [sl,hn225];rfl));refine kn (u:=.agg ⟨[.slice q h.2.1.length S,iv d.1.Qi.Qy.Qg,iv d.1.Qi.Qy.Qj,iv d.1.Qi.Qy.Qs,.slice G h.2.2.1.length X,.slice H h.2.2.2.1.length Y,.slice M h.2.2.2.2.1.length Z,.slice O h.2.2.2.2.2.length a0]⟩) 65 rfl (by simp only [sl,hn213,hn216,hn219,hn222,hn225]) ?_;obtain⟨e5,q2,hm⟩:=bS hm;refine ca zki (laws_heldCluster_ok (Ext.refl _) (z2F (⟨(⟨h.2.1,d.1.Qi.Qy⟩:D.Qi),h.2.2.1,h.2.2.2.1,h.2.2.2.2.1,h.2.2.2.2.2⟩:D.Qa) ((q0.bring 5 rfl).own) ((q0.bring 4 rfl).own) ((q0.bring 3 rfl).own) ((q0.bring 2 rfl).own) ((q0.bring 1 rfl).own)) q2) (fun s5 M5 F1=>?_);obtain⟨rfl,G1⟩:=F1;have t0:=q0.join G1;refine rr 1 ?_;refine rn<|sq<|sq<|rg<|rr 2 ?_;refine rn<|ci hm (fun hm=>?_) (fun hm=>?_)
       ·refine sq<|rg<|rr 1 ?_;refine rn<|rt ?_;cases hm;exact⟨_,tR rfl,rfl,(t0.taken 0)⟩
       ·refine sp<|sq<|sq<|rg<|rr 3 ?_;refine rn<|ci hm (fun hm=>?_) (fun hm=>?_)
        ·refine sq<|rg<|rr 1 ?_;refine rn<|rt ?_;cases hm;exact⟨_,tR rfl,rfl,(t0.taken 0)⟩
        ·refine sp<|sq<|rg<|lN ((t0.bring 12 rfl).box) ?_;obtain⟨q3,r2,hm⟩:=bS hm;refine ca zfm (laws_toWatched_ok (hE.trans t0.ext) X0 r2) (fun t5 N5 H1=>?_);obtain⟨c4,M4,d4,N4,e4,O4,f4,P4,g4,Q4,i4,R4,j4,S4,k4,T4,m4,U4,n4,V4,rfl,J1⟩:=H1;have i0:=t0.join J1;obtain⟨M2,t2,hm⟩:=bS hm;refine ca zkj (zbr (Ext.refl _) (zcz q3 ((i0.bring 0 rfl).own) ((i0.bring 1 rfl).own) ((i0.bring 2 rfl).own) ((i0.bring 3 rfl).own) ((i0.bring 4 rfl).own) ((i0.bring 5 rfl).own) ((i0.bring 6 rfl).own) ((i0.bring 7 rfl).own) ((i0.bring 8 rfl).own) ((i0.bring 9 rfl).own)) t2) (fun u5 O5 K1=>?_);obtain⟨o4,W4,p4,X4,q4,Y4,r4,a5,s4,b5,rfl,L1⟩:=K1;have f2:=i0.join L1;refine rr 3 ?_;refine nw f2 (fun y4 P5 v4 g2=>?_);have i2:=g2.bring 0 rfl;refine so (A:=[]) i2 0 (fun t3 e0=>?_);refine rr 1 ?_;refine rn<|sq<|sq<|ct (fun(V0:Bool) F w9=>z1O fu d h V0=some r∧Ext t3 w9∧St w w9 [Box u0 [sl q h.2.1 S,iv d.1.Qi.Qy.Qg,iv d.1.Qi.Qy.Qj,iv d.1.Qi.Qy.Qs,sl G h.2.2.1 X,sl H h.2.2.2.1 Y,sl M h.2.2.2.2.1 Z,sl O h.2.2.2.2.2 a0] 40,ow ty29 O h.2.2.2.2.2 a0,ow ty29 M h.2.2.2.2.1 Z,ow ty28 H h.2.2.2.1 Y,ow ty38 G h.2.2.1 X,ow ty34 q h.2.1 S]∧F=[(7,.pointer (some ⟨u0,0,none⟩)),(10,iv h.1),(87,.bool V0)]) ?_ ?_
         ·rintro V0 F Q5 ⟨hm,H3,k0,rfl⟩;unfold z1O at hm;refine ci hm (fun hm=>?_) (fun hm=>?_)
          ·refine sq<|rg<|rr 1 ?_;refine rn<|rt ?_;cases hm;exact⟨_,tR rfl,rfl,(k0.taken 0)⟩
          ·refine sp<|sq<|rg<|rr 1 ?_;refine rn<|sq<|rg<|lN ((k0.bring 0 rfl).box) ?_;refine rr 1 ?_;obtain⟨f5,u2,hm⟩:=bS hm;refine ca zki (laws_heldCluster_ok (Ext.refl _) (z2F (⟨(⟨h.2.1,d.1.Qi.Qy⟩:D.Qi),h.2.2.1,h.2.2.2.1,h.2.2.2.2.1,h.2.2.2.2.2⟩:D.Qa) ((k0.bring 5 rfl).own) ((k0.bring 4 rfl).own) ((k0.bring 3 rfl).own) ((k0.bring 2 rfl).own) ((k0.bring 1 rfl).own)) u2) (fun v5 R5 M1=>?_);obtain⟨rfl,N1⟩:=M1;have E0:=k0.join N1;refine rr 1 ?_;refine rn<|sq<|sq<|rg<|rr 2 ?_;refine rn<|ci hm (fun hm=>?_) (fun hm=>?_)
           ·refine sq<|rg<|rr 1 ?_;refine rn<|rt ?_;cases hm;exact⟨_,tR rfl,rfl,(E0.taken 0)⟩
           ·refine sp<|sq<|sq<|rg<|rr 3 ?_;refine rn<|ci hm (fun hm=>?_) (fun hm=>?_)
            ·refine sq<|rg<|rr 1 ?_;refine rn<|rt ?_;cases hm;exact⟨_,tR rfl,rfl,(E0.taken 0)⟩
            ·refine sp<|sq<|rg<|rr 1 ?_;refine rn<|rt ?_;cases hm;exact⟨_,tR rfl,rfl,(E0.taken 0)⟩
         ·refine rg<|lN ((e0.bring 0 rfl).box) ?_;refine lN ((e0.bring 22 rfl).box) ?_;obtain⟨g5,v2,hm⟩:=bS hm;refine ca zfo (laws_eqCluster_ok (Ext.refl _) (z2F M2.1 ((e0.bring 1 rfl).own) ((e0.bring 2 rfl).own) ((e0.bring 3 rfl).own) ((e0.bring 4 rfl).own) ((e0.bring 5 rfl).own)) (z2F g0.1 ((e0.bring 23 rfl).own) ((e0.bring 24 rfl).own) ((e0.bring 25 rfl).own) ((e0.bring 26 rfl).own) ((e0.bring 27 rfl).own)) v2) (fun x5 S5 O1=>?_);obtain⟨rfl,v0⟩:=O1;have O0:=e0.join v0;refine rr 2 ?_;refine rb 83 hm (fun hm=>?_) (fun hm=>?_)
          ·refine rr 4 ?_;refine rn ?_;exact⟨true,_,⟨hm,v0.ext,(O0.sel [16,17,18,19,20,21]),rfl⟩,rfl⟩
          ·refine rr 4 ?_;refine rn ?_;exact⟨(M2.2 != g0.2),_,⟨hm,v0.ext,(O0.sel [16,17,18,19,20,21]),rfl⟩,rfl⟩
     ·refine rg<|rr 3 ?_;refine rb 51 hm (fun hm=>?_) (fun hm=>?_)
      ·refine rr 10 ?_;refine rn ?_;exact⟨true,_,⟨hm,(Ext.refl _),(b0.sel [20,21,22,23,24,25,27,28,29,30,31,32,33]),rfl⟩,rfl⟩
      ·refine lN ((b0.bring 20 rfl).box) ?_;refine lN ((b0.bring 27 rfl).box) ?_;obtain⟨i5,y2,hm⟩:=bS hm;refine ca zfo (laws_eqCluster_ok (Ext.refl _) (z2F d.1 ((b0.bring 21 rfl).own) ((b0.bring 22 rfl).own) ((b0.bring 23 rfl).own) ((b0.bring 24 rfl).own) ((b0.bring 25 rfl).own)) (z2F g0.1 ((b0.bring 28 rfl).own) ((b0.bring 29 rfl).own) ((b0.bring 30 rfl).own) ((b0.bring 31 rfl).own) ((b0.bring 32 rfl).own)) y2) (fun y5 T5 P1=>?_);obtain⟨rfl,y0⟩:=P1;have P0:=b0.join y0;refine rr 3 ?_;refine rb 57 hm (fun hm=>?_) (fun hm=>?_)
       ·refine rr 4 ?_;refine rn ?_;exact⟨true,_,⟨hm,y0.ext,(P0.sel [20,21,22,23,24,25,27,28,29,30,31,32,33]),rfl⟩,rfl⟩
       ·refine rr 4 ?_;refine rn ?_;exact⟨(d.2 != g0.2),_,⟨hm,y0.ext,(P0.sel [20,21,22,23,24,25,27,28,29,30,31,32,33]),rfl⟩,rfl⟩
  ·refine rg<|lN ((d0.bring 0 rfl).box) ?_;refine lN ((d0.bring 17 rfl).box) ?_;obtain⟨j5,A2,hm⟩:=bS hm;refine ca zfo (laws_eqCluster_ok (Ext.refl _) (z2F d.1 ((d0.bring 1 rfl).own) ((d0.bring 2 rfl).own) ((d0.bring 3 rfl).own) ((d0.bring 4 rfl).own) ((d0.bring 5 rfl).own)) (z2F g0.1 ((d0.bring 18 rfl).own) ((d0.bring 19 rfl).own) ((d0.bring 20 rfl).own) ((d0.bring 21 rfl).own) ((d0.bring 22 rfl).own)) A2) (fun A5 U5 Q1=>?_);obtain⟨rfl,A0⟩:=Q1;have Q0:=d0.join A0;refine rr 2 ?_;refine rb 36 hm (fun hm=>?_) (fun hm=>?_)
   ·refine rr 4 ?_;refine rn ?_;exact⟨true,_,⟨hm,A0.ext,(Q0.sel [0,1,2,3,4,5,6,7,8,9,10,11,12,13,14,15,16,17,18,19,20,21,22,33]),rfl⟩,rfl⟩
   ·refine rr 4 ?_;refine rn ?_;exact⟨(d.2 != g0.2),_,⟨hm,A0.ext,(Q0.sel [0,1,2,3,4,5,6,7,8,9,10,11,12,13,14,15,16,17,18,19,20,21,22,33]),rfl⟩,rfl⟩

end Go.E


namespace Go.E
open Go.RowKit Go.Proofs
set_option linter.unusedVariables false
set_option linter.unusedSimpArgs false
set_option maxHeartbeats 2000000
set_option maxRecDepth 100000

end Go.E


namespace Go.E
open Go.RowKit Go.Proofs
set_option linter.unusedSimpArgs false
set_option linter.unusedVariables false

theorem z9e {fu:Nat}{a l h:Int}:z19 fu a l h=some (decide (l≤a∧a≤h)):=by
 unfold z19
 by_cases h1:l≤a
 ·rw [if_pos (dct (by omega))];simp [h1]
 ·rw [if_neg (by simp;omega)];simp [h1]

def portsN (k f:Int):Int:=
 if k=9 then(if 0≤f∧f≤3 then 1+f else 0) else if f≠0 then 0 else if k=1∨k=5∨k=6∨k=12 then 1 else
 if k=8∨k=10∨k=11 then 2 else if k=2∨k=3∨k=4∨k=7 then 3 else 0
def levelN (k:Int):Bool:=decide (2≤k∧k≤12∧k≠5∧k≠6)
def allowN (k l:Int):Bool:=decide (1≤k∧k≤12) && (decide (l=0) || (levelN k && decide (0≤l∧l≤8)))
def defN (n:Int):Bool:=decide (0≤n∧n≤23)
def contentN (k v:Int) (d:List Int):Bool:=
 if k=6 then decide (d.length=0∧-2147483648≤v∧v≤2147483647) else
 if k=7 then decide (d.length=0∧1≤v∧v≤6) else
 if k=8 then decide (d.length=1∧1≤v∧v≤6) && d.all (fun n=>decide (-2147483648≤n∧n≤2147483647)) else
 if k=9 then decide (d.length=0∧0≤v∧v≤3) else
 if k=10 then decide (v=0∧1≤d.length∧d.length≤4) && d.all defN else
 if k=11 then decide (v=0∧d.length=2) && d.all defN else
 if k=12 then decide (d.length=0∧0≤v∧v≤23) else decide (v=0∧d.length=0)
def agentN (k l v:Int) (d:List Int) (n:Nat):Bool:=decide (portsN k (if k=9 then n - 1 else 0)=n) && (allowN k l && contentN k v d)

theorem kinds (k:Int):(k=1∨k=2∨k=3∨k=4∨k=5∨k=6∨k=7∨k=8∨k=9∨k=10∨k=11∨k=12)∨¬ (1≤k∧k≤12):=by omega
theorem zk0 {k:Int}(h:¬ (1≤k∧k≤12)) (c:Int) (h1:1≤c∧c≤12):(k == c)=false:=by
 rw [beq_eq_false_iff_ne];rintro rfl;exact h h1

theorem zh4 {fu:Nat}{k f:Int}:z6k fu k f=some (portsN k f):=by
 by_cases h9:k=9
 ·subst h9
  unfold z6k portsN
  simp only [z9e,bsm,beq_self_eq_true,if_true,decide_eq_true_eq]
  split
  ·rw [zf (by omega) (by omega)]
  ·rfl
 ·by_cases hf:f=0
  ·subst hf
   rcases kinds k with h | h
   ·rcases h with rfl | rfl | rfl | rfl | rfl | rfl | rfl | rfl | rfl | rfl | rfl | rfl<;>first | exact absurd rfl h9 | rfl
   ·simp [z6k,z70,z6Z,z6Y,z6X,z6W,z6V,z6U,z6T,portsN,zk0 h,h9]
    omega
  ·unfold z6k portsN
   rw [if_neg (by simpa using h9),if_pos (by simpa using hf),if_neg h9,if_pos hf]
theorem zcj {fu:Nat}{k:Int}:z7t fu k=some (decide (1≤k∧k≤12)):=by
 unfold z7t
 by_cases h1:1≤k
 ·rw [if_pos (dct (by omega))];simp [h1]
 ·rw [if_neg (by simp;omega)];simp [h1]
theorem zkS {fu:Nat}{k f:Int}:z7R fu k f=some (portsN k f):=by
 by_cases h9:k=9
 ·subst h9
  unfold z7R portsN z3p
  simp only [zcj,bsm,beq_self_eq_true,if_true]
  by_cases h0:0≤f
  ·by_cases h3:f≤3
   ·rw [if_pos (dct (by omega)),if_pos (dct h3),if_pos ⟨h0,h3⟩,zf (by omega) (by omega),Int.add_comm]
   ·rw [if_pos (dct (by omega)),if_neg (by simpa using h3)];simp [z1Y,h3]
  ·rw [if_neg (by simp;omega),if_neg Bool.false_ne_true];simp [z1Y,h0]
 ·unfold z7R z3p
  rw [if_neg (by simpa using h9),if_neg Bool.false_ne_true,zcj,bsm]
  rcases kinds k with h | h
  ·by_cases hf:f=0
   ·subst hf
    rcases h with rfl | rfl | rfl | rfl | rfl | rfl | rfl | rfl | rfl | rfl | rfl | rfl<;>first | exact absurd rfl h9 | rfl
   ·rw [if_neg (by simp;omega),if_neg (by simpa using h9),show(f != 0)=true by simpa using hf]
    simp [z1Y,portsN,h9,hf]
  ·rw [if_pos (by simp;omega)]
   simp [z1Y,portsN,h9]
   omega

theorem zkV {fu:Nat}{k:Int}:z8f fu k=some (levelN k):=by
 rcases kinds k with h | h
 ·rcases h with rfl | rfl | rfl | rfl | rfl | rfl | rfl | rfl | rfl | rfl | rfl | rfl<;>rfl
 ·simp [z8f,z5Z,z5Y,z5X,z5W,z5V,z5U,z5T,z5S,levelN,zk0 h]
  omega
theorem zkW {fu:Nat}{k:Int}:z8q fu k=some (levelN k):=by
 unfold z8q
 rw [zcj,bsm]
 rcases kinds k with h | h
 ·rcases h with rfl | rfl | rfl | rfl | rfl | rfl | rfl | rfl | rfl | rfl | rfl | rfl<;>rfl
 ·rw [if_neg (by simpa using h)]
  simp [levelN];omega
theorem zm9 {fu:Nat}{k l:Int}:z8e fu k l=some (allowN k l):=by
 unfold z8e zaf allowN
 simp only [zkV,z9e,bsm]
 cases hl:levelN k with
 | true=>
  have:1≤k∧k≤12:=by unfold levelN at hl;simp at hl;omega
  simp [this];omega
 | false=>by_cases h:1≤k∧k≤12<;>by_cases h0:l=0<;>simp [h,h0]
theorem zma {fu:Nat}{k l:Int}:z7J fu k l=some (allowN k l):=by
 unfold z7J allowN
 have hL:z8X fu l=some (decide (0≤l∧l≤8)):=by
  unfold z8X
  by_cases h1:0≤l
  ·rw [if_pos (dct (by omega))];simp [h1]
  ·rw [if_neg (by simp;omega)];simp [h1]
 simp only [zcj,zkW,hL,bsm]
 by_cases h:1≤k∧k≤12
 ·by_cases h0:l=0
  ·simp [h,h0]
  ·cases hl:levelN k<;>simp [h,h0]
 ·simp [h]

theorem zko {fu:Nat}{n:Int}:z8z fu n=some (defN n):=by
 unfold z8z defN;rw [z9e];rfl
theorem zkp {fu:Nat}{n:Int}:z4U fu n=some (defN n):=by
 unfold z4U defN
 by_cases h1:0≤n
 ·rw [if_pos (dct (by omega))];simp [h1];omega
 ·rw [if_neg (by simp;omega)];simp [h1]
theorem zpv {fu:Nat}{n:Int}:z9o fu n=some (decide (-2147483648≤n∧n≤2147483647)):=by
 unfold z9o
 by_cases h1:-2147483648≤n
 ·rw [if_pos (dct (by omega))];simp [h1]
 ·rw [if_neg (by simp;omega)];simp [h1]
theorem zmw {fu:Nat}{n:Int}:z4T fu n=some (decide (1≤n∧n≤6)):=by
 unfold z4T
 by_cases h1:1≤n
 ·rw [if_pos (dct (by omega))];simp [h1]
 ·rw [if_neg (by simp;omega)];simp [h1]
theorem zbS {α:Type}{p:α→Bool}:∀ {xs:List α},xs.any (fun x=>!p x)=!xs.all p
 | []=>rfl
 | x::xs=>by simp [zbS (p:=p) (xs:=xs)]
theorem zoE {fu:Nat}{a:D.QJ}(hf:Big fu) (hl:a.Data.length≤maxLen):
  ((iter (z4k fu a) fu 0).bind fun o=>aft o (z8H fu))=some (a.Data.all defN):=by
 rw [askOne (xs:=a.Data) (p:=fun n=>!defN n) (v:=false) (t:=()) hl hf (fun i x hi hx=>by
  unfold z4k
  simp only [zd hx,zko,lt_t (show(i:Int)<a.Data.length by omega),if_true,bsm]) (by simp [z4k]),zbS]
 cases a.Data.all defN<;>rfl
theorem zeS {fu:Nat}{p:Int→Bool}{f:Int→Option Bool}{xs:List Int}(hf:Big fu) (hl:xs.length≤maxLen) (h:∀ n,f n=some (p n)):
  zW fu xs f=some (xs.any p):=by
 unfold zW z25
 obtain⟨r,h1,h2⟩:=askIndex (xs:=xs) (p:=p) (body:=z1g fu xs f) (j:=z2P fu) (t:=()) hl hf rfl (fun i x hi hx=>by
  simp only [z1g,zd hx,h,lt_t (show(i:Int)<xs.length by omega),if_true,bsm]) (by simp [z1g])
 rw [h1,bsm,h2]

theorem zjb {fu:Nat}{a:D.QJ}(hf:Big fu) (hl:a.Data.length≤maxLen):z1f fu a=some (contentN a.Qj a.Value a.Data):=by
 have hd:=zoE (a:=a) hf hl
 obtain⟨k,l,v,d,ps⟩:=a
 dsimp only at hl hd ⊢
 by_cases h6:k=6
 ·subst h6
  simp only [z1f,contentN,z9e,bsm,beq_self_eq_true,if_true]
  by_cases h:d.length=0<;>simp [h]<;>omega
 by_cases h7:k=7
 ·subst h7
  simp only [z1f,contentN,z9e,bsm,beq_self_eq_true,if_true]
  by_cases h:d.length=0<;>simp [h]<;>omega
 by_cases h8:k=8
 ·subst h8
  simp only [z1f,contentN,z9e,bsm,beq_self_eq_true,if_true]
  match d with
  | []=>simp
  | [n]=>by_cases h:1≤v∧v≤6<;>simp [h,idx]
  | _::_::_=>simp;omega
 by_cases h9:k=9
 ·subst h9
  simp only [z1f,contentN,z9e,bsm,beq_self_eq_true,if_true]
  by_cases h:d.length=0<;>simp [h]<;>omega
 by_cases G:k=12
 ·subst G
  simp only [z1f,contentN,z9e,zko,bsm,beq_self_eq_true,if_true]
  by_cases h:d.length=0<;>simp [h,defN]<;>omega
 by_cases o:k=10
 ·subst o
  simp only [z1f,z22,z1b,contentN,z9e,bsm,beq_self_eq_true,if_true,hd]
  by_cases h:v=0
  ·by_cases h1:1≤d.length∧d.length≤4
   ·have h2:(1:Int)≤d.length∧(d.length:Int)≤4:=by omega
    simp [h,h1,h2]
   ·have h2:¬ ((1:Int)≤d.length∧(d.length:Int)≤4):=by omega
    simp [h,h1,h2]
  ·simp [h]
 by_cases q:k=11
 ·subst q
  simp only [z1f,z22,z1b,contentN,z9e,bsm,beq_self_eq_true,if_true,hd]
  by_cases h:v=0
  ·by_cases h1:d.length=2
   ·simp [h,h1]
   ·have h2:¬ ((d.length:Int)=2):=by omega
    simp [h,h1,h2]
  ·simp [h]
 ·simp only [z1f,z22,contentN,h6,h7,h8,h9,o,q,G,if_false]
  by_cases h:v=0<;>by_cases h1:d.length=0<;>simp [h,h1,h6,h7,h8,h9,o,q,G]

theorem zjc {fu:Nat}{a:D.QJ}(hf:Big fu) (hl:a.Data.length≤maxLen):z23 fu a false=some (contentN a.Qj a.Value a.Data):=by
 unfold z23
 rw [if_neg Bool.false_ne_true,zeS (p:=fun n=>!defN n) hf hl (fun n=>by unfold z6D;rw [zkp];rfl),bsm,zbS,Bool.not_not]
 obtain⟨k,l,v,d,ps⟩:=a
 dsimp only at hl ⊢
 simp only [z4z,z4y,z4x,z4w,z4v,z31,z4u,z4t,z3K,zpv,zmw,zkp,bsm]
 by_cases h6:k=6
 ·subst h6
  simp only [contentN,beq_self_eq_true,if_true]
  by_cases h:d.length=0<;>by_cases h1:-2147483648≤v∧v≤2147483647<;>simp [h,h1]
 by_cases h7:k=7
 ·subst h7
  simp only [contentN,beq_self_eq_true,if_true]
  by_cases h:d.length=0<;>by_cases h1:1≤v∧v≤6<;>simp [h,h1]
 by_cases h8:k=8
 ·subst h8
  simp only [contentN,beq_self_eq_true,if_true]
  match d with
  | []=>simp
  | [n]=>by_cases h:1≤v∧v≤6<;>simp [h,idx]
  | _::_::_=>simp;omega
 by_cases h9:k=9
 ·subst h9
  simp only [contentN,beq_self_eq_true,if_true]
  by_cases h1:0≤v
  ·by_cases h:d.length=0<;>by_cases h2:v<4<;>simp [h,h1,h2]<;>omega
  ·simp [h1]
 by_cases G:k=12
 ·subst G
  simp only [contentN,beq_self_eq_true,if_true]
  by_cases h:d.length=0<;>by_cases h1:0≤v∧v≤23<;>simp [h,h1,defN]
 by_cases o:k=10
 ·subst o
  simp only [contentN,beq_self_eq_true,if_true]
  by_cases h:v=0
  ·by_cases h1:1≤d.length
   ·by_cases h2:d.length≤4
    ·have h3:(1:Int)≤d.length:=by omega
     have h4:(d.length:Int)≤4:=by omega
     simp [h,h1,h2,h3,h4]
    ·have h3:(1:Int)≤d.length:=by omega
     have h4:¬ (d.length:Int)≤4:=by omega
     simp [h,h1,h2,h3,h4]
   ·have h3:¬ (1:Int)≤d.length:=by omega
    simp [h,h1,h3]
  ·by_cases h1:(1:Int)≤d.length<;>by_cases h2:(d.length:Int)≤4<;>simp [h,h1,h2]
 by_cases q:k=11
 ·subst q
  simp only [contentN,beq_self_eq_true,if_true]
  by_cases h:v=0<;>by_cases h1:d.length=2
  ·simp [h,h1]
  ·have h2:¬ ((d.length:Int)=2):=by omega
   simp [h,h1,h2]
  ·simp [h,h1]
  ·have h2:¬ ((d.length:Int)=2):=by omega
   simp [h,h1,h2]
 ·simp only [contentN,h6,h7,h8,h9,o,q,G,if_false]
  by_cases h:v=0<;>by_cases h1:d.length=0<;>simp [h,h1,h6,h7,h8,h9,o,q,G]

theorem zdf {n:Nat}(hn:n≤maxLen):w64 ((n:Int) - 1)=(n:Int) - 1:=by
 have:maxLen=9223372036854775807:=rfl
 exact zf (by omega) (by omega)
theorem zmc {fu:Nat}{a:D.QJ}(hf:Big fu) (hl:a.Data.length≤maxLen) (h1:1≤a.QY.length) (h2:a.QY.length≤maxLen):
  z3m fu a=some (agentN a.Qj a.QL a.Value a.Data a.QY.length):=by
 unfold z3m agentN
 rw [if_neg (by simp;intro h;rw [h] at h1;exact absurd h1 (by decide))]
 have hF:z8n fu a.Qj (a.QY.length:Int)=some (if a.Qj=9 then(a.QY.length:Int) - 1 else 0):=by
  unfold z8n
  by_cases h:a.Qj=9
  ·rw [if_pos (by simpa using h),if_pos h,zdf h2]
  ·rw [if_neg (by simpa using h),if_neg h]
 rw [hF,bsm,zkS,bsm,zma,bsm]
 by_cases hp:portsN a.Qj (if a.Qj=9 then(a.QY.length:Int) - 1 else 0)=(a.QY.length:Int)
 ·rw [if_neg (by simp [hp]),dct hp,Bool.true_and]
  cases allowN a.Qj a.QL with
  | false=>rfl
  | true=>rw [Bool.true_and];exact zjc hf hl
 ·rw [if_pos (by simpa using hp),decide_eq_false hp];rfl
theorem zmb {fu:Nat}{a:D.QJ}(hf:Big fu) (hl:a.Data.length≤maxLen) (h1:1≤a.QY.length) (h2:a.QY.length≤maxLen):
  z59 fu a=some (agentN a.Qj a.QL a.Value a.Data a.QY.length):=by
 unfold z59 agentN
 have hF:z4c fu a=some (if a.Qj=9 then(a.QY.length:Int) - 1 else 0):=by
  unfold z4c
  by_cases h:a.Qj=9
  ·rw [if_pos (by simpa using h),if_pos h,zdf h2]
  ·rw [if_neg (by simpa using h),if_neg h]
 rw [hF,bsm,zh4,bsm,zm9,bsm,zjb hf hl]
 by_cases hp:portsN a.Qj (if a.Qj=9 then(a.QY.length:Int) - 1 else 0)=(a.QY.length:Int)
 ·rw [hp,if_pos (dct (by omega)),if_pos (by simp),dct rfl,Bool.true_and]
  cases allowN a.Qj a.QL<;>rfl
 ·rw [decide_eq_false hp]
  generalize portsN a.Qj (if a.Qj=9 then(a.QY.length:Int) - 1 else 0)=r at hp ⊢
  by_cases h:r>0
  ·rw [if_pos (dct h),if_neg (by simpa using fun h=>hp h.symm)];rfl
  ·rw [if_neg (by simpa using h)];rfl



def agN (a:D.QJ):Bool:=decide (a.QY.length≠0) && agentN a.Qj a.QL a.Value a.Data a.QY.length
theorem zqq {fu:Nat}{a:D.QJ}(hf:Big fu) (hl:a.Data.length≤maxLen) (h2:a.QY.length≤maxLen):z3m fu a=some (agN a):=by
 by_cases h:a.QY.length=0
 ·unfold z3m agN
  rw [if_pos (by simp [h]),show decide (a.QY.length≠0)=false by simp [h],Bool.false_and]
  rfl
 ·rw [zmc hf hl (by omega) h2]
  unfold agN
  rw [dct (by simpa using h),Bool.true_and]
theorem zqp {fu:Nat}{a:D.QJ}(hf:Big fu) (hl:a.Data.length≤maxLen) (h2:a.QY.length≤maxLen):z59 fu a=some (agN a):=by
 by_cases h:a.QY.length=0
 ·unfold z59 agN
  have hF:z4c fu a=some (if a.Qj=9 then(a.QY.length:Int) - 1 else 0):=by
   unfold z4c
   by_cases h:a.Qj=9
   ·rw [if_pos (by simpa using h),if_pos h,zdf h2]
   ·rw [if_neg (by simpa using h),if_neg h]
  rw [hF,bsm,zh4,bsm,show decide (a.QY.length≠0)=false by simp [h],Bool.false_and]
  generalize portsN a.Qj (if a.Qj=9 then(a.QY.length:Int) - 1 else 0)=r
  by_cases hr:r>0
  ·rw [if_pos (dct hr),if_neg (by rw [h];simp;omega)]
  ·rw [if_neg (by simpa using hr)]
 ·rw [zmb hf hl (by omega) h2]
  unfold agN
  rw [dct (by simpa using h),Bool.true_and]
end Go.E


namespace Go.E
open Go.RowKit Go.Proofs
set_option linter.unusedSimpArgs false
set_option linter.unusedVariables false


inductive Rnd (σ ρ:Type) where
 | go (s:σ)
 | back (r:ρ)
def foldR {α σ ρ:Type}(f:Nat→σ→α→Rnd σ ρ):Nat→List α→σ→Rnd σ ρ
 | _,[],s=>.go s
 | i,x::xs,s=>match f i s x with
  | .go s'=>foldR f (i+1) xs s'
  | .back r=>.back r
theorem loopR {α σ S τ ρ:Type}{xs:List α}{body:S→Option (Rd S τ ρ)}{mk:Int→σ→S}{out:σ→τ}{f:Nat→σ→α→Rnd σ ρ}{J:Nat→σ→Prop}{s0:σ}{fu:Nat}
  (hl:xs.length≤maxLen) (hf:Big fu) (hJ:J 0 s0)
  (step:∀ (i:Nat) s x,i<xs.length→xs[i]? = some x→J i s→match f i s x with
   | .go s'=>body (mk i s)=some (.next (mk (w64 (i+1)) s'))∧J (i+1) s'
   | .back r=>body (mk i s)=some (.ret r))
  (last:∀ s,J xs.length s→body (mk xs.length s)=some (.brk (out s))):
  (match foldR f 0 xs s0 with
   | .go s=>iter body fu (mk 0 s0)=some (.inl (out s))∧J xs.length s
   | .back r=>iter body fu (mk 0 s0)=some (.inr r)):=by
 have hm:maxLen=9223372036854775807:=rfl
 have key:∀ (ys:List α) (i:Nat) (s:σ) (fu:Nat),i+ys.length=xs.length→(∀ j,ys[j]? = xs[i+j]?)→ys.length<fu→J i s→(match foldR f i ys s with
   | .go s'=>iter body fu (mk i s)=some (.inl (out s'))∧J xs.length s'
   | .back r=>iter body fu (mk i s)=some (.inr r)):=by
  intro ys
  induction ys with
  | nil=>
   intro i s fu hi _ hfu hj
   obtain⟨fu,rfl⟩:∃ f',fu=f'+1:=⟨fu - 1,by simp at hfu;omega⟩
   simp only [List.length_nil,Nat.add_zero] at hi
   subst hi
   simp only [foldR,iter,last s hj]
   exact⟨trivial,hj⟩
  | cons y ys ih=>
   intro i s fu hi hat hfu hj
   obtain⟨fu,rfl⟩:∃ f',fu=f'+1:=⟨fu - 1,by simp at hfu;omega⟩
   simp only [List.length_cons] at hi hfu
   have hx:xs[i]? = some y:=by have:=hat 0;simpa using this.symm
   have hs:=step i s y (by omega) hx hj
   unfold foldR
   cases hfs:f i s y with
   | go s'=>
    rw [hfs] at hs
    have h2:=ih (i+1) s' fu (by omega) (fun j=>by have:=hat (j+1);rw [show i+1+j=i+(j+1) by omega];simpa using this) (by omega) hs.2
    simp only [iter,hs.1]
    rw [zf (by omega) (by omega)]
    exact_mod_cast h2
   | back r=>
    rw [hfs] at hs
    simp only [iter,hs]
 have:=key xs 0 s0 fu (by simp) (by simp) (by omega) hJ
 exact_mod_cast this

theorem z87 {α:Type}{xs:List α}{p:Nat→α→Bool}{k:Nat}:((xs.zipIdx k).all fun y=>p y.2 y.1)=true↔∀ i x,xs[i]? = some x→p (k+i) x=true:=by
 rw [List.all_eq_true]
 constructor
 ·intro h i x hx
  have:(x,k+i)∈xs.zipIdx k:=by
   rw [List.mem_zipIdx_iff_le_and_getElem?_sub]
   exact⟨Nat.le_add_right _ _,by simpa using hx⟩
  exact h _ this
 ·rintro h ⟨x,j⟩ hj
  rw [List.mem_zipIdx_iff_le_and_getElem?_sub] at hj
  have:=h (j - k) x hj.2
  rwa [show k+(j - k)=j by have:=hj.1;simp at this;omega] at this

theorem ziu {α ρ:Type}{p:Nat→α→Bool}{v:ρ}:∀ {xs:List α}{k:Nat},foldR (fun i (_:Unit) x=>if p i x=true then Rnd.go () else Rnd.back v) k xs ()=if((xs.zipIdx k).all fun y=>p y.2 y.1)=true then Rnd.go () else Rnd.back v
 | [],k=>by simp [foldR]
 | x::xs,k=>by
  unfold foldR
  cases h:p k x with
  | true=>simp only [if_true,ziu (xs:=xs),List.zipIdx_cons,List.all_cons,h,Bool.true_and]
  | false=>simp [h]


theorem allLoop {α τ ρ:Type}{xs:List α}{body:Int→Option (Rd Int τ ρ)}{p:Nat→α→Bool}{t:τ}{v:ρ}{fu:Nat}(hl:xs.length≤maxLen) (hf:Big fu)
  (step:∀ (i:Nat) x,i<xs.length→xs[i]? = some x→body i=if p i x=true then some (.next (w64 (i+1))) else some (.ret v)) (last:body xs.length=some (.brk t)):
  iter body fu 0=some (if(xs.zipIdx.all fun y=>p y.2 y.1)=true then .inl t else .inr v):=by
 have h:=loopR (xs:=xs) (body:=body) (mk:=fun i _=>i) (out:=fun(_:Unit)=>t) (f:=fun i (_:Unit) x=>if p i x=true then Rnd.go () else Rnd.back v) (J:=fun _ _=>True) (s0:=()) hl hf trivial
  (fun i s x hi hx _=>by
   have:=step i x hi hx
   cases hp:p i x with
   | true=>rw [hp] at this;exact⟨this,trivial⟩
   | false=>rw [hp] at this;simpa using this) (fun s _=>last)
 rw [ziu] at h
 cases hp:(xs.zipIdx.all fun y=>p y.2 y.1) with
 | true=>rw [hp] at h;exact h.1
 | false=>rw [hp] at h;exact h

theorem zdK {α:Type}{xs:List α}{i:Nat}{x:α}(h:xs[i]? = some x):(xs.take (i+1)).zipIdx=(xs.take i).zipIdx++[(x,i)]:=by
 have hl:=(List.getElem?_eq_some_iff.1 h).1
 rw [List.take_add_one,h,List.zipIdx_append]
 simp [Nat.min_eq_left (Nat.le_of_lt hl)]

theorem mapLoop {α β ρ:Type}{xs:List α}{body:Int × List β→Option (Rd (Int × List β) (List β) ρ)}{g:α→β}{fu:Nat}(hl:xs.length≤1048576) (hf:Big fu)
  (step:∀ (i:Nat) x (s:List β),xs[i]? = some x→s.length=i→body ((i:Int),s)=some (.next (w64 (i+1),s++[g x]))) (last:∀ s,body ((xs.length:Int),s)=some (.brk s)):
  iter body fu (0,[])=some (.inl (xs.map g)):=by
 have hm:maxLen=9223372036854775807:=rfl
 obtain⟨o,h1,h2⟩:=z1A (body:=body) (fun i s=>s.1=(i:Int)∧s.2=(xs.take i).map g) xs.length (fun o=>o=.inl (xs.map g)) (by
  rintro i ⟨a,s⟩ hi ⟨g1,g2⟩
  dsimp only at g1 g2
  subst g1;subst g2
  obtain⟨x,hx⟩:=z5i hi
  refine .inl ⟨_,step i x _ hx (by simp;omega),?_,?_⟩
  ·dsimp only;rw [zf (by omega) (by omega)];simp
  ·dsimp only;rw [List.take_add_one,hx];simp) (by
  rintro⟨a,s⟩ ⟨g1,g2⟩
  dsimp only at g1 g2
  subst g1;subst g2
  exact .inr ⟨_,last _,by rw [List.take_length]⟩) (fu:=fu) (i:=0) (s:=(0,[])) (Nat.zero_le _) (by omega) ⟨rfl,by simp⟩
 rw [h1,h2]

theorem sumLoop {α S τ ρ:Type}{xs:List α}{body:S→Option (Rd S τ ρ)}{mk:Int→Int→S}{out:Int→τ}{f:α→Nat}{c0:Int}{fu:Nat}(hl:xs.length≤1048576) (hf:Big fu)
  (step:∀ (i:Nat) x,xs[i]? = some x→body (mk i (c0+(sumL f (xs.take i):Nat)))=some (.next (mk (w64 (i+1)) (c0+(sumL f (xs.take i):Nat)+(f x:Nat)))))
  (last:∀ c,body (mk xs.length c)=some (.brk (out c))):
  iter body fu (mk 0 c0)=some (.inl (out (c0+(sumL f xs:Nat)))):=by
 obtain⟨o,h1,h2⟩:=z1A (body:=body) (fun k s=>s=mk k (c0+(sumL f (xs.take k):Nat))) xs.length (fun o=>o=.inl (out (c0+(sumL f xs:Nat)))) (by
  rintro k s hk rfl
  obtain⟨x,hx⟩:=z5i hk
  refine .inl ⟨_,step k x hx,?_⟩
  rw [zf (by omega) (by omega),zdR hx]
  congr 1
  omega) (by
  rintro s rfl
  rw [List.take_length]
  exact .inr ⟨_,last _,rfl⟩) (fu:=fu) (i:=0) (s:=mk 0 c0) (Nat.zero_le _) (by omega) (by simp [sumL])
 rw [h1,h2]

theorem zqu {S1 τ1 ρ1 S2 τ2 ρ2:Type}{b1:S1→Option (Rd S1 τ1 ρ1)}{b2:S2→Option (Rd S2 τ2 ρ2)}(J:Nat→S1→S2→Prop) (n:Nat) (Q:τ1 ⊕ ρ1→τ2 ⊕ ρ2→Prop)
  (step:∀ i s1 s2,i<n→J i s1 s2→(∃ s1' s2',b1 s1=some (.next s1')∧b2 s2=some (.next s2')∧J (i+1) s1' s2')∨∃ r1 r2,b1 s1=some (.ret r1)∧b2 s2=some (.ret r2)∧Q (.inr r1) (.inr r2))
  (last:∀ s1 s2,J n s1 s2→∃ t1 t2,b1 s1=some (.brk t1)∧b2 s2=some (.brk t2)∧Q (.inl t1) (.inl t2)):
  ∀ {fu i s1 s2},i≤n→n - i<fu→J i s1 s2→∃ o1 o2,iter b1 fu s1=some o1∧iter b2 fu s2=some o2∧Q o1 o2
 | 0,i,_,_,hi,hf,_=>by omega
 | fu+1,i,s1,s2,hi,hf,hJ=>by
  rcases Nat.lt_or_ge i n with h | h
  ·rcases step i s1 s2 h hJ with⟨t1,t2,e1,e2,h2⟩ | ⟨r1,r2,e1,e2,h2⟩
   ·obtain⟨o1,o2,h3,h4,h5⟩:=zqu J n Q step last (fu:=fu) (i:=i+1) h (by omega) h2
    exact⟨o1,o2,by simp only [iter,e1];exact h3,by simp only [iter,e2];exact h4,h5⟩
   ·exact⟨_,_,by simp only [iter,e1],by simp only [iter,e2],h2⟩
  ·obtain rfl:i=n:=by omega
   obtain⟨t1,t2,e1,e2,h2⟩:=last s1 s2 hJ
   exact⟨_,_,by simp only [iter,e1],by simp only [iter,e2],h2⟩
theorem z7d {α:Type}{xs:List α}{p:α→Bool}:(xs.zipIdx.all fun y=>p y.1)=xs.all p:=by
 rw [Bool.eq_iff_iff,z87 (p:=fun _ x=>p x),List.all_eq_true]
 constructor
 ·intro h x hx
  obtain⟨i,hi⟩:=List.getElem?_of_mem hx
  exact h i x hi
 ·exact fun h i x hi=>h x (List.mem_of_getElem? hi)
end Go.E


