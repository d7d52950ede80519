/- AssembleCluster: the statement FnExactAssembleClusterSaid (program and reference agree), from the walk and the plain law; the lemmas that it rests on stand ahead of it, each with its own conditions. Conditions of the claim: none. -/
import Derived.Test.YtfndicpnccabkaaGreatSizesG
import Derived.Test.YtfndicpnccabkaaGreatFZ
import Derived.Test.YtfndicpnccabkaaGreatFZb
import Derived.Test.YtfndicpnccabkaaGreatPathP
import Derived.Test.YtfndicpnccabkaaGreatLoops
import Derived.Test.YtfndicpnccabkaaGreatFX
import Derived.Test.YtfndicpnccabkaaGreatRows
import Derived.WalkKit
import Derived.ProofKit
import Derived.OpenShut
import Derived.ShutString
import Derived.ChangeOld
import Derived.Below
import Derived.Carry
set_option linter.unusedVariables false
set_option linter.unusedSimpArgs false
namespace Go.E
open Go.RowKit Go.Proofs

variable {fu:Nat}
def zeZ (fu:Nat)(x:Int)(k:Int):Int:=k
def zb1 (x:Int):Nat:=1
def z91 (fu:Nat)(xs:L9)(k:Int):L9:=z9X (zeZ fu) zb1 xs k
def z3p (xs:L9):Nat:=sumL zb1 xs
theorem z6B {xs:L9}{k:Int}(hf:Big fu)(hl:xs.length≤1048576)(h0:0≤k)(h1:k+(z3p xs:Nat)≤2147483648):z1y fu xs k=some (k+(z3p xs:Nat),z91 fu xs k):=by
  unfold z1y
  rw[z8u (f:=zeZ fu) (c:=zb1) (xs:=xs) (k:=k) (by have:=hl;omega) hf h0 h1 ?_ ?_]
  · rfl
  · intro i x ys k hi o hx hm h0 h1
    unfold zb1 at h1
    unfold z6p zeZ zb1
    rw[if_pos (dct (show(i:Int)<xs.length by omega))]
    rw[if_pos (dct (show 0≤(i:Int)∧(i:Int).toNat<ys.length from⟨by omega,by rw[o];simpa using hi⟩))]
    simp (disch:=omega) only[zbx,Int.toNat_natCast,Int.ofNat_one,Int.natCast_one]
  · intro k ys;unfold z6p;rw[if_neg (by simp)]

theorem zjb {xs:L9}{k:Int}(hf:Big fu)(hl:xs.length≤1048576)(h0:0≤k)(h1:k+(z3p xs:Nat)≤2147483648):z6Y fu (z91 fu xs k) k=some (k+(z3p xs:Nat)):=by
  unfold z6Y
  have q:(z91 fu xs k).length=xs.length:=z7h _ _
  rw[zja (f:=zeZ fu) (c:=zb1) (xs:=xs) (k:=k) (by have:=hl;omega) hf h0 h1 ?_ ?_]
  · rfl
  · intro i x k' hi hx hm h0 h1
    unfold zb1 at h1
    have o:(z91 fu xs k)[i]? = some (zeZ fu x k'):=hx
    unfold z4e
    rw[if_pos (dct (show(i:Int)<(z91 fu xs k).length by rw[q];omega))]
    simp only[za o,bsm]
    unfold zeZ zb1
    simp (disch:=omega) only[zbx,bsm,lt_f,if_false,bne_self_eq_false,Bool.false_eq_true,beq_self_eq_true,Bool.not_true,Int.ofNat_one,Int.natCast_one]
  · intro k';show z4e fu (z91 fu xs k) (k',((z91 fu xs k).length:Int))=_;unfold z4e;rw[if_neg (by simp)]

theorem zaY {xs:L9}:z3p xs≤64*(xs.length):=by
  have h:=zbq (c:=zb1) (g:=(fun _=>0)) (m:=64) (xs:=xs) fun x _=>by
    unfold zb1
    omega
  rw[zeR (fun _=>rfl)] at h
  exact h

def zh4 (fu:Nat)(x:Qb)(k:Int):Qb:=(⟨k,k+1,k+1+1⟩:Qb)
def zaX (x:Qb):Nat:=1+1+1
def zgM (fu:Nat)(xs:LD)(k:Int):LD:=z9X (zh4 fu) zaX xs k
def ctAddressS (xs:LD):Nat:=sumL zaX xs
theorem zdi {xs:LD}{k:Int}(hf:Big fu)(hl:xs.length≤1048576)(h0:0≤k)(h1:k+(ctAddressS xs:Nat)≤2147483648):z3g fu xs k=some (k+(ctAddressS xs:Nat),zgM fu xs k):=by
  unfold z3g
  rw[z8u (f:=zh4 fu) (c:=zaX) (xs:=xs) (k:=k) (by have:=hl;omega) hf h0 h1 ?_ ?_]
  · rfl
  · intro i x ys k hi o hx hm h0 h1
    unfold zaX at h1
    unfold z5g zh4 zaX
    rw[if_pos (dct (show(i:Int)<xs.length by omega))]
    simp only[za hx,bsm]
    simp (disch:=omega) only[zbx,bsm,Int.toNat_natCast]
    all_goals (refine congrArg some (congrArg Rd.next (Prod.ext ?_ ?_));rotate_left;first | rfl | (dsimp only;simp only[Int.natCast_add,Int.natCast_one,Int.ofNat_one,← Int.add_assoc]))
    all_goals (dsimp only;simp only[Int.natCast_add,Int.natCast_one,Int.ofNat_one];try omega)
  · intro k ys;unfold z5g;rw[if_neg (by simp)]

theorem zgp {xs:LD}:ctAddressS xs≤64*(xs.length):=by
  have h:=zbq (c:=zaX) (g:=(fun _=>0)) (m:=64) (xs:=xs) fun x _=>by
    unfold zaX
    omega
  rw[zeR (fun _=>rfl)] at h
  exact h

def zeG (fu:Nat)(x:Qa)(k:Int):Qa:=(⟨k,k+1,k+1+1,(z91 fu x.Data (k+1+1+1)),(zgM fu x.QM (k+1+1+1+((z3p x.Data:Nat):Int)))⟩:Qa)
def z8W (x:Qa):Nat:=1+1+1+z3p x.Data+ctAddressS x.QM
def zhf (fu:Nat)(xs:LB)(k:Int):LB:=z9X (zeG fu) z8W xs k
def ctShardCellS (xs:LB):Nat:=sumL z8W xs
theorem zfv {xs:LB}{k:Int}(hf:Big fu)(hl:szL Qa.sz xs≤1048576)(h0:0≤k)(h1:k+(ctShardCellS xs:Nat)≤2147483648):z3z fu xs k=some (k+(ctShardCellS xs:Nat),zhf fu xs k):=by
  unfold z3z
  rw[z8u (f:=zeG fu) (c:=z8W) (xs:=xs) (k:=k) (by have:=(z4F hl);omega) hf h0 h1 ?_ ?_]
  · rfl
  · intro i x ys k hi o hx hm h0 h1
    unfold z8W at h1
    have q:=z4E hl hm
    unfold Qa.sz at q
    unfold z3U zeG z8W
    rw[if_pos (dct (show(i:Int)<xs.length by omega))]
    simp only[za hx,bsm]
    simp (disch:=omega) only[z6B hf (show x.Data.length≤1048576 by omega),zdi hf (show x.QM.length≤1048576 by omega),zbx,bsm,Int.toNat_natCast]
    all_goals (refine congrArg some (congrArg Rd.next (Prod.ext ?_ ?_));rotate_left;first | rfl | (dsimp only;simp only[Int.natCast_add,Int.natCast_one,Int.ofNat_one,← Int.add_assoc]))
    all_goals (dsimp only;simp only[Int.natCast_add,Int.natCast_one,Int.ofNat_one];try omega)
  · intro k ys;unfold z3U;rw[if_neg (by simp)]

theorem zju {xs:LB}:ctShardCellS xs≤64*(szL Qa.sz xs):=by
  have h:=zbq (c:=z8W) (g:=Qa.sz) (m:=64) (xs:=xs) fun x _=>by
    unfold z8W
    unfold Qa.sz
    have:=zaY (xs:=x.Data)
    have:=zgp (xs:=x.QM)
    omega
  exact h

def zfB (fu:Nat)(x:Qn)(k:Int):Qn:=(⟨((k).tmod 3 == 0),((k+1).tmod 3 == 0),(⟨k+1+1,k+1+1+1,k+1+1+1+1⟩:Qb)⟩:Qn)
def z9E (x:Qn):Nat:=1+1+1+1+1
def zj0 (fu:Nat)(xs:LH)(k:Int):LH:=z9X (zfB fu) z9E xs k
def ctShardVarS (xs:LH):Nat:=sumL z9E xs
theorem zga {xs:LH}{k:Int}(hf:Big fu)(hl:xs.length≤1048576)(h0:0≤k)(h1:k+(ctShardVarS xs:Nat)≤2147483648):z4d fu xs k=some (k+(ctShardVarS xs:Nat),zj0 fu xs k):=by
  unfold z4d
  rw[z8u (f:=zfB fu) (c:=z9E) (xs:=xs) (k:=k) (by have:=hl;omega) hf h0 h1 ?_ ?_]
  · rfl
  · intro i x ys k hi o hx hm h0 h1
    unfold z9E at h1
    unfold z4s zfB z9E
    rw[if_pos (dct (show(i:Int)<xs.length by omega))]
    simp only[za hx,bsm]
    simp (disch:=omega) only[zbx,bsm,Int.toNat_natCast]
    all_goals (refine congrArg some (congrArg Rd.next (Prod.ext ?_ ?_));rotate_left;first | rfl | (dsimp only;simp only[Int.natCast_add,Int.natCast_one,Int.ofNat_one,← Int.add_assoc]))
    all_goals (dsimp only;simp only[Int.natCast_add,Int.natCast_one,Int.ofNat_one];try omega)
  · intro k ys;unfold z4s;rw[if_neg (by simp)]

theorem zk8 {xs:LH}:ctShardVarS xs≤64*(xs.length):=by
  have h:=zbq (c:=z9E) (g:=(fun _=>0)) (m:=64) (xs:=xs) fun x _=>by
    unfold z9E
    omega
  rw[zeR (fun _=>rfl)] at h
  exact h

def zdR (fu:Nat)(x:Qm)(k:Int):Qm:=(⟨(⟨k,k+1,k+1+1⟩:Qb),(⟨k+((1+1+1:Nat):Int),k+((1+1+1:Nat):Int)+1,k+((1+1+1:Nat):Int)+1+1⟩:Qb)⟩:Qm)
def z7y (x:Qm):Nat:=1+1+1+1+1+1
def zg8 (fu:Nat)(xs:LK)(k:Int):LK:=z9X (zdR fu) z7y xs k
def ctShardRedexS (xs:LK):Nat:=sumL z7y xs
theorem zf6 {xs:LK}{k:Int}(hf:Big fu)(hl:xs.length≤1048576)(h0:0≤k)(h1:k+(ctShardRedexS xs:Nat)≤2147483648):z2Z fu xs k=some (k+(ctShardRedexS xs:Nat),zg8 fu xs k):=by
  unfold z2Z
  rw[z8u (f:=zdR fu) (c:=z7y) (xs:=xs) (k:=k) (by have:=hl;omega) hf h0 h1 ?_ ?_]
  · rfl
  · intro i x ys k hi o hx hm h0 h1
    unfold z7y at h1
    unfold z3o zdR z7y
    rw[if_pos (dct (show(i:Int)<xs.length by omega))]
    simp only[za hx,bsm]
    simp (disch:=omega) only[zbx,bsm,Int.toNat_natCast]
    all_goals (refine congrArg some (congrArg Rd.next (Prod.ext ?_ ?_));rotate_left;first | rfl | (dsimp only;simp only[Int.natCast_add,Int.natCast_one,Int.ofNat_one,← Int.add_assoc]))
    all_goals (dsimp only;simp only[Int.natCast_add,Int.natCast_one,Int.ofNat_one];try omega)
  · intro k ys;unfold z3o;rw[if_neg (by simp)]

theorem zhN {xs:LK}:ctShardRedexS xs≤64*(xs.length):=by
  have h:=zbq (c:=z7y) (g:=(fun _=>0)) (m:=64) (xs:=xs) fun x _=>by
    unfold z7y
    omega
  rw[zeR (fun _=>rfl)] at h
  exact h

def zmy (fu:Nat)(x:Qp)(k:Int):Qp:=(⟨(zhf fu x.Cells (k)),(zj0 fu x.QJ (k+((ctShardCellS x.Cells:Nat):Int))),(zg8 fu x.Qs (k+((ctShardCellS x.Cells:Nat):Int)+((ctShardVarS x.QJ:Nat):Int)))⟩:Qp)
def zdS (x:Qp):Nat:=ctShardCellS x.Cells+ctShardVarS x.QJ+ctShardRedexS x.Qs
def zpV (fu:Nat)(xs:LG)(k:Int):LG:=z9X (zmy fu) zdS xs k
def ctShardS (xs:LG):Nat:=sumL zdS xs
theorem zj1 {xs:LG}{k:Int}(hf:Big fu)(hl:szL Qp.sz xs≤1048576)(h0:0≤k)(h1:k+(ctShardS xs:Nat)≤2147483648):z6W fu xs k=some (k+(ctShardS xs:Nat),zpV fu xs k):=by
  unfold z6W
  rw[z8u (f:=zmy fu) (c:=zdS) (xs:=xs) (k:=k) (by have:=(z4F hl);omega) hf h0 h1 ?_ ?_]
  · rfl
  · intro i x ys k hi o hx hm h0 h1
    unfold zdS at h1
    have q:=z4E hl hm
    unfold Qp.sz at q
    unfold z6o zmy zdS
    rw[if_pos (dct (show(i:Int)<xs.length by omega))]
    simp only[za hx,bsm]
    simp (disch:=omega) only[zfv hf (show szL Qa.sz x.Cells≤1048576 by omega),zga hf (show x.QJ.length≤1048576 by omega),zf6 hf (show x.Qs.length≤1048576 by omega),zbx,bsm,Int.toNat_natCast]
    all_goals (refine congrArg some (congrArg Rd.next (Prod.ext ?_ ?_));rotate_left;first | rfl | (dsimp only;simp only[Int.natCast_add,Int.natCast_one,Int.ofNat_one,← Int.add_assoc]))
    all_goals (dsimp only;simp only[Int.natCast_add,Int.natCast_one,Int.ofNat_one];try omega)
  · intro k ys;unfold z6o;rw[if_neg (by simp)]

theorem zpp {xs:LG}:ctShardS xs≤64*(szL Qp.sz xs):=by
  have h:=zbq (c:=zdS) (g:=Qp.sz) (m:=64) (xs:=xs) fun x _=>by
    unfold zdS
    unfold Qp.sz
    have:=zju (xs:=x.Cells)
    have:=zk8 (xs:=x.QJ)
    have:=zhN (xs:=x.Qs)
    omega
  exact h

def zh2 (fu:Nat)(x:Qx)(k:Int):Qx:=(⟨k,k+1⟩:Qx)
def zd3 (x:Qx):Nat:=1+1
def zeu (fu:Nat)(xs:LF)(k:Int):LF:=z9X (zh2 fu) zd3 xs k
def ctPortS (xs:LF):Nat:=sumL zd3 xs
theorem zk1 {xs:LF}{k:Int}(hf:Big fu)(hl:xs.length≤1048576)(h0:0≤k)(h1:k+(ctPortS xs:Nat)≤2147483648):z7Q fu xs k=some (k+(ctPortS xs:Nat),zeu fu xs k):=by
  unfold z7Q
  rw[z8u (f:=zh2 fu) (c:=zd3) (xs:=xs) (k:=k) (by have:=hl;omega) hf h0 h1 ?_ ?_]
  · rfl
  · intro i x ys k hi o hx hm h0 h1
    unfold zd3 at h1
    unfold z7r zh2 zd3
    rw[if_pos (dct (show(i:Int)<xs.length by omega))]
    simp only[za hx,bsm]
    simp (disch:=omega) only[zbx,bsm,Int.toNat_natCast]
    all_goals (refine congrArg some (congrArg Rd.next (Prod.ext ?_ ?_));rotate_left;first | rfl | (dsimp only;simp only[Int.natCast_add,Int.natCast_one,Int.ofNat_one,← Int.add_assoc]))
    all_goals (dsimp only;simp only[Int.natCast_add,Int.natCast_one,Int.ofNat_one];try omega)
  · intro k ys;unfold z7r;rw[if_neg (by simp)]

theorem zk2 {xs:LF}{k:Int}(hf:Big fu)(hl:xs.length≤1048576)(h0:0≤k)(h1:k+(ctPortS xs:Nat)≤2147483648):z7R fu (zeu fu xs k) k=some (k+(ctPortS xs:Nat)):=by
  unfold z7R
  have q:(zeu fu xs k).length=xs.length:=z7h _ _
  rw[zja (f:=zh2 fu) (c:=zd3) (xs:=xs) (k:=k) (by have:=hl;omega) hf h0 h1 ?_ ?_]
  · rfl
  · intro i x k' hi hx hm h0 h1
    unfold zd3 at h1
    have o:(zeu fu xs k)[i]? = some (zh2 fu x k'):=hx
    unfold z52
    rw[if_pos (dct (show(i:Int)<(zeu fu xs k).length by rw[q];omega))]
    simp only[za o,bsm]
    unfold zh2 zd3
    simp (disch:=omega) only[zbx,bsm,lt_f,if_false,bne_self_eq_false,Bool.false_eq_true,beq_self_eq_true,Bool.not_true,Int.ofNat_one,Int.natCast_one]
    try (refine congrArg some (congrArg Rd.next (Prod.ext ?_ rfl));dsimp only;simp only[Int.natCast_add,Int.natCast_one,Int.ofNat_one];try omega)
  · intro k';show z52 fu (zeu fu xs k) (k',((zeu fu xs k).length:Int))=_;unfold z52;rw[if_neg (by simp)]

theorem zrw {xs:LF}:ctPortS xs≤64*(xs.length):=by
  have h:=zbq (c:=zd3) (g:=(fun _=>0)) (m:=64) (xs:=xs) fun x _=>by
    unfold zd3
    omega
  rw[zeR (fun _=>rfl)] at h
  exact h

def zf0 (fu:Nat)(x:D.Qe)(k:Int):D.Qe:=(⟨k,k+1,k+1+1,(z91 fu x.Data (k+1+1+1)),(zeu fu x.Qy (k+1+1+1+((z3p x.Data:Nat):Int)))⟩:D.Qe)
def zb2 (x:D.Qe):Nat:=1+1+1+z3p x.Data+ctPortS x.Qy
def zcD (fu:Nat)(xs:LA)(k:Int):LA:=z9X (zf0 fu) zb2 xs k
def ctAgentS (xs:LA):Nat:=sumL zb2 xs
theorem zj2 {xs:LA}{k:Int}(hf:Big fu)(hl:szL D.Qe.sz xs≤1048576)(h0:0≤k)(h1:k+(ctAgentS xs:Nat)≤2147483648):z6X fu xs k=some (k+(ctAgentS xs:Nat),zcD fu xs k):=by
  unfold z6X
  rw[z8u (f:=zf0 fu) (c:=zb2) (xs:=xs) (k:=k) (by have:=(z4F hl);omega) hf h0 h1 ?_ ?_]
  · rfl
  · intro i x ys k hi o hx hm h0 h1
    unfold zb2 at h1
    have q:=z4E hl hm
    unfold D.Qe.sz at q
    unfold z6q zf0 zb2
    rw[if_pos (dct (show(i:Int)<xs.length by omega))]
    simp only[za hx,bsm]
    simp (disch:=omega) only[z6B hf (show x.Data.length≤1048576 by omega),zk1 hf (show x.Qy.length≤1048576 by omega),zbx,bsm,Int.toNat_natCast]
    all_goals (refine congrArg some (congrArg Rd.next (Prod.ext ?_ ?_));rotate_left;first | rfl | (dsimp only;simp only[Int.natCast_add,Int.natCast_one,Int.ofNat_one,← Int.add_assoc]))
    all_goals (dsimp only;simp only[Int.natCast_add,Int.natCast_one,Int.ofNat_one];try omega)
  · intro k ys;unfold z6q;rw[if_neg (by simp)]

theorem zjc {xs:LA}{k:Int}(hf:Big fu)(hl:szL D.Qe.sz xs≤1048576)(h0:0≤k)(h1:k+(ctAgentS xs:Nat)≤2147483648):z6Z fu (zcD fu xs k) k=some (k+(ctAgentS xs:Nat)):=by
  unfold z6Z
  have q:(zcD fu xs k).length=xs.length:=z7h _ _
  rw[zja (f:=zf0 fu) (c:=zb2) (xs:=xs) (k:=k) (by have:=(z4F hl);omega) hf h0 h1 ?_ ?_]
  · rfl
  · intro i x k' hi hx hm h0 h1
    unfold zb2 at h1
    have G:=z4E hl hm
    unfold D.Qe.sz at G
    have o:(zcD fu xs k)[i]? = some (zf0 fu x k'):=hx
    unfold z4f
    rw[if_pos (dct (show(i:Int)<(zcD fu xs k).length by rw[q];omega))]
    simp only[za o,bsm]
    unfold zf0 zb2
    simp (disch:=omega) only[zjb hf (show x.Data.length≤1048576 by omega),zk2 hf (show x.Qy.length≤1048576 by omega),zbx,bsm,lt_f,if_false,bne_self_eq_false,Bool.false_eq_true,beq_self_eq_true,Bool.not_true,Int.ofNat_one,Int.natCast_one]
    try (refine congrArg some (congrArg Rd.next (Prod.ext ?_ rfl));dsimp only;simp only[Int.natCast_add,Int.natCast_one,Int.ofNat_one];try omega)
  · intro k';show z4f fu (zcD fu xs k) (k',((zcD fu xs k).length:Int))=_;unfold z4f;rw[if_neg (by simp)]

theorem zpq {xs:LA}:ctAgentS xs≤64*(szL D.Qe.sz xs):=by
  have h:=zbq (c:=zb2) (g:=D.Qe.sz) (m:=64) (xs:=xs) fun x _=>by
    unfold zb2
    unfold D.Qe.sz
    have:=zaY (xs:=x.Data)
    have:=zrw (xs:=x.Qy)
    omega
  exact h

def zrf (fu:Nat)(x:QV)(k:Int):QV:=(⟨zcD fu x.QG (k)⟩:QV)
def ctNet (x:QV):Nat:=ctAgentS x.QG
theorem zg9 {x:QV}{k:Int}:(⟨(zrf fu x k).QG⟩:QV)=zrf fu x k:=rfl
theorem zny {x:QV}{k:Int}(hf:Big fu)(hs:x.sz≤1048576)(h0:0≤k)(h1:k+(ctNet x:Nat)≤2147483648):z9i fu x k=some (k+(ctNet x:Nat),(zrf fu x k).QG):=by
  unfold ctNet at h1 ⊢
  simp only[QV.sz] at hs
  unfold z9i zrf
  simp (disch:=omega) only[zj2 hf (show szL D.Qe.sz x.QG≤1048576 by omega),bsm]
  all_goals try simp only[Int.natCast_add,Int.add_assoc]

theorem znG {x:QV}{k:Int}(hf:Big fu)(hs:x.sz≤1048576)(h0:0≤k)(h1:k+(ctNet x:Nat)≤2147483648):z81 fu (zrf fu x k) k=some (k+(ctNet x:Nat)):=by
  unfold ctNet at h1 ⊢
  simp only[QV.sz] at hs
  unfold z81 zrf
  simp (disch:=omega) only[zjc hf (show szL D.Qe.sz x.QG≤1048576 by omega),bsm,lt_f,if_false]
  all_goals try simp only[Int.natCast_add,Int.add_assoc]

theorem zwN {x:QV}:ctNet x≤64*x.sz:=by
  unfold ctNet
  simp only[QV.sz]
  have:=zpq (xs:=x.QG)
  omega

end Go.E




namespace Go.E
open Go.RowKit Go.Proofs


theorem zs2 {α:Type}{f:α→Nat}{b:Nat}:∀ {xs:List α},(∀ x∈xs,f x≤b)→sumL f xs≤b*xs.length
  | [],_=>Nat.zero_le _
  | x::xs,h=>by
    have h1:=h x List.mem_cons_self
    have h2:=zs2 (xs:=xs) (fun y hy=>h y (List.mem_cons_of_mem _ hy))
    simp only[sumL,List.length_cons,Nat.mul_succ]
    omega
theorem zxN {A:LA}(hN:NetOk A):(⟨zwU A⟩:QV).sz≤1048576:=by
  have hn:=hN.len
  have hF:=zgL hN
  have hl:(zwU A).length≤600:=by
    unfold zwU zxF
    have key:∀ l:L9,(l.flatMap (zvp A (zcB (nxN A) A.length (zF A)))).length≤l.length:=by
      intro l
      induction l with
      | nil=>simp
      | cons x l ih=>
        rw[List.flatMap_cons,List.length_append,List.length_cons]
        have:=zp5 (A:=A) (l:=zcB (nxN A) A.length (zF A)) (x:=x)
        omega
    have:=key (zcB (nxN A) A.length (zF A))
    have:=hF.len
    omega
  have ha:∀ a∈zwU A,D.Qe.sz a≤8:=by
    intro a ha
    unfold zwU zxF at ha
    obtain⟨x,hx,h2⟩:=List.mem_flatMap.1 ha
    unfold zvp at h2
    split at h2
    · rename_i b hb
      rw[List.mem_singleton] at h2
      subst h2
      have o:=List.mem_of_getElem? hb
      have:=hN.Qu b o
      have:=hN.data b o
      unfold D.Qe.sz zxZ
      simp only[List.length_map]
      omega
    · cases h2
  have:=zs2 ha
  unfold QV.sz szL
  dsimp only
  omega


def lvS (g:D.Qk):Lv:=fl (fun m (s:Qp)=>lvR 1 m s.Cells) g.Qf g.Qf.length
theorem zph {g:D.Qk}{more:LB}:lvG g more=lvS g++lvR 3 0 more:=by
  unfold lvG lvS fl
  rw[List.take_length]
def lvC (t m i:Nat)(c:Qa):Lv:=if c.Qi=0 then [] else [((t,m,i),c)]
theorem zsG {t m:Nat}{cs:LB}:lvR t m cs=fl (lvC t m) cs cs.length:=by
  unfold lvR fl lvC
  rw[List.take_length]
theorem zx6 {t m i:Nat}{c:Qa}:(lvC t m i c).length≤1:=by unfold lvC;split<;>simp
theorem zvR {fu:Nat}{g:D.Qk}{ad3:Nat→Qb}(hf:Big fu)(hS:Small g):z3C fu g=some ((lvS g).map (·.2),(lvS g).map fun x=>adI ad3 x.1):=by
  have hn:=hS.n
  unfold z3C
  have h:=zbw (xs:=g.Qf) (body:=z1D fu g) (mk:=fun k (l:Lv)=>(l.map (·.2),l.map (fun x=>adI ad3 x.1),k)) (out:=fun(l:Lv)=>(l.map (·.2),l.map fun x=>adI ad3 x.1)) (fun m (s:Qp)=>lvR 1 m s.Cells) (s0:=[]) (fu:=fu) (by omega) hf (fun m s hs=>by
    have O:=(List.getElem?_eq_some_iff.1 hs).1
    obtain⟨a1,a2,a3,a4,a5⟩:=hS.s s (List.mem_of_getElem? hs)
    have q:=z8p (f:=fun m (s:Qp)=>lvR 1 m s.Cells) (xs:=g.Qf) (b:=400) (fun j c hc=>by
      rw[zsG]
      have:=z8p (f:=lvC 1 j) (xs:=c.Cells) (b:=1) (fun _ _ _=>zx6) c.Cells.length (Nat.le_refl _)
      have:=(hS.s c (List.mem_of_getElem? hc)).1
      omega) m (by omega)
    rw[List.nil_append]
    generalize fl (fun m (s:Qp)=>lvR 1 m s.Cells) g.Qf m=l0 at q ⊢
    unfold z1D
    dsimp only
    rw[if_pos (by simpa using O),za hs,bsm]
    have h1:=zbw (xs:=s.Cells) (body:=z2w fu (l0.map (·.2),l0.map (fun x=>adI ad3 x.1),(m:Int)) s) (mk:=fun k (l:Lv)=>(k,l.map (·.2),l.map (fun x=>adI ad3 x.1))) (out:=fun(l:Lv)=>(l.map (·.2),l.map fun x=>adI ad3 x.1)) (lvC 1 m) (s0:=l0) (fu:=fu) (by omega) hf (fun i c hc=>by
      have H:=(List.getElem?_eq_some_iff.1 hc).1
      have G:=z8p (f:=lvC 1 m) (xs:=s.Cells) (b:=1) (fun _ _ _=>zx6) i (by omega)
      have o:(l0++fl (lvC 1 m) s.Cells i).length≤5000:=by rw[List.length_append];omega
      generalize l0++fl (lvC 1 m) s.Cells i=l1 at o ⊢
      unfold z2w z1W z2v lvC
      dsimp only
      rw[if_pos (by simpa using H),za hc,bsm]
      by_cases k0:c.Qi=0
      · rw[if_neg (by simp[k0]),if_pos k0,List.append_nil]
      · rw[if_pos (by simpa using k0),if_neg k0,if_pos (by simp;omega),bsm,if_pos (by simp;omega),List.map_append,List.map_append]
        rfl) (by
      unfold z2w
      rw[if_neg (by simp)])
    try dsimp only at h1
    rw[h1,bsm,z8]
    unfold z79
    dsimp only
    rw[zsG]) (by
    unfold z1D
    rw[if_neg (by simp)])
  try dsimp only at h
  rw[List.nil_append] at h
  have h':iter (z1D fu g) fu ([],[],0)=_:=h
  rw[h',bsm,z8]
  rfl
end Go.E



namespace Go.E
open Go.RowKit Go.Proofs


abbrev zv6:=Nat×Nat×Qh
def zpu (ch:Nat)(ps:LE):List zv6:=fl (fun i p=>[(ch,i,p)]) ps ps.length
def ze6 (cs:List LE):List zv6:=fl zpu cs cs.length
def zxB (x:zv6):LC:=zmN x.1 x.2.1 x.2.2
def zs0 (x:zv6):LD:=if x.2.2.Qi=3 then [⟨(x.1:Int),3,(x.2.1:Int)⟩] else []
def zoA (x:zv6):List (Qa×Qb):=if x.2.2.Qi=3 then [(x.2.2.Qz,⟨(x.1:Int),3,(x.2.1:Int)⟩)] else []
theorem zrz {cs:List LE}:zaC cs=(ze6 cs).flatMap zxB:=by
  unfold zaC ze6
  rw[z9D]
  refine zbQ fun ch ps=>?_
  unfold zh7 zpu
  rw[z9D]
  refine zbQ fun i p=>?_
  simp[zxB]
theorem zq7 {α:Type}:∀ {xs:List α}{n:Nat},n≤xs.length→fl (fun _ x=>[x]) xs n=xs.take n
  | xs,0,_=>by rw[z8V];simp
  | xs,n+1,h=>by
    obtain⟨x,hx⟩:=z1j (xs:=xs) (i:=n) (by omega)
    rw[z89 hx,zq7 (by omega),List.take_add_one,hx];rfl
theorem zkJ {α:Type}:∀ {xs:List (List α)}{n:Nat},n≤xs.length→fl (fun _ x=>x) xs n=(xs.take n).flatten
  | xs,0,_=>by rw[z8V];simp
  | xs,n+1,h=>by
    obtain⟨x,hx⟩:=z1j (xs:=xs) (i:=n) (by omega)
    rw[z89 hx,zkJ (by omega),zda hx]
theorem zf1 {cs:List LE}:(ze6 cs).map (fun x=>x.2.2)=cs.flatten:=by
  unfold ze6
  rw[zhj]
  have e:fl (fun i x=>(zpu i x).map fun x=>x.2.2) cs cs.length=fl (fun _ x=>x) cs cs.length:=by
    refine zbQ fun ch ps=>?_
    unfold zpu
    rw[zhj]
    have:=zq7 (xs:=ps) (Nat.le_refl _)
    rw[List.take_length] at this
    exact this
  rw[e,zkJ (Nat.le_refl _),List.take_length]

section
variable {g:D.Qk}{ad3:Nat→Qb}
theorem zq6 {x:zv6}{j:Nat}(h:zf5 g x.2.2=true)(ha:x.2.2.Qi=3→ad3 j=⟨(x.1:Int),3,(x.2.1:Int)⟩):z7b (zxB x)=(zhT j x.2.2).map (thG ad3):=by
  unfold zf5 at h
  unfold zxB zmN zhT
  by_cases o:x.2.2.Qi=1∨x.2.2.Qi=2
  · rw[if_pos o] at h ⊢
    rw[if_pos o]
    rw[Bool.and_eq_true] at h
    unfold z7b
    simp only[List.flatMap_cons,List.flatMap_nil,List.append_nil,List.map_cons,List.map_nil,zdD (ad3:=ad3) h.1,zdD (ad3:=ad3) h.2]
  · rw[if_neg o] at h ⊢
    rw[if_neg o]
    by_cases k3:x.2.2.Qi=3
    · rw[if_pos k3] at h ⊢
      rw[if_pos k3,Bool.and_eq_true] at *
      have q:=ha k3
      rw[zaV,List.map_append]
      congr 1
      · unfold zbo
        rw[zgX,zhj]
        refine zds fun k a hk=>?_
        have:=zdD (ad3:=ad3) (List.all_eq_true.1 h.1 a (List.mem_of_getElem? hk))
        unfold zfD zpx z7b
        simp only[List.flatMap_cons,List.flatMap_nil,List.append_nil,List.map_cons,List.map_nil,this]
        rw[show thG ad3 (3,0,j,k+1)=⟨⟨(x.1:Int),3,(x.2.1:Int)⟩,(k:Int)+1,true⟩ by unfold thG;simp[q]]
      · unfold z7b
        simp only[List.flatMap_cons,List.flatMap_nil,List.append_nil,List.map_cons,List.map_nil,zdD (ad3:=ad3) h.2]
        rw[show thG ad3 (3,0,j,0)=⟨⟨(x.1:Int),3,(x.2.1:Int)⟩,0,true⟩ by unfold thG;simp[q]]
    · rw[if_neg k3] at h ⊢
      rw[if_neg k3];rfl
theorem zjg:∀ {l:List zv6}{j:Nat},(∀ x∈l,zf5 g x.2.2=true)→(∀ (t:Nat) a,(l.flatMap zs0)[t]? = some a→ad3 (j+t)=a)→z7b (l.flatMap zxB)=(zd5 j (l.map fun x=>x.2.2)).map (thG ad3)
  | [],j,_,_=>rfl
  | x::l,j,h,ha=>by
    rw[List.flatMap_cons,List.map_cons,zb8,zaV,List.map_append]
    rw[List.flatMap_cons] at ha
    by_cases k3:x.2.2.Qi=3
    · have e:zs0 x=[⟨(x.1:Int),3,(x.2.1:Int)⟩]:=by unfold zs0;rw[if_pos k3]
      rw[e] at ha
      have h0:=ha 0 _ rfl
      rw[zq6 (ad3:=ad3) (h x List.mem_cons_self) (fun _=>by simpa using h0),zjg (j:=j+zfo x.2.2) (fun y hy=>h y (List.mem_cons_of_mem _ hy)) (fun t a o=>by
        have:=ha (t+1) a (by rw[List.singleton_append,List.getElem?_cons_succ];exact o)
        have e9:zfo x.2.2=1:=by unfold zfo;rw[if_pos k3]
        rw[e9,show j+1+t=j+(t+1) by omega]
        exact this)]
    · have e:zs0 x=[]:=by unfold zs0;rw[if_neg k3]
      rw[e,List.nil_append] at ha
      rw[zq6 (ad3:=ad3) (h x List.mem_cons_self) (fun h=>absurd h k3),zjg (j:=j+zfo x.2.2) (fun y hy=>h y (List.mem_cons_of_mem _ hy)) (fun t a o=>by
        have:=ha t a o
        have e9:zfo x.2.2=0:=by unfold zfo;rw[if_neg k3]
        rw[e9,Nat.add_zero]
        exact this)]
theorem zvV {p:Qh}{j:Nat}(h:zf5 g p=true):∀ k∈zhT j p,zpi g k:=by
  intro k hk
  unfold zf5 at h
  unfold zhT at hk
  by_cases o:p.Qi=1∨p.Qi=2
  · rw[if_pos o] at h hk
    rw[Bool.and_eq_true] at h
    rcases List.mem_cons.1 hk with rfl | hk
    · exact zay h.1
    · rw[List.mem_singleton] at hk;subst hk;exact zay h.2
  · rw[if_neg o] at h hk
    by_cases k3:p.Qi=3
    · rw[if_pos k3] at h hk
      rw[Bool.and_eq_true] at h
      rcases List.mem_append.1 hk with hk | hk
      · exact zkG (by decide) h.1 k hk
      · rcases List.mem_cons.1 hk with rfl | hk
        · intro e;cases e
        · rw[List.mem_singleton] at hk;subst hk;exact zay h.2
    · rw[if_neg k3] at hk;cases hk
theorem znJ:∀ {ps:LE}{j:Nat},ps.all (zf5 g)=true→∀ k∈zd5 j ps,zpi g k
  | [],j,_,k,hk=>by cases hk
  | p::ps,j,h,k,hk=>by
    rw[List.all_cons,Bool.and_eq_true] at h
    rw[zb8] at hk
    rcases List.mem_append.1 hk with hk | hk
    · exact zvV h.1 k hk
    · exact znJ h.2 k hk
end


theorem ziT:∀ {l:List zv6},(l.flatMap zoA).map (·.1)=cellsOf (l.map fun x=>x.2.2)
  | []=>rfl
  | x::l=>by
    rw[List.flatMap_cons,List.map_append,ziT,List.map_cons,z7e]
    unfold zoA
    split<;>rfl
theorem ziS:∀ {l:List zv6},(l.flatMap zoA).map (·.2)=l.flatMap zs0
  | []=>rfl
  | x::l=>by
    rw[List.flatMap_cons,List.map_append,ziS,List.flatMap_cons]
    unfold zoA zs0
    split<;>rfl
def adC (cs:List LE):LD:=(ze6 cs).flatMap zs0
theorem zxT {cs:List LE}:adC cs=cs.zipIdx.flatMap fun x=>x.1.zipIdx.flatMap fun y=>if y.1.Qi=3 then [(⟨(x.2:Int),3,(y.2:Int)⟩:Qb)] else []:=by
  unfold adC ze6
  rw[z9D]
  unfold fl
  rw[List.take_length]
  congr 1
  funext x
  show(zpu x.2 x.1).flatMap zs0=_
  unfold zpu
  rw[z9D]
  unfold fl
  rw[List.take_length]
  congr 1
  funext y
  simp[zs0]
theorem zv1 {cs:List LE}:(adC cs).Nodup:=by
  rw[zxT]
  have o:∀ (ch:Nat) (ps:LE) (a:Qb),(a∈ps.zipIdx.flatMap fun y=>if y.1.Qi=3 then [(⟨(ch:Int),3,(y.2:Int)⟩:Qb)] else [])→a.Qj.toNat=ch:=by
    intro ch ps a ha
    obtain⟨y,_,h2⟩:=List.mem_flatMap.1 ha
    split at h2
    · rw[List.mem_singleton] at h2;subst h2;rfl
    · cases h2
  refine zdr (g:=fun ch (ps:LE)=>ps.zipIdx.flatMap fun y=>if y.1.Qi=3 then [(⟨(ch:Int),3,(y.2:Int)⟩:Qb)] else []) (fun a:Qb=>a.Qj.toNat) (fun ch ps _=>?_) (fun ch ps a ha=>o ch ps a ha)
  refine zdr (g:=fun i (p:Qh)=>if p.Qi=3 then [(⟨(ch:Int),3,(i:Int)⟩:Qb)] else []) (fun a:Qb=>a.Qo.toNat) (fun i p _=>by split<;>simp) (fun i p a ha=>?_)
  split at ha
  · rw[List.mem_singleton] at ha;subst ha;rfl
  · cases ha
theorem zwY {cs:List LE}{a:Qb}(h:a∈adC cs):a.Qi=3:=by
  unfold adC at h
  obtain⟨x,_,h2⟩:=List.mem_flatMap.1 h
  unfold zs0 at h2
  split at h2
  · rw[List.mem_singleton] at h2;subst h2;rfl
  · cases h2
theorem zpz {cs:List LE}:(adC cs).length=(cellsOf cs.flatten).length:=by
  have h1:=ziT (l:=ze6 cs)
  have h2:=ziS (l:=ze6 cs)
  rw[zf1] at h1
  unfold adC
  rw[← h2,← h1,List.length_map,List.length_map]
def ad3C (cs:List LE)(i:Nat):Qb:=(adC cs).getD i noneN
theorem zjJ {cs:List LE}{i:Nat}{a:Qb}(h:(adC cs)[i]? = some a):ad3C cs i=a:=by
  unfold ad3C
  rw[List.getD_eq_getElem?_getD,h];rfl

theorem zsH {cs:LB}{ad:Nat→Qb}(h:∀ c∈cs,c.Qi≠0):(lvR 3 0 cs).map (·.2)=cs∧(lvR 3 0 cs).map (fun x=>adI ad x.1)=(List.range cs.length).map ad:=by
  have key:∀ n,n≤cs.length→(fl (lvC 3 0) cs n).map (·.2)=cs.take n∧(fl (lvC 3 0) cs n).map (fun x=>adI ad x.1)=(List.range n).map ad:=by
    intro n
    induction n with
    | zero=>intro _;rw[z8V];simp
    | succ n ih=>
      intro hn
      obtain⟨c,hc⟩:=z1j (xs:=cs) (i:=n) (by omega)
      obtain⟨h1,h2⟩:=ih (by omega)
      have e:lvC 3 0 n c=[((3,0,n),c)]:=by unfold lvC;rw[if_neg (h c (List.mem_of_getElem? hc))]
      rw[z89 hc,List.map_append,List.map_append,h1,h2,e,List.take_add_one,hc,List.range_succ,List.map_append]
      exact⟨rfl,by simp[adI]⟩
  have:=key cs.length (Nat.le_refl _)
  rw[List.take_length] at this
  rw[zsG]
  exact this
theorem zvr {cs:List LE}:(List.range (cellsOf cs.flatten).length).map (ad3C cs)=adC cs:=by
  rw[← zpz]
  apply List.ext_getElem?
  intro i
  rcases Nat.lt_or_ge i (adC cs).length with h | h
  · obtain⟨a,ha⟩:=z1j h
    rw[List.getElem?_map,List.getElem?_range h,Option.map_some,ha,zjJ ha]
  · rw[List.getElem?_eq_none (by simpa using h),List.getElem?_eq_none h]
end Go.E



namespace Go.E
open Go.RowKit Go.Proofs

variable {fu:Nat}
theorem zjS {x:LO}{l:Int}(hf:Big fu)(hw:WfL (WfL I64) x)(h0:0≤l)(h1:l≤1048576):z95 (szL (fun x=>x.length) x) l (z7O fu x l):=by
  unfold z7O
  generalize hz:w64 (l - (x.length:Int))=z
  refine z95.sub2 h0 h1 hw.1 (m:=sumL (fun x=>x.length) x) rfl hz fun g0 g1=>?_
  refine z95.loop hw.1 hf g0 (by omega) (fun _=>rfl) ?_ ?_
  · intro i y l hy h0 h1
    have hi:=(List.getElem?_eq_some_iff.1 hy).1
    have o:=hw.2 y (List.mem_of_getElem? hy)
    obtain⟨r,h2,h3⟩:=zbO hf o h0 h1
    simp only[z7q,za hy,bsm,lt_t (show(i:Int)<x.length by omega),if_true,h2]
    by_cases hlt:r<0
    · exact .inl (by simp only[lt_t hlt,if_true])
    · exact .inr ⟨r,by simp only[lt_f hlt,if_false],h3.resolve_left hlt⟩
  · intro l
    simp[z7q]

theorem zjP {x:LO}(hf:Big fu)(hs:szL (fun x=>x.length) x≤1048576):z7M fu x=some x:=by
  have hl:=z4F hs
  unfold z7M
  refine zaA hl hf (fun _=>rfl) ?_ ?_
  · intro i y out hy o
    have hi:=(List.getElem?_eq_some_iff.1 hy).1
    have q:y.length≤1048576:=z4E hs (List.mem_of_getElem? hy)
    simp only[z7o,za hy,bsm,lt_t (show(i:Int)<x.length by omega),if_true,zbN hf q]
    rw[if_pos (by simp;omega)]
    simp
  · intro out
    simp[z7o]

theorem zk5 {x:LO}(hf:Big fu)(hs:szL (fun x=>x.length) x≤1048576):z7T fu x x=some true:=by
  have hl:=z4F hs
  unfold z7T
  rw[if_neg (by simp)]
  refine z7d (n:=x.length) (t:=()) (by unfold maxLen;omega) hf rfl ?_ ?_
  · intro i hi
    obtain⟨y,hy⟩:=z1j hi
    have o:y.length≤1048576:=z4E hs (List.mem_of_getElem? hy)
    simp[z7t,za hy,hi,z1O,zaz hf o]
  · simp[z7t]

theorem zkX {x:Qh}{l:Int}(hf:Big fu)(hw:Qh.wf x)(h0:0≤l)(h1:l≤1048576):z95 (Qh.sz x) l (z8H fu x l):=by
  obtain⟨w0,w1,w2,w3,_⟩:=hw
  unfold z8H Qh.sz
  refine z95.bind (zdY hf w1 h0 (by omega)) rfl fun r1 o q=>?_
  exact z95.same o

theorem zkV {x:Qh}(hf:Big fu)(hs:Qh.sz x≤1048576):z8F fu x=some x:=by
  unfold Qh.sz at hs
  unfold z8F
  simp only[zdX hf (show Qa.sz x.Qz≤1048576 by omega),z6a hf (show 0≤1048576 by exact Nat.zero_le _),z6a hf (show 0≤1048576 by exact Nat.zero_le _),bsm]

theorem zmq {x:Qh}(hf:Big fu)(hs:Qh.sz x≤1048576):z8K fu x x=some true:=by
  unfold Qh.sz at hs
  simp[z8K,z1O,ze4 hf (show Qa.sz x.Qz≤1048576 by omega),z6i hf (show 0≤1048576 by exact Nat.zero_le _),z6i hf (show 0≤1048576 by exact Nat.zero_le _)]

theorem zjR {x:LE}{l:Int}(hf:Big fu)(hw:WfL Qh.wf x)(h0:0≤l)(h1:l≤1048576):z95 (szL Qh.sz x) l (z7N fu x l):=by
  unfold z7N
  generalize hz:w64 (l - (x.length:Int))=z
  refine z95.sub2 h0 h1 hw.1 (m:=sumL Qh.sz x) rfl hz fun g0 g1=>?_
  refine z95.loop hw.1 hf g0 (by omega) (fun _=>rfl) ?_ ?_
  · intro i y l hy h0 h1
    have hi:=(List.getElem?_eq_some_iff.1 hy).1
    have o:=hw.2 y (List.mem_of_getElem? hy)
    obtain⟨r,h2,h3⟩:=zkX hf o h0 h1
    simp only[z7p,za hy,bsm,lt_t (show(i:Int)<x.length by omega),if_true,h2]
    by_cases hlt:r<0
    · exact .inl (by simp only[lt_t hlt,if_true])
    · exact .inr ⟨r,by simp only[lt_f hlt,if_false],h3.resolve_left hlt⟩
  · intro l
    simp[z7p]

theorem zjO {x:LE}(hf:Big fu)(hs:szL Qh.sz x≤1048576):z7L fu x=some x:=by
  have hl:=z4F hs
  unfold z7L
  refine zaA hl hf (fun _=>rfl) ?_ ?_
  · intro i y out hy o
    have hi:=(List.getElem?_eq_some_iff.1 hy).1
    have q:Qh.sz y≤1048576:=z4E hs (List.mem_of_getElem? hy)
    simp only[z7n,za hy,bsm,lt_t (show(i:Int)<x.length by omega),if_true,zkV hf q]
    rw[if_pos (by simp;omega)]
    simp
  · intro out
    simp[z7n]

theorem zk4 {x:LE}(hf:Big fu)(hs:szL Qh.sz x≤1048576):z7S fu x x=some true:=by
  have hl:=z4F hs
  unfold z7S
  rw[if_neg (by simp)]
  refine z7d (n:=x.length) (t:=()) (by unfold maxLen;omega) hf rfl ?_ ?_
  · intro i hi
    obtain⟨y,hy⟩:=z1j hi
    have o:Qh.sz y≤1048576:=z4E hs (List.mem_of_getElem? hy)
    simp[z7s,za hy,hi,z1O,zmq hf o]
  · simp[z7s]

theorem zis {x:(List LE)}{l:Int}(hf:Big fu)(hw:WfL (WfL Qh.wf) x)(h0:0≤l)(h1:l≤1048576):z95 (szL (fun x=>szL Qh.sz x) x) l (z6U fu x l):=by
  unfold z6U
  generalize hz:w64 (l - (x.length:Int))=z
  refine z95.sub2 h0 h1 hw.1 (m:=sumL (fun x=>szL Qh.sz x) x) rfl hz fun g0 g1=>?_
  refine z95.loop hw.1 hf g0 (by omega) (fun _=>rfl) ?_ ?_
  · intro i y l hy h0 h1
    have hi:=(List.getElem?_eq_some_iff.1 hy).1
    have o:=hw.2 y (List.mem_of_getElem? hy)
    obtain⟨r,h2,h3⟩:=zjR hf o h0 h1
    simp only[z6n,za hy,bsm,lt_t (show(i:Int)<x.length by omega),if_true,h2]
    by_cases hlt:r<0
    · exact .inl (by simp only[lt_t hlt,if_true])
    · exact .inr ⟨r,by simp only[lt_f hlt,if_false],h3.resolve_left hlt⟩
  · intro l
    simp[z6n]

theorem zio {x:(List LE)}(hf:Big fu)(hs:szL (fun x=>szL Qh.sz x) x≤1048576):z6S fu x=some x:=by
  have hl:=z4F hs
  unfold z6S
  refine zaA hl hf (fun _=>rfl) ?_ ?_
  · intro i y out hy o
    have hi:=(List.getElem?_eq_some_iff.1 hy).1
    have q:szL Qh.sz y≤1048576:=z4E hs (List.mem_of_getElem? hy)
    simp only[z6k,za hy,bsm,lt_t (show(i:Int)<x.length by omega),if_true,zjO hf q]
    rw[if_pos (by simp;omega)]
    simp
  · intro out
    simp[z6k]

theorem zjk {x:(List LE)}(hf:Big fu)(hs:szL (fun x=>szL Qh.sz x) x≤1048576):z72 fu x x=some true:=by
  have hl:=z4F hs
  unfold z72
  rw[if_neg (by simp)]
  refine z7d (n:=x.length) (t:=()) (by unfold maxLen;omega) hf rfl ?_ ?_
  · intro i hi
    obtain⟨y,hy⟩:=z1j hi
    have o:szL Qh.sz y≤1048576:=z4E hs (List.mem_of_getElem? hy)
    simp[z6r,za hy,hi,z1O,zk4 hf o]
  · simp[z6r]

theorem zjT {x:Qv}{l:Int}(hf:Big fu)(hw:Qv.wf x)(h0:0≤l)(h1:l≤1048576):z95 (Qv.sz x) l (z7P fu x l):=by
  obtain⟨w0,w1,w2,w3,w4,_⟩:=hw
  unfold z7P Qv.sz
  refine z95.bind (zoY hf w0 h0 (by omega)) rfl fun r1 o X=>?_
  refine z95.bind (zis hf w1 o (by omega)) rfl fun r2 q Y=>?_
  refine z95.bind (zjS hf w2 q (by omega)) rfl fun r3 G Z=>?_
  refine z95.bind (zbO hf w3 G (by omega)) rfl fun r4 H a0=>?_
  refine z95.bind (zbO hf w4 H (by omega)) rfl fun r5 O b0=>?_
  exact z95.same O

theorem zjQ {x:Qv}(hf:Big fu)(hs:Qv.sz x≤1048576):z2T fu x=some x:=by
  unfold Qv.sz at hs
  unfold z2T
  simp only[zoW hf (show D.Qk.sz x.Qk≤1048576 by omega),zio hf (show szL (fun x=>szL Qh.sz x) x.Qd≤1048576 by omega),zjP hf (show szL (fun x=>x.length) x.QL≤1048576 by omega),zbN hf (show x.QY.length≤1048576 by omega),zbN hf (show x.Got.length≤1048576 by omega),bsm]

theorem zk6 {x:Qv}(hf:Big fu)(hs:Qv.sz x≤1048576):z7U fu x x=some true:=by
  unfold Qv.sz at hs
  simp[z7U,z1O,zpo hf (show D.Qk.sz x.Qk≤1048576 by omega),zjk hf (show szL (fun x=>szL Qh.sz x) x.Qd≤1048576 by omega),zk5 hf (show szL (fun x=>x.length) x.QL≤1048576 by omega),zaz hf (show x.QY.length≤1048576 by omega),zaz hf (show x.Got.length≤1048576 by omega)]

set_option maxRecDepth 100000 in
theorem zvD:Opens Tryz.prog 239 zoN Qh.wf:=Opens.struct (f:=fun c:Qh=>(c.Qi,c.Qz,c.A,c.B,())) Tryz.underlying239 (by kernel_rfl) (z2x.cons zhe rfl rfl (z2x.cons zpT rfl rfl (z2x.cons zft rfl rfl (z2x.cons zft rfl rfl z2x.nil)))) (fun⟨a0,a1,a2,a3,_⟩=>⟨⟨a0,a1,a2,a3⟩,rfl⟩)
theorem zvF:Opens Tryz.prog 178 zoP (WfL Qh.wf):=Opens.sl Tryz.underlying178 (by kernel_rfl) zvD
theorem zxg:Opens Tryz.prog 43 ty43 (WfL (WfL Qh.wf)):=Opens.sl Tryz.underlying43 (by kernel_rfl) zvF
theorem zxf:Opens Tryz.prog 44 ty44 (WfL (WfL I64)):=Opens.sl Tryz.underlying44 (by kernel_rfl) zm8
set_option maxRecDepth 100000 in
theorem zxe:Opens Tryz.prog 47 ty47 Qv.wf:=Opens.struct (f:=fun c:Qv=>(c.Qk,c.Qd,c.QL,c.QY,c.Got,())) Tryz.underlying47 (by kernel_rfl) (z2x.cons zxh rfl rfl (z2x.cons zxg rfl rfl (z2x.cons zxf rfl rfl (z2x.cons zm8 rfl rfl (z2x.cons zm8 rfl rfl z2x.nil))))) (fun⟨a0,a1,a2,a3,a4,_⟩=>⟨⟨a0,a1,a2,a3,a4⟩,rfl⟩)
end Go.E




namespace Go.E
open Go.RowKit Go.Proofs

def zjs (fu:Nat)(x:Qh)(k:Int):Qh:=(⟨k,(⟨k+1,k+1+1,k+1+1+1,(z91 fu x.Qz.Data (k+1+1+1+1)),(zgM fu x.Qz.QM (k+1+1+1+1+((z3p x.Qz.Data:Nat):Int)))⟩:Qa),(⟨k+1+((1+1+1+z3p x.Qz.Data+ctAddressS x.Qz.QM:Nat):Int),k+1+((1+1+1+z3p x.Qz.Data+ctAddressS x.Qz.QM:Nat):Int)+1,k+1+((1+1+1+z3p x.Qz.Data+ctAddressS x.Qz.QM:Nat):Int)+1+1⟩:Qb),(⟨k+1+((1+1+1+z3p x.Qz.Data+ctAddressS x.Qz.QM:Nat):Int)+((1+1+1:Nat):Int),k+1+((1+1+1+z3p x.Qz.Data+ctAddressS x.Qz.QM:Nat):Int)+((1+1+1:Nat):Int)+1,k+1+((1+1+1+z3p x.Qz.Data+ctAddressS x.Qz.QM:Nat):Int)+((1+1+1:Nat):Int)+1+1⟩:Qb)⟩:Qh)
def zco (x:Qh):Nat:=1+1+1+1+z3p x.Qz.Data+ctAddressS x.Qz.QM+1+1+1+1+1+1
def znu (fu:Nat)(xs:LE)(k:Int):LE:=z9X (zjs fu) zco xs k
def ctParcelS (xs:LE):Nat:=sumL zco xs
theorem zhA {fu:Nat}{xs:LE}{k:Int}(hf:Big fu)(hl:szL Qh.sz xs≤1048576)(h0:0≤k)(h1:k+(ctParcelS xs:Nat)≤2147483648):z5V fu xs k=some (k+(ctParcelS xs:Nat),znu fu xs k):=by
  unfold z5V
  rw[z8u (f:=zjs fu) (c:=zco) (xs:=xs) (k:=k) (by have:=(z4F hl);omega) hf h0 h1 ?_ ?_]
  · rfl
  · intro i x ys k hi o hx hm h0 h1
    unfold zco at h1
    have q:=z4E hl hm
    simp only[Qh.sz,Qa.sz] at q
    unfold z5U zjs zco
    rw[if_pos (dct (show(i:Int)<xs.length by omega))]
    simp only[za hx,bsm]
    simp (disch:=omega) only[z6B hf (show x.Qz.Data.length≤1048576 by omega),zdi hf (show x.Qz.QM.length≤1048576 by omega),zbx,bsm,Int.toNat_natCast]
    all_goals (refine congrArg some (congrArg Rd.next (Prod.ext ?_ ?_));rotate_left;first | rfl | (dsimp only;simp only[Int.natCast_add,Int.natCast_one,Int.ofNat_one,← Int.add_assoc]))
    all_goals (dsimp only;simp only[Int.natCast_add,Int.natCast_one,Int.ofNat_one];try omega)
  · intro k ys;unfold z5U;rw[if_neg (by simp)]

theorem zon {xs:LE}:ctParcelS xs≤64*(szL Qh.sz xs):=by
  have h:=zbq (c:=zco) (g:=Qh.sz) (m:=64) (xs:=xs) fun x _=>by
    unfold zco
    simp only[Qh.sz,Qa.sz]
    have:=zaY (xs:=x.Qz.Data)
    have:=zgp (xs:=x.Qz.QM)
    omega
  exact h

def zh3 (fu:Nat)(x:LE)(k:Int):LE:=(znu fu x (k))
def zaW (x:LE):Nat:=ctParcelS x
def zkC (fu:Nat)(xs:List LE)(k:Int):List LE:=z9X (zh3 fu) zaW xs k
def ctParcelSS (xs:List LE):Nat:=sumL zaW xs
theorem zgO {fu:Nat}{xs:List LE}{k:Int}(hf:Big fu)(hl:szL (fun x=>szL Qh.sz x) xs≤1048576)(h0:0≤k)(h1:k+(ctParcelSS xs:Nat)≤2147483648):z51 fu xs k=some (k+(ctParcelSS xs:Nat),zkC fu xs k):=by
  unfold z51
  rw[z8u (f:=zh3 fu) (c:=zaW) (xs:=xs) (k:=k) (by have:=(z4F hl);omega) hf h0 h1 ?_ ?_]
  · rfl
  · intro i x ys k hi o hx hm h0 h1
    unfold zaW at h1
    have q:=z4E hl hm
    unfold z5f zh3 zaW
    rw[if_pos (dct (show(i:Int)<xs.length by omega))]
    simp only[za hx,bsm]
    simp (disch:=omega) only[zhA hf (show szL Qh.sz x≤1048576 by omega),zbx,bsm,Int.toNat_natCast]
    all_goals (refine congrArg some (congrArg Rd.next (Prod.ext ?_ ?_));rotate_left;first | rfl | (dsimp only;simp only[Int.natCast_add,Int.natCast_one,Int.ofNat_one,← Int.add_assoc]))
    all_goals (dsimp only;simp only[Int.natCast_add,Int.natCast_one,Int.ofNat_one];try omega)
  · intro k ys;unfold z5f;rw[if_neg (by simp)]

theorem zmz {xs:List LE}:ctParcelSS xs≤64*(szL (fun x=>szL Qh.sz x) xs):=by
  have h:=zbq (c:=zaW) (g:=(fun x=>szL Qh.sz x)) (m:=64) (xs:=xs) fun x _=>by
    unfold zaW
    have:=zon (xs:=x)
    omega
  exact h

def zjt (fu:Nat)(x:L9)(k:Int):L9:=(z91 fu x (k))
def zcp (x:L9):Nat:=z3p x
def znv (fu:Nat)(xs:LO)(k:Int):LO:=z9X (zjt fu) zcp xs k
def zdv (xs:LO):Nat:=sumL zcp xs
theorem zhB {fu:Nat}{xs:LO}{k:Int}(hf:Big fu)(hl:szL (fun x=>x.length) xs≤1048576)(h0:0≤k)(h1:k+(zdv xs:Nat)≤2147483648):z5X fu xs k=some (k+(zdv xs:Nat),znv fu xs k):=by
  unfold z5X
  rw[z8u (f:=zjt fu) (c:=zcp) (xs:=xs) (k:=k) (by have:=(z4F hl);omega) hf h0 h1 ?_ ?_]
  · rfl
  · intro i x ys k hi o hx hm h0 h1
    unfold zcp at h1
    have q:=z4E hl hm
    unfold z5W zjt zcp
    rw[if_pos (dct (show(i:Int)<xs.length by omega))]
    simp only[za hx,bsm]
    simp (disch:=omega) only[z6B hf (show x.length≤1048576 by omega),zbx,bsm,Int.toNat_natCast]
    all_goals (refine congrArg some (congrArg Rd.next (Prod.ext ?_ ?_));rotate_left;first | rfl | (dsimp only;simp only[Int.natCast_add,Int.natCast_one,Int.ofNat_one,← Int.add_assoc]))
    all_goals (dsimp only;simp only[Int.natCast_add,Int.natCast_one,Int.ofNat_one];try omega)
  · intro k ys;unfold z5W;rw[if_neg (by simp)]

theorem zoo {xs:LO}:zdv xs≤64*(szL (fun x=>x.length) xs):=by
  have h:=zbq (c:=zcp) (g:=(fun x=>x.length)) (m:=64) (xs:=xs) fun x _=>by
    unfold zcp
    have:=zaY (xs:=x)
    omega
  exact h

def zdg (fu:Nat)(x:Qv)(k:Int):Qv:=(⟨(⟨zpV fu x.Qk.Qf (k),x.Qk.QO⟩:D.Qk),zkC fu x.Qd (k+((ctShardS x.Qk.Qf:Nat):Int)),znv fu x.QL (k+((ctShardS x.Qk.Qf:Nat):Int)+((ctParcelSS x.Qd:Nat):Int)),z91 fu x.QY (k+((ctShardS x.Qk.Qf:Nat):Int)+((ctParcelSS x.Qd:Nat):Int)+((zdv x.QL:Nat):Int)),z91 fu x.Got (k+((ctShardS x.Qk.Qf:Nat):Int)+((ctParcelSS x.Qd:Nat):Int)+((zdv x.QL:Nat):Int)+((z3p x.QY:Nat):Int))⟩:Qv)
def ctCluster (x:Qv):Nat:=ctShardS x.Qk.Qf+ctParcelSS x.Qd+zdv x.QL+z3p x.QY+z3p x.Got
theorem zhC {fu:Nat}{x:Qv}{k:Int}(hf:Big fu)(hs:x.sz≤1048576)(h0:0≤k)(h1:k+(ctCluster x:Nat)≤2147483648):z5Y fu x k=some (k+(ctCluster x:Nat),(zdg fu x k).Qk.Qf,(zdg fu x k).Qd,(zdg fu x k).QL,(zdg fu x k).QY,(zdg fu x k).Got):=by
  unfold ctCluster at h1 ⊢
  simp only[Qv.sz,D.Qk.sz] at hs
  unfold z5Y zdg
  simp (disch:=omega) only[zj1 hf (show szL Qp.sz x.Qk.Qf≤1048576 by omega),zgO hf (show szL (fun x=>szL Qh.sz x) x.Qd≤1048576 by omega),zhB hf (show szL (fun x=>x.length) x.QL≤1048576 by omega),z6B hf (show x.QY.length≤1048576 by omega),z6B hf (show x.Got.length≤1048576 by omega),bsm,zaj]
  all_goals try simp only[Int.natCast_add,Int.add_assoc]

theorem zop {x:Qv}:ctCluster x≤64*x.sz:=by
  unfold ctCluster
  simp only[Qv.sz,D.Qk.sz]
  have:=zpp (xs:=x.Qk.Qf)
  have:=zmz (xs:=x.Qd)
  have:=zoo (xs:=x.QL)
  have:=zaY (xs:=x.QY)
  have:=zaY (xs:=x.Got)
  omega

end Go.E



namespace Go.E
open Go.RowKit Go.Proofs

def zpt (ch:Nat)(ps:LE):List (Qa×Qb):=fl (fun i p=>zoA (ch,i,p)) ps ps.length
theorem zrA {cs:List LE}:fl zpt cs cs.length=(ze6 cs).flatMap zoA:=by
  unfold ze6
  rw[z9D]
  refine zbQ fun ch ps=>?_
  unfold zpt zpu
  rw[z9D]
  refine zbQ fun i p=>?_
  simp
theorem zrZ {x:zv6}:(zoA x).length≤1:=by unfold zoA;split<;>simp
theorem znq {fu:Nat}{c:Qv}{l0:List (Qa×Qb)}(hf:Big fu)(hC:Chans c)(hl:l0.length≤30000):
    iter (zR fu c) fu (0,l0.map (·.1),l0.map (·.2))=some (.inl ((l0++(ze6 c.Qd).flatMap zoA).map (·.1),(l0++(ze6 c.Qd).flatMap zoA).map (·.2))):=by
  have hn:=hC.n
  have h:=zbw (xs:=c.Qd) (body:=zR fu c) (mk:=fun k (l:List (Qa×Qb))=>(k,l.map (·.1),l.map (·.2))) (out:=fun(l:List (Qa×Qb))=>(l.map (·.1),l.map (·.2))) zpt (s0:=l0) (fu:=fu) (by omega) hf (fun ch ps H=>by
    have O:=(List.getElem?_eq_some_iff.1 H).1
    have a0:=hC.l ps (List.mem_of_getElem? H)
    have Z:=z8p (f:=zpt) (xs:=c.Qd) (b:=200) (fun j q hq=>by
      have:=z8p (f:=fun i p=>zoA (j,i,p)) (xs:=q) (b:=1) (fun _ _ _=>zrZ) q.length (Nat.le_refl _)
      have:=hC.l q (List.mem_of_getElem? hq)
      unfold zpt
      omega) ch (by omega)
    have o:(l0++fl zpt c.Qd ch).length≤40000:=by rw[List.length_append];omega
    generalize l0++fl zpt c.Qd ch=l1 at o ⊢
    unfold zR
    dsimp only
    rw[if_pos (by simpa using O),za H,bsm]
    have h1:=zbw (xs:=ps) (body:=z1H fu ((ch:Int),l1.map (·.1),l1.map (·.2)) ps) (mk:=fun k (l:List (Qa×Qb))=>(k,l.map (·.1),l.map (·.2))) (out:=fun(l:List (Qa×Qb))=>(l.map (·.1),l.map (·.2))) (fun i p=>zoA (ch,i,p)) (s0:=l1) (fu:=fu) (by omega) hf (fun i p hp=>by
      have Y:=(List.getElem?_eq_some_iff.1 hp).1
      have X:=z8p (f:=fun i p=>zoA (ch,i,p)) (xs:=ps) (b:=1) (fun _ _ _=>zrZ) i (by omega)
      have G:(l1++fl (fun i p=>zoA (ch,i,p)) ps i).length≤50000:=by rw[List.length_append];omega
      generalize l1++fl (fun i p=>zoA (ch,i,p)) ps i=l2 at G ⊢
      unfold z1H z2Q z1G zoA
      dsimp only
      rw[if_pos (by simpa using Y),za hp,bsm]
      by_cases k3:p.Qi=3
      · rw[if_pos (by simpa using k3),if_pos k3,if_pos (by simp;omega),bsm,if_pos (by simp;omega),List.map_append,List.map_append]
        rfl
      · rw[if_neg (by simpa using k3),if_neg k3,List.append_nil]) (by
      unfold z1H
      rw[if_neg (by simp)])
    try dsimp only at h1
    rw[h1,bsm,z8]
    rfl) (by
    unfold zR
    rw[if_neg (by simp)])
  rw[zrA] at h
  exact h
theorem zf4 {fu:Nat}{x:Qv}(hf:Big fu)(hs:x.sz≤1048576):∃ r,z2Y fu x=some r∧z1Y fu x=some r∧r.1.sz≤1048576:=by
  obtain⟨z1,_⟩:=zjx hs
  unfold z2Y z1Y
  rw[zuL hf hs,zuM hf hs,bsm,bsm]
  cases hb:zhO x with
  | false=>exact⟨(⟨[]⟩,1),by rw[if_pos (by rfl)],by rw[if_pos (by rfl)],by decide⟩
  | true=>
    unfold zhO at hb
    rw[Bool.and_eq_true,← zov,Bool.and_eq_true,Bool.and_eq_true] at hb
    obtain⟨hp,hA,hB,hc⟩:=hb
    rw[if_neg (by simp),if_neg (by simp)]
    obtain⟨i0,hC⟩:=zqt hs hp
    have hS:=zkZ z1 i0
    have hn:=hC.n
    have q0:=hS.n
    have e0:=z8U hC.l
    have o0:=zcs (ps:=x.Qd.flatten)
    have p0:=zq4 hS
    have j0:=zpe (ps:=x.Qd.flatten) (j:=0) (fun q hq h3=>((hC.p q hq).2 h3).2)
    have hM:zsD (cellsOf x.Qd.flatten):=⟨by omega,fun y hy=>by
      obtain⟨q,g1,g2,g3⟩:=zbn hy
      rw[← g3]
      exact⟨(hC.p q g1).1,((hC.p q g1).2 g2).2⟩⟩
    have o:∀ y∈cellsOf x.Qd.flatten,y.Qi≠0:=fun y hy=>by
      obtain⟨q,g1,g2,g3⟩:=zbn hy
      rw[← g3]
      exact((hC.p q g1).2 g2).1
    have a0:∀ y∈cellsOf x.Qd.flatten,z40 y=true:=fun y hy=>by
      obtain⟨q,g1,g2,g3⟩:=zbn hy
      rw[← g3]
      unfold z8X at hp
      simp only[Bool.and_eq_true,decide_eq_true_eq] at hp
      have h7:=hp.2.2.2.2.2
      unfold zeJ at h7
      rw[Bool.and_eq_true] at h7
      obtain⟨ch,c0,hq⟩:=List.mem_flatten.1 g1
      obtain⟨i,hi⟩:=List.getElem?_of_mem c0
      have h8:=(z69 (p:=fun i ch=>zey x.Qk.Qf.length i ch)).1 h7.2 i ch hi
      unfold zey at h8
      rw[Bool.and_eq_true,List.all_eq_true] at h8
      have h9:=h8.2 q hq
      unfold z9V at h9
      rw[if_neg (by omega),if_neg (by omega),if_pos g2] at h9
      simp only[Bool.and_eq_true] at h9
      exact h9.1.2
    obtain⟨L,at_,L',hI,e1,e2⟩:=zsJ (fu:=fu) hf z1 hS hC
    have hR:=e2 (by rw[hA,hB];rfl)
    have b0:(z7x x.Qk++zd5 0 x.Qd.flatten).length≤1000000:=by rw[List.length_append];omega
    have G:=zxM hS hM a0 hR hc (fun k hk=>by
      rcases List.mem_append.1 hk with hk | hk
      · exact zsW hA k hk
      · exact znJ hB k hk) b0
    have H:z7b (zcm x.Qk++zaC x.Qd)=(z7x x.Qk++zd5 0 x.Qd.flatten).map (thG (ad3C x.Qd)):=by
      rw[zaV,List.map_append,zsY hA,zrz,← zf1 (cs:=x.Qd)]
      congr 1
      refine zjg (g:=x.Qk) (fun y hy=>?_) (fun t a k0=>?_)
      · refine List.all_eq_true.1 hB y.2.2 ?_
        rw[← zf1 (cs:=x.Qd)]
        exact List.mem_map.2 ⟨y,hy,rfl⟩
      · rw[Nat.zero_add]
        exact zjJ k0
    have Z:=zxS (T:=zcm x.Qk++zaC x.Qd) (ad3:=ad3C x.Qd) G hR.pairsX H (fun i hi=>by
      rw[← zpz] at hi
      obtain⟨a,ha⟩:=z1j hi
      rw[zjJ ha]
      exact zwY (List.mem_of_getElem? ha)) (fun i j hi hj he=>by
      rw[← zpz] at hi hj
      obtain⟨a,ha⟩:=z1j hi
      obtain⟨b,hb⟩:=z1j hj
      rw[zjJ ha,zjJ hb] at he
      subst he
      exact zg7 zv1 ha hb)
    obtain⟨M',n1⟩:=zvN hf hI hR G
    unfold z8b
    rw[e1,bsm]
    dsimp only
    rw[n1,bsm]
    have u0:=G.small
    have X:(lvG x.Qk (cellsOf x.Qd.flatten)).map (·.2)=(lvS x.Qk).map (·.2)++cellsOf x.Qd.flatten:=by rw[zph,List.map_append,(zsH (ad:=ad3C x.Qd) o).1]
    have f0:(lvG x.Qk (cellsOf x.Qd.flatten)).map (fun y=>adI (ad3C x.Qd) y.1)=(lvS x.Qk).map (fun y=>adI (ad3C x.Qd) y.1)++adC x.Qd:=by rw[zph,List.map_append,(zsH (ad:=ad3C x.Qd) o).2,zvr]
    have t0:(lvG x.Qk (cellsOf x.Qd.flatten)).length=(lvS x.Qk).length+(cellsOf x.Qd.flatten).length:=by
      have:=congrArg List.length X
      simpa using this
    have g0:(lvS x.Qk).length≤21600:=by
      have:=zx5 (more:=[]) hS (by simp)
      have e:lvG x.Qk []=lvS x.Qk:=by rw[zph];simp[lvR]
      rw[e] at this
      exact this
    unfold z3Y
    have ge:x.Qk=x.Qk:=rfl
    rw[ge,zvR (ad3:=ad3C x.Qd) hf hS,bsm,bsm]
    dsimp only
    have Y:=znq (l0:=(lvS x.Qk).map fun y=>(y.2,adI (ad3C x.Qd) y.1)) hf hC (by simp;omega)
    rw[List.map_append,List.map_append,ziT,ziS,zf1,List.map_map,List.map_map] at Y
    have O:iter (zR fu x) fu (0,(lvS x.Qk).map (·.2),(lvS x.Qk).map fun y=>adI (ad3C x.Qd) y.1)=some (.inl ((lvS x.Qk).map (·.2)++cellsOf x.Qd.flatten,(lvS x.Qk).map (fun y=>adI (ad3C x.Qd) y.1)++adC x.Qd)):=Y
    rw[O,bsm,z8,← X,← f0]
    unfold z5b
    dsimp only
    rw[ge,List.length_map,zb (by omega) (by omega)]
    by_cases hbig:600<(lvG x.Qk (cellsOf x.Qd.flatten)).length+1
    · rw[if_pos hbig,if_pos (by simp only[decide_eq_true_eq];omega)]
      exact⟨(⟨[]⟩,4),rfl,rfl,by decide⟩
    · obtain⟨p1,p2⟩:=ziR (fu:=fu) hf hC
      have r0:(zcm x.Qk).length≤100000:=by
        have e0:=z8p (f:=zb6) (xs:=x.Qk.Qf) (b:=2000) (fun j c hc=>ziA hS hc) x.Qk.Qf.length (Nat.le_refl _)
        unfold zcm zjY
        rw[List.length_append]
        simp only[List.length_cons,List.length_nil]
        omega
      rw[if_neg hbig,if_neg (by simp only[decide_eq_true_eq];omega),zfd hf hS,bsm,p1,bsm,if_pos (by simp only[decide_eq_true_eq];omega),zvO hf G Z (by omega),bsm]
      exact⟨_,rfl,rfl,zxN (zsx G (by omega))⟩

theorem lawAssembleCluster {x0:Qv}(h0:Qv.wf x0):∃ fu,z2j fu x0=some true:=by
  obtain⟨fu,hf⟩:∃ n:Nat,18446744073709551616≤n:=⟨_,Nat.le_refl _⟩
  refine⟨fu,?_⟩
  unfold z2j
  obtain⟨r0,e0,s0⟩:=zjT (l:=(1048576:Int)) hf h0 (by decide) (by omega)
  rw[e0,bsm]
  rcases s0 with s0 | ⟨s0,t0⟩
  · rw[if_pos (by simp[s0])]
  rw[if_neg (by simp[s0])]
  have z0:Qv.sz x0≤1048576:=by omega
  obtain⟨r,a0,a1,b0⟩:=zf4 hf z0
  have m0:=fun {β:Type}(g:_→Option β)=>zeK (g:=g) a0
  have m1:=fun {β:Type}(g:_→Option β)=>zeK (g:=g) a1
  have m2:=fun {β:Type}(g:_→Option β)=>zeK (g:=g) (zjQ hf z0)
  have m3:=fun {β:Type}(g:_→Option β)=>zeK (g:=g) (zk6 hf z0)
  have m4:=fun {β:Type}(g:_→Option β) (k:Int) (h0:0≤k) (h1:k+(ctCluster x0:Nat)≤2147483648)=>zeK (g:=g) (zhC hf z0 h0 h1)
  have c0:=zop (x:=x0)
  have m5:=fun {β:Type}(g:_→Option β)=>zeK (g:=g) (zrq hf b0)
  have m6:=fun {β:Type}(g:_→Option β) (k:Int) (h0:0≤k) (h1:k+(ctNet r.1:Nat)≤2147483648)=>zeK (g:=g) (zny hf b0 h0 h1)
  have m7:=fun {β:Type}(g:_→Option β) (k:Int) (h0:0≤k) (h1:k+(ctNet r.1:Nat)≤2147483648)=>zeK (g:=g) (znG hf b0 h0 h1)
  have d0:=zwN (x:=r.1)
  simp (disch:=omega) only[↓reduceIte,↓m0,↓m1,↓m2,↓m3,↓m4,↓m5,↓m6,↓m7,lt_f,Bool.not_true,Bool.false_eq_true,bne_self_eq_false,zg9]
  simp (disch:=omega) only[↓reduceIte,↓z1b,↓m0,↓m1,↓m2,↓m3,↓m4,↓m5,↓m6,↓m7,lt_f,Bool.not_true,Bool.false_eq_true,bne_self_eq_false,zg9]
  simp (disch:=omega) only[↓reduceIte,↓zG,↓m0,↓m1,↓m2,↓m3,↓m4,↓m5,↓m6,↓m7,lt_f,Bool.not_true,Bool.false_eq_true,bne_self_eq_false,zg9]
  simp (disch:=omega) only[↓reduceIte,↓z1a,↓m0,↓m1,↓m2,↓m3,↓m4,↓m5,↓m6,↓m7,lt_f,Bool.not_true,Bool.false_eq_true,bne_self_eq_false,zg9]
end Go.E



namespace Go.Proofs.YtfndicpnccabkaaGreat.lawAssembleCluster
open Go.ChangeShapes Go.WideShapes Go.ChangeAt Go.RowKit Go.E

theorem own:ownKnob Tryz.prog.godebug=none:=by kernel_rfl
theorem laidOut:laidOutB Tryz.prog=true:=by kernel_rfl

set_option maxRecDepth 100000 in
theorem lifted (os:Os)(started:os.Started)(H:Type)(enc:TypeId×Value→H):
    ReturnsInHanded {} Tryz.checked os 4 .any (Rows.fnExactAssembleClusterSpec.pre6 enc Tryz.prog Tryz.f4 Rows.fnExactAssembleClusterRow.domain false) (Rows.fnExactAssembleClusterSpec.post enc Tryz.prog Tryz.f4 false true false false):=by
  refine returnsInHanded_of_change (C:=Tryz.checked) own started (by kernel_rfl) Tryz.func4
    (ChangeSpec.witness6 (enc:=enc) (C:=Tryz.checked) false ⟨#[],#[.agg #[.slice none 0 0,.int .i64 0,.int .i64 0,.int .i64 0,.slice none 0 0,.slice none 0 0,.slice none 0 0,.slice none 0 0]],[]⟩ 12 (by kernel_rfl) (by kernel_rfl) (by kernel_rfl) (by kernel_rfl)) ?_
  intro W base args ds gs before hval0 hW hcnd _
  have hval:∀ (j:Nat) t v,Tryz.f4.params[j]? = some t→args[j]? = some v→Value.okWide Tryz.prog W .any base t v:=hval0
  have hW':=hW
  obtain⟨p,q,hA0,hV,rfl,hfz,hnd⟩:=hW
  have hA:DataW.TrodAll enc Tryz.prog W 0 (fun _=>true) true Tryz.f4.params.toList args.toList ds p:=hA0
  rw[Tryz.params4] at hA hval
  obtain⟨v0,vs0,d0,ds0,p0,q0,hargs,rfl,rfl,h0,r0⟩:=trodAll_cons hA
  obtain⟨rfl,rfl,rfl⟩:=trodAll_nil r0
  obtain rfl:args = #[v0]:=by cases args;simp_all
  obtain⟨rfl,rfl⟩:=trodVars_none hV
  have k0:=h0
  have lt0:∀ x∈p0,x.block<W.heap.size:=by obtain⟨m,hm⟩:=k0;exact DataW.trod_lt m _ _ _ hm
  obtain⟨c0,x0,rfl,g0,w0⟩:=zrE Tryz.underlying47 zxe (hval 0 47 v0 rfl rfl) h0
  clear hA0 hval0
  obtain⟨fu,hm⟩:=lawAssembleCluster (x0:=x0) w0
  refine(laws_FnExactAssembleCluster_ok (W:=Base.of W) (Ext.refl _) g0 hm).mono ?_
  intro e W' hq
  obtain⟨v,rfl,rfl,hS⟩:=Ret.out hq
  have bel:Below W.heap.size W W':=hS.ext.below
  exact⟨_,rfl,_,_,_,[],_,[],hW',trodAll_mk1 (shut_bool Tryz.underlying4 _),(trodAll_cons_mk (Below.trod laidOut (by kernel_rfl) (of_decide_eq_true (by kernel_rfl)) k0 bel lt0) trodAll_mk0),rfl,bel.frame _,fun h=>by cases h⟩

set_option maxRecDepth 100000 in
theorem j1:(Rows.fnExactAssembleClusterRow.wf (OpenSpec.ofChange Rows.fnExactAssembleClusterSpec))=true:=by kernel_rfl
set_option maxRecDepth 100000 in
theorem j2:(laidOutB Tryz.prog)=true:=by kernel_rfl
set_option maxRecDepth 100000 in
theorem j3:(mapsRowed Tryz.prog)=true:=by kernel_rfl
set_option maxRecDepth 100000 in
theorem j4:(Tryz.f4.params.all (Tryz.prog.readableRec ·))=true:=by kernel_rfl
set_option maxRecDepth 100000 in
theorem j5:(namedTie Tryz.prog Rows.fnExactAssembleClusterRow.named Rows.fnExactAssembleClusterSpec.vars)=true:=by kernel_rfl
set_option maxRecDepth 100000 in
theorem j6:((Rows.fnExactAssembleClusterRow.stops == []))=true:=by kernel_rfl
set_option maxRecDepth 100000 in
theorem j7:((Tryz.prog.stops == []))=true:=by kernel_rfl
set_option maxRecDepth 100000 in
theorem j8:((Rows.fnExactAssembleClusterRow.knobs == []))=true:=by kernel_rfl
set_option maxRecDepth 100000 in
theorem j9:((Tryz.prog.stopKnobs == []))=true:=by kernel_rfl
set_option maxRecDepth 100000 in
theorem j10:((Rows.fnExactAssembleClusterRow.inPlace == Tryz.prog.inPlace 4))=true:=by kernel_rfl
set_option maxRecDepth 100000 in
theorem j11:((Rows.fnExactAssembleClusterRow.unfollowed == Tryz.prog.unfollowed 4))=true:=by kernel_rfl
set_option maxRecDepth 100000 in
theorem j12:((Rows.fnExactAssembleClusterRow.recurses == Tryz.prog.recurses 4))=true:=by kernel_rfl
set_option maxRecDepth 100000 in
theorem j13:((Rows.fnExactAssembleClusterRow.named == Tryz.prog.varsNamed 4))=true:=by kernel_rfl
set_option maxRecDepth 100000 in
theorem j14:((Rows.fnExactAssembleClusterRow.maps == (Tryz.f4.params.toList++Rows.fnExactAssembleClusterSpec.plain.varTypes Tryz.prog).any (Tryz.prog.mapsRec ·)))=true:=by kernel_rfl
set_option maxRecDepth 100000 in
theorem j15:((Rows.fnExactAssembleClusterRow.ifaces == (Tryz.f4.params.toList++Rows.fnExactAssembleClusterSpec.plain.varTypes Tryz.prog).any (Tryz.prog.ifacesRec ·)))=true:=by kernel_rfl
set_option maxRecDepth 100000 in
theorem j16:((Rows.fnExactAssembleClusterRow.mapsOut == Tryz.prog.mapsAmong Tryz.f4.resultTypes.toList))=true:=by kernel_rfl
set_option maxRecDepth 100000 in
theorem j17:((Rows.fnExactAssembleClusterRow.loops == (Tryz.f4.params.toList++Rows.fnExactAssembleClusterSpec.plain.varTypes Tryz.prog).any (Tryz.prog.loopsFrom ·)))=true:=by kernel_rfl
set_option maxRecDepth 100000 in
theorem j18:((Rows.fnExactAssembleClusterRow.wideKeys == (Tryz.f4.params.toList++Rows.fnExactAssembleClusterSpec.plain.varTypes Tryz.prog++Tryz.f4.resultTypes.toList).any (Tryz.prog.wideKeysFrom ·)))=true:=by kernel_rfl
set_option maxRecDepth 100000 in
theorem j19:(Rows.fnExactAssembleClusterSpec.vars.all (Tryz.prog.varReadable ·))=true:=by kernel_rfl
set_option maxRecDepth 100000 in
theorem j20:(Tryz.f4.resultTypes.all (fun t=>Tryz.prog.readableRec t && decide (t<Tryz.prog.types.size)))=true:=by kernel_rfl
set_option maxRecDepth 100000 in
theorem j21:((Rows.fnExactAssembleClusterRow.ifacesOut == Tryz.f4.resultTypes.toList.any (Tryz.prog.ifacesRec ·)))=true:=by kernel_rfl
set_option maxRecDepth 100000 in
theorem j22:((Rows.fnExactAssembleClusterRow.loopsOut == Tryz.f4.resultTypes.toList.any (Tryz.prog.loopsFrom ·)))=true:=by kernel_rfl
set_option maxRecDepth 100000 in
theorem j23:((Rows.fnExactAssembleClusterRow.plainKeys == Tryz.prog.plainKeys))=true:=by kernel_rfl
set_option maxRecDepth 100000 in
theorem j24:(Rows.fnExactAssembleClusterRow.shortTexts.isNone)=true:=by kernel_rfl
set_option maxRecDepth 100000 in
theorem j25:(Tryz.prog.stopsHeard)=true:=by kernel_rfl
set_option maxRecDepth 100000 in
theorem j26:(Tryz.prog.mayEnter)=true:=by kernel_rfl
set_option maxRecDepth 100000 in
theorem j27:((Rows.fnExactAssembleClusterRow.lifted == Tryz.prog.liftsFinal))=true:=by kernel_rfl
set_option maxRecDepth 100000 in
theorem j28:((Tryz.prog.make == some Rows.fnExactAssembleClusterRow.make))=true:=by kernel_rfl
set_option maxRecDepth 100000 in
theorem j29:((Rows.fnExactAssembleClusterRow.kinds == (if Rows.fnExactAssembleClusterRow.domain.isEmpty then [] else Tryz.f4.params.toList.map fun t=>match Tryz.prog.underlying t with | some (.int k)=>some k | _=>none)))=true:=by kernel_rfl
set_option maxRecDepth 100000 in
theorem j30:((Rows.fnExactAssembleClusterRow.pinned == Rows.fnExactAssembleClusterRow.pinnedBy))=true:=by kernel_rfl
set_option maxRecDepth 100000 in
theorem j31:((Rows.fnExactAssembleClusterRow.veiled == (Tryz.f4.params.toList++Rows.fnExactAssembleClusterSpec.plain.varTypes Tryz.prog++Tryz.f4.resultTypes.toList).any (Tryz.prog.veiledRec ·)))=true:=by kernel_rfl
set_option maxRecDepth 100000 in
theorem j32:(Rows.fnExactAssembleClusterRow.veiledFits Tryz.prog Tryz.f4.params.toList (Tryz.f4.params.toList++Rows.fnExactAssembleClusterSpec.plain.varTypes Tryz.prog++Tryz.f4.resultTypes.toList))=true:=by kernel_rfl
set_option maxRecDepth 100000 in
theorem closed:joinedFacts Tryz.prog 4 Tryz.f4 Rows.fnExactAssembleClusterSpec Rows.fnExactAssembleClusterRow=true:=by
  unfold joinedFacts
  simp only[Bool.and_eq_true]
  exact⟨⟨⟨⟨⟨⟨⟨⟨⟨⟨⟨⟨⟨⟨⟨⟨⟨⟨⟨⟨⟨⟨⟨⟨⟨⟨⟨⟨⟨⟨⟨j1,j2⟩,j3⟩,j4⟩,j5⟩,j6⟩,j7⟩,j8⟩,j9⟩,j10⟩,j11⟩,j12⟩,j13⟩,j14⟩,j15⟩,j16⟩,j17⟩,j18⟩,j19⟩,j20⟩,j21⟩,j22⟩,j23⟩,j24⟩,j25⟩,j26⟩,j27⟩,j28⟩,j29⟩,j30⟩,j31⟩,j32⟩
set_option maxRecDepth 100000 in
theorem wraps:Tryz.f4.isWrapper Tryz.prog Rows.fnExactAssembleClusterRow.wrapper Rows.fnExactAssembleClusterRow.mainSum:=by
  unfold Func.isWrapper;first | (rw[if_pos (by decide +kernel)];kernel_rfl) | (rw[if_neg (by decide +kernel)];exact⟨rfl,rfl⟩)
theorem instd:Tryz.f4.isInstance Tryz.prog Rows.fnExactAssembleClusterRow.origin Rows.fnExactAssembleClusterRow.targs:=of_decide_eq_true (by kernel_rfl)

set_option maxRecDepth 100000 in
theorem over:Rows.fnExactAssembleClusterRow.holds Tryz.pinned (OpenSpec.ofChange Rows.fnExactAssembleClusterSpec):=
  OpenClaim.holds_of_wide 4 Tryz.f4 rfl rfl rfl rfl rfl rfl rfl ⟨rfl,rfl,rfl,rfl,rfl⟩ rfl rfl rfl rfl rfl (by kernel_rfl) Tryz.func4 closed instd wraps
    (fun os started H enc _=>lifted os started H enc)

theorem proved:Rows.FnExactAssembleClusterSaid:=over
#print axioms proved
end Go.Proofs.YtfndicpnccabkaaGreat.lawAssembleCluster

