/- What the functions that mark data and look for the marks give (written by program). Conditions: counts stay small. -/
import Derived.Test.YtijgffjimnbcpaaGreatSzDefs
import Derived.Test.YtijgffjimnbcpaaGreatSizesP
import Derived.Test.YtijgffjimnbcpaaGreatFA
import Derived.Test.YtijgffjimnbcpaaGreatFN
import Derived.Test.YtijgffjimnbcpaaGreatFL
import Derived.Test.YtijgffjimnbcpaaGreatFLb
import Derived.Test.YtijgffjimnbcpaaGreatFLc
import Derived.Test.YtijgffjimnbcpaaGreatFLd
import Derived.Test.YtijgffjimnbcpaaGreatHP
namespace Go.E
open Go.RowKit Go.Proofs
set_option linter.unusedSimpArgs false
set_option linter.unusedVariables false

def z6F (fuel:Nat) (x:Int) (k:Int):Int:=k
def z4Y (x:Int):Nat:=1
def z4W (fuel:Nat) (xs:List Int) (k:Int):List Int:=markL (z6F fuel) z4Y xs k
def z4Z (xs:List Int):Nat:=sumL z4Y xs
theorem z5k {fuel:Nat}{xs:List Int}{k:Int}(hf:18446744073709551616≤fuel) (hl:xs.length≤1048576) (h0:0≤k) (h1:k+(z4Z xs:Nat)≤2147483648):zW fuel xs k=some (k+(z4Z xs:Nat),z4W fuel xs k):=by
  unfold zW
  rw [z51 (f:=z6F fuel) (c:=z4Y) (xs:=xs) (k:=k) (by have:=hl;omega) hf h0 h1 ?_ ?_]
  · rfl
  · intro i x ys k hi d hx hm h0 h1
    unfold z4Y at h1
    unfold z2r z6F z4Y
    rw [if_pos (decide_eq_true (show(i:Int)<xs.length by omega))]
    rw [if_pos (decide_eq_true (show 0≤(i:Int)∧(i:Int).toNat<ys.length from⟨by omega,by rw [d];simpa using hi⟩))]
    simp (disch:=omega) only [z59,Int.toNat_natCast,Int.ofNat_one,Int.natCast_one]
  · intro k ys;unfold z2r;rw [if_neg (by simp)]

theorem z6w {fuel:Nat}{xs:List Int}{k:Int}(hf:18446744073709551616≤fuel) (hl:xs.length≤1048576) (h0:0≤k) (h1:k+(z4Z xs:Nat)≤2147483648):z1z fuel (z4W fuel xs k) k=some (k+(z4Z xs:Nat)):=by
  unfold z1z
  have hlen:(z4W fuel xs k).length=xs.length:=z15 _ _
  rw [z63 (f:=z6F fuel) (c:=z4Y) (xs:=xs) (k:=k) (by have:=hl;omega) hf h0 h1 ?_ ?_]
  · rfl
  · intro i x k' hi hx hm h0 h1
    unfold z4Y at h1
    have d:(z4W fuel xs k)[i]? = some (z6F fuel x k'):=hx
    unfold z1o
    rw [if_pos (decide_eq_true (show(i:Int)<(z4W fuel xs k).length by rw [hlen];omega))]
    simp only [zb d,Option.bind_some]
    unfold z6F z4Y
    simp (disch:=omega) only [z59,Option.bind_some,lt_f,if_false,bne_self_eq_false,Bool.false_eq_true,beq_self_eq_true,Bool.not_true,Int.ofNat_one,Int.natCast_one]
  · intro k';show z1o fuel (z4W fuel xs k) (k',((z4W fuel xs k).length:Int))=_;unfold z1o;rw [if_neg (by simp)]

theorem z6R {xs:List Int}:z4Z xs≤64*(xs.length):=by
  have h:=z68 (c:=z4Y) (g:=(fun _=>0)) (m:=64) (xs:=xs) fun x _=>by
    unfold z4Y
    omega
  rw [z6A (fun _=>rfl)] at h
  exact h

def elWordS (fuel:Nat) (x:D.Word) (k:Int):D.Word:=(⟨k,k+1⟩:D.Word)
def ecWordS (x:D.Word):Nat:=1+1
def mkWordS (fuel:Nat) (xs:List D.Word) (k:Int):List D.Word:=markL (elWordS fuel) ecWordS xs k
def ctWordS (xs:List D.Word):Nat:=sumL ecWordS xs
theorem z8v {fuel:Nat}{xs:List D.Word}{k:Int}(hf:18446744073709551616≤fuel) (hl:xs.length≤1048576) (h0:0≤k) (h1:k+(ctWordS xs:Nat)≤2147483648):z34 fuel xs k=some (k+(ctWordS xs:Nat),mkWordS fuel xs k):=by
  unfold z34
  rw [z51 (f:=elWordS fuel) (c:=ecWordS) (xs:=xs) (k:=k) (by have:=hl;omega) hf h0 h1 ?_ ?_]
  · rfl
  · intro i x ys k hi d hx hm h0 h1
    unfold ecWordS at h1
    unfold z2S elWordS ecWordS
    rw [if_pos (decide_eq_true (show(i:Int)<xs.length by omega))]
    simp only [zb hx,Option.bind_some]
    simp (disch:=omega) only [z59,Option.bind_some,Int.toNat_natCast]
    all_goals (refine congrArg some (congrArg Rd.next (Prod.ext ?_ ?_));rotate_left;first | rfl | (dsimp only;simp only [Int.natCast_add,Int.natCast_one,Int.ofNat_one,← Int.add_assoc]))
    all_goals (dsimp only;simp only [Int.natCast_add,Int.natCast_one,Int.ofNat_one];try omega)
  · intro k ys;unfold z2S;rw [if_neg (by simp)]

theorem z8z {fuel:Nat}{xs:List D.Word}{k:Int}(hf:18446744073709551616≤fuel) (hl:xs.length≤1048576) (h0:0≤k) (h1:k+(ctWordS xs:Nat)≤2147483648):z38 fuel (mkWordS fuel xs k) k=some (k+(ctWordS xs:Nat)):=by
  unfold z38
  have hlen:(mkWordS fuel xs k).length=xs.length:=z15 _ _
  rw [z63 (f:=elWordS fuel) (c:=ecWordS) (xs:=xs) (k:=k) (by have:=hl;omega) hf h0 h1 ?_ ?_]
  · rfl
  · intro i x k' hi hx hm h0 h1
    unfold ecWordS at h1
    have d:(mkWordS fuel xs k)[i]? = some (elWordS fuel x k'):=hx
    unfold z1L
    rw [if_pos (decide_eq_true (show(i:Int)<(mkWordS fuel xs k).length by rw [hlen];omega))]
    simp only [zb d,Option.bind_some]
    unfold elWordS ecWordS
    simp (disch:=omega) only [z59,Option.bind_some,lt_f,if_false,bne_self_eq_false,Bool.false_eq_true,beq_self_eq_true,Bool.not_true,Int.ofNat_one,Int.natCast_one]
    try (refine congrArg some (congrArg Rd.next (Prod.ext ?_ rfl));dsimp only;simp only [Int.natCast_add,Int.natCast_one,Int.ofNat_one];try omega)
  · intro k';show z1L fuel (mkWordS fuel xs k) (k',((mkWordS fuel xs k).length:Int))=_;unfold z1L;rw [if_neg (by simp)]

theorem zbD {xs:List D.Word}:ctWordS xs≤64*(xs.length):=by
  have h:=z68 (c:=ecWordS) (g:=(fun _=>0)) (m:=64) (xs:=xs) fun x _=>by
    unfold ecWordS
    omega
  rw [z6A (fun _=>rfl)] at h
  exact h

def elCellS (fuel:Nat) (x:D.Cell) (k:Int):D.Cell:=(⟨k,k+1,k+1+1,(z4W fuel x.Data (k+1+1+1)),(mkWordS fuel x.Words (k+1+1+1+((z4Z x.Data:Nat):Int)))⟩:D.Cell)
def ecCellS (x:D.Cell):Nat:=1+1+1+z4Z x.Data+ctWordS x.Words
def mkCellS (fuel:Nat) (xs:List D.Cell) (k:Int):List D.Cell:=markL (elCellS fuel) ecCellS xs k
def ctCellS (xs:List D.Cell):Nat:=sumL ecCellS xs
theorem z8y {fuel:Nat}{xs:List D.Cell}{k:Int}(hf:18446744073709551616≤fuel) (hl:szL D.Cell.sz xs≤1048576) (h0:0≤k) (h1:k+(ctCellS xs:Nat)≤2147483648):z37 fuel xs k=some (k+(ctCellS xs:Nat),mkCellS fuel xs k):=by
  unfold z37
  rw [z51 (f:=elCellS fuel) (c:=ecCellS) (xs:=xs) (k:=k) (by have:=(z66 hl);omega) hf h0 h1 ?_ ?_]
  · rfl
  · intro i x ys k hi d hx hm h0 h1
    unfold ecCellS at h1
    have hsx:=z65 hl hm
    unfold D.Cell.sz at hsx
    unfold z2W elCellS ecCellS
    rw [if_pos (decide_eq_true (show(i:Int)<xs.length by omega))]
    simp only [zb hx,Option.bind_some]
    simp (disch:=omega) only [z5k hf (show x.Data.length≤1048576 by omega),z8v hf (show x.Words.length≤1048576 by omega),z59,Option.bind_some,Int.toNat_natCast]
    all_goals (refine congrArg some (congrArg Rd.next (Prod.ext ?_ ?_));rotate_left;first | rfl | (dsimp only;simp only [Int.natCast_add,Int.natCast_one,Int.ofNat_one,← Int.add_assoc]))
    all_goals (dsimp only;simp only [Int.natCast_add,Int.natCast_one,Int.ofNat_one];try omega)
  · intro k ys;unfold z2W;rw [if_neg (by simp)]

theorem z8B {fuel:Nat}{xs:List D.Cell}{k:Int}(hf:18446744073709551616≤fuel) (hl:szL D.Cell.sz xs≤1048576) (h0:0≤k) (h1:k+(ctCellS xs:Nat)≤2147483648):z3a fuel (mkCellS fuel xs k) k=some (k+(ctCellS xs:Nat)):=by
  unfold z3a
  have hlen:(mkCellS fuel xs k).length=xs.length:=z15 _ _
  rw [z63 (f:=elCellS fuel) (c:=ecCellS) (xs:=xs) (k:=k) (by have:=(z66 hl);omega) hf h0 h1 ?_ ?_]
  · rfl
  · intro i x k' hi hx hm h0 h1
    unfold ecCellS at h1
    have hsx:=z65 hl hm
    unfold D.Cell.sz at hsx
    have d:(mkCellS fuel xs k)[i]? = some (elCellS fuel x k'):=hx
    unfold z1O
    rw [if_pos (decide_eq_true (show(i:Int)<(mkCellS fuel xs k).length by rw [hlen];omega))]
    simp only [zb d,Option.bind_some]
    unfold elCellS ecCellS
    simp (disch:=omega) only [z6w hf (show x.Data.length≤1048576 by omega),z8z hf (show x.Words.length≤1048576 by omega),z59,Option.bind_some,lt_f,if_false,bne_self_eq_false,Bool.false_eq_true,beq_self_eq_true,Bool.not_true,Int.ofNat_one,Int.natCast_one]
    try (refine congrArg some (congrArg Rd.next (Prod.ext ?_ rfl));dsimp only;simp only [Int.natCast_add,Int.natCast_one,Int.ofNat_one];try omega)
  · intro k';show z1O fuel (mkCellS fuel xs k) (k',((mkCellS fuel xs k).length:Int))=_;unfold z1O;rw [if_neg (by simp)]

theorem zbG {xs:List D.Cell}:ctCellS xs≤64*(szL D.Cell.sz xs):=by
  have h:=z68 (c:=ecCellS) (g:=D.Cell.sz) (m:=64) (xs:=xs) fun x _=>by
    unfold ecCellS
    unfold D.Cell.sz
    have:=z6R (xs:=x.Data)
    have:=zbD (xs:=x.Words)
    omega
  exact h

def elPairS (fuel:Nat) (x:D.Pair) (k:Int):D.Pair:=(⟨k,k+1⟩:D.Pair)
def ecPairS (x:D.Pair):Nat:=1+1
def mkPairS (fuel:Nat) (xs:List D.Pair) (k:Int):List D.Pair:=markL (elPairS fuel) ecPairS xs k
def ctPairS (xs:List D.Pair):Nat:=sumL ecPairS xs
theorem z6J {fuel:Nat}{xs:List D.Pair}{k:Int}(hf:18446744073709551616≤fuel) (hl:xs.length≤1048576) (h0:0≤k) (h1:k+(ctPairS xs:Nat)≤2147483648):z1W fuel xs k=some (k+(ctPairS xs:Nat),mkPairS fuel xs k):=by
  unfold z1W
  rw [z51 (f:=elPairS fuel) (c:=ecPairS) (xs:=xs) (k:=k) (by have:=hl;omega) hf h0 h1 ?_ ?_]
  · rfl
  · intro i x ys k hi d hx hm h0 h1
    unfold ecPairS at h1
    unfold z2U elPairS ecPairS
    rw [if_pos (decide_eq_true (show(i:Int)<xs.length by omega))]
    simp only [zb hx,Option.bind_some]
    simp (disch:=omega) only [z59,Option.bind_some,Int.toNat_natCast]
    all_goals (refine congrArg some (congrArg Rd.next (Prod.ext ?_ ?_));rotate_left;first | rfl | (dsimp only;simp only [Int.natCast_add,Int.natCast_one,Int.ofNat_one,← Int.add_assoc]))
    all_goals (dsimp only;simp only [Int.natCast_add,Int.natCast_one,Int.ofNat_one];try omega)
  · intro k ys;unfold z2U;rw [if_neg (by simp)]

theorem z6K {fuel:Nat}{xs:List D.Pair}{k:Int}(hf:18446744073709551616≤fuel) (hl:xs.length≤1048576) (h0:0≤k) (h1:k+(ctPairS xs:Nat)≤2147483648):z1X fuel (mkPairS fuel xs k) k=some (k+(ctPairS xs:Nat)):=by
  unfold z1X
  have hlen:(mkPairS fuel xs k).length=xs.length:=z15 _ _
  rw [z63 (f:=elPairS fuel) (c:=ecPairS) (xs:=xs) (k:=k) (by have:=hl;omega) hf h0 h1 ?_ ?_]
  · rfl
  · intro i x k' hi hx hm h0 h1
    unfold ecPairS at h1
    have d:(mkPairS fuel xs k)[i]? = some (elPairS fuel x k'):=hx
    unfold z1M
    rw [if_pos (decide_eq_true (show(i:Int)<(mkPairS fuel xs k).length by rw [hlen];omega))]
    simp only [zb d,Option.bind_some]
    unfold elPairS ecPairS
    simp (disch:=omega) only [z59,Option.bind_some,lt_f,if_false,bne_self_eq_false,Bool.false_eq_true,beq_self_eq_true,Bool.not_true,Int.ofNat_one,Int.natCast_one]
    try (refine congrArg some (congrArg Rd.next (Prod.ext ?_ rfl));dsimp only;simp only [Int.natCast_add,Int.natCast_one,Int.ofNat_one];try omega)
  · intro k';show z1M fuel (mkPairS fuel xs k) (k',((mkPairS fuel xs k).length:Int))=_;unfold z1M;rw [if_neg (by simp)]

theorem z8U {xs:List D.Pair}:ctPairS xs≤64*(xs.length):=by
  have h:=z68 (c:=ecPairS) (g:=(fun _=>0)) (m:=64) (xs:=xs) fun x _=>by
    unfold ecPairS
    omega
  rw [z6A (fun _=>rfl)] at h
  exact h

def elPortS (fuel:Nat) (x:D.Port) (k:Int):D.Port:=(⟨k,k+1⟩:D.Port)
def ecPortS (x:D.Port):Nat:=1+1
def mkPortS (fuel:Nat) (xs:List D.Port) (k:Int):List D.Port:=markL (elPortS fuel) ecPortS xs k
def ctPortS (xs:List D.Port):Nat:=sumL ecPortS xs
theorem z8w {fuel:Nat}{xs:List D.Port}{k:Int}(hf:18446744073709551616≤fuel) (hl:xs.length≤1048576) (h0:0≤k) (h1:k+(ctPortS xs:Nat)≤2147483648):z35 fuel xs k=some (k+(ctPortS xs:Nat),mkPortS fuel xs k):=by
  unfold z35
  rw [z51 (f:=elPortS fuel) (c:=ecPortS) (xs:=xs) (k:=k) (by have:=hl;omega) hf h0 h1 ?_ ?_]
  · rfl
  · intro i x ys k hi d hx hm h0 h1
    unfold ecPortS at h1
    unfold z2T elPortS ecPortS
    rw [if_pos (decide_eq_true (show(i:Int)<xs.length by omega))]
    simp only [zb hx,Option.bind_some]
    simp (disch:=omega) only [z59,Option.bind_some,Int.toNat_natCast]
    all_goals (refine congrArg some (congrArg Rd.next (Prod.ext ?_ ?_));rotate_left;first | rfl | (dsimp only;simp only [Int.natCast_add,Int.natCast_one,Int.ofNat_one,← Int.add_assoc]))
    all_goals (dsimp only;simp only [Int.natCast_add,Int.natCast_one,Int.ofNat_one];try omega)
  · intro k ys;unfold z2T;rw [if_neg (by simp)]

theorem zbE {xs:List D.Port}:ctPortS xs≤64*(xs.length):=by
  have h:=z68 (c:=ecPortS) (g:=(fun _=>0)) (m:=64) (xs:=xs) fun x _=>by
    unfold ecPortS
    omega
  rw [z6A (fun _=>rfl)] at h
  exact h

def elAgentS (fuel:Nat) (x:D.Agent) (k:Int):D.Agent:=(⟨k,k+1,k+1+1,(z4W fuel x.Data (k+1+1+1)),(mkPortS fuel x.Ports (k+1+1+1+((z4Z x.Data:Nat):Int)))⟩:D.Agent)
def ecAgentS (x:D.Agent):Nat:=1+1+1+z4Z x.Data+ctPortS x.Ports
def mkAgentS (fuel:Nat) (xs:List D.Agent) (k:Int):List D.Agent:=markL (elAgentS fuel) ecAgentS xs k
def ctAgentS (xs:List D.Agent):Nat:=sumL ecAgentS xs
theorem z8d {fuel:Nat}{xs:List D.Agent}{k:Int}(hf:18446744073709551616≤fuel) (hl:szL D.Agent.sz xs≤1048576) (h0:0≤k) (h1:k+(ctAgentS xs:Nat)≤2147483648):z2J fuel xs k=some (k+(ctAgentS xs:Nat),mkAgentS fuel xs k):=by
  unfold z2J
  rw [z51 (f:=elAgentS fuel) (c:=ecAgentS) (xs:=xs) (k:=k) (by have:=(z66 hl);omega) hf h0 h1 ?_ ?_]
  · rfl
  · intro i x ys k hi d hx hm h0 h1
    unfold ecAgentS at h1
    have hsx:=z65 hl hm
    unfold D.Agent.sz at hsx
    unfold z2s elAgentS ecAgentS
    rw [if_pos (decide_eq_true (show(i:Int)<xs.length by omega))]
    simp only [zb hx,Option.bind_some]
    simp (disch:=omega) only [z5k hf (show x.Data.length≤1048576 by omega),z8w hf (show x.Ports.length≤1048576 by omega),z59,Option.bind_some,Int.toNat_natCast]
    all_goals (refine congrArg some (congrArg Rd.next (Prod.ext ?_ ?_));rotate_left;first | rfl | (dsimp only;simp only [Int.natCast_add,Int.natCast_one,Int.ofNat_one,← Int.add_assoc]))
    all_goals (dsimp only;simp only [Int.natCast_add,Int.natCast_one,Int.ofNat_one];try omega)
  · intro k ys;unfold z2s;rw [if_neg (by simp)]

theorem zaA {xs:List D.Agent}:ctAgentS xs≤64*(szL D.Agent.sz xs):=by
  have h:=z68 (c:=ecAgentS) (g:=D.Agent.sz) (m:=64) (xs:=xs) fun x _=>by
    unfold ecAgentS
    unfold D.Agent.sz
    have:=z6R (xs:=x.Data)
    have:=zbE (xs:=x.Ports)
    omega
  exact h

def elLinkS (fuel:Nat) (x:D.Link) (k:Int):D.Link:=(⟨(⟨k,k+1⟩:D.Word),(⟨k+1+1,k+1+1+1⟩:D.Word)⟩:D.Link)
def ecLinkS (x:D.Link):Nat:=1+1+1+1
def mkLinkS (fuel:Nat) (xs:List D.Link) (k:Int):List D.Link:=markL (elLinkS fuel) ecLinkS xs k
def ctLinkS (xs:List D.Link):Nat:=sumL ecLinkS xs
theorem z8x {fuel:Nat}{xs:List D.Link}{k:Int}(hf:18446744073709551616≤fuel) (hl:xs.length≤1048576) (h0:0≤k) (h1:k+(ctLinkS xs:Nat)≤2147483648):z36 fuel xs k=some (k+(ctLinkS xs:Nat),mkLinkS fuel xs k):=by
  unfold z36
  rw [z51 (f:=elLinkS fuel) (c:=ecLinkS) (xs:=xs) (k:=k) (by have:=hl;omega) hf h0 h1 ?_ ?_]
  · rfl
  · intro i x ys k hi d hx hm h0 h1
    unfold ecLinkS at h1
    unfold z2V elLinkS ecLinkS
    rw [if_pos (decide_eq_true (show(i:Int)<xs.length by omega))]
    simp only [zb hx,Option.bind_some]
    simp (disch:=omega) only [z59,Option.bind_some,Int.toNat_natCast]
    all_goals (refine congrArg some (congrArg Rd.next (Prod.ext ?_ ?_));rotate_left;first | rfl | (dsimp only;simp only [Int.natCast_add,Int.natCast_one,Int.ofNat_one,← Int.add_assoc]))
    all_goals (dsimp only;simp only [Int.natCast_add,Int.natCast_one,Int.ofNat_one];try omega)
  · intro k ys;unfold z2V;rw [if_neg (by simp)]

theorem z8A {fuel:Nat}{xs:List D.Link}{k:Int}(hf:18446744073709551616≤fuel) (hl:xs.length≤1048576) (h0:0≤k) (h1:k+(ctLinkS xs:Nat)≤2147483648):z39 fuel (mkLinkS fuel xs k) k=some (k+(ctLinkS xs:Nat)):=by
  unfold z39
  have hlen:(mkLinkS fuel xs k).length=xs.length:=z15 _ _
  rw [z63 (f:=elLinkS fuel) (c:=ecLinkS) (xs:=xs) (k:=k) (by have:=hl;omega) hf h0 h1 ?_ ?_]
  · rfl
  · intro i x k' hi hx hm h0 h1
    unfold ecLinkS at h1
    have d:(mkLinkS fuel xs k)[i]? = some (elLinkS fuel x k'):=hx
    unfold z1N
    rw [if_pos (decide_eq_true (show(i:Int)<(mkLinkS fuel xs k).length by rw [hlen];omega))]
    simp only [zb d,Option.bind_some]
    unfold elLinkS ecLinkS
    simp (disch:=omega) only [z59,Option.bind_some,lt_f,if_false,bne_self_eq_false,Bool.false_eq_true,beq_self_eq_true,Bool.not_true,Int.ofNat_one,Int.natCast_one]
    try (refine congrArg some (congrArg Rd.next (Prod.ext ?_ rfl));dsimp only;simp only [Int.natCast_add,Int.natCast_one,Int.ofNat_one];try omega)
  · intro k';show z1N fuel (mkLinkS fuel xs k) (k',((mkLinkS fuel xs k).length:Int))=_;unfold z1N;rw [if_neg (by simp)]

theorem zbF {xs:List D.Link}:ctLinkS xs≤64*(xs.length):=by
  have h:=z68 (c:=ecLinkS) (g:=(fun _=>0)) (m:=64) (xs:=xs) fun x _=>by
    unfold ecLinkS
    omega
  rw [z6A (fun _=>rfl)] at h
  exact h

def elWorkerS (fuel:Nat) (x:D.Worker) (k:Int):D.Worker:=(⟨k,k+1,(mkPairS fuel x.Redexes (k+1+1)),(mkLinkS fuel x.Links (k+1+1+((ctPairS x.Redexes:Nat):Int))),(z4W fuel x.Counts (k+1+1+((ctPairS x.Redexes:Nat):Int)+((ctLinkS x.Links:Nat):Int)))⟩:D.Worker)
def ecWorkerS (x:D.Worker):Nat:=1+1+ctPairS x.Redexes+ctLinkS x.Links+z4Z x.Counts
def mkWorkerS (fuel:Nat) (xs:List D.Worker) (k:Int):List D.Worker:=markL (elWorkerS fuel) ecWorkerS xs k
def ctWorkerS (xs:List D.Worker):Nat:=sumL ecWorkerS xs
theorem z7C {fuel:Nat}{xs:List D.Worker}{k:Int}(hf:18446744073709551616≤fuel) (hl:szL D.Worker.sz xs≤1048576) (h0:0≤k) (h1:k+(ctWorkerS xs:Nat)≤2147483648):z2f fuel xs k=some (k+(ctWorkerS xs:Nat),mkWorkerS fuel xs k):=by
  unfold z2f
  rw [z51 (f:=elWorkerS fuel) (c:=ecWorkerS) (xs:=xs) (k:=k) (by have:=(z66 hl);omega) hf h0 h1 ?_ ?_]
  · rfl
  · intro i x ys k hi d hx hm h0 h1
    unfold ecWorkerS at h1
    have hsx:=z65 hl hm
    unfold D.Worker.sz at hsx
    unfold z2e elWorkerS ecWorkerS
    rw [if_pos (decide_eq_true (show(i:Int)<xs.length by omega))]
    simp only [zb hx,Option.bind_some]
    simp (disch:=omega) only [z6J hf (show x.Redexes.length≤1048576 by omega),z8x hf (show x.Links.length≤1048576 by omega),z5k hf (show x.Counts.length≤1048576 by omega),z59,Option.bind_some,Int.toNat_natCast]
    all_goals (refine congrArg some (congrArg Rd.next (Prod.ext ?_ ?_));rotate_left;first | rfl | (dsimp only;simp only [Int.natCast_add,Int.natCast_one,Int.ofNat_one,← Int.add_assoc]))
    all_goals (dsimp only;simp only [Int.natCast_add,Int.natCast_one,Int.ofNat_one];try omega)
  · intro k ys;unfold z2e;rw [if_neg (by simp)]

theorem z7G {fuel:Nat}{xs:List D.Worker}{k:Int}(hf:18446744073709551616≤fuel) (hl:szL D.Worker.sz xs≤1048576) (h0:0≤k) (h1:k+(ctWorkerS xs:Nat)≤2147483648):z2g fuel (mkWorkerS fuel xs k) k=some (k+(ctWorkerS xs:Nat)):=by
  unfold z2g
  have hlen:(mkWorkerS fuel xs k).length=xs.length:=z15 _ _
  rw [z63 (f:=elWorkerS fuel) (c:=ecWorkerS) (xs:=xs) (k:=k) (by have:=(z66 hl);omega) hf h0 h1 ?_ ?_]
  · rfl
  · intro i x k' hi hx hm h0 h1
    unfold ecWorkerS at h1
    have hsx:=z65 hl hm
    unfold D.Worker.sz at hsx
    have d:(mkWorkerS fuel xs k)[i]? = some (elWorkerS fuel x k'):=hx
    unfold z16
    rw [if_pos (decide_eq_true (show(i:Int)<(mkWorkerS fuel xs k).length by rw [hlen];omega))]
    simp only [zb d,Option.bind_some]
    unfold elWorkerS ecWorkerS
    simp (disch:=omega) only [z6K hf (show x.Redexes.length≤1048576 by omega),z8A hf (show x.Links.length≤1048576 by omega),z6w hf (show x.Counts.length≤1048576 by omega),z59,Option.bind_some,lt_f,if_false,bne_self_eq_false,Bool.false_eq_true,beq_self_eq_true,Bool.not_true,Int.ofNat_one,Int.natCast_one]
    try (refine congrArg some (congrArg Rd.next (Prod.ext ?_ rfl));dsimp only;simp only [Int.natCast_add,Int.natCast_one,Int.ofNat_one];try omega)
  · intro k';show z16 fuel (mkWorkerS fuel xs k) (k',((mkWorkerS fuel xs k).length:Int))=_;unfold z16;rw [if_neg (by simp)]

theorem zad {xs:List D.Worker}:ctWorkerS xs≤64*(szL D.Worker.sz xs):=by
  have h:=z68 (c:=ecWorkerS) (g:=D.Worker.sz) (m:=64) (xs:=xs) fun x _=>by
    unfold ecWorkerS
    unfold D.Worker.sz
    have:=z8U (xs:=x.Redexes)
    have:=zbF (xs:=x.Links)
    have:=z6R (xs:=x.Counts)
    omega
  exact h

def mkNet (fuel:Nat) (x:D.Net) (k:Int):D.Net:=(⟨mkAgentS fuel x.Agents (k)⟩:D.Net)
def ctNet (x:D.Net):Nat:=ctAgentS x.Agents
theorem z9Q {fuel:Nat}{x:D.Net}{k:Int}(hf:18446744073709551616≤fuel) (hs:x.sz≤1048576) (h0:0≤k) (h1:k+(ctNet x:Nat)≤2147483648):z4a fuel x k=some (k+(ctNet x:Nat),(mkNet fuel x k).Agents):=by
  unfold ctNet at h1 ⊢
  simp only [D.Net.sz] at hs
  unfold z4a mkNet
  simp (disch:=omega) only [z8d hf (show szL D.Agent.sz x.Agents≤1048576 by omega),Option.bind_some]
  all_goals try simp only [Int.natCast_add,Int.add_assoc]

theorem zdS {x:D.Net}:ctNet x≤64*x.sz:=by
  unfold ctNet
  simp only [D.Net.sz]
  have:=zaA (xs:=x.Agents)
  omega

def mkPool (fuel:Nat) (x:D.Pool) (k:Int):D.Pool:=(⟨(⟨mkCellS fuel x.Memory.Cells (k),x.Memory.Free,(⟨x.Memory.Root.Tag,x.Memory.Root.At⟩:D.Word),mkPairS fuel x.Memory.Redexes (k+((ctCellS x.Memory.Cells:Nat):Int))⟩:D.Memory),mkWorkerS fuel x.Workers (k+((ctCellS x.Memory.Cells:Nat):Int)+((ctPairS x.Memory.Redexes:Nat):Int)),x.Active⟩:D.Pool)
def ctPool (x:D.Pool):Nat:=ctCellS x.Memory.Cells+ctPairS x.Memory.Redexes+ctWorkerS x.Workers
theorem z6D {fuel:Nat}{x:D.Pool}{k:Int}:(⟨(⟨(mkPool fuel x k).Memory.Cells,x.Memory.Free,(⟨x.Memory.Root.Tag,x.Memory.Root.At⟩:D.Word),(mkPool fuel x k).Memory.Redexes⟩:D.Memory),(mkPool fuel x k).Workers,x.Active⟩:D.Pool)=mkPool fuel x k:=rfl
theorem z99 {fuel:Nat}{x:D.Pool}{k:Int}(hf:18446744073709551616≤fuel) (hs:x.sz≤1048576) (h0:0≤k) (h1:k+(ctPool x:Nat)≤2147483648):z3G fuel x k=some (k+(ctPool x:Nat),(mkPool fuel x k).Memory.Cells,(mkPool fuel x k).Memory.Redexes,(mkPool fuel x k).Workers):=by
  unfold ctPool at h1 ⊢
  simp only [D.Pool.sz,D.Memory.sz] at hs
  unfold z3G mkPool
  simp (disch:=omega) only [z8y hf (show szL D.Cell.sz x.Memory.Cells≤1048576 by omega),z6J hf (show x.Memory.Redexes.length≤1048576 by omega),z7C hf (show szL D.Worker.sz x.Workers≤1048576 by omega),Option.bind_some,z3R]
  all_goals try simp only [Int.natCast_add,Int.add_assoc]

theorem z9b {fuel:Nat}{x:D.Pool}{k:Int}(hf:18446744073709551616≤fuel) (hs:x.sz≤1048576) (h0:0≤k) (h1:k+(ctPool x:Nat)≤2147483648):z2K fuel (mkPool fuel x k) k=some (k+(ctPool x:Nat)):=by
  unfold ctPool at h1 ⊢
  simp only [D.Pool.sz,D.Memory.sz] at hs
  unfold z2K mkPool
  simp (disch:=omega) only [z8B hf (show szL D.Cell.sz x.Memory.Cells≤1048576 by omega),z6K hf (show x.Memory.Redexes.length≤1048576 by omega),z7G hf (show szL D.Worker.sz x.Workers≤1048576 by omega),Option.bind_some,lt_f,if_false,z3S]
  all_goals try simp only [Int.natCast_add,Int.add_assoc]

theorem zd5 {x:D.Pool}:ctPool x≤64*x.sz:=by
  unfold ctPool
  simp only [D.Pool.sz,D.Memory.sz]
  have:=zbG (xs:=x.Memory.Cells)
  have:=z8U (xs:=x.Memory.Redexes)
  have:=zad (xs:=x.Workers)
  omega

end Go.E


namespace Go.E
open Go.RowKit Go.Proofs
set_option linter.unusedSimpArgs false
set_option linter.unusedVariables false

theorem z41 {fuel:Nat}{a l h:Int}:zd fuel a l h=some (decide (l≤a∧a≤h)):=by
  unfold zd
  by_cases h1:l≤a
  · rw [if_pos (decide_eq_true (by omega))];simp [h1]
  · rw [if_neg (by simp;omega)];simp [h1]

def portsN (k f:Int):Int:=
  if k=9 then(if 0≤f∧f≤3 then 1+f else 0) else if f≠0 then 0 else if k=1∨k=5∨k=6∨k=12 then 1 else
  if k=8∨k=10∨k=11 then 2 else if k=2∨k=3∨k=4∨k=7 then 3 else 0
def levelN (k:Int):Bool:=decide (2≤k∧k≤12∧k≠5∧k≠6)
def allowN (k l:Int):Bool:=decide (1≤k∧k≤12) && (decide (l=0) || (levelN k && decide (0≤l∧l≤8)))
def defN (n:Int):Bool:=decide (0≤n∧n≤23)
def contentN (k v:Int) (d:List Int):Bool:=
  if k=6 then decide (d.length=0∧-2147483648≤v∧v≤2147483647) else
  if k=7 then decide (d.length=0∧1≤v∧v≤6) else
  if k=8 then decide (d.length=1∧1≤v∧v≤6) && d.all (fun n=>decide (-2147483648≤n∧n≤2147483647)) else
  if k=9 then decide (d.length=0∧0≤v∧v≤3) else
  if k=10 then decide (v=0∧1≤d.length∧d.length≤4) && d.all defN else
  if k=11 then decide (v=0∧d.length=2) && d.all defN else
  if k=12 then decide (d.length=0∧0≤v∧v≤23) else decide (v=0∧d.length=0)
def agentN (k l v:Int) (d:List Int) (n:Nat):Bool:=decide (portsN k (if k=9 then n - 1 else 0)=n) && (allowN k l && contentN k v d)

theorem kinds (k:Int):(k=1∨k=2∨k=3∨k=4∨k=5∨k=6∨k=7∨k=8∨k=9∨k=10∨k=11∨k=12)∨¬ (1≤k∧k≤12):=by omega
theorem zaQ {k:Int}(h:¬ (1≤k∧k≤12)) (c:Int) (h1:1≤c∧c≤12):(k == c)=false:=by
  rw [beq_eq_false_iff_ne];rintro rfl;exact h h1

theorem z8O {fuel:Nat}{k f:Int}:z2p fuel k f=some (portsN k f):=by
  by_cases h9:k=9
  · subst h9
    unfold z2p portsN
    simp only [z41,Option.bind_some,beq_self_eq_true,if_true,decide_eq_true_eq]
    split
    · rw [z7 (by omega) (by omega)]
    · rfl
  · by_cases hf:f=0
    · subst hf
      rcases kinds k with h | h
      · rcases h with rfl | rfl | rfl | rfl | rfl | rfl | rfl | rfl | rfl | rfl | rfl | rfl<;>first | exact absurd rfl h9 | rfl
      · simp [z2p,z2G,z2F,z2E,z2D,z2C,z2B,z2A,z2z,portsN,zaQ h,h9]
        omega
    · unfold z2p portsN
      rw [if_neg (by simpa using h9),if_pos (by simpa using hf),if_neg h9,if_pos hf]
theorem z6a {fuel:Nat}{k:Int}:z2Z fuel k=some (decide (1≤k∧k≤12)):=by
  unfold z2Z
  by_cases h1:1≤k
  · rw [if_pos (decide_eq_true (by omega))];simp [h1]
  · rw [if_neg (by simp;omega)];simp [h1]
theorem zbs {fuel:Nat}{k f:Int}:z3i fuel k f=some (portsN k f):=by
  by_cases h9:k=9
  · subst h9
    unfold z3i portsN zZ
    simp only [z6a,Option.bind_some,beq_self_eq_true,if_true]
    by_cases h0:0≤f
    · by_cases h3:f≤3
      · rw [if_pos (decide_eq_true (by omega)),if_pos (decide_eq_true h3),if_pos ⟨h0,h3⟩,z7 (by omega) (by omega),Int.add_comm]
      · rw [if_pos (decide_eq_true (by omega)),if_neg (by simpa using h3)];simp [zv,h3]
    · rw [if_neg (by simp;omega),if_neg Bool.false_ne_true];simp [zv,h0]
  · unfold z3i zZ
    rw [if_neg (by simpa using h9),if_neg Bool.false_ne_true,z6a,Option.bind_some]
    rcases kinds k with h | h
    · by_cases hf:f=0
      · subst hf
        rcases h with rfl | rfl | rfl | rfl | rfl | rfl | rfl | rfl | rfl | rfl | rfl | rfl<;>first | exact absurd rfl h9 | rfl
      · rw [if_neg (by simp;omega),if_neg (by simpa using h9),show(f != 0)=true by simpa using hf]
        simp [zv,portsN,h9,hf]
    · rw [if_pos (by simp;omega)]
      simp [zv,portsN,h9]
      omega

theorem z8S {fuel:Nat}{k:Int}:z2H fuel k=some (levelN k):=by
  rcases kinds k with h | h
  · rcases h with rfl | rfl | rfl | rfl | rfl | rfl | rfl | rfl | rfl | rfl | rfl | rfl<;>rfl
  · simp [z2H,z2d,z2c,z2b,z2a,z29,z28,z27,z26,levelN,zaQ h]
    omega
theorem zbx {fuel:Nat}{k:Int}:z3N fuel k=some (levelN k):=by
  unfold z3N
  rw [z6a,Option.bind_some]
  rcases kinds k with h | h
  · rcases h with rfl | rfl | rfl | rfl | rfl | rfl | rfl | rfl | rfl | rfl | rfl | rfl<;>rfl
  · rw [if_neg (by simpa using h)]
    simp [levelN];omega
theorem zbK {fuel:Nat}{k l:Int}:z3B fuel k l=some (allowN k l):=by
  unfold z3B z4X allowN
  simp only [z8S,z41,Option.bind_some]
  cases hl:levelN k with
  | true=>
    have:1≤k∧k≤12:=by unfold levelN at hl;simp at hl;omega
    simp [this];omega
  | false=>by_cases h:1≤k∧k≤12<;>by_cases h0:l=0<;>simp [h,h0]
theorem zbL {fuel:Nat}{k l:Int}:z3c fuel k l=some (allowN k l):=by
  unfold z3c allowN
  have hL:z4g fuel l=some (decide (0≤l∧l≤8)):=by
    unfold z4g
    by_cases h1:0≤l
    · rw [if_pos (decide_eq_true (by omega))];simp [h1]
    · rw [if_neg (by simp;omega)];simp [h1]
  simp only [z6a,zbx,hL,Option.bind_some]
  by_cases h:1≤k∧k≤12
  · by_cases h0:l=0
    · simp [h,h0]
    · cases hl:levelN k<;>simp [h,h0]
  · simp [h]

theorem zb4 {fuel:Nat}{n:Int}:z3P fuel n=some (defN n):=by
  unfold z3P defN;rw [z41];rfl
theorem zb5 {fuel:Nat}{n:Int}:z1B fuel n=some (defN n):=by
  unfold z1B defN
  by_cases h1:0≤n
  · rw [if_pos (decide_eq_true (by omega))];simp [h1];omega
  · rw [if_neg (by simp;omega)];simp [h1]
theorem zdn {fuel:Nat}{n:Int}:z4s fuel n=some (decide (-2147483648≤n∧n≤2147483647)):=by
  unfold z4s
  by_cases h1:-2147483648≤n
  · rw [if_pos (decide_eq_true (by omega))];simp [h1]
  · rw [if_neg (by simp;omega)];simp [h1]
theorem zc9 {fuel:Nat}{n:Int}:z1A fuel n=some (decide (1≤n∧n≤6)):=by
  unfold z1A
  by_cases h1:1≤n
  · rw [if_pos (decide_eq_true (by omega))];simp [h1]
  · rw [if_neg (by simp;omega)];simp [h1]
theorem zaC {α:Type}{p:α→Bool}:∀ {xs:List α},xs.any (fun x=>!p x)=!xs.all p
  | []=>rfl
  | x::xs=>by simp [zaC (p:=p) (xs:=xs)]
theorem zd3 {fuel:Nat}{a:D.Agent}(hf:18446744073709551616≤fuel) (hl:a.Data.length≤maxLen):
    ((iter (z1n fuel a) fuel 0).bind fun o=>aft o (z40 fuel))=some (a.Data.all defN):=by
  rw [askOne (xs:=a.Data) (p:=fun n=>!defN n) (v:=false) (t:=()) hl hf (fun i x hi hx=>by
    unfold z1n
    simp only [zb hx,zb4,lt_t (show(i:Int)<a.Data.length by omega),if_true,Option.bind_some]) (by simp [z1n]),zaC]
  cases a.Data.all defN<;>rfl
theorem zag {fuel:Nat}{p:Int→Bool}{f:Int→Option Bool}{xs:List Int}(hf:18446744073709551616≤fuel) (hl:xs.length≤maxLen) (h:∀ n,f n=some (p n)):
    zj fuel xs f=some (xs.any p):=by
  unfold zj zA
  obtain⟨r,h1,h2⟩:=askIndex (xs:=xs) (p:=p) (body:=zi fuel xs f) (j:=zM fuel) (t:=()) hl hf rfl (fun i x hi hx=>by
    simp only [zi,zb hx,h,lt_t (show(i:Int)<xs.length by omega),if_true,Option.bind_some]) (by simp [zi])
  rw [h1,Option.bind_some,h2]

theorem zae {fuel:Nat}{a:D.Agent}(hf:18446744073709551616≤fuel) (hl:a.Data.length≤maxLen):zg fuel a=some (contentN a.Kind a.Value a.Data):=by
  have hd:=zd3 (a:=a) hf hl
  obtain⟨k,l,v,d,ps⟩:=a
  dsimp only at hl hd ⊢
  by_cases h6:k=6
  · subst h6
    simp only [zg,contentN,z41,Option.bind_some,beq_self_eq_true,if_true]
    by_cases h:d.length=0<;>simp [h]<;>omega
  by_cases h7:k=7
  · subst h7
    simp only [zg,contentN,z41,Option.bind_some,beq_self_eq_true,if_true]
    by_cases h:d.length=0<;>simp [h]<;>omega
  by_cases h8:k=8
  · subst h8
    simp only [zg,contentN,z41,Option.bind_some,beq_self_eq_true,if_true]
    match d with
    | []=>simp
    | [n]=>by_cases h:1≤v∧v≤6<;>simp [h,idx]
    | _::_::_=>simp;omega
  by_cases h9:k=9
  · subst h9
    simp only [zg,contentN,z41,Option.bind_some,beq_self_eq_true,if_true]
    by_cases h:d.length=0<;>simp [h]<;>omega
  by_cases H:k=12
  · subst H
    simp only [zg,contentN,z41,zb4,Option.bind_some,beq_self_eq_true,if_true]
    by_cases h:d.length=0<;>simp [h,defN]<;>omega
  by_cases z:k=10
  · subst z
    simp only [zg,zw,zf,contentN,z41,Option.bind_some,beq_self_eq_true,if_true,hd]
    by_cases h:v=0
    · by_cases h1:1≤d.length∧d.length≤4
      · have h2:(1:Int)≤d.length∧(d.length:Int)≤4:=by omega
        simp [h,h1,h2]
      · have h2:¬ ((1:Int)≤d.length∧(d.length:Int)≤4):=by omega
        simp [h,h1,h2]
    · simp [h]
  by_cases G:k=11
  · subst G
    simp only [zg,zw,zf,contentN,z41,Option.bind_some,beq_self_eq_true,if_true,hd]
    by_cases h:v=0
    · by_cases h1:d.length=2
      · simp [h,h1]
      · have h2:¬ ((d.length:Int)=2):=by omega
        simp [h,h1,h2]
    · simp [h]
  · simp only [zg,zw,contentN,h6,h7,h8,h9,z,G,H,if_false]
    by_cases h:v=0<;>by_cases h1:d.length=0<;>simp [h,h1,h6,h7,h8,h9,z,G,H]

theorem zaf {fuel:Nat}{a:D.Agent}(hf:18446744073709551616≤fuel) (hl:a.Data.length≤maxLen):zx fuel a false=some (contentN a.Kind a.Value a.Data):=by
  unfold zx
  rw [if_neg Bool.false_ne_true,zag (p:=fun n=>!defN n) hf hl (fun n=>by unfold z2t;rw [zb5];rfl),Option.bind_some,zaC,Bool.not_not]
  obtain⟨k,l,v,d,ps⟩:=a
  dsimp only at hl ⊢
  simp only [z1v,z1u,z1t,z1s,z1r,zN,z1q,z1p,z17,zdn,zc9,zb5,Option.bind_some]
  by_cases h6:k=6
  · subst h6
    simp only [contentN,beq_self_eq_true,if_true]
    by_cases h:d.length=0<;>by_cases h1:-2147483648≤v∧v≤2147483647<;>simp [h,h1]
  by_cases h7:k=7
  · subst h7
    simp only [contentN,beq_self_eq_true,if_true]
    by_cases h:d.length=0<;>by_cases h1:1≤v∧v≤6<;>simp [h,h1]
  by_cases h8:k=8
  · subst h8
    simp only [contentN,beq_self_eq_true,if_true]
    match d with
    | []=>simp
    | [n]=>by_cases h:1≤v∧v≤6<;>simp [h,idx]
    | _::_::_=>simp;omega
  by_cases h9:k=9
  · subst h9
    simp only [contentN,beq_self_eq_true,if_true]
    by_cases h1:0≤v
    · by_cases h:d.length=0<;>by_cases h2:v<4<;>simp [h,h1,h2]<;>omega
    · simp [h1]
  by_cases H:k=12
  · subst H
    simp only [contentN,beq_self_eq_true,if_true]
    by_cases h:d.length=0<;>by_cases h1:0≤v∧v≤23<;>simp [h,h1,defN]
  by_cases z:k=10
  · subst z
    simp only [contentN,beq_self_eq_true,if_true]
    by_cases h:v=0
    · by_cases h1:1≤d.length
      · by_cases h2:d.length≤4
        · have h3:(1:Int)≤d.length:=by omega
          have h4:(d.length:Int)≤4:=by omega
          simp [h,h1,h2,h3,h4]
        · have h3:(1:Int)≤d.length:=by omega
          have h4:¬ (d.length:Int)≤4:=by omega
          simp [h,h1,h2,h3,h4]
      · have h3:¬ (1:Int)≤d.length:=by omega
        simp [h,h1,h3]
    · by_cases h1:(1:Int)≤d.length<;>by_cases h2:(d.length:Int)≤4<;>simp [h,h1,h2]
  by_cases G:k=11
  · subst G
    simp only [contentN,beq_self_eq_true,if_true]
    by_cases h:v=0<;>by_cases h1:d.length=2
    · simp [h,h1]
    · have h2:¬ ((d.length:Int)=2):=by omega
      simp [h,h1,h2]
    · simp [h,h1]
    · have h2:¬ ((d.length:Int)=2):=by omega
      simp [h,h1,h2]
  · simp only [contentN,h6,h7,h8,h9,z,G,H,if_false]
    by_cases h:v=0<;>by_cases h1:d.length=0<;>simp [h,h1,h6,h7,h8,h9,z,G,H]

theorem z6E {n:Nat}(hn:n≤maxLen):w64 ((n:Int) - 1)=(n:Int) - 1:=by
  have:maxLen=9223372036854775807:=rfl
  exact z7 (by omega) (by omega)
theorem zbN {fuel:Nat}{a:D.Agent}(hf:18446744073709551616≤fuel) (hl:a.Data.length≤maxLen) (h1:1≤a.Ports.length) (h2:a.Ports.length≤maxLen):
    zX fuel a=some (agentN a.Kind a.Level a.Value a.Data a.Ports.length):=by
  unfold zX agentN
  rw [if_neg (by simp;intro h;rw [h] at h1;exact absurd h1 (by decide))]
  have hF:z3L fuel a.Kind (a.Ports.length:Int)=some (if a.Kind=9 then(a.Ports.length:Int) - 1 else 0):=by
    unfold z3L
    by_cases h:a.Kind=9
    · rw [if_pos (by simpa using h),if_pos h,z6E h2]
    · rw [if_neg (by simpa using h),if_neg h]
  rw [hF,Option.bind_some,zbs,Option.bind_some,zbL,Option.bind_some]
  by_cases hp:portsN a.Kind (if a.Kind=9 then(a.Ports.length:Int) - 1 else 0)=(a.Ports.length:Int)
  · rw [if_neg (by simp [hp]),decide_eq_true hp,Bool.true_and]
    cases allowN a.Kind a.Level with
    | false=>rfl
    | true=>rw [Bool.true_and];exact zaf hf hl
  · rw [if_pos (by simpa using hp),decide_eq_false hp];rfl
theorem zbM {fuel:Nat}{a:D.Agent}(hf:18446744073709551616≤fuel) (hl:a.Data.length≤maxLen) (h1:1≤a.Ports.length) (h2:a.Ports.length≤maxLen):
    z1K fuel a=some (agentN a.Kind a.Level a.Value a.Data a.Ports.length):=by
  unfold z1K agentN
  have hF:z1k fuel a=some (if a.Kind=9 then(a.Ports.length:Int) - 1 else 0):=by
    unfold z1k
    by_cases h:a.Kind=9
    · rw [if_pos (by simpa using h),if_pos h,z6E h2]
    · rw [if_neg (by simpa using h),if_neg h]
  rw [hF,Option.bind_some,z8O,Option.bind_some,zbK,Option.bind_some,zae hf hl]
  by_cases hp:portsN a.Kind (if a.Kind=9 then(a.Ports.length:Int) - 1 else 0)=(a.Ports.length:Int)
  · rw [hp,if_pos (decide_eq_true (by omega)),if_pos (by simp),decide_eq_true rfl,Bool.true_and]
    cases allowN a.Kind a.Level<;>rfl
  · rw [decide_eq_false hp]
    generalize portsN a.Kind (if a.Kind=9 then(a.Ports.length:Int) - 1 else 0)=r at hp ⊢
    by_cases h:r>0
    · rw [if_pos (decide_eq_true h),if_neg (by simpa using fun h=>hp h.symm)];rfl
    · rw [if_neg (by simpa using h)];rfl



def agN (a:D.Agent):Bool:=decide (a.Ports.length≠0) && agentN a.Kind a.Level a.Value a.Data a.Ports.length
theorem zeb {fuel:Nat}{a:D.Agent}(hf:18446744073709551616≤fuel) (hl:a.Data.length≤maxLen) (h2:a.Ports.length≤maxLen):zX fuel a=some (agN a):=by
  by_cases h:a.Ports.length=0
  · unfold zX agN
    rw [if_pos (by simp [h]),show decide (a.Ports.length≠0)=false by simp [h],Bool.false_and]
    rfl
  · rw [zbN hf hl (by omega) h2]
    unfold agN
    rw [decide_eq_true (by simpa using h),Bool.true_and]
theorem zea {fuel:Nat}{a:D.Agent}(hf:18446744073709551616≤fuel) (hl:a.Data.length≤maxLen) (h2:a.Ports.length≤maxLen):z1K fuel a=some (agN a):=by
  by_cases h:a.Ports.length=0
  · unfold z1K agN
    have hF:z1k fuel a=some (if a.Kind=9 then(a.Ports.length:Int) - 1 else 0):=by
      unfold z1k
      by_cases h:a.Kind=9
      · rw [if_pos (by simpa using h),if_pos h,z6E h2]
      · rw [if_neg (by simpa using h),if_neg h]
    rw [hF,Option.bind_some,z8O,Option.bind_some,show decide (a.Ports.length≠0)=false by simp [h],Bool.false_and]
    generalize portsN a.Kind (if a.Kind=9 then(a.Ports.length:Int) - 1 else 0)=r
    by_cases hr:r>0
    · rw [if_pos (decide_eq_true hr),if_neg (by rw [h];simp;omega)]
    · rw [if_neg (by simpa using hr)]
  · rw [zbM hf hl (by omega) h2]
    unfold agN
    rw [decide_eq_true (by simpa using h),Bool.true_and]
end Go.E


namespace Go.E
open Go.RowKit Go.Proofs
set_option linter.unusedSimpArgs false
set_option linter.unusedVariables false


inductive Rnd (σ ρ:Type) where
  | go (s:σ)
  | back (r:ρ)
def foldR {α σ ρ:Type}(f:Nat→σ→α→Rnd σ ρ):Nat→List α→σ→Rnd σ ρ
  | _,[],s=>.go s
  | i,x::xs,s=>match f i s x with
    | .go s'=>foldR f (i+1) xs s'
    | .back r=>.back r
theorem loopR {α σ S τ ρ:Type}{xs:List α}{body:S→Option (Rd S τ ρ)}{mk:Int→σ→S}{out:σ→τ}{f:Nat→σ→α→Rnd σ ρ}{J:Nat→σ→Prop}{s0:σ}{fuel:Nat}
    (hl:xs.length≤maxLen) (hf:18446744073709551616≤fuel) (hJ:J 0 s0)
    (step:∀ (i:Nat) s x,i<xs.length→xs[i]? = some x→J i s→match f i s x with
      | .go s'=>body (mk i s)=some (.next (mk (w64 (i+1)) s'))∧J (i+1) s'
      | .back r=>body (mk i s)=some (.ret r))
    (last:∀ s,J xs.length s→body (mk xs.length s)=some (.brk (out s))):
    (match foldR f 0 xs s0 with
      | .go s=>iter body fuel (mk 0 s0)=some (.inl (out s))∧J xs.length s
      | .back r=>iter body fuel (mk 0 s0)=some (.inr r)):=by
  have hm:maxLen=9223372036854775807:=rfl
  have key:∀ (ys:List α) (i:Nat) (s:σ) (fu:Nat),i+ys.length=xs.length→(∀ j,ys[j]? = xs[i+j]?)→ys.length<fu→J i s→(match foldR f i ys s with
      | .go s'=>iter body fu (mk i s)=some (.inl (out s'))∧J xs.length s'
      | .back r=>iter body fu (mk i s)=some (.inr r)):=by
    intro ys
    induction ys with
    | nil=>
      intro i s fu hi _ hfu hj
      obtain⟨fu,rfl⟩:∃ f',fu=f'+1:=⟨fu - 1,by simp at hfu;omega⟩
      simp only [List.length_nil,Nat.add_zero] at hi
      subst hi
      simp only [foldR,iter,last s hj]
      exact⟨trivial,hj⟩
    | cons y ys ih=>
      intro i s fu hi hat hfu hj
      obtain⟨fu,rfl⟩:∃ f',fu=f'+1:=⟨fu - 1,by simp at hfu;omega⟩
      simp only [List.length_cons] at hi hfu
      have hx:xs[i]? = some y:=by have:=hat 0;simpa using this.symm
      have hs:=step i s y (by omega) hx hj
      unfold foldR
      cases hfs:f i s y with
      | go s'=>
        rw [hfs] at hs
        have h2:=ih (i+1) s' fu (by omega) (fun j=>by have:=hat (j+1);rw [show i+1+j=i+(j+1) by omega];simpa using this) (by omega) hs.2
        simp only [iter,hs.1]
        rw [z7 (by omega) (by omega)]
        exact_mod_cast h2
      | back r=>
        rw [hfs] at hs
        simp only [iter,hs]
  have:=key xs 0 s0 fuel (by simp) (by simp) (by omega) hJ
  exact_mod_cast this

theorem z6L {α:Type}{xs:List α}{p:Nat→α→Bool}{k:Nat}:((xs.zipIdx k).all fun y=>p y.2 y.1)=true↔∀ i x,xs[i]? = some x→p (k+i) x=true:=by
  rw [List.all_eq_true]
  constructor
  · intro h i x hx
    have:(x,k+i)∈xs.zipIdx k:=by
      rw [List.mem_zipIdx_iff_le_and_getElem?_sub]
      exact⟨Nat.le_add_right _ _,by simpa using hx⟩
    exact h _ this
  · rintro h ⟨x,j⟩ hj
    rw [List.mem_zipIdx_iff_le_and_getElem?_sub] at hj
    have:=h (j - k) x hj.2
    rwa [show k+(j - k)=j by have:=hj.1;simp at this;omega] at this

theorem z9W {α ρ:Type}{p:Nat→α→Bool}{v:ρ}:∀ {xs:List α}{k:Nat},foldR (fun i (_:Unit) x=>if p i x=true then Rnd.go () else Rnd.back v) k xs ()=if((xs.zipIdx k).all fun y=>p y.2 y.1)=true then Rnd.go () else Rnd.back v
  | [],k=>by simp [foldR]
  | x::xs,k=>by
    unfold foldR
    cases h:p k x with
    | true=>simp only [if_true,z9W (xs:=xs),List.zipIdx_cons,List.all_cons,h,Bool.true_and]
    | false=>simp [h]


theorem allLoop {α τ ρ:Type}{xs:List α}{body:Int→Option (Rd Int τ ρ)}{p:Nat→α→Bool}{t:τ}{v:ρ}{fuel:Nat}(hl:xs.length≤maxLen) (hf:18446744073709551616≤fuel)
    (step:∀ (i:Nat) x,i<xs.length→xs[i]? = some x→body i=if p i x=true then some (.next (w64 (i+1))) else some (.ret v)) (last:body xs.length=some (.brk t)):
    iter body fuel 0=some (if(xs.zipIdx.all fun y=>p y.2 y.1)=true then .inl t else .inr v):=by
  have h:=loopR (xs:=xs) (body:=body) (mk:=fun i _=>i) (out:=fun(_:Unit)=>t) (f:=fun i (_:Unit) x=>if p i x=true then Rnd.go () else Rnd.back v) (J:=fun _ _=>True) (s0:=()) hl hf trivial
    (fun i s x hi hx _=>by
      have:=step i x hi hx
      cases hp:p i x with
      | true=>rw [hp] at this;exact⟨this,trivial⟩
      | false=>rw [hp] at this;simpa using this) (fun s _=>last)
  rw [z9W] at h
  cases hp:(xs.zipIdx.all fun y=>p y.2 y.1) with
  | true=>rw [hp] at h;exact h.1
  | false=>rw [hp] at h;exact h

theorem z6T {α:Type}{xs:List α}{i:Nat}{x:α}(h:xs[i]? = some x):(xs.take (i+1)).zipIdx=(xs.take i).zipIdx++[(x,i)]:=by
  have hl:=(List.getElem?_eq_some_iff.1 h).1
  rw [List.take_add_one,h,List.zipIdx_append]
  simp [Nat.min_eq_left (Nat.le_of_lt hl)]

theorem appLoop {S τ ρ β:Type}{n:Nat}{body:S→Option (Rd S τ ρ)}{mk:Int→List β→S}{out:List β→τ}{g:Nat→List β}{s0:List β}{fuel:Nat}(hl:n≤1048576) (hf:18446744073709551616≤fuel)
    (step:∀ k:Nat,k<n→body (mk k (s0++(List.range k).flatMap g))=some (.next (mk (w64 (k+1)) (s0++(List.range k).flatMap g++g k))))
    (last:body (mk n (s0++(List.range n).flatMap g))=some (.brk (out (s0++(List.range n).flatMap g)))):
    iter body fuel (mk 0 s0)=some (.inl (out (s0++(List.range n).flatMap g))):=by
  obtain⟨o,h1,h2⟩:=zo (body:=body) (fun k s=>s=mk k (s0++(List.range k).flatMap g)) n (fun o=>o=.inl (out (s0++(List.range n).flatMap g))) (by
    rintro k s hk rfl
    refine .inl ⟨_,step k hk,?_⟩
    rw [z7 (by omega) (by omega),List.range_succ,List.flatMap_append,List.append_assoc]
    simp) (by
    rintro s rfl
    exact .inr ⟨_,last,rfl⟩) (fuel:=fuel) (i:=0) (s:=mk 0 s0) (Nat.zero_le _) (by omega) (by simp)
  rw [h1,h2]

theorem zipLoop {α S τ ρ β:Type}{xs:List α}{body:S→Option (Rd S τ ρ)}{mk:Int→List β→S}{out:List β→τ}{g:Nat→α→List β}{s0:List β}{fuel:Nat}(hl:xs.length≤1048576) (hf:18446744073709551616≤fuel)
    (step:∀ (i:Nat) x,xs[i]? = some x→body (mk i (s0++((xs.take i).zipIdx).flatMap fun x=>g x.2 x.1))=some (.next (mk (w64 (i+1)) (s0++(((xs.take i).zipIdx).flatMap fun x=>g x.2 x.1)++g i x))))
    (last:body (mk xs.length (s0++(xs.zipIdx).flatMap fun x=>g x.2 x.1))=some (.brk (out (s0++(xs.zipIdx).flatMap fun x=>g x.2 x.1)))):
    iter body fuel (mk 0 s0)=some (.inl (out (s0++(xs.zipIdx).flatMap fun x=>g x.2 x.1))):=by
  obtain⟨o,h1,h2⟩:=zo (body:=body) (fun k s=>s=mk k (s0++((xs.take k).zipIdx).flatMap fun x=>g x.2 x.1)) xs.length (fun o=>o=.inl (out (s0++(xs.zipIdx).flatMap fun x=>g x.2 x.1))) (by
    rintro k s hk rfl
    obtain⟨x,hx⟩:=z3Z hk
    refine .inl ⟨_,step k x hx,?_⟩
    rw [z7 (by omega) (by omega),z6T hx,List.flatMap_append,List.append_assoc]
    simp) (by
    rintro s rfl
    rw [List.take_length]
    exact .inr ⟨_,last,rfl⟩) (fuel:=fuel) (i:=0) (s:=mk 0 s0) (Nat.zero_le _) (by omega) (by simp)
  rw [h1,h2]

theorem sumLoop {α S τ ρ:Type}{xs:List α}{body:S→Option (Rd S τ ρ)}{mk:Int→Int→S}{out:Int→τ}{f:α→Nat}{c0:Int}{fuel:Nat}(hl:xs.length≤1048576) (hf:18446744073709551616≤fuel)
    (step:∀ (i:Nat) x,xs[i]? = some x→body (mk i (c0+(sumL f (xs.take i):Nat)))=some (.next (mk (w64 (i+1)) (c0+(sumL f (xs.take i):Nat)+(f x:Nat)))))
    (last:∀ c,body (mk xs.length c)=some (.brk (out c))):
    iter body fuel (mk 0 c0)=some (.inl (out (c0+(sumL f xs:Nat)))):=by
  obtain⟨o,h1,h2⟩:=zo (body:=body) (fun k s=>s=mk k (c0+(sumL f (xs.take k):Nat))) xs.length (fun o=>o=.inl (out (c0+(sumL f xs:Nat)))) (by
    rintro k s hk rfl
    obtain⟨x,hx⟩:=z3Z hk
    refine .inl ⟨_,step k x hx,?_⟩
    rw [z7 (by omega) (by omega),z6X hx]
    congr 1
    omega) (by
    rintro s rfl
    rw [List.take_length]
    exact .inr ⟨_,last _,rfl⟩) (fuel:=fuel) (i:=0) (s:=mk 0 c0) (Nat.zero_le _) (by omega) (by simp [sumL])
  rw [h1,h2]

end Go.E


namespace Go.E
open Go.RowKit Go.Proofs
set_option linter.unusedSimpArgs false
set_option linter.unusedVariables false


def portAt (n:D.Net) (p:D.Port):Option D.Port:=(idx n.Agents p.Agent).bind fun a=>idx a.Ports p.Slot
def hasN (l:List D.Agent) (p:D.Port):Bool:=decide (0≤p.Agent∧0≤p.Slot) && (l[p.Agent.toNat]?).any fun a=>decide (p.Slot<(a.Ports.length:Int))
def agentsN (l:List D.Agent):Bool:=decide (1≤l.length∧l.length≤600) && (l.zipIdx.all fun x=>agN x.1 && ((x.1.Kind == 1) == (x.2 == 0)))
def prt (i k:Nat):D.Port:=⟨i,k⟩
def chkN (n:D.Net) (i k:Nat) (p:D.Port):Bool:=!(decide (p=prt i k)) && (hasN n.Agents p && decide (portAt n p=some (prt i k)))
def netN (n:D.Net):Bool:=agentsN n.Agents && (n.Agents.zipIdx.all fun x=>x.1.Ports.zipIdx.all fun y=>chkN n x.2 y.2 y.1)

theorem zaS {α:Type}{xs:List α}{i:Int}(h:0≤i):idx xs i=xs[i.toNat]?:=by unfold idx;rw [if_pos h]
theorem z7v {l:List D.Agent}{p:D.Port}(h:hasN l p=true):0≤p.Agent∧0≤p.Slot∧∃ a q,l[p.Agent.toNat]? = some a∧idx l p.Agent=some a∧a.Ports[p.Slot.toNat]? = some q∧idx a.Ports p.Slot=some q∧p.Agent<l.length∧p.Slot<a.Ports.length:=by
  unfold hasN at h
  simp only [Bool.and_eq_true,decide_eq_true_eq] at h
  obtain⟨⟨h1,h2⟩,h3⟩:=h
  cases ha:l[p.Agent.toNat]? with
  | none=>rw [ha] at h3;simp at h3
  | some a=>
    rw [ha] at h3
    simp only [Option.any_some,decide_eq_true_eq] at h3
    obtain⟨q,hq⟩:=z3Z (xs:=a.Ports) (i:=p.Slot.toNat) (by omega)
    have:=(List.getElem?_eq_some_iff.1 ha).1
    exact⟨h1,h2,a,q,rfl,by rw [zaS h1,ha],hq,by rw [zaS h2,hq],by omega,h3⟩
theorem z4U {l:List D.Agent}{p:D.Port}:hasN l p=true↔0≤p.Agent∧0≤p.Slot∧∃ a,l[p.Agent.toNat]? = some a∧p.Slot<a.Ports.length:=by
  constructor
  · intro h
    obtain⟨h1,h2,a,q,h3,_,_,_,_,h4⟩:=z7v h
    exact⟨h1,h2,a,h3,h4⟩
  · rintro⟨h1,h2,a,h3,h4⟩
    unfold hasN
    rw [h3]
    simp [h1,h2,h4]
theorem zau {p q:D.Port}:(((p.Agent:Int) == q.Agent) && (((p.Slot:Int) == q.Slot) && true))=decide (p=q):=by
  obtain⟨a,b⟩:=p
  obtain⟨c,d⟩:=q
  by_cases h1:a=c<;>by_cases h2:b=d<;>simp [h1,h2]
theorem zdY {p:D.Port}{i k:Nat}:(((p.Agent:Int) == (i:Int)) && (((p.Slot:Int) == (k:Int)) && true))=decide (p=prt i k):=zau (q:=prt i k)

theorem z9T {l:List D.Agent}{p:D.Port}{fuel:Nat}(hl:l.length≤maxLen) (hp:∀ a,a∈l→a.Ports.length≤maxLen):z43 fuel l p=some (hasN l p):=by
  unfold z43
  rw [z41,Option.bind_some,z6E hl]
  by_cases h1:0≤p.Agent∧p.Agent≤(l.length:Int) - 1
  · rw [if_pos (by simpa using h1)]
    obtain⟨a,ha⟩:=z3Z (xs:=l) (i:=p.Agent.toNat) (by omega)
    rw [zaS h1.1,ha,Option.bind_some,z41,z6E (hp a (List.mem_of_getElem? ha)),Option.bind_some]
    unfold hasN
    rw [ha]
    simp only [Option.bind_some,Option.any_some]
    by_cases h2:0≤p.Slot<;>by_cases h3:p.Slot<(a.Ports.length:Int)<;>simp [h1.1,h2,h3]<;>omega
  · rw [if_neg (by simpa using h1)]
    unfold hasN
    by_cases h0:0≤p.Agent
    · rw [List.getElem?_eq_none (by omega)];simp
    · simp [h0]
theorem z9U {l:List D.Agent}{p:D.Port}{fuel:Nat}:z4h fuel l p=some (hasN l p):=by
  unfold z4h hasN
  by_cases h0:0≤p.Agent
  · rw [if_pos (by simpa using h0)]
    by_cases h1:p.Agent<l.length
    · rw [if_pos (by simpa using h1)]
      obtain⟨a,ha⟩:=z3Z (xs:=l) (i:=p.Agent.toNat) (by omega)
      by_cases h2:0≤p.Slot
      · rw [if_pos (by simpa using h2),zaS h0,ha];simp [h0,h2]
      · rw [if_neg (by simpa using h2)];simp [h2]
    · rw [if_neg (by simpa using h1),List.getElem?_eq_none (by omega)];simp
  · rw [if_neg (by simpa using h0)];simp [h0]
theorem z76 {n:D.Net}{p:D.Port}{fuel:Nat}:z19 fuel n p=portAt n p:=by
  unfold z19 portAt
  cases idx n.Agents p.Agent with
  | none=>rfl
  | some a=>
    simp only [Option.bind_some]
    cases idx a.Ports p.Slot<;>rfl


theorem zaR {i:Nat}:(((i:Int)) == 0)=(i == 0):=by
  by_cases h:i=0
  · subst h;rfl
  · have h2:¬ ((i:Int)=0):=by omega
    rw [beq_eq_false_iff_ne.2 h2,beq_eq_false_iff_ne.2 h]
theorem zaD {l:List D.Agent}{fuel:Nat}(hf:18446744073709551616≤fuel) (hl:l.length≤1048576) (hp:∀ a,a∈l→a.Data.length≤maxLen∧a.Ports.length≤maxLen):z33 fuel l=some (agentsN l):=by
  have hm:maxLen=9223372036854775807:=rfl
  unfold z33 agentsN
  rw [z41,Option.bind_some]
  by_cases h1:1≤l.length∧l.length≤600
  · rw [if_neg (by simp;omega),decide_eq_true h1,Bool.true_and,allLoop (xs:=l) (p:=fun i a=>agN a && ((a.Kind == 1) == (i == 0))) (t:=()) (v:=false) (by omega) hf (fun i a hi ha=>by
      unfold z2R
      rw [if_pos (by simpa using hi),zb ha,Option.bind_some,zea hf (hp a (List.mem_of_getElem? ha)).1 (hp a (List.mem_of_getElem? ha)).2,Option.bind_some]
      unfold z1J
      simp only [Option.bind_some,zaR]
      cases agN a<;>cases (a.Kind == 1)<;>cases (i == 0)<;>rfl) (by unfold z2R;simp)]
    cases (l.zipIdx.all fun x=>agN x.1 && ((x.1.Kind == 1) == (x.2 == 0)))<;>rfl
  · rw [if_pos (by simp;omega),decide_eq_false h1,Bool.false_and]
theorem zaE {l:List D.Agent}{fuel:Nat}(hf:18446744073709551616≤fuel) (hl:l.length≤1048576) (hp:∀ a,a∈l→a.Data.length≤maxLen∧a.Ports.length≤maxLen):z3d fuel l=some (agentsN l):=by
  have hm:maxLen=9223372036854775807:=rfl
  have key:∀ b:Bool,zY fuel l b=some (!b && (l.zipIdx.all fun x=>agN x.1 && ((x.1.Kind == 1) == (x.2 == 0)))):=fun b=>by
    unfold zY
    cases b with
    | true=>rfl
    | false=>
      rw [if_neg Bool.false_ne_true,allLoop (xs:=l) (p:=fun i a=>agN a && ((a.Kind == 1) == (i == 0))) (t:=()) (v:=false) (by omega) hf (fun i a hi ha=>by
        unfold z30
        rw [if_pos (by simpa using hi),zb ha,Option.bind_some,zeb hf (hp a (List.mem_of_getElem? ha)).1 (hp a (List.mem_of_getElem? ha)).2,Option.bind_some]
        unfold z1Q
        rw [zaR]
        cases agN a<;>cases (a.Kind == 1)<;>cases (i == 0)<;>rfl) (by unfold z30;simp)]
      cases (l.zipIdx.all fun x=>agN x.1 && ((x.1.Kind == 1) == (x.2 == 0)))<;>rfl
  unfold z3d agentsN
  by_cases h1:1≤l.length
  · rw [if_neg (by simp;omega),key]
    by_cases h2:l.length≤600
    · rw [decide_eq_false (by omega),decide_eq_true ⟨h1,h2⟩];rfl
    · rw [decide_eq_true (by omega),decide_eq_false (by omega)];rfl
  · rw [if_pos (by simp;omega),key,decide_eq_false (by omega)];rfl


theorem zaM {n:D.Net}{fuel:Nat}(hf:18446744073709551616≤fuel) (hl:n.Agents.length≤1048576) (hp:∀ a,a∈n.Agents→a.Data.length≤maxLen∧a.Ports.length≤maxLen):z4r fuel n=some (netN n):=by
  have hm:maxLen=9223372036854775807:=rfl
  unfold z4r netN
  rw [zaD hf hl hp,Option.bind_some]
  cases hA:agentsN n.Agents with
  | false=>rfl
  | true=>
    rw [if_neg (by simp),allLoop (xs:=n.Agents) (p:=fun i a=>a.Ports.zipIdx.all fun y=>chkN n i y.2 y.1) (t:=()) (v:=false) (by omega) hf (fun i a hi ha=>by
      have hpa:=(hp a (List.mem_of_getElem? ha)).2
      unfold z4E
      rw [if_pos (by simpa using hi),zb ha,Option.bind_some,allLoop (xs:=a.Ports) (p:=fun k p=>chkN n i k p) (t:=()) (v:=Rd.ret false) hpa hf (fun k p hk hq=>by
        unfold z4D
        rw [if_pos (by simpa using hk),zb hq,Option.bind_some,zdY,z9T (by omega) fun a ha=>(hp a ha).2]
        unfold z2y chkN
        by_cases h1:p=prt i k
        · rw [if_pos (decide_eq_true h1),decide_eq_true h1];rfl
        · rw [if_neg (by simpa using h1),decide_eq_false h1,Option.bind_some]
          cases h2:hasN n.Agents p with
          | false=>rfl
          | true=>
            obtain⟨_,_,b,q,_,h3,_,h4,_⟩:=z7v h2
            rw [if_neg (by simp),h3,Option.bind_some,h4,Option.bind_some,zdY]
            have:portAt n p=some q:=by unfold portAt;rw [h3,Option.bind_some,h4]
            rw [this]
            by_cases h5:q=prt i k
            · simp [h5]
            · simp [h5]) (by unfold z4D;simp)]
      cases (a.Ports.zipIdx.all fun y=>chkN n i y.2 y.1)<;>rfl) (by unfold z4E;simp)]
    cases (n.Agents.zipIdx.all fun x=>x.1.Ports.zipIdx.all fun y=>chkN n x.2 y.2 y.1)<;>rfl


def portsL (n:D.Net):List D.Port:=n.Agents.zipIdx.flatMap fun x=>(List.range x.1.Ports.length).map fun k=>prt x.2 k
theorem z9c:∀ (xs:List D.Agent) (k:Nat),((xs.zipIdx k).flatMap fun x=>(List.range x.1.Ports.length).map fun j=>prt x.2 j).length=sumL (fun a=>a.Ports.length) xs
  | [],k=>by simp [sumL]
  | x::xs,k=>by
    rw [List.zipIdx_cons,List.flatMap_cons,List.length_append,z9c xs (k+1)]
    simp [sumL]
theorem z6B {n:D.Net}:(portsL n).length=sumL (fun a=>a.Ports.length) n.Agents:=z9c _ _
theorem z9A {n:D.Net}(i:Nat):(((n.Agents.take i).zipIdx).flatMap fun x=>(List.range x.1.Ports.length).map fun j=>prt x.2 j).length≤sumL (fun a=>a.Ports.length) n.Agents:=by
  rw [z9c]
  have:=z1H (f:=fun a:D.Agent=>a.Ports.length) (xs:=n.Agents.take i) (ys:=n.Agents.drop i)
  rw [List.take_append_drop] at this
  omega
theorem netPorts {n:D.Net}{fuel:Nat}(hf:18446744073709551616≤fuel) (hl:n.Agents.length≤1048576) (hs:sumL (fun a=>a.Ports.length) n.Agents≤1048576):z1m fuel n=some (portsL n):=by
  have hm:maxLen=9223372036854775807:=rfl
  unfold z1m
  have h:=loopR (xs:=n.Agents) (body:=z1S fuel n) (mk:=fun i s=>(s,i)) (out:=fun s:List D.Port=>s) (ρ:=List D.Port)
    (f:=fun i s a=>Rnd.go (s++(List.range a.Ports.length).map fun k=>prt i k)) (J:=fun i s=>s=((n.Agents.take i).zipIdx).flatMap fun x=>(List.range x.1.Ports.length).map fun k=>prt x.2 k) (s0:=[]) (fuel:=fuel) (by omega) hf (by simp)
    (fun i s a hi ha hJ=>by
      have hpa:a.Ports.length≤1048576:=Nat.le_trans (z67 (f:=fun a:D.Agent=>a.Ports.length) (List.mem_of_getElem? ha)) hs
      have hJ':s++((List.range a.Ports.length).map fun k=>prt i k)=((n.Agents.take (i+1)).zipIdx).flatMap fun x=>(List.range x.1.Ports.length).map fun k=>prt x.2 k:=by
        rw [z6T ha,List.flatMap_append,hJ];simp
      refine⟨?_,hJ'⟩
      have hlen:=z9A (n:=n) (i+1)
      rw [← hJ',List.length_append,List.length_map,List.length_range] at hlen
      unfold z1S
      rw [if_pos (by simpa using hi),zb ha,Option.bind_some]
      obtain⟨o,h1,h2⟩:=zo (body:=z1R fuel (s,(i:Int)) a) (fun k q=>q.1=(k:Int)∧q.2=s++(List.range k).map fun j=>prt i j) a.Ports.length (fun o=>o=.inl (s++(List.range a.Ports.length).map fun j=>prt i j)) (by
        rintro k ⟨q1,q2⟩ hk ⟨g1,g2⟩
        dsimp only at g1 g2
        subst g1;subst g2
        refine .inl ⟨(w64 ((k:Int)+1),(s++(List.range k).map fun j=>prt i j)++[⟨(i:Int),(k:Int)⟩]),?_,?_,?_⟩
        · unfold z1R
          rw [if_pos (by simpa using hk),if_pos (by simp;omega)]
        · dsimp only;rw [z7 (by omega) (by omega)];simp
        · dsimp only;rw [List.range_succ,List.map_append];simp [prt]) (by
        rintro⟨q1,q2⟩ ⟨g1,g2⟩
        dsimp only at g1 g2
        subst g1;subst g2
        refine .inr ⟨_,?_,rfl⟩
        unfold z1R
        rw [if_neg (by simp)]) (fuel:=fuel) (i:=0) (s:=(0,s)) (Nat.zero_le _) (by omega) ⟨rfl,by simp⟩
      rw [h1,h2]
      rfl) (fun s _=>by unfold z1S;rw [if_neg (by simp)])
  have key:∀ (ys:List D.Agent) (k:Nat) (s:List D.Port),foldR (ρ:=List D.Port) (fun i s (a:D.Agent)=>Rnd.go (s++(List.range a.Ports.length).map fun k=>prt i k)) k ys s=Rnd.go (s++(ys.zipIdx k).flatMap fun x=>(List.range x.1.Ports.length).map fun j=>prt x.2 j):=by
    intro ys
    induction ys with
    | nil=>intro k s;simp [foldR]
    | cons y ys ih=>intro k s;unfold foldR;dsimp only;rw [ih,List.zipIdx_cons,List.flatMap_cons,List.append_assoc]
  rw [key] at h
  rw [show(([]:List D.Port),(0:Int))=(([]:List D.Port),((0:Nat):Int)) from rfl] at *
  rw [h.1]
  unfold portsL
  simp [aft,z4m]
theorem z6q {n:D.Net}{p:D.Port}:p∈portsL n↔∃ (i:Nat) (a:D.Agent) (k:Nat),n.Agents[i]? = some a∧k<a.Ports.length∧p=prt i k:=by
  unfold portsL
  rw [List.mem_flatMap]
  constructor
  · rintro⟨⟨a,i⟩,h1,h2⟩
    rw [List.mem_zipIdx_iff_getElem?] at h1
    obtain⟨k,hk,rfl⟩:=List.mem_map.1 h2
    exact⟨i,a,k,h1,List.mem_range.1 hk,rfl⟩
  · rintro⟨i,a,k,h1,h2,rfl⟩
    exact⟨(a,i),by rw [List.mem_zipIdx_iff_getElem?];exact h1,List.mem_map.2 ⟨k,List.mem_range.2 h2,rfl⟩⟩
theorem z88 {n:D.Net}{i k:Nat}{a:D.Agent}{q:D.Port}(ha:n.Agents[i]? = some a) (hq:a.Ports[k]? = some q):portAt n (prt i k)=some q:=by
  unfold portAt prt
  rw [zb ha,Option.bind_some,zb hq]
theorem z9j {fuel:Nat}{p:D.Port→Bool}{f:D.Port→Option Bool}{xs:List D.Port}(hf:18446744073709551616≤fuel) (hl:xs.length≤maxLen) (h:∀ n,n∈xs→f n=some (p n)):
    za fuel xs f=some (xs.any p):=by
  unfold za zm
  obtain⟨r,h1,h2⟩:=askIndex (xs:=xs) (p:=p) (body:=z9 fuel xs f) (j:=zr fuel) (t:=()) hl hf rfl (fun i x hi hx=>by
    simp only [z9,zb hx,h x (List.mem_of_getElem? hx),lt_t (show(i:Int)<xs.length by omega),if_true,Option.bind_some]) (by simp [z9])
  rw [h1,Option.bind_some,h2]
theorem zaN {n:D.Net}{fuel:Nat}(hf:18446744073709551616≤fuel) (hl:n.Agents.length≤1048576) (hs:sumL (fun a=>a.Ports.length) n.Agents≤1048576) (hp:∀ a,a∈n.Agents→a.Data.length≤maxLen∧a.Ports.length≤maxLen):z2M fuel n=some (netN n):=by
  have hm:maxLen=9223372036854775807:=rfl
  unfold z2M netN
  rw [zaE hf hl hp,Option.bind_some]
  cases hA:agentsN n.Agents with
  | false=>rfl
  | true=>
    let bad:D.Port→Bool:=fun p=>match portAt n p with
      | some q=>decide (q=p) || !(hasN n.Agents q && decide (portAt n q=some p))
      | none=>true
    rw [if_neg (by simp),netPorts hf hl hs,Option.bind_some,z9j (p:=bad) hf (by rw [z6B];omega) (fun p hpm=>by
      obtain⟨i,a,k,ha,hk,rfl⟩:=z6q.1 hpm
      obtain⟨q,hq⟩:=z3Z hk
      have hpa:=z88 ha hq
      unfold z3r
      show _=some (match portAt n (prt i k) with | some q=>_ | none=>_)
      rw [z76,hpa,Option.bind_some,zau]
      dsimp only
      by_cases h1:q=prt i k
      · rw [if_pos (decide_eq_true h1),decide_eq_true h1];rfl
      · rw [if_neg (by simpa using h1),decide_eq_false h1,z9U,Option.bind_some]
        cases h2:hasN n.Agents q with
        | false=>rfl
        | true=>
          obtain⟨_,_,b,r,_,h3,_,h4,_⟩:=z7v h2
          have hr:portAt n q=some r:=by unfold portAt;rw [h3,Option.bind_some,h4]
          rw [if_neg (by simp),z76,hr,Option.bind_some,zau]
          by_cases h5:r=prt i k<;>simp [h5]),Option.bind_some]
    congr 1
    rw [Bool.true_and,Bool.eq_iff_iff,Bool.not_eq_true',List.any_eq_false,z6L (xs:=n.Agents) (p:=fun i a=>a.Ports.zipIdx.all fun y=>chkN n i y.2 y.1)]
    constructor
    · intro h i a ha
      simp only [Nat.zero_add]
      rw [z6L (p:=fun k p=>chkN n i k p)]
      intro k q hq
      simp only [Nat.zero_add]
      have hk:=(List.getElem?_eq_some_iff.1 hq).1
      have:=h (prt i k) (z6q.2 ⟨i,a,k,ha,hk,rfl⟩)
      simp only [bad,z88 ha hq,Bool.or_eq_true,Bool.not_eq_true',not_or,decide_eq_true_eq,Bool.not_eq_false] at this
      unfold chkN
      rw [decide_eq_false this.1,this.2];rfl
    · intro h p hpm
      obtain⟨i,a,k,ha,hk,rfl⟩:=z6q.1 hpm
      obtain⟨q,hq⟩:=z3Z hk
      have h1:=h i a ha
      simp only [Nat.zero_add] at h1
      rw [z6L (p:=fun k p=>chkN n i k p)] at h1
      have h2:=h1 k q hq
      simp only [Nat.zero_add] at h2
      unfold chkN at h2
      rw [Bool.and_eq_true] at h2
      simp only [bad,z88 ha hq,h2.2,Bool.not_true,Bool.or_false,Bool.not_eq_true]
      simpa using h2.1
end Go.E


namespace Go.E
open Go.RowKit Go.Proofs
set_option linter.unusedSimpArgs false
set_option linter.unusedVariables false


theorem z7b {n:D.Net}{p:D.Port}(h:hasN n.Agents p=true):∃ q,portAt n p=some q:=by
  obtain⟨_,_,a,q,_,h4,_,h6,_⟩:=z7v h
  exact⟨q,by unfold portAt;rw [h4,Option.bind_some,h6]⟩

theorem z6C {n:D.Net}(hn:netN n=true){p q:D.Port}(hp:hasN n.Agents p=true) (hq:portAt n p=some q):q≠p∧hasN n.Agents q=true∧portAt n q=some p:=by
  unfold netN at hn
  rw [Bool.and_eq_true] at hn
  obtain⟨h1,h2,a,o,h3,h4,h5,h6,h7,h8⟩:=z7v hp
  have hqo:q=o:=by
    unfold portAt at hq
    rw [h4,Option.bind_some,h6] at hq
    exact(Option.some.inj hq).symm
  subst hqo
  have h9:=(z6L (xs:=n.Agents) (p:=fun i a=>a.Ports.zipIdx.all fun y=>chkN n i y.2 y.1)).1 hn.2 _ _ h3
  simp only [Nat.zero_add] at h9
  have d:=(z6L (xs:=a.Ports) (p:=fun k q=>chkN n p.Agent.toNat k q)).1 h9 _ _ h5
  simp only [Nat.zero_add] at d
  have hpe:prt p.Agent.toNat p.Slot.toNat=p:=by
    obtain⟨x,y⟩:=p
    unfold prt
    dsimp only at h1 h2 ⊢
    congr 1<;>omega
  unfold chkN at d
  rw [hpe] at d
  simp only [Bool.and_eq_true,Bool.not_eq_true',decide_eq_false_iff_not,decide_eq_true_eq] at d
  exact⟨d.1,d.2.1,d.2.2⟩
end Go.E


namespace Go.E
open Go.RowKit Go.Proofs
set_option linter.unusedSimpArgs false
set_option linter.unusedVariables false

theorem z7t {α β:Type}{f:β→Nat}{g:α→List β}:∀ {xs:List α},sumL f (xs.flatMap g)=sumL (fun x=>sumL f (g x)) xs
  | []=>rfl
  | x::xs=>by simp only [List.flatMap_cons,z1H,sumL,z7t (xs:=xs)]
theorem z9D {α:Type}{f g:α→Nat}:∀ {xs:List α},(∀ x,x∈xs→f x=g x)→sumL f xs=sumL g xs
  | [],_=>rfl
  | x::xs,h=>by simp only [sumL,h x (by simp),z9D fun y hy=>h y (List.mem_cons_of_mem _ hy)]
theorem z95 {α:Type}{f:α→Nat}{b:Nat}:∀ {xs:List α},(∀ x,x∈xs→f x≤b)→sumL f xs≤xs.length*b
  | [],_=>by simp [sumL]
  | x::xs,h=>by
    have:=z95 fun y hy=>h y (List.mem_cons_of_mem x hy)
    have:=h x (by simp)
    simp only [sumL,List.length_cons,Nat.succ_mul]
    omega
theorem z6i {α:Type}{f:α→Nat}{xs:List α}(i:Nat):sumL f (xs.take i)≤sumL f xs:=by
  have:=z1H (f:=f) (xs:=xs.take i) (ys:=xs.drop i)
  rw [List.take_append_drop] at this
  omega


def befN (p q:D.Port):Bool:=decide (p.Agent<q.Agent) || (decide (p.Agent=q.Agent) && decide (p.Slot<q.Slot))
def wireAt (n:D.Net) (p:D.Port):List D.Wire:=match portAt n p with
  | some q=>if befN p q=true then [⟨p,q⟩] else []
  | none=>[]
def wiresL (n:D.Net):List D.Wire:=(portsL n).flatMap (wireAt n)
theorem zaB {p q:D.Port}{fuel:Nat}:z32 fuel p q=some (befN p q):=by
  unfold z32 befN
  by_cases h1:p.Agent<q.Agent
  · simp [h1]
  · by_cases h2:p.Agent=q.Agent<;>simp [h1,h2]
theorem z8q {p q:D.Port}{fuel:Nat}:z1h fuel p q=some (befN p q):=by
  unfold z1h befN
  by_cases h1:p.Agent<q.Agent
  · simp [h1]
  · by_cases h2:p.Agent=q.Agent<;>simp [h1,h2]
theorem z8X {n:D.Net}{p:D.Port}:(wireAt n p).length≤1:=by
  unfold wireAt
  split
  · split<;>simp
  · simp
theorem z7c {α β:Type}{g:α→List β}(h:∀ x,(g x).length≤1):∀ xs:List α,(xs.flatMap g).length≤xs.length
  | []=>by simp
  | x::xs=>by
    rw [List.flatMap_cons,List.length_append,List.length_cons]
    have:=z7c h xs
    have:=h x
    omega
theorem z87 {β:Type}{n:D.Net}{g:D.Port→List β}:(portsL n).flatMap g=n.Agents.zipIdx.flatMap fun x=>(List.range x.1.Ports.length).flatMap fun k=>g (prt x.2 k):=by
  unfold portsL
  rw [List.flatMap_assoc]
  congr 1
  funext x
  rw [List.flatMap_map]
theorem z8F {n:D.Net}{fuel:Nat}(hf:18446744073709551616≤fuel) (hl:n.Agents.length≤1048576) (hs:sumL (fun a=>a.Ports.length) n.Agents≤1048576):z2x fuel n=some (wiresL n):=by
  have hm:maxLen=9223372036854775807:=rfl
  unfold z2x
  have h:=zipLoop (xs:=n.Agents) (body:=z21 fuel n) (mk:=fun i s=>(i,s)) (out:=fun s=>s) (g:=fun i a=>(List.range a.Ports.length).flatMap fun k=>wireAt n (prt i k)) (s0:=[]) hl hf (fun i a ha=>by
    have hil:=(List.getElem?_eq_some_iff.1 ha).1
    have hpa:a.Ports.length≤1048576:=Nat.le_trans (z67 (f:=fun a:D.Agent=>a.Ports.length) (List.mem_of_getElem? ha)) hs
    have hlen:=z9A (n:=n) (i+1)
    have hlen2:(((n.Agents.take i).zipIdx).flatMap fun x=>(List.range x.1.Ports.length).flatMap fun k=>wireAt n (prt x.2 k)).length+a.Ports.length≤1048576:=by
      have h1:(((n.Agents.take i).zipIdx).flatMap fun x=>(List.range x.1.Ports.length).flatMap fun k=>wireAt n (prt x.2 k)).length≤(((n.Agents.take i).zipIdx).flatMap fun x=>(List.range x.1.Ports.length).map fun j=>prt x.2 j).length:=by
        have:=z87 (n:=⟨n.Agents.take i⟩) (g:=wireAt n)
        rw [← this]
        exact z7c (fun p=>z8X) _
      rw [z6T ha,List.flatMap_append,List.length_append] at hlen
      simp only [List.flatMap_cons,List.flatMap_nil,List.append_nil,List.length_map,List.length_range] at hlen
      omega
    simp only [List.nil_append]
    generalize (((n.Agents.take i).zipIdx).flatMap fun x=>(List.range x.1.Ports.length).flatMap fun k=>wireAt n (prt x.2 k))=s at hlen2 ⊢
    unfold z21
    rw [if_pos (by simpa using hil)]
    have h2:=appLoop (body:=z20 fuel n ((i:Int),s)) (n:=a.Ports.length) (mk:=fun k s=>(k,s)) (out:=fun s=>s) (g:=fun k=>wireAt n (prt i k)) (s0:=s) hpa hf (fun k hk=>by
      obtain⟨q,hq⟩:=z3Z hk
      have hlk:=z7c (g:=fun k=>wireAt n (prt i k)) (fun k=>z8X) (List.range k)
      rw [List.length_range] at hlk
      have hw:wireAt n (prt i k)=if befN (prt i k) q=true then [⟨prt i k,q⟩] else []:=by
        unfold wireAt
        rw [z88 ha hq]
      rw [hw]
      unfold z20
      dsimp only
      rw [zb ha,Option.bind_some,if_pos (by simpa using hk),Option.bind_some,zb hq,Option.bind_some,zaB,Option.bind_some]
      change (if befN (prt i k) q=true then _ else _)=_
      cases hbf:befN (prt i k) q with
      | true=>
        have d:(s++(List.range k).flatMap fun k=>wireAt n (prt i k)).length+1≤4294967296:=by
          rw [List.length_append];omega
        rw [if_pos rfl,if_pos rfl,Option.bind_some,zb hq,Option.bind_some]
        generalize (s++(List.range k).flatMap fun k=>wireAt n (prt i k))=t at d ⊢
        rw [if_pos (by simp only [decide_eq_true_eq,List.length_cons,List.length_nil];omega)]
        unfold z1g
        rfl
      | false=>
        rw [if_neg (by simp),if_neg (by simp),List.append_nil]
        unfold z1g
        rfl) (by
      unfold z20
      simp only [zb ha,Option.bind_some]
      rw [if_neg (by simp)])
    rw [show((0:Int),s)=(((0:Int),s):Int × List D.Wire) from rfl] at *
    rw [h2]
    rfl) (by
    unfold z21
    rw [if_neg (by simp)])
  rw [h]
  simp only [Option.bind_some,aft,z4C,List.nil_append]
  unfold wiresL
  rw [z87]
end Go.E


namespace Go.E
open Go.RowKit Go.Proofs
set_option linter.unusedSimpArgs false
set_option linter.unusedVariables false

theorem zcb {x:D.Net}(h:x.sz≤1048576):x.Agents.length≤1048576∧sumL (fun a:D.Agent=>a.Ports.length) x.Agents≤1048576∧∀ a,a∈x.Agents→a.Data.length≤maxLen∧a.Ports.length≤maxLen:=by
  have hm:maxLen=9223372036854775807:=rfl
  unfold D.Net.sz szL at h
  have h1:∀ xs:List D.Agent,sumL (fun a:D.Agent=>a.Ports.length) xs≤sumL D.Agent.sz xs:=by
    intro xs
    induction xs with
    | nil=>exact Nat.le_refl _
    | cons y ys ih=>
        unfold sumL;have:y.Ports.length≤y.sz:=by unfold D.Agent.sz;omega
        omega
  refine⟨by omega,Nat.le_trans (h1 _) (by omega),fun a ha=>?_⟩
  have:=z67 (f:=D.Agent.sz) ha
  have h9:a.sz=a.Data.length+(a.Ports.length+0):=rfl
  omega
theorem z9m {x:D.Net}(h:x.sz≤1048576){a:D.Agent}(ha:a∈x.Agents):a.Data.length≤1048576∧a.Ports.length≤1048576:=by
  unfold D.Net.sz szL at h
  have:=z67 (f:=D.Agent.sz) ha
  have h9:a.sz=a.Data.length+(a.Ports.length+0):=rfl
  omega
end Go.E


namespace Go.E
open Go.RowKit Go.Proofs
set_option linter.unusedSimpArgs false
set_option linter.unusedVariables false

theorem z78 {n:D.Net}(hn:netN n=true){i:Nat}{a:D.Agent}(ha:n.Agents[i]? = some a):(a.Kind == 1)=decide (i=0):=by
  unfold netN at hn
  rw [Bool.and_eq_true] at hn
  have h1:=hn.1
  unfold agentsN at h1
  rw [Bool.and_eq_true] at h1
  have h2:=(z6L (xs:=n.Agents) (p:=fun i a=>agN a && ((a.Kind == 1) == (i == 0)))).1 h1.2 _ _ ha
  simp only [Nat.zero_add,Bool.and_eq_true] at h2
  have h3:=h2.2
  by_cases h0:i=0
  · subst h0;simpa using h3
  · simp only [h0,decide_false]
    rw [show(i == 0)=false by simpa using h0] at h3
    simpa using h3
def auxN (p:D.Port):Bool:=decide (p.Slot>0) || decide (p.Agent=0)
theorem zb6 {n:D.Net}{p:D.Port}{fuel:Nat}(hn:netN n=true) (hp:hasN n.Agents p=true):zu fuel p n=some (auxN p):=by
  obtain⟨h1,h2,a,q,h3,h4,_⟩:=z7v hp
  unfold zu auxN
  by_cases hs:p.Slot>0
  · simp [hs]
  · rw [if_neg (by simpa using hs),h4,Option.bind_some,z78 hn h3]
    congr 1
    by_cases h0:p.Agent=0
    · simp [h0,hs]
    · have:¬ p.Agent.toNat=0:=by omega
      simp [h0,hs,this]
theorem z8R {n:D.Net}{p q:D.Port}{fuel:Nat}(hn:netN n=true) (hp:hasN n.Agents p=true) (hq:hasN n.Agents q=true):zO fuel n p q=some (auxN p && auxN q):=by
  unfold zO
  rw [zb6 hn hp,Option.bind_some]
  cases auxN p with
  | true=>rw [if_pos rfl,zb6 hn hq];rfl
  | false=>rfl
def varW (w:D.Wire):Nat:=if auxN w.A=true∧w.B.Slot>0 then 1 else 0
def varP (n:D.Net) (p:D.Port):Nat:=match portAt n p with
  | some q=>if befN p q=true∧(auxN p && auxN q)=true then 1 else 0
  | none=>0
theorem zdc {n:D.Net}{p:D.Port}(hn:netN n=true) (hp:hasN n.Agents p=true):sumL varW (wireAt n p)=varP n p:=by
  obtain⟨q,hq⟩:=z7b hp
  obtain⟨h1,h2,h3⟩:=z6C hn hp hq
  obtain⟨a1,a2,_⟩:=z7v hp
  obtain⟨b1,b2,_⟩:=z7v h2
  unfold wireAt varP
  rw [hq]
  dsimp only
  by_cases hb:befN p q=true
  · rw [if_pos hb]
    simp only [sumL,varW,Nat.add_zero]
    have hk:auxN q=decide (q.Slot>0):=by
      unfold auxN
      unfold befN at hb
      simp only [Bool.or_eq_true,Bool.and_eq_true,decide_eq_true_eq] at hb
      by_cases hs:q.Slot>0
      · simp [hs]
      · have:¬ q.Agent=0:=by omega
        simp [hs,this]
    rw [hk]
    by_cases hs:q.Slot>0<;>cases auxN p<;>simp [hb,hs]
  · rw [if_neg hb,if_neg (fun h=>hb h.1)];rfl
theorem z7K {n:D.Net}{p:D.Port}(h:p∈portsL n):hasN n.Agents p=true:=by
  obtain⟨i,a,k,h1,h2,rfl⟩:=z6q.1 h
  exact z4U.2 ⟨by simp [prt],by simp [prt],a,by simpa [prt] using h1,by simpa [prt] using h2⟩
theorem zbQ {fuel:Nat}{x:D.Net}(hf:18446744073709551616≤fuel) (hs:x.sz≤1048576) (hn:netN x=true):
    z3g fuel x true=some ((sumL varW (wiresL x):Nat):Int)∧z2L fuel x=some (((x.Agents.length:Int) - 1)+((sumL varW (wiresL x):Nat):Int))∧sumL varW (wiresL x)≤1048576∧(wiresL x).length≤1048576:=by
  obtain⟨z1,z2,z3⟩:=zcb hs
  have hm:maxLen=9223372036854775807:=rfl
  have hw1:(wiresL x).length≤1048576:=by
    have:=z7c (g:=wireAt x) (fun p=>z8X) (portsL x)
    rw [z6B] at this
    exact Nat.le_trans this z2
  have hsum:sumL varW (wiresL x)=sumL (varP x) (portsL x):=by
    unfold wiresL
    rw [z7t]
    exact z9D fun p hp=>zdc hn (z7K hp)
  have hbd:sumL varW (wiresL x)≤1048576:=by
    have:=z95 (f:=varW) (b:=1) (xs:=wiresL x) (fun w _=>by unfold varW;split<;>omega)
    omega
  have hS:z3g fuel x true=some ((sumL varW (wiresL x):Nat):Int):=by
    unfold z3g
    have h:=sumLoop (xs:=wiresL x) (body:=z2w fuel true (wiresL x)) (mk:=fun i c=>(c,i)) (out:=fun c=>c) (f:=varW) (c0:=0) hw1 hf (fun i w hw=>by
      have hil:=(List.getElem?_eq_some_iff.1 hw).1
      have hle:=z6i (f:=varW) (xs:=wiresL x) i
      have hc0:0≤(0:Int)+(sumL varW ((wiresL x).take i):Nat)∧(0:Int)+(sumL varW ((wiresL x).take i):Nat)≤1048576:=by omega
      generalize ((0:Int)+(sumL varW ((wiresL x).take i):Nat))=c at *
      unfold z2w
      simp only [zb hw,Option.bind_some]
      rw [if_pos (by simpa using hil)]
      unfold zT z2v varW auxN
      by_cases h1:w.B.Slot>0
      · by_cases h2:w.A.Slot>0
        · simp [h1,h2,z7 (show -9223372036854775808≤c+1 by omega) (by omega)]
        · by_cases h3:w.A.Agent=0
          · simp [h1,h2,h3,z7 (show -9223372036854775808≤c+1 by omega) (by omega)]
          · simp [h1,h2,h3]
      · simp [h1]) (fun c=>by unfold z2w;rw [if_neg (by simp)])
    rw [z8F hf z1 z2,Option.bind_some,h]
    simp [aft,z4N]
  have hI:z2L fuel x=some (((x.Agents.length:Int) - 1)+((sumL (varP x) (portsL x):Nat):Int)):=by
    have hpl:(portsL x).length≤1048576:=by rw [z6B];exact z2
    unfold z2L
    have h:=sumLoop (xs:=portsL x) (body:=z2m fuel x (portsL x)) (mk:=fun i c=>(c,i)) (out:=fun c=>c) (f:=varP x) (c0:=(x.Agents.length:Int) - 1) hpl hf (fun i p hp=>by
      have hil:=(List.getElem?_eq_some_iff.1 hp).1
      have hle:=z6i (f:=varP x) (xs:=portsL x) i
      have hph:=z7K (List.mem_of_getElem? hp)
      obtain⟨q,hq⟩:=z7b hph
      obtain⟨h1,h2,h3⟩:=z6C hn hph hq
      have hc0:-1≤(x.Agents.length:Int) - 1+(sumL (varP x) ((portsL x).take i):Nat)∧(x.Agents.length:Int) - 1+(sumL (varP x) ((portsL x).take i):Nat)≤4194304:=by omega
      generalize ((x.Agents.length:Int) - 1+(sumL (varP x) ((portsL x).take i):Nat))=c at *
      unfold z2m
      simp only [zb hp,Option.bind_some]
      rw [if_pos (by simpa using hil),z76,hq,Option.bind_some,z8q,Option.bind_some,z8R hn hph h2]
      unfold z2k z5N varP
      rw [hq]
      dsimp only
      cases befN p q with
      | false=>simp
      | true=>
        cases (auxN p && auxN q) with
        | false=>simp [z7 (show -9223372036854775808≤c by omega) (by omega)]
        | true=>simp [z7 (show -9223372036854775808≤c+1 by omega) (by omega)]) (fun c=>by unfold z2m;rw [if_neg (by simp)])
    rw [netPorts hf z1 z2,Option.bind_some,z6E (by omega),h]
    simp [aft,z4L]
  refine⟨hS,?_,hbd,hw1⟩
  rw [hI,hsum]
end Go.E


