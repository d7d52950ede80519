/- What the functions that mark data and look for the marks give (written by program). Conditions: counts stay small. -/
import Derived.Test.YtijgffjimnbcpaaGreatSzDefs
import Derived.Test.YtijgffjimnbcpaaGreatSizesU
import Derived.Test.YtijgffjimnbcpaaGreatFA
import Derived.Test.YtijgffjimnbcpaaGreatFN
import Derived.Test.YtijgffjimnbcpaaGreatFV
import Derived.Test.YtijgffjimnbcpaaGreatFVb
import Derived.Test.YtijgffjimnbcpaaGreatHU
namespace Go.E
open Go.RowKit Go.Proofs
set_option linter.unusedSimpArgs false
set_option linter.unusedVariables false

def z6k (fuel:Nat) (x:Int) (k:Int):Int:=k
def z4U (x:Int):Nat:=1
def z57 (fuel:Nat) (xs:List Int) (k:Int):List Int:=markL (z6k fuel) z4U xs k
def z59 (xs:List Int):Nat:=sumL z4U xs
theorem z69 {fuel:Nat}{xs:List Int}{k:Int}(hf:18446744073709551616≤fuel) (hl:xs.length≤1048576) (h0:0≤k) (h1:k+(z59 xs:Nat)≤2147483648):z25 fuel xs k=some (k+(z59 xs:Nat),z57 fuel xs k):=by
  unfold z25
  rw [z5G (f:=z6k fuel) (c:=z4U) (xs:=xs) (k:=k) (by have:=hl;omega) hf h0 h1 ?_ ?_]
  · rfl
  · intro i x ys k hi h hx hm h0 h1
    unfold z4U at h1
    unfold z2y z6k z4U
    rw [if_pos (decide_eq_true (show(i:Int)<xs.length by omega))]
    rw [if_pos (decide_eq_true (show 0≤(i:Int)∧(i:Int).toNat<ys.length from⟨by omega,by rw [h];simpa using hi⟩))]
    simp (disch:=omega) only [z5Z,Int.toNat_natCast,Int.ofNat_one,Int.natCast_one]
  · intro k ys;unfold z2y;rw [if_neg (by simp)]

theorem z7O {fuel:Nat}{xs:List Int}{k:Int}(hf:18446744073709551616≤fuel) (hl:xs.length≤1048576) (h0:0≤k) (h1:k+(z59 xs:Nat)≤2147483648):z2O fuel (z57 fuel xs k) k=some (k+(z59 xs:Nat)):=by
  unfold z2O
  have hlen:(z57 fuel xs k).length=xs.length:=z2S _ _
  rw [z7N (f:=z6k fuel) (c:=z4U) (xs:=xs) (k:=k) (by have:=hl;omega) hf h0 h1 ?_ ?_]
  · rfl
  · intro i x k' hi hx hm h0 h1
    unfold z4U at h1
    have h:(z57 fuel xs k)[i]? = some (z6k fuel x k'):=hx
    unfold z1J
    rw [if_pos (decide_eq_true (show(i:Int)<(z57 fuel xs k).length by rw [hlen];omega))]
    simp only [zO h,Option.bind_some]
    unfold z6k z4U
    simp (disch:=omega) only [z5Z,Option.bind_some,lt_f,if_false,bne_self_eq_false,Bool.false_eq_true,beq_self_eq_true,Bool.not_true,Int.ofNat_one,Int.natCast_one]
  · intro k';show z1J fuel (z57 fuel xs k) (k',((z57 fuel xs k).length:Int))=_;unfold z1J;rw [if_neg (by simp)]

theorem z7T {xs:List Int}:z59 xs≤64*(xs.length):=by
  have h:=z6o (c:=z4U) (g:=(fun _=>0)) (m:=64) (xs:=xs) fun x _=>by
    unfold z4U
    omega
  rw [z6r (fun _=>rfl)] at h
  exact h

def elWordS (fuel:Nat) (x:D.Word) (k:Int):D.Word:=(⟨k,k+1⟩:D.Word)
def ecWordS (x:D.Word):Nat:=1+1
def mkWordS (fuel:Nat) (xs:List D.Word) (k:Int):List D.Word:=markL (elWordS fuel) ecWordS xs k
def ctWordS (xs:List D.Word):Nat:=sumL ecWordS xs
theorem z7X {fuel:Nat}{xs:List D.Word}{k:Int}(hf:18446744073709551616≤fuel) (hl:xs.length≤1048576) (h0:0≤k) (h1:k+(ctWordS xs:Nat)≤2147483648):z3k fuel xs k=some (k+(ctWordS xs:Nat),mkWordS fuel xs k):=by
  unfold z3k
  rw [z5G (f:=elWordS fuel) (c:=ecWordS) (xs:=xs) (k:=k) (by have:=hl;omega) hf h0 h1 ?_ ?_]
  · rfl
  · intro i x ys k hi h hx hm h0 h1
    unfold ecWordS at h1
    unfold z31 elWordS ecWordS
    rw [if_pos (decide_eq_true (show(i:Int)<xs.length by omega))]
    simp only [zO hx,Option.bind_some]
    simp (disch:=omega) only [z5Z,Option.bind_some,Int.toNat_natCast]
    all_goals (refine congrArg some (congrArg Rd.next (Prod.ext ?_ ?_));rotate_left;first | rfl | (dsimp only;simp only [Int.natCast_add,Int.natCast_one,Int.ofNat_one,← Int.add_assoc]))
    all_goals (dsimp only;simp only [Int.natCast_add,Int.natCast_one,Int.ofNat_one];try omega)
  · intro k ys;unfold z31;rw [if_neg (by simp)]

theorem zaP {xs:List D.Word}:ctWordS xs≤64*(xs.length):=by
  have h:=z6o (c:=ecWordS) (g:=(fun _=>0)) (m:=64) (xs:=xs) fun x _=>by
    unfold ecWordS
    omega
  rw [z6r (fun _=>rfl)] at h
  exact h

def elCellS (fuel:Nat) (x:D.Cell) (k:Int):D.Cell:=(⟨k,k+1,k+1+1,(z57 fuel x.Data (k+1+1+1)),(mkWordS fuel x.Words (k+1+1+1+((z59 x.Data:Nat):Int)))⟩:D.Cell)
def ecCellS (x:D.Cell):Nat:=1+1+1+z59 x.Data+ctWordS x.Words
def mkCellS (fuel:Nat) (xs:List D.Cell) (k:Int):List D.Cell:=markL (elCellS fuel) ecCellS xs k
def ctCellS (xs:List D.Cell):Nat:=sumL ecCellS xs
theorem z80 {fuel:Nat}{xs:List D.Cell}{k:Int}(hf:18446744073709551616≤fuel) (hl:szL D.Cell.sz xs≤1048576) (h0:0≤k) (h1:k+(ctCellS xs:Nat)≤2147483648):z3o fuel xs k=some (k+(ctCellS xs:Nat),mkCellS fuel xs k):=by
  unfold z3o
  rw [z5G (f:=elCellS fuel) (c:=ecCellS) (xs:=xs) (k:=k) (by have:=(z6G hl);omega) hf h0 h1 ?_ ?_]
  · rfl
  · intro i x ys k hi h hx hm h0 h1
    unfold ecCellS at h1
    have hsx:=z5T hl hm
    unfold D.Cell.sz at hsx
    unfold z34 elCellS ecCellS
    rw [if_pos (decide_eq_true (show(i:Int)<xs.length by omega))]
    simp only [zO hx,Option.bind_some]
    simp (disch:=omega) only [z69 hf (show x.Data.length≤1048576 by omega),z7X hf (show x.Words.length≤1048576 by omega),z5Z,Option.bind_some,Int.toNat_natCast]
    all_goals (refine congrArg some (congrArg Rd.next (Prod.ext ?_ ?_));rotate_left;first | rfl | (dsimp only;simp only [Int.natCast_add,Int.natCast_one,Int.ofNat_one,← Int.add_assoc]))
    all_goals (dsimp only;simp only [Int.natCast_add,Int.natCast_one,Int.ofNat_one];try omega)
  · intro k ys;unfold z34;rw [if_neg (by simp)]

theorem zaS {xs:List D.Cell}:ctCellS xs≤64*(szL D.Cell.sz xs):=by
  have h:=z6o (c:=ecCellS) (g:=D.Cell.sz) (m:=64) (xs:=xs) fun x _=>by
    unfold ecCellS
    unfold D.Cell.sz
    have:=z7T (xs:=x.Data)
    have:=zaP (xs:=x.Words)
    omega
  exact h

def elPairS (fuel:Nat) (x:D.Pair) (k:Int):D.Pair:=(⟨k,k+1⟩:D.Pair)
def ecPairS (x:D.Pair):Nat:=1+1
def mkPairS (fuel:Nat) (xs:List D.Pair) (k:Int):List D.Pair:=markL (elPairS fuel) ecPairS xs k
def ctPairS (xs:List D.Pair):Nat:=sumL ecPairS xs
theorem z7Z {fuel:Nat}{xs:List D.Pair}{k:Int}(hf:18446744073709551616≤fuel) (hl:xs.length≤1048576) (h0:0≤k) (h1:k+(ctPairS xs:Nat)≤2147483648):z3n fuel xs k=some (k+(ctPairS xs:Nat),mkPairS fuel xs k):=by
  unfold z3n
  rw [z5G (f:=elPairS fuel) (c:=ecPairS) (xs:=xs) (k:=k) (by have:=hl;omega) hf h0 h1 ?_ ?_]
  · rfl
  · intro i x ys k hi h hx hm h0 h1
    unfold ecPairS at h1
    unfold z33 elPairS ecPairS
    rw [if_pos (decide_eq_true (show(i:Int)<xs.length by omega))]
    simp only [zO hx,Option.bind_some]
    simp (disch:=omega) only [z5Z,Option.bind_some,Int.toNat_natCast]
    all_goals (refine congrArg some (congrArg Rd.next (Prod.ext ?_ ?_));rotate_left;first | rfl | (dsimp only;simp only [Int.natCast_add,Int.natCast_one,Int.ofNat_one,← Int.add_assoc]))
    all_goals (dsimp only;simp only [Int.natCast_add,Int.natCast_one,Int.ofNat_one];try omega)
  · intro k ys;unfold z33;rw [if_neg (by simp)]

theorem zaR {xs:List D.Pair}:ctPairS xs≤64*(xs.length):=by
  have h:=z6o (c:=ecPairS) (g:=(fun _=>0)) (m:=64) (xs:=xs) fun x _=>by
    unfold ecPairS
    omega
  rw [z6r (fun _=>rfl)] at h
  exact h

def elPortS (fuel:Nat) (x:D.Port) (k:Int):D.Port:=(⟨k,k+1⟩:D.Port)
def ecPortS (x:D.Port):Nat:=1+1
def mkPortS (fuel:Nat) (xs:List D.Port) (k:Int):List D.Port:=markL (elPortS fuel) ecPortS xs k
def ctPortS (xs:List D.Port):Nat:=sumL ecPortS xs
theorem z7Y {fuel:Nat}{xs:List D.Port}{k:Int}(hf:18446744073709551616≤fuel) (hl:xs.length≤1048576) (h0:0≤k) (h1:k+(ctPortS xs:Nat)≤2147483648):z3m fuel xs k=some (k+(ctPortS xs:Nat),mkPortS fuel xs k):=by
  unfold z3m
  rw [z5G (f:=elPortS fuel) (c:=ecPortS) (xs:=xs) (k:=k) (by have:=hl;omega) hf h0 h1 ?_ ?_]
  · rfl
  · intro i x ys k hi h hx hm h0 h1
    unfold ecPortS at h1
    unfold z32 elPortS ecPortS
    rw [if_pos (decide_eq_true (show(i:Int)<xs.length by omega))]
    simp only [zO hx,Option.bind_some]
    simp (disch:=omega) only [z5Z,Option.bind_some,Int.toNat_natCast]
    all_goals (refine congrArg some (congrArg Rd.next (Prod.ext ?_ ?_));rotate_left;first | rfl | (dsimp only;simp only [Int.natCast_add,Int.natCast_one,Int.ofNat_one,← Int.add_assoc]))
    all_goals (dsimp only;simp only [Int.natCast_add,Int.natCast_one,Int.ofNat_one];try omega)
  · intro k ys;unfold z32;rw [if_neg (by simp)]

theorem z81 {fuel:Nat}{xs:List D.Port}{k:Int}(hf:18446744073709551616≤fuel) (hl:xs.length≤1048576) (h0:0≤k) (h1:k+(ctPortS xs:Nat)≤2147483648):z3p fuel (mkPortS fuel xs k) k=some (k+(ctPortS xs:Nat)):=by
  unfold z3p
  have hlen:(mkPortS fuel xs k).length=xs.length:=z2S _ _
  rw [z7N (f:=elPortS fuel) (c:=ecPortS) (xs:=xs) (k:=k) (by have:=hl;omega) hf h0 h1 ?_ ?_]
  · rfl
  · intro i x k' hi hx hm h0 h1
    unfold ecPortS at h1
    have h:(mkPortS fuel xs k)[i]? = some (elPortS fuel x k'):=hx
    unfold z28
    rw [if_pos (decide_eq_true (show(i:Int)<(mkPortS fuel xs k).length by rw [hlen];omega))]
    simp only [zO h,Option.bind_some]
    unfold elPortS ecPortS
    simp (disch:=omega) only [z5Z,Option.bind_some,lt_f,if_false,bne_self_eq_false,Bool.false_eq_true,beq_self_eq_true,Bool.not_true,Int.ofNat_one,Int.natCast_one]
    try (refine congrArg some (congrArg Rd.next (Prod.ext ?_ rfl));dsimp only;simp only [Int.natCast_add,Int.natCast_one,Int.ofNat_one];try omega)
  · intro k';show z28 fuel (mkPortS fuel xs k) (k',((mkPortS fuel xs k).length:Int))=_;unfold z28;rw [if_neg (by simp)]

theorem zaQ {xs:List D.Port}:ctPortS xs≤64*(xs.length):=by
  have h:=z6o (c:=ecPortS) (g:=(fun _=>0)) (m:=64) (xs:=xs) fun x _=>by
    unfold ecPortS
    omega
  rw [z6r (fun _=>rfl)] at h
  exact h

def elAgentS (fuel:Nat) (x:D.Agent) (k:Int):D.Agent:=(⟨k,k+1,k+1+1,(z57 fuel x.Data (k+1+1+1)),(mkPortS fuel x.Ports (k+1+1+1+((z59 x.Data:Nat):Int)))⟩:D.Agent)
def ecAgentS (x:D.Agent):Nat:=1+1+1+z59 x.Data+ctPortS x.Ports
def mkAgentS (fuel:Nat) (xs:List D.Agent) (k:Int):List D.Agent:=markL (elAgentS fuel) ecAgentS xs k
def ctAgentS (xs:List D.Agent):Nat:=sumL ecAgentS xs
theorem z7F {fuel:Nat}{xs:List D.Agent}{k:Int}(hf:18446744073709551616≤fuel) (hl:szL D.Agent.sz xs≤1048576) (h0:0≤k) (h1:k+(ctAgentS xs:Nat)≤2147483648):z2N fuel xs k=some (k+(ctAgentS xs:Nat),mkAgentS fuel xs k):=by
  unfold z2N
  rw [z5G (f:=elAgentS fuel) (c:=ecAgentS) (xs:=xs) (k:=k) (by have:=(z6G hl);omega) hf h0 h1 ?_ ?_]
  · rfl
  · intro i x ys k hi h hx hm h0 h1
    unfold ecAgentS at h1
    have hsx:=z5T hl hm
    unfold D.Agent.sz at hsx
    unfold z2z elAgentS ecAgentS
    rw [if_pos (decide_eq_true (show(i:Int)<xs.length by omega))]
    simp only [zO hx,Option.bind_some]
    simp (disch:=omega) only [z69 hf (show x.Data.length≤1048576 by omega),z7Y hf (show x.Ports.length≤1048576 by omega),z5Z,Option.bind_some,Int.toNat_natCast]
    all_goals (refine congrArg some (congrArg Rd.next (Prod.ext ?_ ?_));rotate_left;first | rfl | (dsimp only;simp only [Int.natCast_add,Int.natCast_one,Int.ofNat_one,← Int.add_assoc]))
    all_goals (dsimp only;simp only [Int.natCast_add,Int.natCast_one,Int.ofNat_one];try omega)
  · intro k ys;unfold z2z;rw [if_neg (by simp)]

theorem z7P {fuel:Nat}{xs:List D.Agent}{k:Int}(hf:18446744073709551616≤fuel) (hl:szL D.Agent.sz xs≤1048576) (h0:0≤k) (h1:k+(ctAgentS xs:Nat)≤2147483648):z2P fuel (mkAgentS fuel xs k) k=some (k+(ctAgentS xs:Nat)):=by
  unfold z2P
  have hlen:(mkAgentS fuel xs k).length=xs.length:=z2S _ _
  rw [z7N (f:=elAgentS fuel) (c:=ecAgentS) (xs:=xs) (k:=k) (by have:=(z6G hl);omega) hf h0 h1 ?_ ?_]
  · rfl
  · intro i x k' hi hx hm h0 h1
    unfold ecAgentS at h1
    have hsx:=z5T hl hm
    unfold D.Agent.sz at hsx
    have h:(mkAgentS fuel xs k)[i]? = some (elAgentS fuel x k'):=hx
    unfold z1K
    rw [if_pos (decide_eq_true (show(i:Int)<(mkAgentS fuel xs k).length by rw [hlen];omega))]
    simp only [zO h,Option.bind_some]
    unfold elAgentS ecAgentS
    simp (disch:=omega) only [z7O hf (show x.Data.length≤1048576 by omega),z81 hf (show x.Ports.length≤1048576 by omega),z5Z,Option.bind_some,lt_f,if_false,bne_self_eq_false,Bool.false_eq_true,beq_self_eq_true,Bool.not_true,Int.ofNat_one,Int.natCast_one]
    try (refine congrArg some (congrArg Rd.next (Prod.ext ?_ rfl));dsimp only;simp only [Int.natCast_add,Int.natCast_one,Int.ofNat_one];try omega)
  · intro k';show z1K fuel (mkAgentS fuel xs k) (k',((mkAgentS fuel xs k).length:Int))=_;unfold z1K;rw [if_neg (by simp)]

theorem z9Y {xs:List D.Agent}:ctAgentS xs≤64*(szL D.Agent.sz xs):=by
  have h:=z6o (c:=ecAgentS) (g:=D.Agent.sz) (m:=64) (xs:=xs) fun x _=>by
    unfold ecAgentS
    unfold D.Agent.sz
    have:=z7T (xs:=x.Data)
    have:=zaQ (xs:=x.Ports)
    omega
  exact h

def mkMemory (fuel:Nat) (x:D.Memory) (k:Int):D.Memory:=(⟨mkCellS fuel x.Cells (k),x.Free,(⟨x.Root.Tag,x.Root.At⟩:D.Word),mkPairS fuel x.Redexes (k+((ctCellS x.Cells:Nat):Int))⟩:D.Memory)
def ctMemory (x:D.Memory):Nat:=ctCellS x.Cells+ctPairS x.Redexes
theorem z7E {fuel:Nat}{x:D.Memory}{k:Int}(hf:18446744073709551616≤fuel) (hs:x.sz≤1048576) (h0:0≤k) (h1:k+(ctMemory x:Nat)≤2147483648):z2M fuel x k=some (k+(ctMemory x:Nat),(mkMemory fuel x k).Cells,(mkMemory fuel x k).Redexes):=by
  unfold ctMemory at h1 ⊢
  simp only [D.Memory.sz] at hs
  unfold z2M mkMemory
  simp (disch:=omega) only [z80 hf (show szL D.Cell.sz x.Cells≤1048576 by omega),z7Z hf (show x.Redexes.length≤1048576 by omega),Option.bind_some]
  all_goals try simp only [Int.natCast_add,Int.add_assoc]

theorem z9X {x:D.Memory}:ctMemory x≤64*x.sz:=by
  unfold ctMemory
  simp only [D.Memory.sz]
  have:=zaS (xs:=x.Cells)
  have:=zaR (xs:=x.Redexes)
  omega

def mkNet (fuel:Nat) (x:D.Net) (k:Int):D.Net:=(⟨mkAgentS fuel x.Agents (k)⟩:D.Net)
def ctNet (x:D.Net):Nat:=ctAgentS x.Agents
theorem z6z {fuel:Nat}{x:D.Net}{k:Int}:(⟨(mkNet fuel x k).Agents⟩:D.Net)=mkNet fuel x k:=rfl
theorem z9h {fuel:Nat}{x:D.Net}{k:Int}(hf:18446744073709551616≤fuel) (hs:x.sz≤1048576) (h0:0≤k) (h1:k+(ctNet x:Nat)≤2147483648):z4n fuel x k=some (k+(ctNet x:Nat),(mkNet fuel x k).Agents):=by
  unfold ctNet at h1 ⊢
  simp only [D.Net.sz] at hs
  unfold z4n mkNet
  simp (disch:=omega) only [z7F hf (show szL D.Agent.sz x.Agents≤1048576 by omega),Option.bind_some]
  all_goals try simp only [Int.natCast_add,Int.add_assoc]

theorem z9k {fuel:Nat}{x:D.Net}{k:Int}(hf:18446744073709551616≤fuel) (hs:x.sz≤1048576) (h0:0≤k) (h1:k+(ctNet x:Nat)≤2147483648):z3v fuel (mkNet fuel x k) k=some (k+(ctNet x:Nat)):=by
  unfold ctNet at h1 ⊢
  simp only [D.Net.sz] at hs
  unfold z3v mkNet
  simp (disch:=omega) only [z7P hf (show szL D.Agent.sz x.Agents≤1048576 by omega),Option.bind_some,lt_f,if_false]
  all_goals try simp only [Int.natCast_add,Int.add_assoc]

theorem zdb {x:D.Net}:ctNet x≤64*x.sz:=by
  unfold ctNet
  simp only [D.Net.sz]
  have:=z9Y (xs:=x.Agents)
  omega

end Go.E


namespace Go.E
open Go.RowKit Go.Proofs
set_option linter.unusedSimpArgs false
set_option linter.unusedVariables false

theorem z39 {fuel:Nat}{a l h:Int}:zg fuel a l h=some (decide (l≤a∧a≤h)):=by
  unfold zg
  by_cases h1:l≤a
  · rw [if_pos (decide_eq_true (by omega))];simp [h1]
  · rw [if_neg (by simp;omega)];simp [h1]

def portsN (k f:Int):Int:=
  if k=9 then(if 0≤f∧f≤3 then 1+f else 0) else if f≠0 then 0 else if k=1∨k=5∨k=6∨k=12 then 1 else
  if k=8∨k=10∨k=11 then 2 else if k=2∨k=3∨k=4∨k=7 then 3 else 0
def levelN (k:Int):Bool:=decide (2≤k∧k≤12∧k≠5∧k≠6)
def allowN (k l:Int):Bool:=decide (1≤k∧k≤12) && (decide (l=0) || (levelN k && decide (0≤l∧l≤8)))
def defN (n:Int):Bool:=decide (0≤n∧n≤23)
def contentN (k v:Int) (d:List Int):Bool:=
  if k=6 then decide (d.length=0∧-2147483648≤v∧v≤2147483647) else
  if k=7 then decide (d.length=0∧1≤v∧v≤6) else
  if k=8 then decide (d.length=1∧1≤v∧v≤6) && d.all (fun n=>decide (-2147483648≤n∧n≤2147483647)) else
  if k=9 then decide (d.length=0∧0≤v∧v≤3) else
  if k=10 then decide (v=0∧1≤d.length∧d.length≤4) && d.all defN else
  if k=11 then decide (v=0∧d.length=2) && d.all defN else
  if k=12 then decide (d.length=0∧0≤v∧v≤23) else decide (v=0∧d.length=0)
def agentN (k l v:Int) (d:List Int) (n:Nat):Bool:=decide (portsN k (if k=9 then n - 1 else 0)=n) && (allowN k l && contentN k v d)

theorem kinds (k:Int):(k=1∨k=2∨k=3∨k=4∨k=5∨k=6∨k=7∨k=8∨k=9∨k=10∨k=11∨k=12)∨¬ (1≤k∧k≤12):=by omega
theorem za6 {k:Int}(h:¬ (1≤k∧k≤12)) (c:Int) (h1:1≤c∧c≤12):(k == c)=false:=by
  rw [beq_eq_false_iff_ne];rintro rfl;exact h h1

theorem zaF {fuel:Nat}{k f:Int}:z2w fuel k f=some (portsN k f):=by
  by_cases h9:k=9
  · subst h9
    unfold z2w portsN
    simp only [z39,Option.bind_some,beq_self_eq_true,if_true,decide_eq_true_eq]
    split
    · rw [zh (by omega) (by omega)]
    · rfl
  · by_cases hf:f=0
    · subst hf
      rcases kinds k with h | h
      · rcases h with rfl | rfl | rfl | rfl | rfl | rfl | rfl | rfl | rfl | rfl | rfl | rfl<;>first | exact absurd rfl h9 | rfl
      · simp [z2w,z2L,z2K,z2J,z2H,z2G,z2F,z2E,z2D,portsN,za6 h,h9]
        omega
    · unfold z2w portsN
      rw [if_neg (by simpa using h9),if_pos (by simpa using hf),if_neg h9,if_pos hf]
theorem z5W {fuel:Nat}{k:Int}:z35 fuel k=some (decide (1≤k∧k≤12)):=by
  unfold z35
  by_cases h1:1≤k
  · rw [if_pos (decide_eq_true (by omega))];simp [h1]
  · rw [if_neg (by simp;omega)];simp [h1]
theorem zaG {fuel:Nat}{k f:Int}:z3w fuel k f=some (portsN k f):=by
  by_cases h9:k=9
  · subst h9
    unfold z3w portsN z1B
    simp only [z5W,Option.bind_some,beq_self_eq_true,if_true]
    by_cases h0:0≤f
    · by_cases h3:f≤3
      · rw [if_pos (decide_eq_true (by omega)),if_pos (decide_eq_true h3),if_pos ⟨h0,h3⟩,zh (by omega) (by omega),Int.add_comm]
      · rw [if_pos (decide_eq_true (by omega)),if_neg (by simpa using h3)];simp [zW,h3]
    · rw [if_neg (by simp;omega),if_neg Bool.false_ne_true];simp [zW,h0]
  · unfold z3w z1B
    rw [if_neg (by simpa using h9),if_neg Bool.false_ne_true,z5W,Option.bind_some]
    rcases kinds k with h | h
    · by_cases hf:f=0
      · subst hf
        rcases h with rfl | rfl | rfl | rfl | rfl | rfl | rfl | rfl | rfl | rfl | rfl | rfl<;>first | exact absurd rfl h9 | rfl
      · rw [if_neg (by simp;omega),if_neg (by simpa using h9),show(f != 0)=true by simpa using hf]
        simp [zW,portsN,h9,hf]
    · rw [if_pos (by simp;omega)]
      simp [zW,portsN,h9]
      omega

theorem zaH {fuel:Nat}{k:Int}:z3M fuel k=some (levelN k):=by
  rcases kinds k with h | h
  · rcases h with rfl | rfl | rfl | rfl | rfl | rfl | rfl | rfl | rfl | rfl | rfl | rfl<;>rfl
  · simp [z3M,z2t,z2s,z2r,z2q,z2p,z2o,z2n,z2m,levelN,za6 h]
    omega
theorem zaJ {fuel:Nat}{k:Int}:z3U fuel k=some (levelN k):=by
  unfold z3U
  rw [z5W,Option.bind_some]
  rcases kinds k with h | h
  · rcases h with rfl | rfl | rfl | rfl | rfl | rfl | rfl | rfl | rfl | rfl | rfl | rfl<;>rfl
  · rw [if_neg (by simpa using h)]
    simp [levelN];omega
theorem zb0 {fuel:Nat}{k l:Int}:z3L fuel k l=some (allowN k l):=by
  unfold z3L z4T allowN
  simp only [zaH,z39,Option.bind_some]
  cases hl:levelN k with
  | true=>
    have:1≤k∧k≤12:=by unfold levelN at hl;simp at hl;omega
    simp [this];omega
  | false=>by_cases h:1≤k∧k≤12<;>by_cases h0:l=0<;>simp [h,h0]
theorem zb1 {fuel:Nat}{k l:Int}:z3r fuel k l=some (allowN k l):=by
  unfold z3r allowN
  have hL:z4t fuel l=some (decide (0≤l∧l≤8)):=by
    unfold z4t
    by_cases h1:0≤l
    · rw [if_pos (decide_eq_true (by omega))];simp [h1]
    · rw [if_neg (by simp;omega)];simp [h1]
  simp only [z5W,zaJ,hL,Option.bind_some]
  by_cases h:1≤k∧k≤12
  · by_cases h0:l=0
    · simp [h,h0]
    · cases hl:levelN k<;>simp [h,h0]
  · simp [h]

theorem zam {fuel:Nat}{n:Int}:z40 fuel n=some (defN n):=by
  unfold z40 defN;rw [z39];rfl
theorem zan {fuel:Nat}{n:Int}:z27 fuel n=some (defN n):=by
  unfold z27 defN
  by_cases h1:0≤n
  · rw [if_pos (decide_eq_true (by omega))];simp [h1];omega
  · rw [if_neg (by simp;omega)];simp [h1]
theorem zcD {fuel:Nat}{n:Int}:z4w fuel n=some (decide (-2147483648≤n∧n≤2147483647)):=by
  unfold z4w
  by_cases h1:-2147483648≤n
  · rw [if_pos (decide_eq_true (by omega))];simp [h1]
  · rw [if_neg (by simp;omega)];simp [h1]
theorem zbp {fuel:Nat}{n:Int}:z26 fuel n=some (decide (1≤n∧n≤6)):=by
  unfold z26
  by_cases h1:1≤n
  · rw [if_pos (decide_eq_true (by omega))];simp [h1]
  · rw [if_neg (by simp;omega)];simp [h1]
theorem z6U {α:Type}{p:α→Bool}:∀ {xs:List α},xs.any (fun x=>!p x)=!xs.all p
  | []=>rfl
  | x::xs=>by simp [z6U (p:=p) (xs:=xs)]
theorem zcj {fuel:Nat}{a:D.Agent}(hf:18446744073709551616≤fuel) (hl:a.Data.length≤maxLen):
    ((iter (z1H fuel a) fuel 0).bind fun o=>aft o (z4c fuel))=some (a.Data.all defN):=by
  rw [askOne (xs:=a.Data) (p:=fun n=>!defN n) (v:=false) (t:=()) hl hf (fun i x hi hx=>by
    unfold z1H
    simp only [zO hx,zam,lt_t (show(i:Int)<a.Data.length by omega),if_true,Option.bind_some]) (by simp [z1H]),z6U]
  cases a.Data.all defN<;>rfl
theorem z9A {fuel:Nat}{p:Int→Bool}{f:Int→Option Bool}{xs:List Int}(hf:18446744073709551616≤fuel) (hl:xs.length≤maxLen) (h:∀ n,f n=some (p n)):
    zu fuel xs f=some (xs.any p):=by
  unfold zu z18
  obtain⟨r,h1,h2⟩:=askIndex (xs:=xs) (p:=p) (body:=zt fuel xs f) (j:=z1k fuel) (t:=()) hl hf rfl (fun i x hi hx=>by
    simp only [zt,zO hx,h,lt_t (show(i:Int)<xs.length by omega),if_true,Option.bind_some]) (by simp [zt])
  rw [h1,Option.bind_some,h2]

theorem z9y {fuel:Nat}{a:D.Agent}(hf:18446744073709551616≤fuel) (hl:a.Data.length≤maxLen):zq fuel a=some (contentN a.Kind a.Value a.Data):=by
  have hd:=zcj (a:=a) hf hl
  obtain⟨k,l,v,d,ps⟩:=a
  dsimp only at hl hd ⊢
  by_cases h6:k=6
  · subst h6
    simp only [zq,contentN,z39,Option.bind_some,beq_self_eq_true,if_true]
    by_cases h:d.length=0<;>simp [h]<;>omega
  by_cases h7:k=7
  · subst h7
    simp only [zq,contentN,z39,Option.bind_some,beq_self_eq_true,if_true]
    by_cases h:d.length=0<;>simp [h]<;>omega
  by_cases h8:k=8
  · subst h8
    simp only [zq,contentN,z39,Option.bind_some,beq_self_eq_true,if_true]
    match d with
    | []=>simp
    | [n]=>by_cases h:1≤v∧v≤6<;>simp [h,idx]
    | _::_::_=>simp;omega
  by_cases h9:k=9
  · subst h9
    simp only [zq,contentN,z39,Option.bind_some,beq_self_eq_true,if_true]
    by_cases h:d.length=0<;>simp [h]<;>omega
  by_cases z:k=12
  · subst z
    simp only [zq,contentN,z39,zam,Option.bind_some,beq_self_eq_true,if_true]
    by_cases h:d.length=0<;>simp [h,defN]<;>omega
  by_cases o:k=10
  · subst o
    simp only [zq,z16,zo,contentN,z39,Option.bind_some,beq_self_eq_true,if_true,hd]
    by_cases h:v=0
    · by_cases h1:1≤d.length∧d.length≤4
      · have h2:(1:Int)≤d.length∧(d.length:Int)≤4:=by omega
        simp [h,h1,h2]
      · have h2:¬ ((1:Int)≤d.length∧(d.length:Int)≤4):=by omega
        simp [h,h1,h2]
    · simp [h]
  by_cases y:k=11
  · subst y
    simp only [zq,z16,zo,contentN,z39,Option.bind_some,beq_self_eq_true,if_true,hd]
    by_cases h:v=0
    · by_cases h1:d.length=2
      · simp [h,h1]
      · have h2:¬ ((d.length:Int)=2):=by omega
        simp [h,h1,h2]
    · simp [h]
  · simp only [zq,z16,contentN,h6,h7,h8,h9,o,y,z,if_false]
    by_cases h:v=0<;>by_cases h1:d.length=0<;>simp [h,h1,h6,h7,h8,h9,o,y,z]

theorem z9z {fuel:Nat}{a:D.Agent}(hf:18446744073709551616≤fuel) (hl:a.Data.length≤maxLen):z17 fuel a false=some (contentN a.Kind a.Value a.Data):=by
  unfold z17
  rw [if_neg Bool.false_ne_true,z9A (p:=fun n=>!defN n) hf hl (fun n=>by unfold z2A;rw [zan];rfl),Option.bind_some,z6U,Bool.not_not]
  obtain⟨k,l,v,d,ps⟩:=a
  dsimp only at hl ⊢
  simp only [z1R,z1Q,z1P,z1O,z1N,z1t,z1M,z1L,z1E,zcD,zbp,zan,Option.bind_some]
  by_cases h6:k=6
  · subst h6
    simp only [contentN,beq_self_eq_true,if_true]
    by_cases h:d.length=0<;>by_cases h1:-2147483648≤v∧v≤2147483647<;>simp [h,h1]
  by_cases h7:k=7
  · subst h7
    simp only [contentN,beq_self_eq_true,if_true]
    by_cases h:d.length=0<;>by_cases h1:1≤v∧v≤6<;>simp [h,h1]
  by_cases h8:k=8
  · subst h8
    simp only [contentN,beq_self_eq_true,if_true]
    match d with
    | []=>simp
    | [n]=>by_cases h:1≤v∧v≤6<;>simp [h,idx]
    | _::_::_=>simp;omega
  by_cases h9:k=9
  · subst h9
    simp only [contentN,beq_self_eq_true,if_true]
    by_cases h1:0≤v
    · by_cases h:d.length=0<;>by_cases h2:v<4<;>simp [h,h1,h2]<;>omega
    · simp [h1]
  by_cases z:k=12
  · subst z
    simp only [contentN,beq_self_eq_true,if_true]
    by_cases h:d.length=0<;>by_cases h1:0≤v∧v≤23<;>simp [h,h1,defN]
  by_cases o:k=10
  · subst o
    simp only [contentN,beq_self_eq_true,if_true]
    by_cases h:v=0
    · by_cases h1:1≤d.length
      · by_cases h2:d.length≤4
        · have h3:(1:Int)≤d.length:=by omega
          have h4:(d.length:Int)≤4:=by omega
          simp [h,h1,h2,h3,h4]
        · have h3:(1:Int)≤d.length:=by omega
          have h4:¬ (d.length:Int)≤4:=by omega
          simp [h,h1,h2,h3,h4]
      · have h3:¬ (1:Int)≤d.length:=by omega
        simp [h,h1,h3]
    · by_cases h1:(1:Int)≤d.length<;>by_cases h2:(d.length:Int)≤4<;>simp [h,h1,h2]
  by_cases y:k=11
  · subst y
    simp only [contentN,beq_self_eq_true,if_true]
    by_cases h:v=0<;>by_cases h1:d.length=2
    · simp [h,h1]
    · have h2:¬ ((d.length:Int)=2):=by omega
      simp [h,h1,h2]
    · simp [h,h1]
    · have h2:¬ ((d.length:Int)=2):=by omega
      simp [h,h1,h2]
  · simp only [contentN,h6,h7,h8,h9,o,y,z,if_false]
    by_cases h:v=0<;>by_cases h1:d.length=0<;>simp [h,h1,h6,h7,h8,h9,o,y,z]

theorem z5B {n:Nat}(hn:n≤maxLen):w64 ((n:Int) - 1)=(n:Int) - 1:=by
  have:maxLen=9223372036854775807:=rfl
  exact zh (by omega) (by omega)
theorem zb3 {fuel:Nat}{a:D.Agent}(hf:18446744073709551616≤fuel) (hl:a.Data.length≤maxLen) (h1:1≤a.Ports.length) (h2:a.Ports.length≤maxLen):
    z2R fuel a=some (agentN a.Kind a.Level a.Value a.Data a.Ports.length):=by
  unfold z2R agentN
  rw [if_neg (by simp;intro h;rw [h] at h1;exact absurd h1 (by decide))]
  have hF:z3T fuel a.Kind (a.Ports.length:Int)=some (if a.Kind=9 then(a.Ports.length:Int) - 1 else 0):=by
    unfold z3T
    by_cases h:a.Kind=9
    · rw [if_pos (by simpa using h),if_pos h,z5B h2]
    · rw [if_neg (by simpa using h),if_neg h]
  rw [hF,Option.bind_some,zaG,Option.bind_some,zb1,Option.bind_some]
  by_cases hp:portsN a.Kind (if a.Kind=9 then(a.Ports.length:Int) - 1 else 0)=(a.Ports.length:Int)
  · rw [if_neg (by simp [hp]),decide_eq_true hp,Bool.true_and]
    cases allowN a.Kind a.Level with
    | false=>rfl
    | true=>rw [Bool.true_and];exact z9z hf hl
  · rw [if_pos (by simpa using hp),decide_eq_false hp];rfl
theorem zb2 {fuel:Nat}{a:D.Agent}(hf:18446744073709551616≤fuel) (hl:a.Data.length≤maxLen) (h1:1≤a.Ports.length) (h2:a.Ports.length≤maxLen):
    z3K fuel a=some (agentN a.Kind a.Level a.Value a.Data a.Ports.length):=by
  unfold z3K agentN
  have hF:z3i fuel a=some (if a.Kind=9 then(a.Ports.length:Int) - 1 else 0):=by
    unfold z3i
    by_cases h:a.Kind=9
    · rw [if_pos (by simpa using h),if_pos h,z5B h2]
    · rw [if_neg (by simpa using h),if_neg h]
  rw [hF,Option.bind_some,zaF,Option.bind_some,zb0,Option.bind_some,z9y hf hl]
  by_cases hp:portsN a.Kind (if a.Kind=9 then(a.Ports.length:Int) - 1 else 0)=(a.Ports.length:Int)
  · rw [hp,if_pos (decide_eq_true (by omega)),if_pos (by simp),decide_eq_true rfl,Bool.true_and]
    cases allowN a.Kind a.Level<;>rfl
  · rw [decide_eq_false hp]
    generalize portsN a.Kind (if a.Kind=9 then(a.Ports.length:Int) - 1 else 0)=r at hp ⊢
    by_cases h:r>0
    · rw [if_pos (decide_eq_true h),if_neg (by simpa using fun h=>hp h.symm)];rfl
    · rw [if_neg (by simpa using h)];rfl



end Go.E


namespace Go.E
open Go.RowKit Go.Proofs
set_option linter.unusedSimpArgs false
set_option linter.unusedVariables false
def agentKind (k:Int):Bool:=decide (2≤k∧k≤12)
theorem z2U {fuel:Nat}{c:D.Cell}:zB fuel c=some (agentKind c.Kind):=by
  unfold zB agentKind;rw [z39];rfl
theorem z2V {fuel:Nat}{c:D.Cell}:zd fuel c=some (agentKind c.Kind):=by
  unfold zd agentKind
  by_cases h1:2≤c.Kind
  · rw [if_pos (decide_eq_true (by omega))];simp [h1]
  · rw [if_neg (by simp;omega)];simp [h1]


def cellN (c:D.Cell):Bool:=
  if c.Kind=0 then decide (c.Level=0∧c.Data.length=0∧c.Words.length=0) else
  if c.Kind=13 then decide (c.Level=0∧c.Value=0∧c.Data.length=0∧c.Words.length<2) else
  agentKind c.Kind && agentN c.Kind c.Level c.Value c.Data (c.Words.length+1)

theorem z8y {fuel:Nat}{c:D.Cell}(hf:18446744073709551616≤fuel) (hl:c.Words.length≤1048576):
    ∃ ps:List D.Port,z3J fuel c=some ⟨c.Kind,c.Level,c.Value,c.Data,ps⟩∧ps.length=c.Words.length+1:=by
  obtain⟨o,h2,h3⟩:=z2f (body:=z2k fuel c) (fun i s=>s.1=(i:Int)∧s.2.length=i+1) c.Words.length (fun o=>∃ ps:List D.Port,o=.inl ps∧ps.length=c.Words.length+1) (by
    rintro i ⟨a,ps⟩ hi ⟨g1,g2⟩
    dsimp only at g1 g2
    subst g1
    refine .inl ⟨(w64 ((i:Int)+1),ps++[⟨0,0⟩]),?_,?_,?_⟩
    · unfold z2k
      rw [if_pos (decide_eq_true (by omega)),if_pos (decide_eq_true (by simp;omega))]
    · dsimp only;rw [zh (by omega) (by omega)];simp
    · simp [g2]) (by
    rintro⟨a,ps⟩ ⟨g1,g2⟩
    dsimp only at g1 g2
    subst g1
    refine .inr ⟨_,?_,ps,rfl,g2⟩
    unfold z2k
    rw [if_neg (by simp)]) (fuel:=fuel) (i:=0) (s:=(0,[⟨0,0⟩])) (Nat.zero_le _) (by omega) ⟨rfl,rfl⟩
  obtain⟨ps,rfl,h4⟩:=h3
  refine⟨ps,?_,h4⟩
  unfold z3J z3y
  rw [h2];rfl

theorem zcm {fuel:Nat}{c:D.Cell}(hf:18446744073709551616≤fuel) (hs:c.sz≤1048576):z3q fuel c=some (cellN c):=by
  have hm:maxLen=9223372036854775807:=rfl
  have hd:c.Data.length≤1048576:=by unfold D.Cell.sz at hs;omega
  have hw:c.Words.length≤1048576:=by unfold D.Cell.sz at hs;omega
  have hW:w64 ((c.Words.length:Int)+1)=((c.Words.length+1:Nat):Int):=by rw [zh (by omega) (by omega)];simp
  unfold z3q cellN
  rw [z2V,Option.bind_some]
  by_cases ha:2≤c.Kind∧c.Kind≤12
  · have o:agentKind c.Kind=true:=decide_eq_true ha
    rw [o,if_pos rfl,hW,if_pos (decide_eq_true (by omega)),zb3 hf (by dsimp only;omega) (by simp) (by simp;omega),if_neg (by omega),if_neg (by omega)]
    simp
  · have o:agentKind c.Kind=false:=decide_eq_false ha
    rw [o,if_neg Bool.false_ne_true]
    unfold zc zw
    simp only [Option.bind_some]
    by_cases h:c.Kind=13
    · rw [if_pos (by simpa using h),if_neg (show ¬ c.Kind=0 by omega),if_pos h]
      have e:decide ((c.Words.length:Int)≤1)=decide (c.Words.length<2):=by rw [decide_eq_decide];omega
      by_cases h1:c.Level=0<;>by_cases h2:c.Value=0<;>by_cases h3:c.Data.length=0<;>simp [h1,h2,h3,e]
    · rw [if_neg (by simpa using h)]
      by_cases h0:c.Kind=0
      · rw [if_pos (by simpa using h0),if_pos h0]
        by_cases h1:c.Level=0<;>by_cases h3:c.Data.length=0<;>by_cases h4:c.Words.length=0<;>simp [h1,h3,h4]
      · rw [if_neg (by simpa using h0),if_neg h0,if_neg h];rfl
theorem zck {fuel:Nat}{c:D.Cell}{n:Nat}(hf:18446744073709551616≤fuel) (hs:c.sz≤1048576) (hn:n≤maxLen):
    z4f fuel c n=some (cellN c && (if c.Kind=0 then decide (-1≤c.Value∧c.Value≤(n:Int) - 1) else true)):=by
  have hm:maxLen=9223372036854775807:=rfl
  have hd:c.Data.length≤1048576:=by unfold D.Cell.sz at hs;omega
  have hw:c.Words.length≤1048576:=by unfold D.Cell.sz at hs;omega
  unfold z4f cellN
  rw [z5B hn]
  by_cases h0:c.Kind=0
  · rw [if_pos (by simpa using h0),if_pos h0,if_pos h0]
    simp only [z39,Option.bind_some]
    by_cases h1:c.Level=0<;>by_cases h3:c.Data.length=0<;>by_cases h4:c.Words.length=0<;>simp [h1,h3,h4]
  · rw [if_neg (by simpa using h0),if_neg h0,if_neg h0,Bool.and_true]
    by_cases h:c.Kind=13
    · rw [if_pos (by simpa using h),if_pos h]
      by_cases h1:c.Level=0<;>by_cases h2:c.Value=0<;>by_cases h3:c.Data.length=0<;>simp [h1,h2,h3]
      omega
    · rw [if_neg (by simpa using h),if_neg h,z2U,Option.bind_some]
      by_cases ha:agentKind c.Kind=true
      · obtain⟨ps,h1,h2⟩:=z8y (c:=c) hf hw
        rw [if_pos ha,ha,h1,Option.bind_some,zb2 hf (by dsimp only;omega) (by dsimp only;omega) (by dsimp only;omega)]
        dsimp only [Option.bind_some]
        rw [h2];rfl
      · rw [if_neg ha,Bool.eq_false_iff.2 ha];rfl
end Go.E


namespace Go.E
open Go.RowKit Go.Proofs
set_option linter.unusedSimpArgs false
set_option linter.unusedVariables false


theorem foldLoop {α σ S τ ρ:Type}{xs:List α}{body:S→Option (Rd S τ ρ)}{mk:Int→σ→S}{out:σ→τ}{g:σ→α→σ}{p:α→Bool}{J:Nat→σ→Prop}{v:ρ}{s0:σ}{fuel:Nat}
    (hl:xs.length≤maxLen) (hf:18446744073709551616≤fuel) (hJ:J 0 s0)
    (keep:∀ (i:Nat) s x,xs[i]? = some x→p x=true→J i s→J (i+1) (g s x))
    (step:∀ (i:Nat) s x,i<xs.length→xs[i]? = some x→J i s→body (mk i s)=if p x=true then some (.next (mk (w64 (i+1)) (g s x))) else some (.ret v))
    (last:∀ s,J xs.length s→body (mk xs.length s)=some (.brk (out s))):
    iter body fuel (mk 0 s0)=some (if xs.all p=true then .inl (out (xs.foldl g s0)) else .inr v)∧(xs.all p=true→J xs.length (xs.foldl g s0)):=by
  have hm:maxLen=9223372036854775807:=rfl
  obtain⟨o,h2,h3⟩:=z2f (body:=body) (fun i s=>s=mk i ((xs.take i).foldl g s0)∧(xs.take i).all p=true∧J i ((xs.take i).foldl g s0)) xs.length
    (fun o=>o=(if xs.all p=true then .inl (out (xs.foldl g s0)) else .inr v)∧(xs.all p=true→J xs.length (xs.foldl g s0))) (by
    rintro i s hi ⟨rfl,ha,hj⟩
    obtain⟨x,hx⟩:=z4Y hi
    have hs:=step i _ x hi hx hj
    cases hp:p x with
    | false=>
      rw [hp,if_neg (by simp)] at hs
      have:xs.all p=false:=by
        rw [List.all_eq_false];exact⟨x,List.mem_of_getElem? hx,by rw [hp];simp⟩
      exact .inr (.inl ⟨_,hs,by rw [this];rfl,fun h=>by rw [this] at h;cases h⟩)
    | true=>
      rw [hp,if_pos rfl] at hs
      refine .inl ⟨_,hs,?_,?_,?_⟩
      · rw [zh (by omega) (by omega),List.take_add_one,hx];simp
      · rw [List.take_add_one,hx];simp [ha,hp]
      · rw [List.take_add_one,hx];simpa using keep i _ x hx hp hj) (by
    rintro s ⟨rfl,ha,hj⟩
    rw [List.take_length] at ha hj
    refine .inr ⟨_,by rw [List.take_length];exact last _ hj,?_,fun _=>hj⟩
    rw [if_pos ha]) (fuel:=fuel) (i:=0) (s:=mk 0 s0) (Nat.zero_le _) (by omega) ⟨rfl,rfl,hJ⟩
  exact⟨by rw [h2,h3.1],h3.2⟩

def agentAt (m:D.Memory) (i:Int):Bool:=decide (0≤i) && (m.Cells[i.toNat]?).any fun c=>agentKind c.Kind
def wordN (m:D.Memory) (w:D.Word):Bool:=decide (0≤w.At) && (m.Cells[w.At.toNat]?).any fun c=>(w.Tag == 1 && agentKind c.Kind) || (w.Tag == 2 && c.Kind == 13)
def redexN (m:D.Memory) (p:D.Pair):Bool:=decide (p.A<p.B) && (agentAt m p.A && agentAt m p.B)
def cntAt (t:List Int) (i:Int):List Int:=t.set i.toNat (w64 ((t[i.toNat]?).getD 0+1))
def wordsN (m:D.Memory):List D.Word:=m.Root::m.Cells.flatMap fun c=>c.Words

theorem z6e {m:D.Memory}{i:Int}(h0:0≤i) (h1:i<m.Cells.length):∃ c,m.Cells[i.toNat]? = some c∧idx m.Cells i=some c:=by
  obtain⟨c,hc⟩:=z4Y (xs:=m.Cells) (i:=i.toNat) (by omega)
  exact⟨c,hc,by unfold idx;rw [if_pos h0,hc]⟩
theorem z6h {fuel:Nat}{m:D.Memory}{i:Int}:zG fuel m i=some (decide (0≤i∧i<m.Cells.length)):=by
  unfold zG
  by_cases h1:0≤i
  · rw [if_pos (decide_eq_true (by omega))];simp [h1]
  · rw [if_neg (by simp;omega)];simp [h1]
theorem z7B {α:Type}{xs:List α}{i:Int}{p:α→Bool}(h:¬ (0≤i∧i<xs.length)):(decide (0≤i) && (xs[i.toNat]?).any p)=false:=by
  by_cases h0:0≤i
  · rw [List.getElem?_eq_none (by omega)];simp
  · simp [h0]
theorem zb6 {fuel:Nat}{m:D.Memory}{w:D.Word}:z1m fuel m w=some (wordN m w):=by
  unfold z1m wordN
  rw [z6h,Option.bind_some]
  by_cases h:0≤w.At∧w.At<m.Cells.length
  · obtain⟨c,h1,h2⟩:=z6e h.1 h.2
    rw [if_neg (by simpa using h),h1,h2,Option.bind_some,z2V,Option.bind_some]
    simp only [zc,Option.bind_some,h.1,decide_true,Bool.true_and,Option.any_some]
    by_cases t1:w.Tag=1
    · cases agentKind c.Kind<;>simp [t1]
    · by_cases t2:w.Tag=2<;>simp [t1,t2]
  · rw [if_pos (by simp;omega),z7B h]
theorem zb5 {fuel:Nat}{m:D.Memory}{w:D.Word}(hn:m.Cells.length≤maxLen):z4d fuel m w=some (wordN m w):=by
  unfold z4d wordN
  rw [z39,Option.bind_some,z5B hn]
  by_cases h:0≤w.At∧w.At<m.Cells.length
  · obtain⟨c,h1,h2⟩:=z6e h.1 h.2
    rw [if_neg (by simp;omega),h1,h2,Option.bind_some,z2U,Option.bind_some]
    simp only [h.1,decide_true,Bool.true_and,Option.any_some]
    by_cases t1:w.Tag=1
    · cases agentKind c.Kind<;>simp [t1]
    · by_cases t2:w.Tag=2<;>simp [t1,t2]
  · rw [if_pos (by simp;omega),z7B h]
theorem zaD {fuel:Nat}{m:D.Memory}{p:D.Pair}:z1f fuel m p=some (redexN m p):=by
  unfold z1f redexN agentAt
  by_cases hl:p.A<p.B
  · rw [if_pos (decide_eq_true hl),z6h,Option.bind_some,z6h,Option.bind_some]
    by_cases ha:0≤p.A∧p.A<m.Cells.length
    · rw [if_pos (decide_eq_true ha)]
      by_cases hb:0≤p.B∧p.B<m.Cells.length
      · obtain⟨c,h1,h2⟩:=z6e ha.1 ha.2
        obtain⟨d,h3,h4⟩:=z6e hb.1 hb.2
        rw [if_pos (decide_eq_true hb),h1,h2,h3,h4,Option.bind_some,z2V,Option.bind_some,Option.bind_some,z2V]
        simp only [Option.any_some]
        cases agentKind c.Kind<;>simp [hl,ha.1,hb.1]
      · rw [if_neg (by simpa using hb),z7B hb];simp
    · rw [if_neg (by simpa using ha),z7B ha];simp
  · rw [if_neg (by simpa using hl)];simp [hl]
theorem z8N {fuel:Nat}{p:D.Cell→Bool}{f:D.Cell→Option Bool}{xs:List D.Cell}(hf:18446744073709551616≤fuel) (hl:xs.length≤maxLen) (h:∀ n,n∈xs→f n=some (p n)):
    zb fuel xs f=some (xs.any p):=by
  unfold zb zA
  obtain⟨r,h1,h2⟩:=askIndex (xs:=xs) (p:=p) (body:=z8 fuel xs f) (j:=zR fuel) (t:=()) hl hf rfl (fun i x hi hx=>by
    simp only [z8,zO hx,h x (List.mem_of_getElem? hx),lt_t (show(i:Int)<xs.length by omega),if_true,Option.bind_some]) (by simp [z8])
  rw [h1,Option.bind_some,h2]
theorem z8L {fuel:Nat}{p:D.Word→Bool}{f:D.Word→Option Bool}{xs:List D.Word}(hf:18446744073709551616≤fuel) (hl:xs.length≤maxLen) (h:∀ n,n∈xs→f n=some (p n)):
    z9 fuel xs f=some (xs.any p):=by
  unfold z9 zx
  obtain⟨r,h1,h2⟩:=askIndex (xs:=xs) (p:=p) (body:=z6 fuel xs f) (j:=zP fuel) (t:=()) hl hf rfl (fun i x hi hx=>by
    simp only [z6,zO hx,h x (List.mem_of_getElem? hx),lt_t (show(i:Int)<xs.length by omega),if_true,Option.bind_some]) (by simp [z6])
  rw [h1,Option.bind_some,h2]
theorem z8M {fuel:Nat}{p:D.Pair→Bool}{f:D.Pair→Option Bool}{xs:List D.Pair}(hf:18446744073709551616≤fuel) (hl:xs.length≤maxLen) (h:∀ n,n∈xs→f n=some (p n)):
    za fuel xs f=some (xs.any p):=by
  unfold za zy
  obtain⟨r,h1,h2⟩:=askIndex (xs:=xs) (p:=p) (body:=z7 fuel xs f) (j:=zQ fuel) (t:=()) hl hf rfl (fun i x hi hx=>by
    simp only [z7,zO hx,h x (List.mem_of_getElem? hx),lt_t (show(i:Int)<xs.length by omega),if_true,Option.bind_some]) (by simp [z7])
  rw [h1,Option.bind_some,h2]


theorem z8S {m:D.Memory}(hs:m.sz≤1048576) (i:Nat):((m.Cells.take i).flatMap fun c=>c.Words).length≤1048576:=by
  have h:∀ xs:List D.Cell,(xs.flatMap fun c=>c.Words).length≤sumL D.Cell.sz xs:=by
    intro xs
    induction xs with
    | nil=>simp
    | cons x xs ih=>
        rw [List.flatMap_cons,List.length_append];unfold sumL;have:x.Words.length≤x.sz:=by unfold D.Cell.sz;omega
        omega
  have h2:sumL D.Cell.sz (m.Cells.take i)≤sumL D.Cell.sz m.Cells:=by
    have:=z5d (f:=D.Cell.sz) (xs:=m.Cells.take i) (ys:=m.Cells.drop i)
    rw [List.take_append_drop] at this;omega
  have h3:=h (m.Cells.take i)
  unfold D.Memory.sz szL at hs
  omega
theorem z8T {m:D.Memory}(hs:m.sz≤1048576):(wordsN m).length≤1048577:=by
  have:=z8S hs m.Cells.length
  rw [List.take_length] at this
  unfold wordsN
  rw [List.length_cons];omega
theorem zaL {cs:List D.Cell}:∀ {w:List D.Word},cs.foldl (fun s c=>s++c.Words) w=w++cs.flatMap fun c=>c.Words:=by
  induction cs with
  | nil=>intro w;simp
  | cons c cs ih=>intro w;rw [List.foldl_cons,ih,List.flatMap_cons,List.append_assoc]
theorem z83 {fuel:Nat}{m:D.Memory}(hf:18446744073709551616≤fuel) (hs:m.sz≤1048576):z3G fuel m=some (wordsN m):=by
  have hm:maxLen=9223372036854775807:=rfl
  have hn:m.Cells.length≤1048576:=by unfold D.Memory.sz szL at hs;omega
  have:=(foldLoop (xs:=m.Cells) (body:=z2g fuel m) (mk:=fun i s=>(i,s)) (out:=id) (g:=fun s c=>s++c.Words) (p:=fun _=>true) (v:=[]) (s0:=[m.Root]) (J:=fun i s=>s=m.Root::(m.Cells.take i).flatMap fun c=>c.Words) (by omega) hf rfl
    (fun i s x hx _ hj=>by subst hj;rw [List.take_add_one,hx];simp)
    (fun i s x hi hx hj=>by
      have h1:=z8S hs i
      have h2:x.Words.length≤1048576:=by
        have:=z5T (f:=D.Cell.sz) (xs:=m.Cells) (n:=1048576) (by unfold D.Memory.sz at hs;omega) (List.mem_of_getElem? hx)
        unfold D.Cell.sz at this;omega
      unfold z2g
      dsimp only
      rw [if_pos (decide_eq_true (by omega)),zO hx,Option.bind_some,if_pos (decide_eq_true (by rw [hj,List.length_cons];omega)),if_pos rfl])
    (fun s _=>by unfold z2g;dsimp only;rw [if_neg (by simp)];rfl)).1
  unfold z3G
  rw [this,zaL]
  simp [aft,z4C,wordsN]
theorem z84 {fuel:Nat}{m:D.Memory}(hf:18446744073709551616≤fuel) (hs:m.sz≤1048576):z2a fuel m=some (wordsN m):=by
  rw [← z83 hf hs];rfl


theorem z5a {m:D.Memory}{w:D.Word}(h:wordN m w=true):0≤w.At∧∃ c,m.Cells[w.At.toNat]? = some c∧idx m.Cells w.At=some c∧((w.Tag=1∧agentKind c.Kind=true)∨(w.Tag=2∧c.Kind=13)):=by
  unfold wordN at h
  rw [Bool.and_eq_true,decide_eq_true_eq] at h
  obtain⟨h0,h1⟩:=h
  cases hc:m.Cells[w.At.toNat]? with
  | none=>rw [hc] at h1;cases h1
  | some c=>
    rw [hc] at h1
    refine⟨h0,c,rfl,by unfold idx;rw [if_pos h0,hc],?_⟩
    simpa using h1
def stopN (m:D.Memory) (w:D.Word):Bool:=w.Tag == 1 || (m.Cells[w.At.toNat]?).any fun c=>c.Words.isEmpty
def nextN (m:D.Memory) (w:D.Word):D.Word:=match m.Cells[w.At.toNat]? with
  | some c=>c.Words.headD ⟨0,0⟩
  | none=>⟨0,0⟩
def resN (m:D.Memory):Nat→D.Word→Option D.Word
  | 0,_=>none
  | k+1,w=>if stopN m w=true then some w else resN m k (nextN m w)
theorem z79 {m:D.Memory}{c:D.Cell}{i:Nat}{w:D.Word}(hc:m.Cells[i]? = some c) (hw:w∈c.Words):w∈wordsN m:=
  List.mem_cons_of_mem _ (List.mem_flatMap.2 ⟨c,List.mem_of_getElem? hc,hw⟩)

theorem zct {m:D.Memory}{fl:Nat}(hn:m.Cells.length≤1048576) (hW:∀ w,w∈wordsN m→wordN m w=true):∀ (k:Nat) (w:D.Word) (fuel:Nat),wordN m w=true→k≤m.Cells.length+1→k<fuel→
    ∃ o,iter (z1s fl m) fuel ((k:Int) - 1,w.Tag,w.At)=some o∧(match resN m k w with | some r=>o=.inr (r,true) | none=>∃ t,o=.inl t):=by
  intro k
  induction k with
  | zero=>
    intro w fuel hw hk hfu
    cases fuel with
    | zero=>omega
    | succ fuel=>
      exact⟨.inl (w.Tag,w.At),by simp [iter,z1s],_,rfl⟩
  | succ k ih=>
    intro w fuel hw hk hfu
    cases fuel with
    | zero=>omega
    | succ fuel=>
      obtain⟨h0,c,h1,h2,h3⟩:=z5a hw
      have hb:z1s fl m (((k+1:Nat):Int) - 1,w.Tag,w.At)=if stopN m w=true then some (.ret (w,true)) else some (.next ((k:Int) - 1,(nextN m w).Tag,(nextN m w).At)):=by
        unfold z1s
        dsimp only
        rw [if_pos (decide_eq_true (by omega)),h2]
        unfold stopN nextN
        rw [h1]
        rcases h3 with⟨h3,h4⟩ | ⟨h3,h4⟩
        · rw [if_pos (by rw [h3];rfl),if_pos (by rw [h3];rfl)];rfl
        · rw [if_neg (by rw [h3];simp),Option.bind_some,h3]
          unfold z1G
          dsimp only
          rw [h2]
          cases hws:c.Words with
          | nil=>simp [hws,← h3]
          | cons v vs=>
            rw [if_neg (by simp;omega),if_neg (by simp [hws]),Option.bind_some,hws,show idx (v::vs) 0=some v from rfl,Option.bind_some,zh (by omega) (by omega)]
            simp
      simp only [iter,hb,resN]
      by_cases hst:stopN m w=true
      · rw [if_pos hst,if_pos hst];exact⟨_,rfl,rfl⟩
      · rw [if_neg hst,if_neg hst]
        refine ih (nextN m w) fuel ?_ (by omega) (by omega)
        unfold nextN
        rw [h1]
        cases hws:c.Words with
        | nil=>exact absurd (by unfold stopN;rw [h1];simp [hws]) hst
        | cons v vs=>
          show wordN m (c.Words.headD ⟨0,0⟩)=true
          rw [hws]
          exact hW v (z79 h1 (by rw [hws];exact List.mem_cons_self))
theorem zcu {m:D.Memory}{fl:Nat}(hn:m.Cells.length≤1048576) (hW:∀ w,w∈wordsN m→wordN m w=true):∀ (k:Nat) (w:D.Word) (fuel:Nat) (i:Nat),wordN m w=true→i+k=m.Cells.length+1→k<fuel→
    ∃ o,iter (zC fl m) fuel ((i:Int),w.Tag,w.At)=some o∧(match resN m k w with | some r=>o=.inr (r,true) | none=>∃ t,o=.inl t):=by
  have hN:w64 ((m.Cells.length:Int)+1)=((m.Cells.length+1:Nat):Int):=by rw [zh (by omega) (by omega)];simp
  intro k
  induction k with
  | zero=>
    intro w fuel i hw hk hfu
    cases fuel with
    | zero=>omega
    | succ fuel=>
      have hb:zC fl m ((i:Int),w.Tag,w.At)=some (.brk ()):=by
        unfold zC
        dsimp only
        rw [hN,if_neg (by simp;omega)]
      simp only [iter,hb]
      exact⟨_,rfl,_,rfl⟩
  | succ k ih=>
    intro w fuel i hw hk hfu
    cases fuel with
    | zero=>omega
    | succ fuel=>
      obtain⟨h0,c,h1,h2,h3⟩:=z5a hw
      have hb:zC fl m ((i:Int),w.Tag,w.At)=if stopN m w=true then some (.ret (w,true)) else some (.next (((i+1:Nat):Int),(nextN m w).Tag,(nextN m w).At)):=by
        unfold zC
        dsimp only
        rw [hN,if_pos (decide_eq_true (by omega)),h2]
        unfold stopN nextN
        rw [h1]
        rcases h3 with⟨h3,h4⟩ | ⟨h3,h4⟩
        · rw [if_pos (by rw [h3];rfl),if_pos (by rw [h3];rfl)];rfl
        · rw [if_neg (by rw [h3];simp),Option.bind_some,h3]
          unfold z1g
          dsimp only
          rw [h2]
          cases hws:c.Words with
          | nil=>simp [hws,← h3]
          | cons v vs=>
            rw [if_neg (by simp;omega),if_neg (by simp [hws]),Option.bind_some,hws,show idx (v::vs) 0=some v from rfl,Option.bind_some,zh (by omega) (by omega)]
            simp
      simp only [iter,hb,resN]
      by_cases hst:stopN m w=true
      · rw [if_pos hst,if_pos hst];exact⟨_,rfl,rfl⟩
      · rw [if_neg hst,if_neg hst]
        refine ih (nextN m w) fuel (i+1) ?_ (by omega) (by omega)
        unfold nextN
        rw [h1]
        cases hws:c.Words with
        | nil=>exact absurd (by unfold stopN;rw [h1];simp [hws]) hst
        | cons v vs=>
          show wordN m (c.Words.headD ⟨0,0⟩)=true
          rw [hws]
          exact hW v (z79 h1 (by rw [hws];exact List.mem_cons_self))
theorem z6X {m:D.Memory}{fuel:Nat}{w:D.Word}(hf:18446744073709551616≤fuel) (hn:m.Cells.length≤1048576) (hW:∀ w,w∈wordsN m→wordN m w=true) (hw:wordN m w=true):
    ∃ x,z1A fuel m w=some x∧x.2=(resN m (m.Cells.length+1) w).isSome∧∀ r,resN m (m.Cells.length+1) w=some r→x=(r,true):=by
  obtain⟨o,h1,h2⟩:=zct (fl:=fuel) hn hW (m.Cells.length+1) w fuel hw (Nat.le_refl _) (by omega)
  rw [show((m.Cells.length+1:Nat):Int) - 1=(m.Cells.length:Int) by omega] at h1
  unfold z1A
  rw [h1]
  cases hr:resN m (m.Cells.length+1) w with
  | some r=>rw [hr] at h2;subst h2;exact⟨_,rfl,rfl,fun r' h=>by cases h;rfl⟩
  | none=>rw [hr] at h2;obtain⟨t,rfl⟩:=h2;exact⟨_,rfl,rfl,fun r' h=>by cases h⟩
theorem z6Y {m:D.Memory}{fuel:Nat}{w:D.Word}(hf:18446744073709551616≤fuel) (hn:m.Cells.length≤1048576) (hW:∀ w,w∈wordsN m→wordN m w=true) (hw:wordN m w=true):
    ∃ x,zU fuel m w=some x∧x.2=(resN m (m.Cells.length+1) w).isSome∧∀ r,resN m (m.Cells.length+1) w=some r→x=(r,true):=by
  obtain⟨o,h1,h2⟩:=zcu (fl:=fuel) hn hW (m.Cells.length+1) w fuel 0 hw (by omega) (by omega)
  rw [show((0:Nat):Int)=0 from rfl] at h1
  unfold zU
  rw [h1]
  cases hr:resN m (m.Cells.length+1) w with
  | some r=>rw [hr] at h2;subst h2;exact⟨_,rfl,rfl,fun r' h=>by cases h;rfl⟩
  | none=>rw [hr] at h2;obtain⟨t,rfl⟩:=h2;exact⟨_,rfl,rfl,fun r' h=>by cases h⟩


def chainN (m:D.Memory):Nat→Int→Bool
  | 0,a=>a == -1
  | k+1,a=>decide (0≤a) && (m.Cells[a.toNat]?).any fun c=>c.Kind == 0 && chainN m k c.Value
theorem zaU {m:D.Memory}{fl:Nat}(hn:m.Cells.length≤1048576):∀ (k:Nat) (a:Int) (fuel:Nat),k≤m.Cells.length→k<fuel→
    ((iter (zr fl m) fuel ((k:Int),a)).bind fun o=>aft o (z2i fl))=some (chainN m k a):=by
  have hm:maxLen=9223372036854775807:=rfl
  intro k
  induction k with
  | zero=>
    intro a fuel hk hfu
    cases fuel with
    | zero=>omega
    | succ fuel=>simp [iter,zr,aft,z2i,chainN]
  | succ k ih=>
    intro a fuel hk hfu
    cases fuel with
    | zero=>omega
    | succ fuel=>
      by_cases h:0≤a∧a<m.Cells.length
      · obtain⟨c,h1,h2⟩:=z6e h.1 h.2
        by_cases h0:c.Kind=0
        · have hb:zr fl m (((k+1:Nat):Int),a)=some (.next ((k:Int),c.Value)):=by
            unfold zr z1j
            dsimp only
            rw [if_pos (decide_eq_true (by omega)),z39,z5B (by omega),Option.bind_some,if_neg (by simp;omega),h2,Option.bind_some,if_neg (by simp [h0]),Option.bind_some,zh (by omega) (by omega)]
            simp
          simp only [iter,hb,chainN,h1,h.1,decide_true,Bool.true_and,Option.any_some,h0,beq_self_eq_true]
          exact ih c.Value fuel (by omega) (by omega)
        · have hb:zr fl m (((k+1:Nat):Int),a)=some (.ret false):=by
            unfold zr z1j
            dsimp only
            rw [if_pos (decide_eq_true (by omega)),z39,z5B (by omega),Option.bind_some,if_neg (by simp;omega),h2,Option.bind_some,if_pos (by simpa using h0)]
          simp only [iter,hb,chainN,h1,h.1,decide_true,Bool.true_and,Option.any_some]
          rw [show(c.Kind == 0)=false by simpa using h0];rfl
      · have hb:zr fl m (((k+1:Nat):Int),a)=some (.ret false):=by
          unfold zr z1j
          dsimp only
          rw [if_pos (decide_eq_true (by omega)),z39,z5B (by omega),Option.bind_some,if_pos (by simp;omega)];rfl
        simp only [iter,hb,chainN,z7B h]
        rfl
theorem zaV {m:D.Memory}{fl:Nat}{t:Nat}(hn:m.Cells.length≤1048576) (ht:t≤m.Cells.length):∀ (k:Nat) (a:Int) (fuel:Nat) (i:Nat),i+k=t→k<fuel→
    ((iter (z5 fl m (t:Int)) fuel (a,(i:Int))).bind fun o=>aft o (z1W fl))=some (chainN m k a):=by
  have hm:maxLen=9223372036854775807:=rfl
  intro k
  induction k with
  | zero=>
    intro a fuel i hk hfu
    cases fuel with
    | zero=>omega
    | succ fuel=>
      have hb:z5 fl m (t:Int) (a,(i:Int))=some (.brk a):=by
        unfold z5
        dsimp only
        rw [if_neg (by simp;omega)]
      simp [iter,hb,aft,z1W,chainN]
  | succ k ih=>
    intro a fuel i hk hfu
    cases fuel with
    | zero=>omega
    | succ fuel=>
      by_cases h:0≤a∧a<m.Cells.length
      · obtain⟨c,h1,h2⟩:=z6e h.1 h.2
        by_cases h0:c.Kind=0
        · have hb:z5 fl m (t:Int) (a,(i:Int))=some (.next (c.Value,((i+1:Nat):Int))):=by
            unfold z5 zN zw
            dsimp only
            rw [if_pos (decide_eq_true (by omega)),z6h,Option.bind_some,if_neg (by simp;omega),h2,Option.bind_some,Option.bind_some,if_neg (by simp [h0]),Option.bind_some,zh (by omega) (by omega)]
            simp
          simp only [iter,hb,chainN,h1,h.1,decide_true,Bool.true_and,Option.any_some,h0,beq_self_eq_true]
          exact ih c.Value fuel (i+1) (by omega) (by omega)
        · have hb:z5 fl m (t:Int) (a,(i:Int))=some (.ret false):=by
            unfold z5 zN zw
            dsimp only
            rw [if_pos (decide_eq_true (by omega)),z6h,Option.bind_some,if_neg (by simp;omega),h2,Option.bind_some,Option.bind_some,if_pos (by simpa using h0)]
          simp only [iter,hb,chainN,h1,h.1,decide_true,Bool.true_and,Option.any_some]
          rw [show(c.Kind == 0)=false by simpa using h0];rfl
      · have hb:z5 fl m (t:Int) (a,(i:Int))=some (.ret false):=by
          unfold z5 zN
          dsimp only
          rw [if_pos (decide_eq_true (by omega)),z6h,Option.bind_some,if_pos (by simp;omega)];rfl
        simp only [iter,hb,chainN,z7B h]
        rfl
end Go.E


namespace Go.E
open Go.RowKit Go.Proofs
set_option linter.unusedSimpArgs false
set_option linter.unusedVariables false


def freeN (m:D.Memory):Nat:=m.Cells.countP fun c=>c.Kind == 0
theorem z9m {m:D.Memory}{i:Nat}{c:D.Cell}(hx:m.Cells[i]? = some c):(m.Cells.take (i+1)).countP (fun c=>c.Kind == 0)=(m.Cells.take i).countP (fun c=>c.Kind == 0)+if c.Kind=0 then 1 else 0:=by
  rw [List.take_add_one,hx,List.countP_append]
  by_cases h:c.Kind=0<;>simp [h]
theorem z8P {m:D.Memory}{fuel:Nat}(hf:18446744073709551616≤fuel) (hn:m.Cells.length≤1048576):z3H fuel m=some (chainN m (freeN m) m.Free):=by
  have hm:maxLen=9223372036854775807:=rfl
  obtain⟨h1,h2⟩:=foldLoop (xs:=m.Cells) (body:=z2j fuel m) (mk:=fun i s=>(s,i)) (out:=id) (g:=fun s c=>if c.Kind=0 then w64 (s+1) else s) (p:=fun _=>true) (v:=false) (s0:=0)
    (J:=fun i s=>s=(((m.Cells.take i).countP fun c=>c.Kind == 0:Nat):Int)) (by omega) hf rfl
    (fun i s x hx _ hj=>by
      have hle:=List.countP_le_length (p:=fun c:D.Cell=>c.Kind == 0) (l:=m.Cells.take i)
      rw [List.length_take] at hle
      rw [z9m hx]
      by_cases h:x.Kind=0
      · rw [if_pos h,if_pos h,hj,zh (by omega) (by omega)];simp
      · rw [if_neg h,if_neg h,hj];simp)
    (fun i s x hi hx hj=>by
      unfold z2j z2h
      dsimp only
      rw [if_pos (decide_eq_true (by omega)),zO hx,Option.bind_some,if_pos rfl]
      by_cases h:x.Kind=0<;>simp [h])
    (fun s _=>by unfold z2j;dsimp only;rw [if_neg (by simp)];rfl)
  unfold z3H
  rw [if_pos (by simp)] at h1
  have h3:=h2 (by simp)
  rw [List.take_length] at h3
  rw [h1,h3]
  show((iter (zr fuel m) fuel (((freeN m:Nat):Int),m.Free)).bind fun o=>aft o (z2i fuel))=_
  have:=List.countP_le_length (p:=fun c:D.Cell=>c.Kind == 0) (l:=m.Cells)
  exact zaU hn (freeN m) m.Free fuel (by unfold freeN;omega) (by unfold freeN;omega)
theorem z8Q {m:D.Memory}{fuel:Nat}(hf:18446744073709551616≤fuel) (hn:m.Cells.length≤1048576):z1T fuel m=some (chainN m (freeN m) m.Free):=by
  have hm:maxLen=9223372036854775807:=rfl
  obtain⟨h1,h2⟩:=foldLoop (xs:=m.Cells) (body:=z1o fuel m) (mk:=fun i s=>(s,i)) (out:=id) (g:=fun s c=>if c.Kind=0 then w64 (s+1) else s) (p:=fun _=>true) (v:=false) (s0:=0)
    (J:=fun i s=>s=(((m.Cells.take i).countP fun c=>c.Kind == 0:Nat):Int)) (by omega) hf rfl
    (fun i s x hx _ hj=>by
      have hle:=List.countP_le_length (p:=fun c:D.Cell=>c.Kind == 0) (l:=m.Cells.take i)
      rw [List.length_take] at hle
      rw [z9m hx]
      by_cases h:x.Kind=0
      · rw [if_pos h,if_pos h,hj,zh (by omega) (by omega)];simp
      · rw [if_neg h,if_neg h,hj];simp)
    (fun i s x hi hx hj=>by
      have hle:=List.countP_le_length (p:=fun c:D.Cell=>c.Kind == 0) (l:=m.Cells.take i)
      rw [List.length_take] at hle
      unfold z1o zw z5y
      dsimp only
      rw [if_pos (decide_eq_true (by omega)),zO hx,Option.bind_some,if_pos rfl]
      by_cases h:x.Kind=0
      · simp [h]
      · simp [h];rw [zh (by omega) (by omega)])
    (fun s _=>by unfold z1o;dsimp only;rw [if_neg (by simp)];rfl)
  unfold z1T
  rw [if_pos (by simp)] at h1
  have h3:=h2 (by simp)
  rw [List.take_length] at h3
  rw [h1,h3]
  have h4:=List.countP_le_length (p:=fun c:D.Cell=>c.Kind == 0) (l:=m.Cells)
  exact zaV (fl:=fuel) (t:=freeN m) hn h4 (freeN m) m.Free fuel 0 (by omega) (by unfold freeN;omega)

theorem zdd {m:D.Memory}:∀ {k:Nat}{a:Int},chainN m k a=true→-1≤a∧a≤(m.Cells.length:Int) - 1
  | 0,a,h=>by
      have:a = -1:=by simpa [chainN] using h
      omega
  | k+1,a,h=>by
    unfold chainN at h
    by_cases h2:0≤a∧a<m.Cells.length
    · omega
    · rw [z7B h2] at h;cases h
theorem z6F {m:D.Memory}{k:Nat}{a:Int}(h:chainN m (k+1) a=true):0≤a∧∃ c,m.Cells[a.toNat]? = some c∧c.Kind=0∧chainN m k c.Value=true:=by
  unfold chainN at h
  rw [Bool.and_eq_true,decide_eq_true_eq] at h
  obtain⟨h0,h1⟩:=h
  cases hc:m.Cells[a.toNat]? with
  | none=>rw [hc] at h1;cases h1
  | some c=>rw [hc] at h1;exact⟨h0,c,rfl,by simpa using h1⟩
theorem z9B {m:D.Memory}:∀ {k k':Nat}{a:Int},chainN m k a=true→chainN m k' a=true→k=k'
  | 0,0,a,_,_=>rfl
  | 0,k'+1,a,h,h'=>by
      have:a = -1:=by simpa [chainN] using h
      have:=(z6F h').1
      omega
  | k+1,0,a,h,h'=>by
      have:a = -1:=by simpa [chainN] using h'
      have:=(z6F h).1
      omega
  | k+1,k'+1,a,h,h'=>by
    obtain⟨_,c,h1,_,h2⟩:=z6F h
    obtain⟨_,c',h1',_,h2'⟩:=z6F h'
    rw [h1] at h1'
    cases h1'
    rw [z9B h2 h2']
def pathN (m:D.Memory):Nat→Int→List Nat
  | 0,_=>[]
  | k+1,a=>a.toNat::match m.Cells[a.toNat]? with
    | some c=>pathN m k c.Value
    | none=>[]
theorem z8f {m:D.Memory}:∀ {k:Nat}{a:Int},chainN m k a=true→(pathN m k a).length=k∧(pathN m k a).Nodup∧
    ∀ i,i∈pathN m k a→(∃ c,m.Cells[i]? = some c∧c.Kind=0∧-1≤c.Value∧c.Value≤(m.Cells.length:Int) - 1)∧∃ k',k'≤k∧chainN m k' (i:Int)=true
  | 0,a,h=>⟨rfl,List.nodup_nil,fun i hi=>by cases hi⟩
  | k+1,a,h=>by
    obtain⟨h0,c,h1,h2,h3⟩:=z6F h
    obtain⟨g1,g2,g3⟩:=z8f h3
    have hp:pathN m (k+1) a=a.toNat::pathN m k c.Value:=by simp only [pathN,h1]
    have ha:((a.toNat:Nat):Int)=a:=by omega
    rw [hp]
    refine⟨by simp [g1],List.nodup_cons.2 ⟨fun hi=>?_,g2⟩,fun i hi=>?_⟩
    · obtain⟨_,k',h4,h5⟩:=g3 _ hi
      rw [ha] at h5
      have:=z9B h h5
      omega
    · rcases List.mem_cons.1 hi with rfl | hi
      · have:=zdd h3
        exact⟨⟨c,h1,h2,this.1,this.2⟩,k+1,Nat.le_refl _,by rw [ha];exact h⟩
      · obtain⟨h4,k',h5,h6⟩:=g3 _ hi
        exact⟨h4,k',by omega,h6⟩
theorem fits:∀ (L:List Nat),L.Nodup→∀ bs:List Bool,(∀ i,i∈L→bs[i]? = some true)→L.length≤bs.countP id
  | [],_,_,_=>Nat.zero_le _
  | i::L,hn,bs,h=>by
    obtain⟨h1,h2⟩:=List.nodup_cons.1 hn
    have hi:=h i List.mem_cons_self
    obtain⟨hlt,hb⟩:=List.getElem?_eq_some_iff.1 hi
    have h3:=fits L h2 (bs.set i false) (fun j hj=>by
      have hij:i≠j:=fun e=>h1 (by rw [e];exact hj)
      rw [List.getElem?_set_ne hij]
      exact h j (List.mem_cons_of_mem _ hj))
    rw [List.countP_set hlt,hb] at h3
    have h4:0<bs.countP id:=List.countP_pos_iff.2 ⟨true,List.mem_of_getElem? hi,rfl⟩
    rw [if_pos (show id true=true from rfl),if_neg (show ¬ id false=true by simp)] at h3
    rw [List.length_cons]
    omega
theorem zaK {m:D.Memory}(h:chainN m (freeN m) m.Free=true){i:Nat}{c:D.Cell}(hc:m.Cells[i]? = some c) (h0:c.Kind=0):-1≤c.Value∧c.Value≤(m.Cells.length:Int) - 1:=by
  obtain⟨g1,g2,g3⟩:=z8f h
  by_cases hi:i∈pathN m (freeN m) m.Free
  · obtain⟨⟨d,h1,_,h2⟩,_⟩:=g3 i hi
    rw [hc] at h1
    cases h1
    exact h2
  · have:=fits (i::pathN m (freeN m) m.Free) (List.nodup_cons.2 ⟨hi,g2⟩) (m.Cells.map fun c=>c.Kind == 0) (fun j hj=>by
      rcases List.mem_cons.1 hj with rfl | hj
      · simp [hc,h0]
      · obtain⟨⟨d,h1,h2,_⟩,_⟩:=g3 j hj
        simp [h1,h2])
    rw [List.countP_map,List.length_cons,g1] at this
    have e:List.countP (id ∘ fun c:D.Cell=>c.Kind == 0) m.Cells=freeN m:=rfl
    omega
end Go.E


namespace Go.E
open Go.RowKit Go.Proofs
set_option linter.unusedSimpArgs false
set_option linter.unusedVariables false

def cntOk (m:D.Memory) (t:List Int):Prop:=t.length=m.Cells.length∧∀ (i:Nat) (c:D.Cell),m.Cells[i]? = some c→c.Kind=0→t[i]? = some 0
theorem z8O {m:D.Memory}{t:List Int}{i:Int}{c:D.Cell}(h:cntOk m t) (hc:m.Cells[i.toNat]? = some c) (hk:c.Kind≠0):cntOk m (cntAt t i):=by
  refine⟨by unfold cntAt;rw [List.length_set];exact h.1,fun j d hd h0=>?_⟩
  unfold cntAt
  have hij:i.toNat≠j:=fun e=>by rw [e,hd] at hc;cases hc;exact hk h0
  rw [List.getElem?_set_ne hij]
  exact h.2 j d hd h0
theorem z6T {t:List Int}{i:Int}(h0:0≤i) (h1:i.toNat<t.length):idx t i=some ((t[i.toNat]?).getD 0):=by
  unfold idx
  rw [if_pos h0]
  obtain⟨v,hv⟩:=z4Y h1
  rw [hv];rfl
theorem z2x {m:D.Memory}{i:Int}(h:agentAt m i=true):0≤i∧i.toNat<m.Cells.length∧∃ c,m.Cells[i.toNat]? = some c∧idx m.Cells i=some c∧agentKind c.Kind=true∧c.Kind≠0:=by
  unfold agentAt at h
  rw [Bool.and_eq_true,decide_eq_true_eq] at h
  obtain⟨h0,h1⟩:=h
  cases hc:m.Cells[i.toNat]? with
  | none=>rw [hc] at h1;cases h1
  | some c=>
    rw [hc] at h1
    have h2:agentKind c.Kind=true:=by simpa using h1
    refine⟨h0,(List.getElem?_eq_some_iff.1 hc).1,c,rfl,by unfold idx;rw [if_pos h0,hc],h2,?_⟩
    unfold agentKind at h2
    simp at h2;omega
theorem z9G {m:D.Memory}{w:D.Word}(h:wordN m w=true):0≤w.At∧w.At.toNat<m.Cells.length∧∃ c,m.Cells[w.At.toNat]? = some c∧c.Kind≠0:=by
  obtain⟨h0,c,h1,_,h2⟩:=z5a h
  refine⟨h0,(List.getElem?_eq_some_iff.1 h1).1,c,h1,?_⟩
  rcases h2 with⟨_,h2⟩ | ⟨_,h2⟩
  · unfold agentKind at h2;simp at h2;omega
  · omega

def putW (t:List Int) (w:D.Word):List Int:=cntAt t w.At
def putR (t:List Int) (p:D.Pair):List Int:=cntAt (cntAt t p.A) p.B
theorem zbn {m:D.Memory}{t:List Int}{w:D.Word}(hw:wordN m w=true) (h:cntOk m t):cntOk m (putW t w):=by
  obtain⟨_,_,c,h1,h2⟩:=z9G hw
  exact z8O h h1 h2
theorem z6p {m:D.Memory}{p:D.Pair}(h:redexN m p=true):p.A<p.B∧agentAt m p.A=true∧agentAt m p.B=true:=by
  unfold redexN at h;simpa using h
theorem zbo {m:D.Memory}{t:List Int}{p:D.Pair}(hp:redexN m p=true) (h:cntOk m t):cntOk m (putR t p):=by
  obtain⟨_,ha,hb⟩:=z6p hp
  obtain⟨_,_,c,h1,_,_,h2⟩:=z2x ha
  obtain⟨_,_,d,h3,_,_,h4⟩:=z2x hb
  exact z8O (z8O h h1 h2) h3 h4


def zerosN (m:D.Memory):List Int:=List.replicate m.Cells.length 0
theorem z8g {m:D.Memory}:cntOk m (zerosN m):=
  ⟨List.length_replicate,fun i c hc _=>by
    have:=(List.getElem?_eq_some_iff.1 hc).1
    unfold zerosN
    rw [List.getElem?_replicate,if_pos this]⟩


theorem zaW {m:D.Memory}{fuel:Nat}(hf:18446744073709551616≤fuel) (hs:m.sz≤1048576):
    iter (z24 fuel m) fuel (0,([]:List Int))=some (if(m.Cells.all fun c=>cellN c && (if c.Kind=0 then decide (-1≤c.Value∧c.Value≤(m.Cells.length:Int) - 1) else true))=true then .inl (zerosN m) else .inr false):=by
  have hm:maxLen=9223372036854775807:=rfl
  have hn:m.Cells.length≤1048576:=by unfold D.Memory.sz szL at hs;omega
  obtain⟨h1,h2⟩:=foldLoop (xs:=m.Cells) (body:=z24 fuel m) (mk:=fun i s=>(i,s)) (out:=id) (g:=fun s _=>s++[0]) (p:=fun c=>cellN c && (if c.Kind=0 then decide (-1≤c.Value∧c.Value≤(m.Cells.length:Int) - 1) else true)) (v:=false) (s0:=[])
    (J:=fun i s=>s=List.replicate i 0) (by omega) hf rfl
    (fun i s x hx _ hj=>by rw [hj,← List.replicate_succ'])
    (fun i s x hi hx hj=>by
      unfold z24
      dsimp only
      rw [if_pos (decide_eq_true (by omega)),zO hx,Option.bind_some,zck hf (z5T (f:=D.Cell.sz) (xs:=m.Cells) (n:=1048576) (by unfold D.Memory.sz at hs;omega) (List.mem_of_getElem? hx)) (by omega),Option.bind_some]
      have hl:s.length=i:=by rw [hj,List.length_replicate]
      generalize (cellN x && (if x.Kind=0 then decide (-1≤x.Value∧x.Value≤(m.Cells.length:Int) - 1) else true))=b
      cases b with
      | false=>rw [if_pos (show(!false)=true from rfl),if_neg Bool.false_ne_true]
      | true=>rw [if_neg (by simp),if_pos (decide_eq_true (by simp;omega)),if_pos (show true=true from rfl)])
    (fun s _=>by unfold z24;dsimp only;rw [if_neg (by simp)];rfl)
  rw [h1]
  split
  · rename_i h
    rw [h2 h];rfl
  · rfl
theorem z62 {m:D.Memory}{xs ys:List D.Word}{t:List Int}{fuel:Nat}(hf:18446744073709551616≤fuel) (hn:m.Cells.length≤1048576) (hl:(xs++ys).length≤maxLen) (ht:cntOk m t):
    iter (z23 fuel m ys xs) fuel (0,t)=some (if(xs++ys).all (wordN m)=true then .inl ((xs++ys).foldl putW t) else .inr false)∧((xs++ys).all (wordN m)=true→cntOk m ((xs++ys).foldl putW t)):=by
  have hm:maxLen=9223372036854775807:=rfl
  exact foldLoop (xs:=xs++ys) (body:=z23 fuel m ys xs) (mk:=fun i s=>(i,s)) (out:=id) (g:=putW) (p:=wordN m) (v:=false) (s0:=t)
    (J:=fun i s=>cntOk m s) hl hf ht
    (fun i s x hx hp hj=>zbn hp hj)
    (fun i s x hi hx hj=>by
      unfold z23
      dsimp only
      rw [if_pos (decide_eq_true (by omega)),zO hx,Option.bind_some,zb5 (by omega),Option.bind_some]
      cases hp:wordN m x with
      | false=>rfl
      | true=>
        obtain⟨h0,h1,_⟩:=z9G hp
        rw [if_neg (by simp),Option.bind_some,z6T h0 (by rw [hj.1];exact h1),Option.bind_some,if_pos (decide_eq_true ⟨h0,by rw [hj.1];exact h1⟩)]
        rfl)
    (fun s _=>by unfold z23;dsimp only;rw [if_neg (by simp)];rfl)
theorem z63 {m:D.Memory}{xs:List D.Pair}{t:List Int}{fuel:Nat}(hf:18446744073709551616≤fuel) (hn:m.Cells.length≤1048576) (hl:xs.length≤maxLen) (ht:cntOk m t):
    iter (z22 fuel m xs) fuel (0,t)=some (if xs.all (redexN m)=true then .inl (xs.foldl putR t) else .inr false)∧(xs.all (redexN m)=true→cntOk m (xs.foldl putR t)):=by
  have hm:maxLen=9223372036854775807:=rfl
  exact foldLoop (xs:=xs) (body:=z22 fuel m xs) (mk:=fun i s=>(i,s)) (out:=id) (g:=putR) (p:=redexN m) (v:=false) (s0:=t)
    (J:=fun i s=>cntOk m s) hl hf ht
    (fun i s x hx hp hj=>zbo hp hj)
    (fun i s x hi hx hj=>by
      unfold z22 z1x
      dsimp only
      rw [if_pos (decide_eq_true (by omega)),zO hx,Option.bind_some,z39,z5B (by omega),Option.bind_some]
      unfold redexN
      by_cases hB:1≤x.B∧x.B≤(m.Cells.length:Int) - 1
      · rw [if_neg (by simp;omega),z39,zh (by omega) (by omega),Option.bind_some]
        by_cases hA:0≤x.A∧x.A≤x.B - 1
        · obtain⟨c,h1,h2⟩:=z6e (m:=m) hA.1 (by omega)
          obtain⟨d,h3,h4⟩:=z6e (m:=m) (i:=x.B) (by omega) (by omega)
          have eA:agentAt m x.A=agentKind c.Kind:=by unfold agentAt;rw [h1];simp [hA.1]
          have eB:agentAt m x.B=agentKind d.Kind:=by unfold agentAt;rw [h3];simp;omega
          rw [if_neg (by simp;omega),h2,Option.bind_some,z2U,Option.bind_some,decide_eq_true (show x.A<x.B by omega),eA,eB,h4]
          cases ha:agentKind c.Kind with
          | false=>rfl
          | true=>
            rw [if_neg (by simp),Option.bind_some,z2U,Option.bind_some]
            cases hb:agentKind d.Kind with
            | false=>rfl
            | true=>
              have l1:x.A.toNat<s.length:=by rw [hj.1];omega
              have l2:x.B.toNat<(s.set x.A.toNat (w64 ((s[x.A.toNat]?).getD 0+1))).length:=by rw [List.length_set,hj.1];omega
              rw [if_neg (by simp),z6T hA.1 l1,Option.bind_some,if_pos (decide_eq_true ⟨hA.1,l1⟩),z6T (by omega) l2,Option.bind_some,if_pos (decide_eq_true ⟨by omega,l2⟩)]
              rfl
        · rw [if_pos (by simp;omega)]
          have:(decide (x.A<x.B) && (agentAt m x.A && agentAt m x.B))=false:=by
            cases hA2:agentAt m x.A with
            | false=>simp
            | true=>have:=(z2x hA2).1;simp;intro h;omega
          rw [this];rfl
      · rw [if_pos (by simp;omega)]
        have:(decide (x.A<x.B) && (agentAt m x.A && agentAt m x.B))=false:=by
          cases hA2:agentAt m x.A with
          | false=>simp
          | true=>
            cases hB2:agentAt m x.B with
            | false=>simp
            | true=>have:=(z2x hA2).1;have:=(z2x hB2).2.1;have:=(z2x hB2).1;simp;omega
        rw [this];rfl)
    (fun s _=>by unfold z22;dsimp only;rw [if_neg (by simp)];rfl)
end Go.E


