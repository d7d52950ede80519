/- What the functions that size, copy and compare give on well formed data (written by program). Conditions: sizes within the law s own bound. -/
import Derived.Test.YtngggnjnenfgbaaGreatDoorSzDefs
import Derived.Test.YtngggnjnenfgbaaGreatDoorFO
import Derived.Test.YtngggnjnenfgbaaGreatDoorFOb
import Derived.Test.YtngggnjnenfgbaaGreatDoorFA
import Derived.Test.YtngggnjnenfgbaaGreatDoorFN
import Derived.Test.YtngggnjnenfgbaaGreatDoorFT
namespace Go.E
open Go.RowKit Go.Proofs
set_option linter.unusedSimpArgs false
set_option linter.unusedVariables false

theorem z7t {fuel:Nat}{x:(List Int)}(hf:18446744073709551616≤fuel) (hs:x.length≤1048576):z1M fuel x x=some true:=by
  have hl:=hs
  unfold z1M
  rw [if_neg (by simp)]
  refine z7Q (n:=x.length) (t:=()) (by unfold maxLen;omega) hf rfl ?_ ?_
  · intro i hi
    obtain⟨y,hy⟩:=z35 hi
    have hsy:0≤1048576:=Nat.zero_le _
    simp [z4h,z1A hy,hi,z6j]
  · simp [z4h]

theorem z9p {fuel:Nat}{x:(List Int)}{l:Int}(hf:18446744073709551616≤fuel) (hw:WfL I64 x) (h0:0≤l) (h1:l≤1048576):SzOk (x.length) l (z4v fuel x l):=by
  unfold z4v
  generalize hz:w64 (l - (x.length:Int))=z
  exact SzOk.sub2 h0 h1 hw.1 (m:=0) rfl hz fun g0 g1=>SzOk.same g0

theorem z9m {fuel:Nat}{x:(List Int)}(hf:18446744073709551616≤fuel) (hs:x.length≤1048576):z4t fuel x=some x:=by
  have hl:=hs
  unfold z4t
  refine z8U hl hf (fun _=>rfl) ?_ ?_
  · intro i y out hy b
    have hi:=(List.getElem?_eq_some_iff.1 hy).1
    have hsy:0≤1048576:=Nat.zero_le _
    simp only [z4e,z1A hy,Option.bind_some,lt_t (show(i:Int)<x.length by omega),if_true]
    rw [if_pos (by simp;omega)]
    simp
  · intro out
    simp [z4e]

theorem zaK {fuel:Nat}{x:D.Port}(hf:18446744073709551616≤fuel) (hs:0≤1048576):z5i fuel x=some x:=by
  skip
  unfold z5i
  rfl

theorem zaT {fuel:Nat}{x:D.Port}(hf:18446744073709551616≤fuel) (hs:0≤1048576):z5j fuel x x=some true:=by
  skip
  simp [z5j,z6j]

theorem z9Y {fuel:Nat}{x:(List D.Port)}{l:Int}(hf:18446744073709551616≤fuel) (hw:WfL D.Port.wf x) (h0:0≤l) (h1:l≤1048576):SzOk (x.length) l (z4Q fuel x l):=by
  unfold z4Q
  generalize hz:w64 (l - (x.length:Int))=z
  exact SzOk.sub2 h0 h1 hw.1 (m:=0) rfl hz fun g0 g1=>SzOk.same g0

theorem z9W {fuel:Nat}{x:(List D.Port)}(hf:18446744073709551616≤fuel) (hs:x.length≤1048576):z4O fuel x=some x:=by
  have hl:=hs
  unfold z4O
  refine z8U hl hf (fun _=>rfl) ?_ ?_
  · intro i y out hy b
    have hi:=(List.getElem?_eq_some_iff.1 hy).1
    have hsy:0≤1048576:=Nat.zero_le _
    simp only [z4C,z1A hy,Option.bind_some,lt_t (show(i:Int)<x.length by omega),if_true,zaK hf hsy]
    rw [if_pos (by simp;omega)]
    simp
  · intro out
    simp [z4C]

theorem zaq {fuel:Nat}{x:(List D.Port)}(hf:18446744073709551616≤fuel) (hs:x.length≤1048576):z4T fuel x x=some true:=by
  have hl:=hs
  unfold z4T
  rw [if_neg (by simp)]
  refine z7Q (n:=x.length) (t:=()) (by unfold maxLen;omega) hf rfl ?_ ?_
  · intro i hi
    obtain⟨y,hy⟩:=z35 hi
    have hsy:0≤1048576:=Nat.zero_le _
    simp [z4D,z1A hy,hi,z6j,zaT hf hsy]
  · simp [z4D]

theorem z9Z {fuel:Nat}{x:D.Agent}{l:Int}(hf:18446744073709551616≤fuel) (hw:D.Agent.wf x) (h0:0≤l) (h1:l≤1048576):SzOk (D.Agent.sz x) l (z4R fuel x l):=by
  obtain⟨w0,w1,w2,w3,w4,_⟩:=hw
  unfold z4R D.Agent.sz
  refine SzOk.bind (z9p hf w3 h0 (by omega)) rfl fun r1 g1a g1b=>?_
  refine SzOk.bind (z9Y hf w4 g1a (by omega)) rfl fun r2 g2a g2b=>?_
  exact SzOk.same g2a

theorem z9X {fuel:Nat}{x:D.Agent}(hf:18446744073709551616≤fuel) (hs:D.Agent.sz x≤1048576):z4P fuel x=some x:=by
  unfold D.Agent.sz at hs
  unfold z4P
  simp only [z9m hf (show x.Data.length≤1048576 by omega),z9W hf (show x.Ports.length≤1048576 by omega),Option.bind_some]

theorem zar {fuel:Nat}{x:D.Agent}(hf:18446744073709551616≤fuel) (hs:D.Agent.sz x≤1048576):z4U fuel x x=some true:=by
  unfold D.Agent.sz at hs
  simp [z4U,z6j,z7t hf (show x.Data.length≤1048576 by omega),zaq hf (show x.Ports.length≤1048576 by omega)]

theorem z9q {fuel:Nat}{x:(List D.Agent)}{l:Int}(hf:18446744073709551616≤fuel) (hw:WfL D.Agent.wf x) (h0:0≤l) (h1:l≤1048576):SzOk (szL D.Agent.sz x) l (z4w fuel x l):=by
  unfold z4w
  generalize hz:w64 (l - (x.length:Int))=z
  refine SzOk.sub2 h0 h1 hw.1 (m:=sumL D.Agent.sz x) rfl hz fun g0 g1=>?_
  refine SzOk.loop hw.1 hf g0 (by omega) (fun _=>rfl) ?_ ?_
  · intro i y l hy h0 h1
    have hi:=(List.getElem?_eq_some_iff.1 hy).1
    have hwy:=hw.2 y (List.mem_of_getElem? hy)
    obtain⟨r,h2,h3⟩:=z9Z hf hwy h0 h1
    simp only [z4g,z1A hy,Option.bind_some,lt_t (show(i:Int)<x.length by omega),if_true,h2]
    by_cases hlt:r<0
    · exact .inl (by simp only [lt_t hlt,if_true])
    · exact .inr ⟨r,by simp only [lt_f hlt,if_false],h3.resolve_left hlt⟩
  · intro l
    simp [z4g]

theorem z9n {fuel:Nat}{x:(List D.Agent)}(hf:18446744073709551616≤fuel) (hs:szL D.Agent.sz x≤1048576):z4u fuel x=some x:=by
  have hl:=zaM hs
  unfold z4u
  refine z8U hl hf (fun _=>rfl) ?_ ?_
  · intro i y out hy b
    have hi:=(List.getElem?_eq_some_iff.1 hy).1
    have hsy:D.Agent.sz y≤1048576:=zaL hs (List.mem_of_getElem? hy)
    simp only [z4f,z1A hy,Option.bind_some,lt_t (show(i:Int)<x.length by omega),if_true,z9X hf hsy]
    rw [if_pos (by simp;omega)]
    simp
  · intro out
    simp [z4f]

theorem z9E {fuel:Nat}{x:(List D.Agent)}(hf:18446744073709551616≤fuel) (hs:szL D.Agent.sz x≤1048576):z4x fuel x x=some true:=by
  have hl:=zaM hs
  unfold z4x
  rw [if_neg (by simp)]
  refine z7Q (n:=x.length) (t:=()) (by unfold maxLen;omega) hf rfl ?_ ?_
  · intro i hi
    obtain⟨y,hy⟩:=z35 hi
    have hsy:D.Agent.sz y≤1048576:=zaL hs (List.mem_of_getElem? hy)
    simp [z4i,z1A hy,hi,z6j,zar hf hsy]
  · simp [z4i]

theorem zbA {fuel:Nat}{x:D.Net}{l:Int}(hf:18446744073709551616≤fuel) (hw:D.Net.wf x) (h0:0≤l) (h1:l≤1048576):SzOk (D.Net.sz x) l (z5z fuel x l):=by
  obtain⟨w0,_⟩:=hw
  unfold z5z D.Net.sz
  refine SzOk.bind (z9q hf w0 h0 (by omega)) rfl fun r1 g1a g1b=>?_
  exact SzOk.same g1a

theorem zbz {fuel:Nat}{x:D.Net}(hf:18446744073709551616≤fuel) (hs:D.Net.sz x≤1048576):z3R fuel x=some x:=by
  unfold D.Net.sz at hs
  unfold z3R
  simp only [z9n hf (show szL D.Agent.sz x.Agents≤1048576 by omega),Option.bind_some]

theorem zbK {fuel:Nat}{x:D.Net}(hf:18446744073709551616≤fuel) (hs:D.Net.sz x≤1048576):z5A fuel x x=some true:=by
  unfold D.Net.sz at hs
  simp [z5A,z6j,z9E hf (show szL D.Agent.sz x.Agents≤1048576 by omega)]

theorem z9b:Opens Tryz.prog 2 tInt I64:=Opens.int Tryz.underlying2 (by kernel_rfl)
theorem zeB:Opens Tryz.prog 26 ty26 (WfL I64):=Opens.sl Tryz.underlying26 (by kernel_rfl) z9b
set_option maxRecDepth 100000 in
theorem zda:Opens Tryz.prog 146 zbw D.Port.wf:=Opens.struct (f:=fun c:D.Port=>(c.Agent,c.Slot,())) Tryz.underlying146 (by kernel_rfl) (OpensF.cons z9b rfl rfl (OpensF.cons z9b rfl rfl OpensF.nil)) (fun⟨a0,a1,_⟩=>⟨⟨a0,a1⟩,rfl⟩)
theorem zeA:Opens Tryz.prog 81 ty81 (WfL D.Port.wf):=Opens.sl Tryz.underlying81 (by kernel_rfl) zda
set_option maxRecDepth 100000 in
theorem zez:Opens Tryz.prog 83 ty83 D.Agent.wf:=Opens.struct (f:=fun c:D.Agent=>(c.Kind,c.Level,c.Value,c.Data,c.Ports,())) Tryz.underlying83 (by kernel_rfl) (OpensF.cons z9b rfl rfl (OpensF.cons z9b rfl rfl (OpensF.cons z9b rfl rfl (OpensF.cons zeB rfl rfl (OpensF.cons zeA rfl rfl OpensF.nil))))) (fun⟨a0,a1,a2,a3,a4,_⟩=>⟨⟨a0,a1,a2,a3,a4⟩,rfl⟩)
theorem zeD:Opens Tryz.prog 22 ty22 (WfL D.Agent.wf):=Opens.sl Tryz.underlying22 (by kernel_rfl) zez
set_option maxRecDepth 100000 in
theorem zeC:Opens Tryz.prog 24 ty24 D.Net.wf:=Opens.struct (f:=fun c:D.Net=>(c.Agents,())) Tryz.underlying24 (by kernel_rfl) (OpensF.cons zeD rfl rfl OpensF.nil) (fun⟨a0,_⟩=>⟨⟨a0⟩,rfl⟩)
end Go.E


namespace Go.E
open Go.RowKit Go.Proofs
set_option linter.unusedSimpArgs false
set_option linter.unusedVariables false

def z72 (fuel:Nat) (x:Int) (k:Int):Int:=k
def z5x (x:Int):Nat:=1
def z62 (fuel:Nat) (xs:List Int) (k:Int):List Int:=markL (z72 fuel) z5x xs k
def z5L (xs:List Int):Nat:=sumL z5x xs
theorem z6P {fuel:Nat}{xs:List Int}{k:Int}(hf:18446744073709551616≤fuel) (hl:xs.length≤1048576) (h0:0≤k) (h1:k+(z5L xs:Nat)≤2147483648):z2r fuel xs k=some (k+(z5L xs:Nat),z62 fuel xs k):=by
  unfold z2r
  rw [z8K (f:=z72 fuel) (c:=z5x) (xs:=xs) (k:=k) (by have:=hl;omega) hf h0 h1 ?_ ?_]
  · rfl
  · intro i x ys k hi b hx hm h0 h1
    unfold z5x at h1
    unfold z3e z72 z5x
    rw [if_pos (decide_eq_true (show(i:Int)<xs.length by omega))]
    rw [if_pos (decide_eq_true (show 0≤(i:Int)∧(i:Int).toNat<ys.length from⟨by omega,by rw [b];simpa using hi⟩))]
    simp (disch:=omega) only [z91,Int.toNat_natCast,Int.ofNat_one,Int.natCast_one]
  · intro k ys;unfold z3e;rw [if_neg (by simp)]

theorem z8R {fuel:Nat}{xs:List Int}{k:Int}(hf:18446744073709551616≤fuel) (hl:xs.length≤1048576) (h0:0≤k) (h1:k+(z5L xs:Nat)≤2147483648):z2s fuel (z62 fuel xs k) k=some (k+(z5L xs:Nat)):=by
  unfold z2s
  have hlen:(z62 fuel xs k).length=xs.length:=z57 _ _
  rw [zcx (f:=z72 fuel) (c:=z5x) (xs:=xs) (k:=k) (by have:=hl;omega) hf h0 h1 ?_ ?_]
  · rfl
  · intro i x k' hi hx hm h0 h1
    unfold z5x at h1
    have b:(z62 fuel xs k)[i]? = some (z72 fuel x k'):=hx
    unfold z26
    rw [if_pos (decide_eq_true (show(i:Int)<(z62 fuel xs k).length by rw [hlen];omega))]
    simp only [z1A b,Option.bind_some]
    unfold z72 z5x
    simp (disch:=omega) only [z91,Option.bind_some,lt_f,if_false,bne_self_eq_false,Bool.false_eq_true,beq_self_eq_true,Bool.not_true,Int.ofNat_one,Int.natCast_one]
  · intro k';show z26 fuel (z62 fuel xs k) (k',((z62 fuel xs k).length:Int))=_;unfold z26;rw [if_neg (by simp)]

theorem z8T {xs:List Int}:z5L xs≤64*(xs.length):=by
  have h:=z9r (c:=z5x) (g:=(fun _=>0)) (m:=64) (xs:=xs) fun x _=>by
    unfold z5x
    omega
  rw [z9o (fun _=>rfl)] at h
  exact h

def elPortS (fuel:Nat) (x:D.Port) (k:Int):D.Port:=(⟨k,k+1⟩:D.Port)
def ecPortS (x:D.Port):Nat:=1+1
def mkPortS (fuel:Nat) (xs:List D.Port) (k:Int):List D.Port:=markL (elPortS fuel) ecPortS xs k
def ctPortS (xs:List D.Port):Nat:=sumL ecPortS xs
theorem z8W {fuel:Nat}{xs:List D.Port}{k:Int}(hf:18446744073709551616≤fuel) (hl:xs.length≤1048576) (h0:0≤k) (h1:k+(ctPortS xs:Nat)≤2147483648):z41 fuel xs k=some (k+(ctPortS xs:Nat),mkPortS fuel xs k):=by
  unfold z41
  rw [z8K (f:=elPortS fuel) (c:=ecPortS) (xs:=xs) (k:=k) (by have:=hl;omega) hf h0 h1 ?_ ?_]
  · rfl
  · intro i x ys k hi b hx hm h0 h1
    unfold ecPortS at h1
    unfold z3U elPortS ecPortS
    rw [if_pos (decide_eq_true (show(i:Int)<xs.length by omega))]
    simp only [z1A hx,Option.bind_some]
    simp (disch:=omega) only [z91,Option.bind_some,Int.toNat_natCast]
    all_goals (refine congrArg some (congrArg Rd.next (Prod.ext ?_ ?_));rotate_left;first | rfl | (dsimp only;simp only [Int.natCast_add,Int.natCast_one,Int.ofNat_one,← Int.add_assoc]))
    all_goals (dsimp only;simp only [Int.natCast_add,Int.natCast_one,Int.ofNat_one];try omega)
  · intro k ys;unfold z3U;rw [if_neg (by simp)]

theorem zbO {xs:List D.Port}:ctPortS xs≤64*(xs.length):=by
  have h:=z9r (c:=ecPortS) (g:=(fun _=>0)) (m:=64) (xs:=xs) fun x _=>by
    unfold ecPortS
    omega
  rw [z9o (fun _=>rfl)] at h
  exact h

def elAgentS (fuel:Nat) (x:D.Agent) (k:Int):D.Agent:=(⟨k,k+1,k+1+1,(z62 fuel x.Data (k+1+1+1)),(mkPortS fuel x.Ports (k+1+1+1+((z5L x.Data:Nat):Int)))⟩:D.Agent)
def ecAgentS (x:D.Agent):Nat:=1+1+1+z5L x.Data+ctPortS x.Ports
def mkAgentS (fuel:Nat) (xs:List D.Agent) (k:Int):List D.Agent:=markL (elAgentS fuel) ecAgentS xs k
def ctAgentS (xs:List D.Agent):Nat:=sumL ecAgentS xs
theorem z8L {fuel:Nat}{xs:List D.Agent}{k:Int}(hf:18446744073709551616≤fuel) (hl:szL D.Agent.sz xs≤1048576) (h0:0≤k) (h1:k+(ctAgentS xs:Nat)≤2147483648):z3L fuel xs k=some (k+(ctAgentS xs:Nat),mkAgentS fuel xs k):=by
  unfold z3L
  rw [z8K (f:=elAgentS fuel) (c:=ecAgentS) (xs:=xs) (k:=k) (by have:=(zaM hl);omega) hf h0 h1 ?_ ?_]
  · rfl
  · intro i x ys k hi b hx hm h0 h1
    unfold ecAgentS at h1
    have hsx:=zaL hl hm
    unfold D.Agent.sz at hsx
    unfold z3f elAgentS ecAgentS
    rw [if_pos (decide_eq_true (show(i:Int)<xs.length by omega))]
    simp only [z1A hx,Option.bind_some]
    simp (disch:=omega) only [z6P hf (show x.Data.length≤1048576 by omega),z8W hf (show x.Ports.length≤1048576 by omega),z91,Option.bind_some,Int.toNat_natCast]
    all_goals (refine congrArg some (congrArg Rd.next (Prod.ext ?_ ?_));rotate_left;first | rfl | (dsimp only;simp only [Int.natCast_add,Int.natCast_one,Int.ofNat_one,← Int.add_assoc]))
    all_goals (dsimp only;simp only [Int.natCast_add,Int.natCast_one,Int.ofNat_one];try omega)
  · intro k ys;unfold z3f;rw [if_neg (by simp)]

theorem zaU {xs:List D.Agent}:ctAgentS xs≤64*(szL D.Agent.sz xs):=by
  have h:=z9r (c:=ecAgentS) (g:=D.Agent.sz) (m:=64) (xs:=xs) fun x _=>by
    unfold ecAgentS
    unfold D.Agent.sz
    have:=z8T (xs:=x.Data)
    have:=zbO (xs:=x.Ports)
    omega
  exact h

def mkNet (fuel:Nat) (x:D.Net) (k:Int):D.Net:=(⟨mkAgentS fuel x.Agents (k)⟩:D.Net)
def ctNet (x:D.Net):Nat:=ctAgentS x.Agents
theorem zaj {fuel:Nat}{x:D.Net}{k:Int}(hf:18446744073709551616≤fuel) (hs:x.sz≤1048576) (h0:0≤k) (h1:k+(ctNet x:Nat)≤2147483648):z4S fuel x k=some (k+(ctNet x:Nat),(mkNet fuel x k).Agents):=by
  unfold ctNet at h1 ⊢
  simp only [D.Net.sz] at hs
  unfold z4S mkNet
  simp (disch:=omega) only [z8L hf (show szL D.Agent.sz x.Agents≤1048576 by omega),Option.bind_some]
  all_goals try simp only [Int.natCast_add,Int.add_assoc]

theorem zej {x:D.Net}:ctNet x≤64*x.sz:=by
  unfold ctNet
  simp only [D.Net.sz]
  have:=zaU (xs:=x.Agents)
  omega

end Go.E


namespace Go.E
open Go.RowKit Go.Proofs
set_option linter.unusedSimpArgs false
set_option linter.unusedVariables false

theorem z55 {fuel:Nat}{a l h:Int}:zt fuel a l h=some (decide (l≤a∧a≤h)):=by
  unfold zt
  by_cases h1:l≤a
  · rw [if_pos (decide_eq_true (by omega))];simp [h1]
  · rw [if_neg (by simp;omega)];simp [h1]

def portsN (k f:Int):Int:=
  if k=9 then(if 0≤f∧f≤3 then 1+f else 0) else if f≠0 then 0 else if k=1∨k=5∨k=6∨k=12 then 1 else
  if k=8∨k=10∨k=11 then 2 else if k=2∨k=3∨k=4∨k=7 then 3 else 0
def levelN (k:Int):Bool:=decide (2≤k∧k≤12∧k≠5∧k≠6)
def allowN (k l:Int):Bool:=decide (1≤k∧k≤12) && (decide (l=0) || (levelN k && decide (0≤l∧l≤8)))
def defN (n:Int):Bool:=decide (0≤n∧n≤23)
def contentN (k v:Int) (d:List Int):Bool:=
  if k=6 then decide (d.length=0∧-2147483648≤v∧v≤2147483647) else
  if k=7 then decide (d.length=0∧1≤v∧v≤6) else
  if k=8 then decide (d.length=1∧1≤v∧v≤6) && d.all (fun n=>decide (-2147483648≤n∧n≤2147483647)) else
  if k=9 then decide (d.length=0∧0≤v∧v≤3) else
  if k=10 then decide (v=0∧1≤d.length∧d.length≤4) && d.all defN else
  if k=11 then decide (v=0∧d.length=2) && d.all defN else
  if k=12 then decide (d.length=0∧0≤v∧v≤23) else decide (v=0∧d.length=0)
def agentN (k l v:Int) (d:List Int) (n:Nat):Bool:=decide (portsN k (if k=9 then n - 1 else 0)=n) && (allowN k l && contentN k v d)

theorem kinds (k:Int):(k=1∨k=2∨k=3∨k=4∨k=5∨k=6∨k=7∨k=8∨k=9∨k=10∨k=11∨k=12)∨¬ (1≤k∧k≤12):=by omega
theorem zb9 {k:Int}(h:¬ (1≤k∧k≤12)) (c:Int) (h1:1≤c∧c≤12):(k == c)=false:=by
  rw [beq_eq_false_iff_ne];rintro rfl;exact h h1

theorem z99 {fuel:Nat}{k f:Int}:z39 fuel k f=some (portsN k f):=by
  by_cases h9:k=9
  · subst h9
    unfold z39 portsN
    simp only [z55,Option.bind_some,beq_self_eq_true,if_true,decide_eq_true_eq]
    split
    · rw [zb (by omega) (by omega)]
    · rfl
  · by_cases hf:f=0
    · subst hf
      rcases kinds k with h | h
      · rcases h with rfl | rfl | rfl | rfl | rfl | rfl | rfl | rfl | rfl | rfl | rfl | rfl<;>first | exact absurd rfl h9 | rfl
      · simp [z39,z3E,z3D,z3C,z3B,z3A,z3z,z3y,z3x,portsN,zb9 h,h9]
        omega
    · unfold z39 portsN
      rw [if_neg (by simpa using h9),if_pos (by simpa using hf),if_neg h9,if_pos hf]
theorem z6A {fuel:Nat}{k:Int}:z3V fuel k=some (decide (1≤k∧k≤12)):=by
  unfold z3V
  by_cases h1:1≤k
  · rw [if_pos (decide_eq_true (by omega))];simp [h1]
  · rw [if_neg (by simp;omega)];simp [h1]
theorem zbE {fuel:Nat}{k f:Int}:z4c fuel k f=some (portsN k f):=by
  by_cases h9:k=9
  · subst h9
    unfold z4c portsN z1H
    simp only [z6A,Option.bind_some,beq_self_eq_true,if_true]
    by_cases h0:0≤f
    · by_cases h3:f≤3
      · rw [if_pos (decide_eq_true (by omega)),if_pos (decide_eq_true h3),if_pos ⟨h0,h3⟩,zb (by omega) (by omega),Int.add_comm]
      · rw [if_pos (decide_eq_true (by omega)),if_neg (by simpa using h3)];simp [z18,h3]
    · rw [if_neg (by simp;omega),if_neg Bool.false_ne_true];simp [z18,h0]
  · unfold z4c z1H
    rw [if_neg (by simpa using h9),if_neg Bool.false_ne_true,z6A,Option.bind_some]
    rcases kinds k with h | h
    · by_cases hf:f=0
      · subst hf
        rcases h with rfl | rfl | rfl | rfl | rfl | rfl | rfl | rfl | rfl | rfl | rfl | rfl<;>first | exact absurd rfl h9 | rfl
      · rw [if_neg (by simp;omega),if_neg (by simpa using h9),show(f != 0)=true by simpa using hf]
        simp [z18,portsN,h9,hf]
    · rw [if_pos (by simp;omega)]
      simp [z18,portsN,h9]
      omega

theorem z9d {fuel:Nat}{k:Int}:z3G fuel k=some (levelN k):=by
  rcases kinds k with h | h
  · rcases h with rfl | rfl | rfl | rfl | rfl | rfl | rfl | rfl | rfl | rfl | rfl | rfl<;>rfl
  · simp [z3G,z30,z2Z,z2Y,z2X,z2W,z2V,z2U,z2T,levelN,zb9 h]
    omega
theorem z9e {fuel:Nat}{k:Int}:z3O fuel k=some (levelN k):=by
  unfold z3O
  rw [z6A,Option.bind_some]
  rcases kinds k with h | h
  · rcases h with rfl | rfl | rfl | rfl | rfl | rfl | rfl | rfl | rfl | rfl | rfl | rfl<;>rfl
  · rw [if_neg (by simpa using h)]
    simp [levelN];omega
theorem z73 {fuel:Nat}{k l:Int}:z1L fuel k l=some (allowN k l):=by
  unfold z1L z5w allowN
  simp only [z9d,z55,Option.bind_some]
  cases hl:levelN k with
  | true=>
    have:1≤k∧k≤12:=by unfold levelN at hl;simp at hl;omega
    simp [this];omega
  | false=>by_cases h:1≤k∧k≤12<;>by_cases h0:l=0<;>simp [h,h0]
theorem z7R {fuel:Nat}{k l:Int}:z1x fuel k l=some (allowN k l):=by
  unfold z1x allowN
  have hL:z2m fuel l=some (decide (0≤l∧l≤8)):=by
    unfold z2m
    by_cases h1:0≤l
    · rw [if_pos (decide_eq_true (by omega))];simp [h1]
    · rw [if_neg (by simp;omega)];simp [h1]
  simp only [z6A,z9e,hL,Option.bind_some]
  by_cases h:1≤k∧k≤12
  · by_cases h0:l=0
    · simp [h,h0]
    · cases hl:levelN k<;>simp [h,h0]
  · simp [h]

theorem zbo {fuel:Nat}{n:Int}:z4A fuel n=some (defN n):=by
  unfold z4A defN;rw [z55];rfl
theorem zbp {fuel:Nat}{n:Int}:z2u fuel n=some (defN n):=by
  unfold z2u defN
  by_cases h1:0≤n
  · rw [if_pos (decide_eq_true (by omega))];simp [h1];omega
  · rw [if_neg (by simp;omega)];simp [h1]
theorem zdf {fuel:Nat}{n:Int}:z58 fuel n=some (decide (-2147483648≤n∧n≤2147483647)):=by
  unfold z58
  by_cases h1:-2147483648≤n
  · rw [if_pos (decide_eq_true (by omega))];simp [h1]
  · rw [if_neg (by simp;omega)];simp [h1]
theorem zcq {fuel:Nat}{n:Int}:z2t fuel n=some (decide (1≤n∧n≤6)):=by
  unfold z2t
  by_cases h1:1≤n
  · rw [if_pos (decide_eq_true (by omega))];simp [h1]
  · rw [if_neg (by simp;omega)];simp [h1]
theorem zaW {α:Type}{p:α→Bool}:∀ {xs:List α},xs.any (fun x=>!p x)=!xs.all p
  | []=>rfl
  | x::xs=>by simp [zaW (p:=p) (xs:=xs)]
theorem zcR {fuel:Nat}{a:D.Agent}(hf:18446744073709551616≤fuel) (hl:a.Data.length≤maxLen):
    ((iter (z1Y fuel a) fuel 0).bind fun o=>aft o (z4H fuel))=some (a.Data.all defN):=by
  rw [askOne (xs:=a.Data) (p:=fun n=>!defN n) (v:=false) (t:=()) hl hf (fun i x hi hx=>by
    unfold z1Y
    simp only [z1A hx,zbo,lt_t (show(i:Int)<a.Data.length by omega),if_true,Option.bind_some]) (by simp [z1Y]),zaW]
  cases a.Data.all defN<;>rfl
theorem zaD {fuel:Nat}{p:Int→Bool}{f:Int→Option Bool}{xs:List Int}(hf:18446744073709551616≤fuel) (hl:xs.length≤maxLen) (h:∀ n,f n=some (p n)):
    zA fuel xs f=some (xs.any p):=by
  unfold zA z1b
  obtain⟨r,h1,h2⟩:=askIndex (xs:=xs) (p:=p) (body:=zy fuel xs f) (j:=z1q fuel) (t:=()) hl hf rfl (fun i x hi hx=>by
    simp only [zy,z1A hx,h,lt_t (show(i:Int)<xs.length by omega),if_true,Option.bind_some]) (by simp [zy])
  rw [h1,Option.bind_some,h2]

theorem zaB {fuel:Nat}{a:D.Agent}(hf:18446744073709551616≤fuel) (hl:a.Data.length≤maxLen):zx fuel a=some (contentN a.Kind a.Value a.Data):=by
  have hd:=zcR (a:=a) hf hl
  obtain⟨k,l,v,d,ps⟩:=a
  dsimp only at hl hd ⊢
  by_cases h6:k=6
  · subst h6
    simp only [zx,contentN,z55,Option.bind_some,beq_self_eq_true,if_true]
    by_cases h:d.length=0<;>simp [h]<;>omega
  by_cases h7:k=7
  · subst h7
    simp only [zx,contentN,z55,Option.bind_some,beq_self_eq_true,if_true]
    by_cases h:d.length=0<;>simp [h]<;>omega
  by_cases h8:k=8
  · subst h8
    simp only [zx,contentN,z55,Option.bind_some,beq_self_eq_true,if_true]
    match d with
    | []=>simp
    | [n]=>by_cases h:1≤v∧v≤6<;>simp [h,idx]
    | _::_::_=>simp;omega
  by_cases h9:k=9
  · subst h9
    simp only [zx,contentN,z55,Option.bind_some,beq_self_eq_true,if_true]
    by_cases h:d.length=0<;>simp [h]<;>omega
  by_cases y:k=12
  · subst y
    simp only [zx,contentN,z55,zbo,Option.bind_some,beq_self_eq_true,if_true]
    by_cases h:d.length=0<;>simp [h,defN]<;>omega
  by_cases b:k=10
  · subst b
    simp only [zx,z19,zu,contentN,z55,Option.bind_some,beq_self_eq_true,if_true,hd]
    by_cases h:v=0
    · by_cases h1:1≤d.length∧d.length≤4
      · have h2:(1:Int)≤d.length∧(d.length:Int)≤4:=by omega
        simp [h,h1,h2]
      · have h2:¬ ((1:Int)≤d.length∧(d.length:Int)≤4):=by omega
        simp [h,h1,h2]
    · simp [h]
  by_cases o:k=11
  · subst o
    simp only [zx,z19,zu,contentN,z55,Option.bind_some,beq_self_eq_true,if_true,hd]
    by_cases h:v=0
    · by_cases h1:d.length=2
      · simp [h,h1]
      · have h2:¬ ((d.length:Int)=2):=by omega
        simp [h,h1,h2]
    · simp [h]
  · simp only [zx,z19,contentN,h6,h7,h8,h9,b,o,y,if_false]
    by_cases h:v=0<;>by_cases h1:d.length=0<;>simp [h,h1,h6,h7,h8,h9,b,o,y]

theorem zaC {fuel:Nat}{a:D.Agent}(hf:18446744073709551616≤fuel) (hl:a.Data.length≤maxLen):z1a fuel a false=some (contentN a.Kind a.Value a.Data):=by
  unfold z1a
  rw [if_neg Bool.false_ne_true,zaD (p:=fun n=>!defN n) hf hl (fun n=>by unfold z3g;rw [zbp];rfl),Option.bind_some,zaW,Bool.not_not]
  obtain⟨k,l,v,d,ps⟩:=a
  dsimp only at hl ⊢
  simp only [z2d,z2c,z2b,z2a,z29,z1v,z28,z27,z1N,zdf,zcq,zbp,Option.bind_some]
  by_cases h6:k=6
  · subst h6
    simp only [contentN,beq_self_eq_true,if_true]
    by_cases h:d.length=0<;>by_cases h1:-2147483648≤v∧v≤2147483647<;>simp [h,h1]
  by_cases h7:k=7
  · subst h7
    simp only [contentN,beq_self_eq_true,if_true]
    by_cases h:d.length=0<;>by_cases h1:1≤v∧v≤6<;>simp [h,h1]
  by_cases h8:k=8
  · subst h8
    simp only [contentN,beq_self_eq_true,if_true]
    match d with
    | []=>simp
    | [n]=>by_cases h:1≤v∧v≤6<;>simp [h,idx]
    | _::_::_=>simp;omega
  by_cases h9:k=9
  · subst h9
    simp only [contentN,beq_self_eq_true,if_true]
    by_cases h1:0≤v
    · by_cases h:d.length=0<;>by_cases h2:v<4<;>simp [h,h1,h2]<;>omega
    · simp [h1]
  by_cases y:k=12
  · subst y
    simp only [contentN,beq_self_eq_true,if_true]
    by_cases h:d.length=0<;>by_cases h1:0≤v∧v≤23<;>simp [h,h1,defN]
  by_cases b:k=10
  · subst b
    simp only [contentN,beq_self_eq_true,if_true]
    by_cases h:v=0
    · by_cases h1:1≤d.length
      · by_cases h2:d.length≤4
        · have h3:(1:Int)≤d.length:=by omega
          have h4:(d.length:Int)≤4:=by omega
          simp [h,h1,h2,h3,h4]
        · have h3:(1:Int)≤d.length:=by omega
          have h4:¬ (d.length:Int)≤4:=by omega
          simp [h,h1,h2,h3,h4]
      · have h3:¬ (1:Int)≤d.length:=by omega
        simp [h,h1,h3]
    · by_cases h1:(1:Int)≤d.length<;>by_cases h2:(d.length:Int)≤4<;>simp [h,h1,h2]
  by_cases o:k=11
  · subst o
    simp only [contentN,beq_self_eq_true,if_true]
    by_cases h:v=0<;>by_cases h1:d.length=2
    · simp [h,h1]
    · have h2:¬ ((d.length:Int)=2):=by omega
      simp [h,h1,h2]
    · simp [h,h1]
    · have h2:¬ ((d.length:Int)=2):=by omega
      simp [h,h1,h2]
  · simp only [contentN,h6,h7,h8,h9,b,o,y,if_false]
    by_cases h:v=0<;>by_cases h1:d.length=0<;>simp [h,h1,h6,h7,h8,h9,b,o,y]

theorem z7s {n:Nat}(hn:n≤maxLen):w64 ((n:Int) - 1)=(n:Int) - 1:=by
  have:maxLen=9223372036854775807:=rfl
  exact zb (by omega) (by omega)
theorem zbW {fuel:Nat}{a:D.Agent}(hf:18446744073709551616≤fuel) (hl:a.Data.length≤maxLen) (h1:1≤a.Ports.length) (h2:a.Ports.length≤maxLen):
    z1E fuel a=some (agentN a.Kind a.Level a.Value a.Data a.Ports.length):=by
  unfold z1E agentN
  rw [if_neg (by simp;intro h;rw [h] at h1;exact absurd h1 (by decide))]
  have hF:z4y fuel a.Kind (a.Ports.length:Int)=some (if a.Kind=9 then(a.Ports.length:Int) - 1 else 0):=by
    unfold z4y
    by_cases h:a.Kind=9
    · rw [if_pos (by simpa using h),if_pos h,z7s h2]
    · rw [if_neg (by simpa using h),if_neg h]
  rw [hF,Option.bind_some,zbE,Option.bind_some,z7R,Option.bind_some]
  by_cases hp:portsN a.Kind (if a.Kind=9 then(a.Ports.length:Int) - 1 else 0)=(a.Ports.length:Int)
  · rw [if_neg (by simp [hp]),decide_eq_true hp,Bool.true_and]
    cases allowN a.Kind a.Level with
    | false=>rfl
    | true=>rw [Bool.true_and];exact zaC hf hl
  · rw [if_pos (by simpa using hp),decide_eq_false hp];rfl
theorem zbV {fuel:Nat}{a:D.Agent}(hf:18446744073709551616≤fuel) (hl:a.Data.length≤maxLen) (h1:1≤a.Ports.length) (h2:a.Ports.length≤maxLen):
    z2z fuel a=some (agentN a.Kind a.Level a.Value a.Data a.Ports.length):=by
  unfold z2z agentN
  have hF:z1U fuel a=some (if a.Kind=9 then(a.Ports.length:Int) - 1 else 0):=by
    unfold z1U
    by_cases h:a.Kind=9
    · rw [if_pos (by simpa using h),if_pos h,z7s h2]
    · rw [if_neg (by simpa using h),if_neg h]
  rw [hF,Option.bind_some,z99,Option.bind_some,z73,Option.bind_some,zaB hf hl]
  by_cases hp:portsN a.Kind (if a.Kind=9 then(a.Ports.length:Int) - 1 else 0)=(a.Ports.length:Int)
  · rw [hp,if_pos (decide_eq_true (by omega)),if_pos (by simp),decide_eq_true rfl,Bool.true_and]
    cases allowN a.Kind a.Level<;>rfl
  · rw [decide_eq_false hp]
    generalize portsN a.Kind (if a.Kind=9 then(a.Ports.length:Int) - 1 else 0)=r at hp ⊢
    by_cases h:r>0
    · rw [if_pos (decide_eq_true h),if_neg (by simpa using fun h=>hp h.symm)];rfl
    · rw [if_neg (by simpa using h)];rfl



def agN (a:D.Agent):Bool:=decide (a.Ports.length≠0) && agentN a.Kind a.Level a.Value a.Data a.Ports.length
theorem zeN {fuel:Nat}{a:D.Agent}(hf:18446744073709551616≤fuel) (hl:a.Data.length≤maxLen) (h2:a.Ports.length≤maxLen):z1E fuel a=some (agN a):=by
  by_cases h:a.Ports.length=0
  · unfold z1E agN
    rw [if_pos (by simp [h]),show decide (a.Ports.length≠0)=false by simp [h],Bool.false_and]
    rfl
  · rw [zbW hf hl (by omega) h2]
    unfold agN
    rw [decide_eq_true (by simpa using h),Bool.true_and]
theorem zeM {fuel:Nat}{a:D.Agent}(hf:18446744073709551616≤fuel) (hl:a.Data.length≤maxLen) (h2:a.Ports.length≤maxLen):z2z fuel a=some (agN a):=by
  by_cases h:a.Ports.length=0
  · unfold z2z agN
    have hF:z1U fuel a=some (if a.Kind=9 then(a.Ports.length:Int) - 1 else 0):=by
      unfold z1U
      by_cases h:a.Kind=9
      · rw [if_pos (by simpa using h),if_pos h,z7s h2]
      · rw [if_neg (by simpa using h),if_neg h]
    rw [hF,Option.bind_some,z99,Option.bind_some,show decide (a.Ports.length≠0)=false by simp [h],Bool.false_and]
    generalize portsN a.Kind (if a.Kind=9 then(a.Ports.length:Int) - 1 else 0)=r
    by_cases hr:r>0
    · rw [if_pos (decide_eq_true hr),if_neg (by rw [h];simp;omega)]
    · rw [if_neg (by simpa using hr)]
  · rw [zbV hf hl (by omega) h2]
    unfold agN
    rw [decide_eq_true (by simpa using h),Bool.true_and]
theorem zeo {a:D.Agent}(h:agN a=true):a.Ports.length≠0:=by
  unfold agN at h
  simp only [Bool.and_eq_true,decide_eq_true_eq] at h
  exact h.1
end Go.E


namespace Go.E
open Go.RowKit Go.Proofs
set_option linter.unusedSimpArgs false
set_option linter.unusedVariables false


inductive Rnd (σ ρ:Type) where
  | go (s:σ)
  | back (r:ρ)
def foldR {α σ ρ:Type}(f:Nat→σ→α→Rnd σ ρ):Nat→List α→σ→Rnd σ ρ
  | _,[],s=>.go s
  | i,x::xs,s=>match f i s x with
    | .go s'=>foldR f (i+1) xs s'
    | .back r=>.back r
theorem loopR {α σ S τ ρ:Type}{xs:List α}{body:S→Option (Rd S τ ρ)}{mk:Int→σ→S}{out:σ→τ}{f:Nat→σ→α→Rnd σ ρ}{J:Nat→σ→Prop}{s0:σ}{fuel:Nat}
    (hl:xs.length≤maxLen) (hf:18446744073709551616≤fuel) (hJ:J 0 s0)
    (step:∀ (i:Nat) s x,i<xs.length→xs[i]? = some x→J i s→match f i s x with
      | .go s'=>body (mk i s)=some (.next (mk (w64 (i+1)) s'))∧J (i+1) s'
      | .back r=>body (mk i s)=some (.ret r))
    (last:∀ s,J xs.length s→body (mk xs.length s)=some (.brk (out s))):
    (match foldR f 0 xs s0 with
      | .go s=>iter body fuel (mk 0 s0)=some (.inl (out s))∧J xs.length s
      | .back r=>iter body fuel (mk 0 s0)=some (.inr r)):=by
  have hm:maxLen=9223372036854775807:=rfl
  have key:∀ (ys:List α) (i:Nat) (s:σ) (fu:Nat),i+ys.length=xs.length→(∀ j,ys[j]? = xs[i+j]?)→ys.length<fu→J i s→(match foldR f i ys s with
      | .go s'=>iter body fu (mk i s)=some (.inl (out s'))∧J xs.length s'
      | .back r=>iter body fu (mk i s)=some (.inr r)):=by
    intro ys
    induction ys with
    | nil=>
      intro i s fu hi _ hfu hj
      obtain⟨fu,rfl⟩:∃ f',fu=f'+1:=⟨fu - 1,by simp at hfu;omega⟩
      simp only [List.length_nil,Nat.add_zero] at hi
      subst hi
      simp only [foldR,iter,last s hj]
      exact⟨trivial,hj⟩
    | cons y ys ih=>
      intro i s fu hi hat hfu hj
      obtain⟨fu,rfl⟩:∃ f',fu=f'+1:=⟨fu - 1,by simp at hfu;omega⟩
      simp only [List.length_cons] at hi hfu
      have hx:xs[i]? = some y:=by have:=hat 0;simpa using this.symm
      have hs:=step i s y (by omega) hx hj
      unfold foldR
      cases hfs:f i s y with
      | go s'=>
        rw [hfs] at hs
        have h2:=ih (i+1) s' fu (by omega) (fun j=>by have:=hat (j+1);rw [show i+1+j=i+(j+1) by omega];simpa using this) (by omega) hs.2
        simp only [iter,hs.1]
        rw [zb (by omega) (by omega)]
        exact_mod_cast h2
      | back r=>
        rw [hfs] at hs
        simp only [iter,hs]
  have:=key xs 0 s0 fuel (by simp) (by simp) (by omega) hJ
  exact_mod_cast this

theorem z6b {α:Type}{xs:List α}{p:Nat→α→Bool}{k:Nat}:((xs.zipIdx k).all fun y=>p y.2 y.1)=true↔∀ i x,xs[i]? = some x→p (k+i) x=true:=by
  rw [List.all_eq_true]
  constructor
  · intro h i x hx
    have:(x,k+i)∈xs.zipIdx k:=by
      rw [List.mem_zipIdx_iff_le_and_getElem?_sub]
      exact⟨Nat.le_add_right _ _,by simpa using hx⟩
    exact h _ this
  · rintro h ⟨x,j⟩ hj
    rw [List.mem_zipIdx_iff_le_and_getElem?_sub] at hj
    have:=h (j - k) x hj.2
    rwa [show k+(j - k)=j by have:=hj.1;simp at this;omega] at this

theorem zap {α ρ:Type}{p:Nat→α→Bool}{v:ρ}:∀ {xs:List α}{k:Nat},foldR (fun i (_:Unit) x=>if p i x=true then Rnd.go () else Rnd.back v) k xs ()=if((xs.zipIdx k).all fun y=>p y.2 y.1)=true then Rnd.go () else Rnd.back v
  | [],k=>by simp [foldR]
  | x::xs,k=>by
    unfold foldR
    cases h:p k x with
    | true=>simp only [if_true,zap (xs:=xs),List.zipIdx_cons,List.all_cons,h,Bool.true_and]
    | false=>simp [h]


theorem allLoop {α τ ρ:Type}{xs:List α}{body:Int→Option (Rd Int τ ρ)}{p:Nat→α→Bool}{t:τ}{v:ρ}{fuel:Nat}(hl:xs.length≤maxLen) (hf:18446744073709551616≤fuel)
    (step:∀ (i:Nat) x,i<xs.length→xs[i]? = some x→body i=if p i x=true then some (.next (w64 (i+1))) else some (.ret v)) (last:body xs.length=some (.brk t)):
    iter body fuel 0=some (if(xs.zipIdx.all fun y=>p y.2 y.1)=true then .inl t else .inr v):=by
  have h:=loopR (xs:=xs) (body:=body) (mk:=fun i _=>i) (out:=fun(_:Unit)=>t) (f:=fun i (_:Unit) x=>if p i x=true then Rnd.go () else Rnd.back v) (J:=fun _ _=>True) (s0:=()) hl hf trivial
    (fun i s x hi hx _=>by
      have:=step i x hi hx
      cases hp:p i x with
      | true=>rw [hp] at this;exact⟨this,trivial⟩
      | false=>rw [hp] at this;simpa using this) (fun s _=>last)
  rw [zap] at h
  cases hp:(xs.zipIdx.all fun y=>p y.2 y.1) with
  | true=>rw [hp] at h;exact h.1
  | false=>rw [hp] at h;exact h

theorem z83 {α:Type}{xs:List α}{i:Nat}{x:α}(h:xs[i]? = some x):(xs.take (i+1)).zipIdx=(xs.take i).zipIdx++[(x,i)]:=by
  have hl:=(List.getElem?_eq_some_iff.1 h).1
  rw [List.take_add_one,h,List.zipIdx_append]
  simp [Nat.min_eq_left (Nat.le_of_lt hl)]

theorem zipLoop {α S τ ρ β:Type}{xs:List α}{body:S→Option (Rd S τ ρ)}{mk:Int→List β→S}{out:List β→τ}{g:Nat→α→List β}{s0:List β}{fuel:Nat}(hl:xs.length≤1048576) (hf:18446744073709551616≤fuel)
    (step:∀ (i:Nat) x,xs[i]? = some x→body (mk i (s0++((xs.take i).zipIdx).flatMap fun x=>g x.2 x.1))=some (.next (mk (w64 (i+1)) (s0++(((xs.take i).zipIdx).flatMap fun x=>g x.2 x.1)++g i x))))
    (last:body (mk xs.length (s0++(xs.zipIdx).flatMap fun x=>g x.2 x.1))=some (.brk (out (s0++(xs.zipIdx).flatMap fun x=>g x.2 x.1)))):
    iter body fuel (mk 0 s0)=some (.inl (out (s0++(xs.zipIdx).flatMap fun x=>g x.2 x.1))):=by
  obtain⟨o,h1,h2⟩:=z1n (body:=body) (fun k s=>s=mk k (s0++((xs.take k).zipIdx).flatMap fun x=>g x.2 x.1)) xs.length (fun o=>o=.inl (out (s0++(xs.zipIdx).flatMap fun x=>g x.2 x.1))) (by
    rintro k s hk rfl
    obtain⟨x,hx⟩:=z35 hk
    refine .inl ⟨_,step k x hx,?_⟩
    rw [zb (by omega) (by omega),z83 hx,List.flatMap_append,List.append_assoc]
    simp) (by
    rintro s rfl
    rw [List.take_length]
    exact .inr ⟨_,last,rfl⟩) (fuel:=fuel) (i:=0) (s:=mk 0 s0) (Nat.zero_le _) (by omega) (by simp)
  rw [h1,h2]

end Go.E


namespace Go.E
open Go.RowKit Go.Proofs
set_option linter.unusedSimpArgs false
set_option linter.unusedVariables false


def portAt (n:D.Net) (p:D.Port):Option D.Port:=(idx n.Agents p.Agent).bind fun a=>idx a.Ports p.Slot
def hasN (l:List D.Agent) (p:D.Port):Bool:=decide (0≤p.Agent∧0≤p.Slot) && (l[p.Agent.toNat]?).any fun a=>decide (p.Slot<(a.Ports.length:Int))
def agentsN (l:List D.Agent):Bool:=decide (1≤l.length∧l.length≤600) && (l.zipIdx.all fun x=>agN x.1 && ((x.1.Kind == 1) == (x.2 == 0)))
def prt (i k:Nat):D.Port:=⟨i,k⟩
def chkN (n:D.Net) (i k:Nat) (p:D.Port):Bool:=!(decide (p=prt i k)) && (hasN n.Agents p && decide (portAt n p=some (prt i k)))
def netN (n:D.Net):Bool:=agentsN n.Agents && (n.Agents.zipIdx.all fun x=>x.1.Ports.zipIdx.all fun y=>chkN n x.2 y.2 y.1)

theorem z4k {α:Type}{xs:List α}{i:Int}(h:0≤i):idx xs i=xs[i.toNat]?:=by unfold idx;rw [if_pos h]
theorem z6t {l:List D.Agent}{p:D.Port}(h:hasN l p=true):0≤p.Agent∧0≤p.Slot∧∃ a q,l[p.Agent.toNat]? = some a∧idx l p.Agent=some a∧a.Ports[p.Slot.toNat]? = some q∧idx a.Ports p.Slot=some q∧p.Agent<l.length∧p.Slot<a.Ports.length:=by
  unfold hasN at h
  simp only [Bool.and_eq_true,decide_eq_true_eq] at h
  obtain⟨⟨h1,h2⟩,h3⟩:=h
  cases ha:l[p.Agent.toNat]? with
  | none=>rw [ha] at h3;simp at h3
  | some a=>
    rw [ha] at h3
    simp only [Option.any_some,decide_eq_true_eq] at h3
    obtain⟨q,hq⟩:=z35 (xs:=a.Ports) (i:=p.Slot.toNat) (by omega)
    have:=(List.getElem?_eq_some_iff.1 ha).1
    exact⟨h1,h2,a,q,rfl,by rw [z4k h1,ha],hq,by rw [z4k h2,hq],by omega,h3⟩
theorem zcy {l:List D.Agent}{p:D.Port}:hasN l p=true↔0≤p.Agent∧0≤p.Slot∧∃ a,l[p.Agent.toNat]? = some a∧p.Slot<a.Ports.length:=by
  constructor
  · intro h
    obtain⟨h1,h2,a,q,h3,_,_,_,_,h4⟩:=z6t h
    exact⟨h1,h2,a,h3,h4⟩
  · rintro⟨h1,h2,a,h3,h4⟩
    unfold hasN
    rw [h3]
    simp [h1,h2,h4]
theorem zaR {p q:D.Port}:(((p.Agent:Int) == q.Agent) && (((p.Slot:Int) == q.Slot) && true))=decide (p=q):=by
  obtain⟨a,b⟩:=p
  obtain⟨c,d⟩:=q
  by_cases h1:a=c<;>by_cases h2:b=d<;>simp [h1,h2]
theorem zeq {p:D.Port}{i k:Nat}:(((p.Agent:Int) == (i:Int)) && (((p.Slot:Int) == (k:Int)) && true))=decide (p=prt i k):=zaR (q:=prt i k)

theorem zan {l:List D.Agent}{p:D.Port}{fuel:Nat}(hl:l.length≤maxLen) (hp:∀ a,a∈l→a.Ports.length≤maxLen):z4M fuel l p=some (hasN l p):=by
  unfold z4M
  rw [z55,Option.bind_some,z7s hl]
  by_cases h1:0≤p.Agent∧p.Agent≤(l.length:Int) - 1
  · rw [if_pos (by simpa using h1)]
    obtain⟨a,ha⟩:=z35 (xs:=l) (i:=p.Agent.toNat) (by omega)
    rw [z4k h1.1,ha,Option.bind_some,z55,z7s (hp a (List.mem_of_getElem? ha)),Option.bind_some]
    unfold hasN
    rw [ha]
    simp only [Option.bind_some,Option.any_some]
    by_cases h2:0≤p.Slot<;>by_cases h3:p.Slot<(a.Ports.length:Int)<;>simp [h1.1,h2,h3]<;>omega
  · rw [if_neg (by simpa using h1)]
    unfold hasN
    by_cases h0:0≤p.Agent
    · rw [List.getElem?_eq_none (by omega)];simp
    · simp [h0]
theorem zao {l:List D.Agent}{p:D.Port}{fuel:Nat}:z4V fuel l p=some (hasN l p):=by
  unfold z4V hasN
  by_cases h0:0≤p.Agent
  · rw [if_pos (by simpa using h0)]
    by_cases h1:p.Agent<l.length
    · rw [if_pos (by simpa using h1)]
      obtain⟨a,ha⟩:=z35 (xs:=l) (i:=p.Agent.toNat) (by omega)
      by_cases h2:0≤p.Slot
      · rw [if_pos (by simpa using h2),z4k h0,ha];simp [h0,h2]
      · rw [if_neg (by simpa using h2)];simp [h2]
    · rw [if_neg (by simpa using h1),List.getElem?_eq_none (by omega)];simp
  · rw [if_neg (by simpa using h0)];simp [h0]
theorem z6M {n:D.Net}{p:D.Port}{fuel:Nat}:zT fuel n p=portAt n p:=by
  unfold zT portAt
  cases idx n.Agents p.Agent with
  | none=>rfl
  | some a=>
    simp only [Option.bind_some]
    cases idx a.Ports p.Slot<;>rfl


theorem zba {i:Nat}:(((i:Int)) == 0)=(i == 0):=by
  by_cases h:i=0
  · subst h;rfl
  · have h2:¬ ((i:Int)=0):=by omega
    rw [beq_eq_false_iff_ne.2 h2,beq_eq_false_iff_ne.2 h]
theorem zaX {l:List D.Agent}{fuel:Nat}(hf:18446744073709551616≤fuel) (hl:l.length≤1048576) (hp:∀ a,a∈l→a.Data.length≤maxLen∧a.Ports.length≤maxLen):z3Z fuel l=some (agentsN l):=by
  have hm:maxLen=9223372036854775807:=rfl
  unfold z3Z agentsN
  rw [z55,Option.bind_some]
  by_cases h1:1≤l.length∧l.length≤600
  · rw [if_neg (by simp;omega),decide_eq_true h1,Bool.true_and,allLoop (xs:=l) (p:=fun i a=>agN a && ((a.Kind == 1) == (i == 0))) (t:=()) (v:=false) (by omega) hf (fun i a hi ha=>by
      unfold z3T
      rw [if_pos (by simpa using hi),z1A ha,Option.bind_some,zeM hf (hp a (List.mem_of_getElem? ha)).1 (hp a (List.mem_of_getElem? ha)).2,Option.bind_some]
      unfold z2y
      simp only [Option.bind_some,zba]
      cases agN a<;>cases (a.Kind == 1)<;>cases (i == 0)<;>rfl) (by unfold z3T;simp)]
    cases (l.zipIdx.all fun x=>agN x.1 && ((x.1.Kind == 1) == (x.2 == 0)))<;>rfl
  · rw [if_pos (by simp;omega),decide_eq_false h1,Bool.false_and]
theorem zaY {l:List D.Agent}{fuel:Nat}(hf:18446744073709551616≤fuel) (hl:l.length≤1048576) (hp:∀ a,a∈l→a.Data.length≤maxLen∧a.Ports.length≤maxLen):z47 fuel l=some (agentsN l):=by
  have hm:maxLen=9223372036854775807:=rfl
  have key:∀ b:Bool,z1G fuel l b=some (!b && (l.zipIdx.all fun x=>agN x.1 && ((x.1.Kind == 1) == (x.2 == 0)))):=fun b=>by
    unfold z1G
    cases b with
    | true=>rfl
    | false=>
      rw [if_neg Bool.false_ne_true,allLoop (xs:=l) (p:=fun i a=>agN a && ((a.Kind == 1) == (i == 0))) (t:=()) (v:=false) (by omega) hf (fun i a hi ha=>by
        unfold z3W
        rw [if_pos (by simpa using hi),z1A ha,Option.bind_some,zeN hf (hp a (List.mem_of_getElem? ha)).1 (hp a (List.mem_of_getElem? ha)).2,Option.bind_some]
        unfold z2B
        rw [zba]
        cases agN a<;>cases (a.Kind == 1)<;>cases (i == 0)<;>rfl) (by unfold z3W;simp)]
      cases (l.zipIdx.all fun x=>agN x.1 && ((x.1.Kind == 1) == (x.2 == 0)))<;>rfl
  unfold z47 agentsN
  by_cases h1:1≤l.length
  · rw [if_neg (by simp;omega),key]
    by_cases h2:l.length≤600
    · rw [decide_eq_false (by omega),decide_eq_true ⟨h1,h2⟩];rfl
    · rw [decide_eq_true (by omega),decide_eq_false (by omega)];rfl
  · rw [if_pos (by simp;omega),key,decide_eq_false (by omega)];rfl


theorem zdc {n:D.Net}{fuel:Nat}(hf:18446744073709551616≤fuel) (hl:n.Agents.length≤1048576) (hp:∀ a,a∈n.Agents→a.Data.length≤maxLen∧a.Ports.length≤maxLen):z5y fuel n=some (netN n):=by
  have hm:maxLen=9223372036854775807:=rfl
  unfold z5y netN
  rw [zaX hf hl hp,Option.bind_some]
  cases hA:agentsN n.Agents with
  | false=>rfl
  | true=>
    rw [if_neg (by simp),allLoop (xs:=n.Agents) (p:=fun i a=>a.Ports.zipIdx.all fun y=>chkN n i y.2 y.1) (t:=()) (v:=false) (by omega) hf (fun i a hi ha=>by
      have hpa:=(hp a (List.mem_of_getElem? ha)).2
      unfold z5h
      rw [if_pos (by simpa using hi),z1A ha,Option.bind_some,allLoop (xs:=a.Ports) (p:=fun k p=>chkN n i k p) (t:=()) (v:=Rd.ret false) hpa hf (fun k p hk hq=>by
        unfold z5g
        rw [if_pos (by simpa using hk),z1A hq,Option.bind_some,zeq,zan (by omega) fun a ha=>(hp a ha).2]
        unfold z3t chkN
        by_cases h1:p=prt i k
        · rw [if_pos (decide_eq_true h1),decide_eq_true h1];rfl
        · rw [if_neg (by simpa using h1),decide_eq_false h1,Option.bind_some]
          cases h2:hasN n.Agents p with
          | false=>rfl
          | true=>
            obtain⟨_,_,b,q,_,h3,_,h4,_⟩:=z6t h2
            rw [if_neg (by simp),h3,Option.bind_some,h4,Option.bind_some,zeq]
            have:portAt n p=some q:=by unfold portAt;rw [h3,Option.bind_some,h4]
            rw [this]
            by_cases h5:q=prt i k
            · simp [h5]
            · simp [h5]) (by unfold z5g;simp)]
      cases (a.Ports.zipIdx.all fun y=>chkN n i y.2 y.1)<;>rfl) (by unfold z5h;simp)]
    cases (n.Agents.zipIdx.all fun x=>x.1.Ports.zipIdx.all fun y=>chkN n x.2 y.2 y.1)<;>rfl


def portsL (n:D.Net):List D.Port:=n.Agents.zipIdx.flatMap fun x=>(List.range x.1.Ports.length).map fun k=>prt x.2 k
theorem z9C:∀ (xs:List D.Agent) (k:Nat),((xs.zipIdx k).flatMap fun x=>(List.range x.1.Ports.length).map fun j=>prt x.2 j).length=sumL (fun a=>a.Ports.length) xs
  | [],k=>by simp [sumL]
  | x::xs,k=>by
    rw [List.zipIdx_cons,List.flatMap_cons,List.length_append,z9C xs (k+1)]
    simp [sumL]
theorem zbF {n:D.Net}:(portsL n).length=sumL (fun a=>a.Ports.length) n.Agents:=z9C _ _
theorem zce {n:D.Net}(i:Nat):(((n.Agents.take i).zipIdx).flatMap fun x=>(List.range x.1.Ports.length).map fun j=>prt x.2 j).length≤sumL (fun a=>a.Ports.length) n.Agents:=by
  rw [z9C]
  have:=z5P (f:=fun a:D.Agent=>a.Ports.length) (xs:=n.Agents.take i) (ys:=n.Agents.drop i)
  rw [List.take_append_drop] at this
  omega
theorem netPorts {n:D.Net}{fuel:Nat}(hf:18446744073709551616≤fuel) (hl:n.Agents.length≤1048576) (hs:sumL (fun a=>a.Ports.length) n.Agents≤1048576):z48 fuel n=some (portsL n):=by
  have hm:maxLen=9223372036854775807:=rfl
  unfold z48
  have h:=loopR (xs:=n.Agents) (body:=z2D fuel n) (mk:=fun i s=>(s,i)) (out:=fun s:List D.Port=>s) (ρ:=List D.Port)
    (f:=fun i s a=>Rnd.go (s++(List.range a.Ports.length).map fun k=>prt i k)) (J:=fun i s=>s=((n.Agents.take i).zipIdx).flatMap fun x=>(List.range x.1.Ports.length).map fun k=>prt x.2 k) (s0:=[]) (fuel:=fuel) (by omega) hf (by simp)
    (fun i s a hi ha hJ=>by
      have hpa:a.Ports.length≤1048576:=Nat.le_trans (z86 (f:=fun a:D.Agent=>a.Ports.length) (List.mem_of_getElem? ha)) hs
      have hJ':s++((List.range a.Ports.length).map fun k=>prt i k)=((n.Agents.take (i+1)).zipIdx).flatMap fun x=>(List.range x.1.Ports.length).map fun k=>prt x.2 k:=by
        rw [z83 ha,List.flatMap_append,hJ];simp
      refine⟨?_,hJ'⟩
      have hlen:=zce (n:=n) (i+1)
      rw [← hJ',List.length_append,List.length_map,List.length_range] at hlen
      unfold z2D
      rw [if_pos (by simpa using hi),z1A ha,Option.bind_some]
      obtain⟨o,h1,h2⟩:=z1n (body:=z2C fuel (s,(i:Int)) a) (fun k q=>q.1=(k:Int)∧q.2=s++(List.range k).map fun j=>prt i j) a.Ports.length (fun o=>o=.inl (s++(List.range a.Ports.length).map fun j=>prt i j)) (by
        rintro k ⟨q1,q2⟩ hk ⟨g1,g2⟩
        dsimp only at g1 g2
        subst g1;subst g2
        refine .inl ⟨(w64 ((k:Int)+1),(s++(List.range k).map fun j=>prt i j)++[⟨(i:Int),(k:Int)⟩]),?_,?_,?_⟩
        · unfold z2C
          rw [if_pos (by simpa using hk),if_pos (by simp;omega)]
        · dsimp only;rw [zb (by omega) (by omega)];simp
        · dsimp only;rw [List.range_succ,List.map_append];simp [prt]) (by
        rintro⟨q1,q2⟩ ⟨g1,g2⟩
        dsimp only at g1 g2
        subst g1;subst g2
        refine .inr ⟨_,?_,rfl⟩
        unfold z2C
        rw [if_neg (by simp)]) (fuel:=fuel) (i:=0) (s:=(0,s)) (Nat.zero_le _) (by omega) ⟨rfl,by simp⟩
      rw [h1,h2]
      rfl) (fun s _=>by unfold z2D;rw [if_neg (by simp)])
  have key:∀ (ys:List D.Agent) (k:Nat) (s:List D.Port),foldR (ρ:=List D.Port) (fun i s (a:D.Agent)=>Rnd.go (s++(List.range a.Ports.length).map fun k=>prt i k)) k ys s=Rnd.go (s++(ys.zipIdx k).flatMap fun x=>(List.range x.1.Ports.length).map fun j=>prt x.2 j):=by
    intro ys
    induction ys with
    | nil=>intro k s;simp [foldR]
    | cons y ys ih=>intro k s;unfold foldR;dsimp only;rw [ih,List.zipIdx_cons,List.flatMap_cons,List.append_assoc]
  rw [key] at h
  rw [show(([]:List D.Port),(0:Int))=(([]:List D.Port),((0:Nat):Int)) from rfl] at *
  rw [h.1]
  unfold portsL
  simp [aft,z52]
theorem z8J {n:D.Net}{p:D.Port}:p∈portsL n↔∃ (i:Nat) (a:D.Agent) (k:Nat),n.Agents[i]? = some a∧k<a.Ports.length∧p=prt i k:=by
  unfold portsL
  rw [List.mem_flatMap]
  constructor
  · rintro⟨⟨a,i⟩,h1,h2⟩
    rw [List.mem_zipIdx_iff_getElem?] at h1
    obtain⟨k,hk,rfl⟩:=List.mem_map.1 h2
    exact⟨i,a,k,h1,List.mem_range.1 hk,rfl⟩
  · rintro⟨i,a,k,h1,h2,rfl⟩
    exact⟨(a,i),by rw [List.mem_zipIdx_iff_getElem?];exact h1,List.mem_map.2 ⟨k,List.mem_range.2 h2,rfl⟩⟩
theorem z9y {n:D.Net}{i k:Nat}{a:D.Agent}{q:D.Port}(ha:n.Agents[i]? = some a) (hq:a.Ports[k]? = some q):portAt n (prt i k)=some q:=by
  unfold portAt prt
  rw [z1A ha,Option.bind_some,z1A hq]
theorem z9O {fuel:Nat}{p:D.Port→Bool}{f:D.Port→Option Bool}{xs:List D.Port}(hf:18446744073709551616≤fuel) (hl:xs.length≤maxLen) (h:∀ n,n∈xs→f n=some (p n)):
    zk fuel xs f=some (xs.any p):=by
  unfold zk zD
  obtain⟨r,h1,h2⟩:=askIndex (xs:=xs) (p:=p) (body:=zj fuel xs f) (j:=zV fuel) (t:=()) hl hf rfl (fun i x hi hx=>by
    simp only [zj,z1A hx,h x (List.mem_of_getElem? hx),lt_t (show(i:Int)<xs.length by omega),if_true,Option.bind_some]) (by simp [zj])
  rw [h1,Option.bind_some,h2]
theorem zb7 {n:D.Net}{fuel:Nat}(hf:18446744073709551616≤fuel) (hl:n.Agents.length≤1048576) (hs:sumL (fun a=>a.Ports.length) n.Agents≤1048576) (hp:∀ a,a∈n.Agents→a.Data.length≤maxLen∧a.Ports.length≤maxLen):z3M fuel n=some (netN n):=by
  have hm:maxLen=9223372036854775807:=rfl
  unfold z3M netN
  rw [zaY hf hl hp,Option.bind_some]
  cases hA:agentsN n.Agents with
  | false=>rfl
  | true=>
    let bad:D.Port→Bool:=fun p=>match portAt n p with
      | some q=>decide (q=p) || !(hasN n.Agents q && decide (portAt n q=some p))
      | none=>true
    rw [if_neg (by simp),netPorts hf hl hs,Option.bind_some,z9O (p:=bad) hf (by rw [zbF];omega) (fun p hpm=>by
      obtain⟨i,a,k,ha,hk,rfl⟩:=z8J.1 hpm
      obtain⟨q,hq⟩:=z35 hk
      have hpa:=z9y ha hq
      unfold z4j
      show _=some (match portAt n (prt i k) with | some q=>_ | none=>_)
      rw [z6M,hpa,Option.bind_some,zaR]
      dsimp only
      by_cases h1:q=prt i k
      · rw [if_pos (decide_eq_true h1),decide_eq_true h1];rfl
      · rw [if_neg (by simpa using h1),decide_eq_false h1,zao,Option.bind_some]
        cases h2:hasN n.Agents q with
        | false=>rfl
        | true=>
          obtain⟨_,_,b,r,_,h3,_,h4,_⟩:=z6t h2
          have hr:portAt n q=some r:=by unfold portAt;rw [h3,Option.bind_some,h4]
          rw [if_neg (by simp),z6M,hr,Option.bind_some,zaR]
          by_cases h5:r=prt i k<;>simp [h5]),Option.bind_some]
    congr 1
    rw [Bool.true_and,Bool.eq_iff_iff,Bool.not_eq_true',List.any_eq_false,z6b (xs:=n.Agents) (p:=fun i a=>a.Ports.zipIdx.all fun y=>chkN n i y.2 y.1)]
    constructor
    · intro h i a ha
      simp only [Nat.zero_add]
      rw [z6b (p:=fun k p=>chkN n i k p)]
      intro k q hq
      simp only [Nat.zero_add]
      have hk:=(List.getElem?_eq_some_iff.1 hq).1
      have:=h (prt i k) (z8J.2 ⟨i,a,k,ha,hk,rfl⟩)
      simp only [bad,z9y ha hq,Bool.or_eq_true,Bool.not_eq_true',not_or,decide_eq_true_eq,Bool.not_eq_false] at this
      unfold chkN
      rw [decide_eq_false this.1,this.2];rfl
    · intro h p hpm
      obtain⟨i,a,k,ha,hk,rfl⟩:=z8J.1 hpm
      obtain⟨q,hq⟩:=z35 hk
      have h1:=h i a ha
      simp only [Nat.zero_add] at h1
      rw [z6b (p:=fun k p=>chkN n i k p)] at h1
      have h2:=h1 k q hq
      simp only [Nat.zero_add] at h2
      unfold chkN at h2
      rw [Bool.and_eq_true] at h2
      simp only [bad,z9y ha hq,h2.2,Bool.not_true,Bool.or_false,Bool.not_eq_true]
      simpa using h2.1
end Go.E


namespace Go.E
open Go.RowKit Go.Proofs
set_option linter.unusedSimpArgs false
set_option linter.unusedVariables false


theorem z6y {n:D.Net}{p:D.Port}(h:hasN n.Agents p=true):∃ a q,idx n.Agents p.Agent=some a∧idx a.Ports p.Slot=some q∧portAt n p=some q:=by
  obtain⟨_,_,a,q,_,h4,_,h6,_⟩:=z6t h
  exact⟨a,q,h4,h6,by unfold portAt;rw [h4,Option.bind_some,h6]⟩
theorem z7E {n:D.Net}(hn:netN n=true){i j:Int}{a:D.Agent}{q:D.Port}(ha:idx n.Agents i=some a) (hq:idx a.Ports j=some q):hasN n.Agents q=true:=by
  unfold netN at hn
  rw [Bool.and_eq_true] at hn
  obtain⟨h1,h2⟩:=z6 ha
  obtain⟨h3,h4⟩:=z6 hq
  have h5:=hn.2
  rw [z6b (xs:=n.Agents) (p:=fun i a=>a.Ports.zipIdx.all fun y=>chkN n i y.2 y.1)] at h5
  have h6:=h5 _ _ h2
  rw [z6b (p:=fun k p=>chkN n (0+i.toNat) k p)] at h6
  have h7:=h6 _ _ h4
  unfold chkN at h7
  rw [Bool.and_eq_true,Bool.and_eq_true] at h7
  exact h7.2.1
theorem z60 {n:D.Net}(hn:netN n=true){i:Int}{a:D.Agent}(ha:idx n.Agents i=some a):agN a=true:=by
  unfold netN agentsN at hn
  rw [Bool.and_eq_true,Bool.and_eq_true] at hn
  obtain⟨h1,h2⟩:=z6 ha
  have h5:=hn.1.2
  rw [z6b (xs:=n.Agents) (p:=fun i a=>agN a && ((a.Kind == 1) == (i == 0)))] at h5
  have h6:=h5 _ _ h2
  rw [Bool.and_eq_true] at h6
  exact h6.1
theorem z8C {n:D.Net}(hn:netN n=true):1≤n.Agents.length∧n.Agents.length≤600:=by
  unfold netN agentsN at hn
  rw [Bool.and_eq_true,Bool.and_eq_true] at hn
  simpa using hn.1.1


theorem z5b {a:D.Agent}(h:agN a=true):0≤a.Level∧a.Level≤8∧
    (a.Kind=4→a.Ports.length=3)∧(a.Kind=2→a.Ports.length=3)∧(a.Kind=3→a.Ports.length=3)∧(a.Kind=7→a.Ports.length=3)∧
    (a.Kind=8→a.Ports.length=2∧a.Data.length=1)∧(a.Kind=10→a.Ports.length=2)∧(a.Kind=11→a.Ports.length=2)∧a.Data.length≤4∧a.Ports.length≤4:=by
  unfold agN agentN at h
  rw [Bool.and_eq_true,Bool.and_eq_true,Bool.and_eq_true] at h
  obtain⟨h0,h1,h2,h3⟩:=h
  have hl:0≤a.Level∧a.Level≤8:=by
    unfold allowN at h2
    rw [Bool.and_eq_true,Bool.or_eq_true,Bool.and_eq_true] at h2
    rcases h2.2 with h | h
    · have:a.Level=0:=by simpa using h
      omega
    · simpa using h.2
  have hp:=of_decide_eq_true h1
  have hk:∀ k,a.Kind=k→k≠9→portsN k 0=a.Ports.length:=fun k hk h9=>by
    rw [hk,if_neg h9] at hp
    exact hp
  have kk:1≤a.Kind∧a.Kind≤12:=by
    unfold allowN at h2
    rw [Bool.and_eq_true] at h2
    simpa using h2.1
  refine⟨hl.1,hl.2,fun h=>?_,fun h=>?_,fun h=>?_,fun h=>?_,fun h=>⟨?_,?_⟩,fun h=>?_,fun h=>?_,?_,?_⟩
  · have:=hk 4 h (by decide);simp [portsN] at this;omega
  · have:=hk 2 h (by decide);simp [portsN] at this;omega
  · have:=hk 3 h (by decide);simp [portsN] at this;omega
  · have:=hk 7 h (by decide);simp [portsN] at this;omega
  · have:=hk 8 h (by decide);simp [portsN] at this;omega
  · rw [h] at h3;unfold contentN at h3;simp at h3;omega
  · have:=hk 10 h (by decide);simp [portsN] at this;omega
  · have:=hk 11 h (by decide);simp [portsN] at this;omega
  · unfold contentN at h3
    rcases kinds a.Kind with hh | hh
    · rcases hh with hh | hh | hh | hh | hh | hh | hh | hh | hh | hh | hh | hh<;>rw [hh] at h3<;>simp [-List.length_eq_zero_iff] at h3<;>omega
    · exact absurd kk hh
  · rcases kinds a.Kind with hh | hh
    · rcases hh with hh | hh | hh | hh | hh | hh | hh | hh | hh | hh | hh | hh<;>rw [hh] at hp<;>simp [portsN] at hp<;>(try split at hp)<;>omega
    · exact absurd kk hh


abbrev SS:=List (List Int)
abbrev BS:=List (Int × SS)

structure Z where
  st:Nat
  ent:List Int
  org:List Int

def entZ (a:D.Agent) (p:D.Port) (z:Z):Z:=⟨z.st+1,if a.Kind=2∧p.Slot=1 then z.ent else z.ent++[p.Agent],z.org⟩


def walkM (l:List D.Agent):Nat→Z→D.Port→SS→Int ⊕ (Z × D.Port × SS)
  | 0,_,_,_=>.inl 4
  | n+1,z,p,ss=>match idx l p.Agent with
    | none=>.inl 99
    | some a=>if a.Kind≠4 then .inr (entZ a p z,p,ss) else match idx ss a.Level with
      | none=>.inl 99
      | some s=>if p.Slot>0 then(match idx a.Ports 0 with
          | none=>.inl 99
          | some q=>walkM l n (entZ a p z) q (ss.set a.Level.toNat (p.Slot::s))) else match s with
        | []=>.inl 13
        | t::s'=>match idx a.Ports t with
          | none=>.inl 99
          | some q=>walkM l n (entZ a p z) q (ss.set a.Level.toNat s')

def levelAt (l:List D.Agent) (i:Int):Nat:=match idx l i with
  | some a=>a.Level.toNat
  | none=>0

def varM (l:List D.Agent) (lam:Int) (ss:SS):BS→Nat→Option Int
  | [],_=>none
  | b::bs,k=>if b.1=lam∧ss.take (levelAt l lam)=b.2.take (levelAt l lam) then some k else varM l lam ss bs (k+1)

def numsFrom (n:Nat):List Int:=(List.range n).map fun(i:Nat)=>((i:Int)+1)

def shapeM (l:List D.Agent) (a:D.Agent) (p:D.Port) (ss:SS) (bs:BS):Option (Int × Int × List Int × List Int):=
  if a.Kind=2 then(if p.Slot=0 then some (4,0,[],[2]) else if p.Slot=1 then(varM l p.Agent ss bs 0).map (fun k=>(1,k,[],[])) else none)
  else if a.Kind=3 then(if p.Slot=2 then some (5,0,[],[0,1]) else none)
  else if a.Kind=6 then some (2,a.Value,[],[])
  else if a.Kind=7 then(if p.Slot=2 then some (3,a.Value,[],[0,1]) else none)
  else if a.Kind=8 then(if p.Slot=1 then some (3,a.Value,[],[0]) else none)
  else if a.Kind=9 then(if p.Slot=0 then some (8,a.Value,[],numsFrom (a.Ports.length - 1)) else none)
  else if a.Kind=10 then(if p.Slot=1 then some (9,0,a.Data,[0]) else none)
  else if a.Kind=11 then(if p.Slot=1 then some (10,0,a.Data,[0]) else none)
  else if a.Kind=12 then some (11,a.Value,[],[])
  else none


def kidsM (rec:Z→D.Port→Int ⊕ (D.Core × Z)) (a:D.Agent):List Int→Z→List D.Core→Int ⊕ (List D.Core × Z)
  | [],z,cs=>.inr (cs,z)
  | s::ss,z,cs=>match idx a.Ports s with
    | none=>.inl 99
    | some q=>match rec z q with
      | .inl c=>.inl c
      | .inr (c,z')=>kidsM rec a ss z' (cs++[c])


def stepM (l:List D.Agent) (k:Nat) (rec:SS→BS→Z→D.Port→Int ⊕ (D.Core × Z)) (ss:SS) (bs:BS) (z:Z) (p:D.Port):Int ⊕ (D.Core × Z):=
  match walkM l (4000 - z.st) z p ss with
  | .inl c=>.inl c
  | .inr (z1,p1,s1)=>match idx l p1.Agent with
    | none=>.inl 99
    | some a=>match shapeM l a p1 s1 bs with
      | none=>.inl 13
      | some (kd,v,d,slots)=>
        if z1.org.length≥400∨k=0 then .inl 4 else
        if a.Kind=8 then
          (if z1.org.length≥399∨k≤1 then .inl 4 else match idx a.Data 0 with
            | none=>.inl 99
            | some x=>match kidsM (rec s1 bs) a slots ⟨z1.st,z1.ent,z1.org++[p1.Agent]++[-1]⟩ [⟨2,x,[],[]⟩] with
              | .inl c=>.inl c
              | .inr (cs,z2)=>.inr (⟨kd,v,d,cs⟩,z2))
        else match kidsM (rec s1 (if kd=4 then(p1.Agent,s1)::bs else bs)) a slots ⟨z1.st,z1.ent,z1.org++[p1.Agent]⟩ [] with
          | .inl c=>.inl c
          | .inr (cs,z2)=>.inr (⟨kd,v,d,cs⟩,z2)
def readM (l:List D.Agent):Nat→SS→BS→Z→D.Port→Int ⊕ (D.Core × Z)
  | 0=>stepM l 0 fun _ _ _ _=>.inl 99
  | k+1=>stepM l (k+1) (readM l k)


def StOk (n:Nat) (s:List Int):Prop:=s.length≤n∧∀ t,t∈s→t=1∨t=2
def SsOk (n:Nat) (ss:SS):Prop:=ss.length=9∧∀ s,s∈ss→StOk n s
def BsOk (l:List D.Agent) (bs:BS):Prop:=∀ b,b∈bs→SsOk 4000 b.2∧∃ a,idx l b.1=some a
def EntOk (l:List D.Agent) (es:List Int):Prop:=∀ e,e∈es→0≤e∧e.toNat<l.length
structure ZOk (l:List D.Agent) (z:Z):Prop where
  st:z.st≤4000
  len:z.ent.length≤z.st
  ent:EntOk l z.ent
  org:z.org.length≤400

theorem SsOk.mono {n m:Nat}{ss:SS}(h:SsOk n ss) (hm:n≤m):SsOk m ss:=⟨h.1,fun s hs=>⟨Nat.le_trans (h.2 s hs).1 hm,(h.2 s hs).2⟩⟩
theorem SsOk.set {n:Nat}{ss:SS}{s:List Int}(h:SsOk n ss) (hs:StOk n s) (i:Nat):SsOk n (ss.set i s):=⟨by rw [List.length_set];exact h.1,fun t ht=>by
  rcases List.mem_or_eq_of_mem_set ht with h1 | h1
  · exact h.2 t h1
  · rw [h1];exact hs⟩
theorem SsOk.at {n:Nat}{ss:SS}{i:Int}(h:SsOk n ss) (h0:0≤i) (h8:i≤8):∃ s,idx ss i=some s∧StOk n s:=by
  obtain⟨s,hs⟩:=z35 (xs:=ss) (i:=i.toNat) (by rw [h.1];omega)
  exact⟨s,by rw [z4k h0,hs],h.2 s (List.mem_of_getElem? hs)⟩

theorem zcQ {l:List D.Agent}{a:D.Agent}{p:D.Port}{z:Z}(ha:idx l p.Agent=some a) (he:EntOk l z.ent):EntOk l (entZ a p z).ent:=by
  unfold entZ
  dsimp only
  split
  · exact he
  · intro e h
    rcases List.mem_append.1 h with h | h
    · exact he e h
    · simp only [List.mem_singleton] at h
      subst h
      obtain⟨h0,h1⟩:=z6 ha
      exact⟨h0,(List.getElem?_eq_some_iff.1 h1).1⟩


theorem z9L {a:D.Agent}{p:D.Port}{z:Z}(h:z.ent.length≤z.st):(entZ a p z).ent.length≤(entZ a p z).st:=by
  unfold entZ
  dsimp only
  split
  · omega
  · simp;omega
theorem z84 {l:List D.Agent}:∀ (k:Nat) (z:Z) (p:D.Port) (ss:SS),z.ent.length≤z.st→∀ {z' p' ss'},walkM l k z p ss=.inr (z',p',ss')→z'.ent.length≤z'.st
  | 0,_,_,_,_,_,_,_,h=>by cases h
  | k+1,z,p,ss,hz,z',p',ss',h=>by
    unfold walkM at h
    split at h
    · cases h
    · rename_i a ha
      have he:=z9L (a:=a) (p:=p) hz
      split at h
      · cases h;exact he
      · split at h
        · cases h
        · split at h
          · split at h
            · cases h
            · exact z84 k _ _ _ he h
          · split at h
            · cases h
            · split at h
              · cases h
              · exact z84 k _ _ _ he h
theorem zaJ {n:D.Net}(hn:netN n=true):∀ (k:Nat) (z:Z) (p:D.Port) (ss:SS),z.st+k=4000→hasN n.Agents p=true→SsOk z.st ss→EntOk n.Agents z.ent→
    match walkM n.Agents k z p ss with
    | .inl c=>c=4∨c=13
    | .inr (z',p',ss')=>hasN n.Agents p'=true∧SsOk z'.st ss'∧z'.st≤4000∧z.st<z'.st∧EntOk n.Agents z'.ent∧z'.org=z.org∧∃ a,idx n.Agents p'.Agent=some a∧a.Kind≠4
  | 0,z,p,ss,_,_,_,_=>.inl rfl
  | k+1,z,p,ss,hk,hp,hs,he=>by
    obtain⟨a,q0,ha,hq0,_⟩:=z6y hp
    have hf:=z5b (z60 hn ha)
    unfold walkM
    rw [ha]
    dsimp only
    have hE:=zcQ (z:=z) ha he
    by_cases h4:a.Kind=4
    · rw [if_neg (by simpa using h4)]
      obtain⟨s,hsi,hso⟩:=hs.at hf.1 hf.2.1
      rw [hsi]
      dsimp only
      have hpl:=hf.2.2.1 h4
      have key:∀ (t:Int) (s':List Int),(t=0∨t=1∨t=2)→StOk (z.st+1) s'→match (match idx a.Ports t with
          | none=>(.inl 99:Int ⊕ (Z × D.Port × SS))
          | some q=>walkM n.Agents k (entZ a p z) q (ss.set a.Level.toNat s')) with
          | .inl c=>c=4∨c=13
          | .inr (z',p',ss')=>hasN n.Agents p'=true∧SsOk z'.st ss'∧z'.st≤4000∧z.st<z'.st∧EntOk n.Agents z'.ent∧z'.org=z.org∧∃ a,idx n.Agents p'.Agent=some a∧a.Kind≠4:=fun t s' ht hs'=>by
        obtain⟨q,hq⟩:=z35 (xs:=a.Ports) (i:=t.toNat) (by omega)
        have hqi:idx a.Ports t=some q:=by rw [z4k (by omega),hq]
        rw [hqi]
        dsimp only
        have ih:=zaJ hn k (entZ a p z) q (ss.set a.Level.toNat s') (by show z.st+1+k=4000;omega) (z7E hn ha hqi) ((hs.mono (Nat.le_succ _)).set hs' _) hE
        cases hw:walkM n.Agents k (entZ a p z) q (ss.set a.Level.toNat s') with
        | inl c=>rw [hw] at ih;exact ih
        | inr x=>
          obtain⟨z',p',ss'⟩:=x
          rw [hw] at ih
          obtain⟨i1,i2,i3,i4,i5,i6,i7⟩:=ih
          exact⟨i1,i2,i3,by have:z.st+1<z'.st:=i4;omega,i5,i6,i7⟩
      by_cases hsl:p.Slot>0
      · rw [if_pos hsl]
        refine key 0 (p.Slot::s) (.inl rfl) ⟨by simp;exact hso.1,fun t ht=>?_⟩
        rcases List.mem_cons.1 ht with h | h
        · obtain⟨_,_,a',_,_,g4,_,_,_,g8⟩:=z6t hp
          rw [ha] at g4
          obtain rfl:=Option.some.inj g4
          omega
        · exact hso.2 t h
      · rw [if_neg hsl]
        cases s with
        | nil=>exact .inr rfl
        | cons t s'=>
          have ht:=hso.2 t (by simp)
          exact key t s' (by omega) ⟨by have:=hso.1;simp at this;omega,fun u hu=>hso.2 u (by simp [hu])⟩
    · rw [if_pos h4]
      exact⟨hp,hs.mono (Nat.le_succ _),by show z.st+1≤4000;omega,Nat.lt_succ_self _,hE,rfl,a,ha,h4⟩

theorem zdb {n:Nat}{x:Int}(h:x∈numsFrom n):1≤x∧x≤n:=by
  unfold numsFrom at h
  obtain⟨i,hi,rfl⟩:=List.mem_map.1 h
  have:=List.mem_range.1 hi
  omega
theorem z9B (n:Nat):(numsFrom n).length=n:=by simp [numsFrom]


theorem z8v {l:List D.Agent}{a:D.Agent}(hf:agN a=true){p:D.Port}{ss:SS}{bs:BS}{kd v:Int}{d slots:List Int}(h:shapeM l a p ss bs=some (kd,v,d,slots)):
    slots.length≤3∧(∀ s,s∈slots→0≤s∧s<a.Ports.length)∧(kd=4→a.Kind=2)∧(a.Kind=8→kd≠4∧a.Data.length=1)∧d.length≤4∧1≤kd∧kd≤11:=by
  obtain⟨_,_,f4,f2,f3,f7,f8,f10,f11,fd,fp⟩:=z5b hf
  unfold shapeM at h
  split at h
  · rename_i hk
    have:=f2 hk
    split at h
    · cases h;exact⟨by simp,fun s hs=>by simp at hs;omega,fun _=>hk,fun h=>by omega,by simp,by decide,by decide⟩
    · split at h
      · cases hv:varM l p.Agent ss bs 0 with
        | none=>rw [hv] at h;cases h
        | some k=>rw [hv] at h;cases h;exact⟨by simp,fun s hs=>by simp at hs,fun h=>by omega,fun h=>by omega,by simp,by decide,by decide⟩
      · cases h
  split at h
  · rename_i _ hk
    have:=f3 hk
    split at h
    · cases h;exact⟨by simp,fun s hs=>by simp at hs;omega,fun h=>by omega,fun h=>by omega,by simp,by decide,by decide⟩
    · cases h
  split at h
  · cases h;exact⟨by simp,fun s hs=>by simp at hs,fun h=>by omega,fun h=>by omega,by simp,by decide,by decide⟩
  split at h
  · rename_i _ _ _ hk
    have:=f7 hk
    split at h
    · cases h;exact⟨by simp,fun s hs=>by simp at hs;omega,fun h=>by omega,fun h=>by omega,by simp,by decide,by decide⟩
    · cases h
  split at h
  · rename_i _ _ _ _ hk
    have:=f8 hk
    split at h
    · cases h;exact⟨by simp,fun s hs=>by simp at hs;omega,fun h=>by omega,fun _=>⟨by decide,this.2⟩,by simp,by decide,by decide⟩
    · cases h
  split at h
  · rename_i _ _ _ _ _ hk
    split at h
    · cases h
      refine⟨by rw [z9B];omega,fun s hs=>?_,fun h=>by omega,fun h=>by omega,by simp,by decide,by decide⟩
      have:=zdb hs
      omega
    · cases h
  split at h
  · rename_i _ _ _ _ _ _ hk
    have:=f10 hk
    split at h
    · cases h;exact⟨by simp,fun s hs=>by simp at hs;omega,fun h=>by omega,fun h=>by omega,fd,by decide,by decide⟩
    · cases h
  split at h
  · rename_i _ _ _ _ _ _ _ hk
    have:=f11 hk
    split at h
    · cases h;exact⟨by simp,fun s hs=>by simp at hs;omega,fun h=>by omega,fun h=>by omega,fd,by decide,by decide⟩
    · cases h
  split at h
  · cases h;exact⟨by simp,fun s hs=>by simp at hs,fun h=>by omega,fun h=>by omega,by simp,by decide,by decide⟩
  · cases h
end Go.E


namespace Go.E
open Go.RowKit Go.Proofs
set_option linter.unusedSimpArgs false
set_option linter.unusedVariables false


def timesOf (l:List D.Agent) (es:List Int):List Int:=l.zipIdx.map fun x=>if x.1.Kind=4 then 0 else((es.count (x.2:Int):Nat):Int)
theorem z5O {l:List D.Agent}{es:List Int}:(timesOf l es).length=l.length:=by simp [timesOf]
theorem z70 {l:List D.Agent}{es:List Int}{i:Nat}{a:D.Agent}(ha:l[i]? = some a):(timesOf l es)[i]? = some (if a.Kind=4 then 0 else((es.count (i:Int):Nat):Int)):=by
  unfold timesOf
  rw [List.getElem?_map,List.getElem?_zipIdx,ha]
  simp
theorem zcc {l:List D.Agent}:timesOf l []=List.replicate l.length 0:=by
  apply List.ext_getElem?
  intro i
  rw [List.getElem?_replicate]
  rcases Nat.lt_or_ge i l.length with h | h
  · obtain⟨a,ha⟩:=z35 h
    rw [z70 ha,if_pos h]
    simp
  · rw [if_neg (by omega),List.getElem?_eq_none (by rw [z5O];exact h)]
theorem zcd {l:List D.Agent}{es:List Int}{p:Int}{a:D.Agent}(ha:idx l p=some a) (h4:a.Kind=4):timesOf l (es++[p])=timesOf l es:=by
  apply List.ext_getElem?
  intro i
  rcases Nat.lt_or_ge i l.length with h | h
  · obtain⟨b,hb⟩:=z35 h
    rw [z70 hb,z70 hb]
    by_cases hk:b.Kind=4
    · rw [if_pos hk,if_pos hk]
    · rw [if_neg hk,if_neg hk,List.count_append]
      have:¬ p=(i:Int):=fun e=>by
        rw [e,z1A hb] at ha
        cases ha
        exact hk h4
      simp [this]
  · rw [List.getElem?_eq_none (by rw [z5O];exact h),List.getElem?_eq_none (by rw [z5O];exact h)]
theorem zcb {l:List D.Agent}{es:List Int}{p:Int}{a:D.Agent}(ha:idx l p=some a) (h4:a.Kind≠4):
    idx (timesOf l es) p=some ((es.count p:Nat):Int)∧(timesOf l es).set p.toNat (((es.count p:Nat):Int)+1)=timesOf l (es++[p]):=by
  obtain⟨h0,h1⟩:=z6 ha
  have hp:((p.toNat:Nat):Int)=p:=by omega
  have hl:=(List.getElem?_eq_some_iff.1 h1).1
  refine⟨by rw [z4k h0,z70 h1,if_neg h4,hp],?_⟩
  apply List.ext_getElem?
  intro i
  rcases Nat.lt_or_ge i l.length with h | h
  · obtain⟨b,hb⟩:=z35 h
    rw [z70 hb]
    by_cases hi:i=p.toNat
    · subst hi
      rw [List.getElem?_set_self (by rw [z5O];exact hl)]
      rw [h1] at hb
      cases hb
      rw [if_neg h4,hp,List.count_append]
      simp
    · rw [List.getElem?_set_ne (by omega),z70 hb]
      by_cases hk:b.Kind=4
      · rw [if_pos hk,if_pos hk]
      · rw [if_neg hk,if_neg hk,List.count_append]
        have:¬ p=(i:Int):=fun e=>hi (by omega)
        simp [this]
  · rw [List.getElem?_eq_none (by rw [List.length_set,z5O];exact h),List.getElem?_eq_none (by rw [z5O];exact h)]


def img (l:List D.Agent) (z:Z) (L:List ByteArray):D.reading:=⟨⟨l⟩,z.st,z.org.length,z.org,timesOf l z.ent,L⟩


theorem z9N {fuel:Nat}{x:Int}(h0:-9223372036854775808≤x) (h1:x≤9223372036854775807):∃ t,z3d fuel x=some t∧t.size≤21:=by
  unfold z3d z3S
  rw [if_pos ⟨rfl,h0,h1⟩,Option.bind_some]
  exact⟨_,rfl,by rw [ByteArray.size,List.size_toArray];exact Lib.itoa_length_le x h0 h1⟩
theorem zbL {fuel:Nat}{p:D.Port}(h0:0≤p.Agent) (h1:p.Agent≤1048576) (h2:0≤p.Slot) (h3:p.Slot≤1048576):∃ t,z45 fuel p=some t∧t.size≤44:=by
  obtain⟨s,e1,e2⟩:=z9N (fuel:=fuel) (x:=p.Agent) (by omega) (by omega)
  obtain⟨t,g1,g2⟩:=z9N (fuel:=fuel) (x:=p.Slot) (by omega) (by omega)
  have d1:(⟨#[46]⟩:ByteArray).size=1:=rfl
  have d2:(⟨#[59]⟩:ByteArray).size=1:=rfl
  unfold z45
  rw [e1,Option.bind_some,if_pos (decide_eq_true (by rw [d1];omega)),g1,Option.bind_some,if_pos (decide_eq_true (by rw [ByteArray.size_append,d1];omega)),if_pos (decide_eq_true (by rw [ByteArray.size_append,ByteArray.size_append,d1,d2];omega))]
  exact⟨_,rfl,by rw [ByteArray.size_append,ByteArray.size_append,ByteArray.size_append,d1,d2];omega⟩

theorem z9g {fuel:Nat}{l:List D.Agent}{z:Z}{L:List ByteArray}{p:D.Port}{a:D.Agent}(ha:idx l p.Agent=some a) (hst:z.st≤4000) (he:EntOk l z.ent) (hl:z.ent.length≤4000):
    z2e fuel (img l z L) p=if z.st=4000 then some (4,⟨⟨l⟩,4001,z.org.length,z.org,timesOf l z.ent,L⟩) else some (0,img l (entZ a p z) L):=by
  unfold z2e z17 img
  dsimp only
  rw [zb (n:=(z.st:Int)+1) (by omega) (by omega)]
  by_cases h:z.st=4000
  · rw [if_pos (decide_eq_true (by omega)),if_pos h,h];rfl
  · rw [if_neg (by simp;omega),if_neg h,ha,Option.bind_some]
    have hc:z.ent.count p.Agent≤z.ent.length:=List.count_le_length
    by_cases h4:a.Kind=4
    · have hent:timesOf l (entZ a p z).ent=timesOf l z.ent:=by
        unfold entZ
        dsimp only
        rw [if_neg (by rw [h4];rintro⟨h,_⟩;cases h)]
        exact zcd ha h4
      rw [if_neg (by simp [h4]),if_neg (by simp),hent]
      rfl
    · obtain⟨t1,t2⟩:=zcb (es:=z.ent) ha h4
      obtain⟨i0,i1⟩:=z6 ha
      have i2:=(List.getElem?_eq_some_iff.1 i1).1
      have go:(if true=true then((idx (timesOf l z.ent) p.Agent).bind fun b=>(if decide (0≤p.Agent∧p.Agent.toNat<(timesOf l z.ent).length)=true then some ((0:Int),(⟨(⟨l⟩:D.Net),(z.st:Int)+1,z.org.length,z.org,((timesOf l z.ent).set p.Agent.toNat (w64 (b+1))),L⟩:D.reading)) else none)) else some (0,(⟨(⟨l⟩:D.Net),(z.st:Int)+1,z.org.length,z.org,timesOf l z.ent,L⟩:D.reading)))=some (0,⟨⟨l⟩,(z.st:Int)+1,z.org.length,z.org,timesOf l (z.ent++[p.Agent]),L⟩):=by
        rw [if_pos rfl,t1,Option.bind_some,if_pos (decide_eq_true ⟨i0,by rw [z5O];exact i2⟩),zb (by omega) (by omega),t2]
      rw [if_pos (by simpa using h4)]
      by_cases h2:a.Kind=2
      · rw [if_pos (by simpa using h2)]
        by_cases h1:p.Slot=1
        · rw [if_neg (by simp [h1])]
          have:(entZ a p z).ent=z.ent:=by unfold entZ;dsimp only;rw [if_pos ⟨h2,h1⟩]
          rw [this];rfl
        · have h1':(!(p.Slot == 1))=true:=by simpa using h1
          rw [h1',go]
          have:(entZ a p z).ent=z.ent++[p.Agent]:=by unfold entZ;dsimp only;rw [if_neg (fun h=>h1 h.2)]
          rw [this];rfl
      · rw [if_neg (by simpa using h2),go]
        have:(entZ a p z).ent=z.ent++[p.Agent]:=by unfold entZ;dsimp only;rw [if_neg (fun h=>h2 h.1)]
        rw [this];rfl

def fanR (R:D.reading) (a:D.Agent) (p:D.Port) (ss:SS) (s:List Int):Option (D.Port × Bool × D.reading × SS):=
  if p.Slot>0 then(match idx a.Ports 0 with
    | none=>none
    | some q=>some (q,true,R,ss.set a.Level.toNat (p.Slot::s))) else match s with
    | []=>some (⟨0,0⟩,false,R,ss)
    | t::s'=>match idx a.Ports t with
      | none=>none
      | some q=>some (q,true,R,ss.set a.Level.toNat s')
theorem zdg {fuel:Nat}{n:D.Net}(hn:netN n=true){z:Z}{L:List ByteArray}{p:D.Port}{ss:SS}{a:D.Agent}(ha:idx n.Agents p.Agent=some a){s:List Int}(hsi:idx ss a.Level=some s):
    z1S fuel (img n.Agents z L) p ss=fanR (img n.Agents z L) a p ss s:=by
  have hf:=z5b (z60 hn ha)
  have hb:decide (0≤a.Level∧a.Level.toNat<9)=true:=decide_eq_true (by omega)
  have hpe:∀ t:Int,zT fuel (⟨n.Agents⟩:D.Net) (⟨p.Agent,t⟩:D.Port)=idx a.Ports t:=fun t=>by
    rw [z6M];unfold portAt;dsimp only;rw [ha,Option.bind_some]
  unfold z1S fanR img
  dsimp only
  rw [ha,Option.bind_some]
  by_cases hsl:p.Slot>0
  · rw [if_pos (decide_eq_true hsl),if_pos hsl,if_pos hb,hsi,Option.bind_some,if_pos hb,hpe]
    cases idx a.Ports 0<;>rfl
  · rw [if_neg (by simpa using hsl),if_neg hsl,if_pos hb,hsi,Option.bind_some]
    cases s with
    | nil=>rfl
    | cons t s'=>
      rw [if_neg (by simp)]
      show((some t).bind fun y86=>_)=_
      rw [Option.bind_some,if_pos hb,hpe]
      dsimp only
      cases idx a.Ports t<;>rfl
end Go.E


namespace Go.E
open Go.RowKit Go.Proofs
set_option linter.unusedSimpArgs false
set_option linter.unusedVariables false

theorem zc0 {fuel:Nat}{n:D.Net}(hn:netN n=true){z0:Z}{L0 L:List ByteArray}:∀ (k:Nat) (z:Z) (p:D.Port) (ss:SS) (lab:ByteArray) (fu:Nat),z.st+k=4000→hasN n.Agents p=true→SsOk z.st ss→EntOk n.Agents z.ent→z.ent.length≤z.st→lab.size≤44*z.st→k<fu→
    match walkM n.Agents k z p ss with
    | .inl c=>∃ co r',iter (ze fuel (img n.Agents z0 L0)) fu (lab,ss,p.Agent,p.Slot,(z.st:Int),(z.org.length:Int),z.org,timesOf n.Agents z.ent,L)=some (.inr (co,c,r'))
    | .inr (z',p',ss')=>∃ lab':ByteArray,lab'.size≤176000∧iter (ze fuel (img n.Agents z0 L0)) fu (lab,ss,p.Agent,p.Slot,(z.st:Int),(z.org.length:Int),z.org,timesOf n.Agents z.ent,L)=some (.inl (lab',ss',p'.Agent,p'.Slot,(z'.st:Int),(z'.org.length:Int),z'.org,timesOf n.Agents z'.ent,L)):=by
  intro k
  induction k with
  | zero=>
    rintro z ⟨pa,ps⟩ ss lab fu hk hp hs he hl hlab hfu
    obtain⟨fu,rfl⟩:∃ f',fu=f'+1:=⟨fu - 1,by omega⟩
    obtain⟨a,q0,ha,_,_⟩:=z6y hp
    have hE:=z9g (fuel:=fuel) (L:=L) ha (by omega) he (by omega)
    rw [if_pos (show z.st=4000 by omega)] at hE
    unfold img at hE
    obtain⟨co,r',hb⟩:∃ co r',ze fuel (img n.Agents z0 L0) (lab,ss,pa,ps,(z.st:Int),(z.org.length:Int),z.org,timesOf n.Agents z.ent,L)=some (.ret (co,4,r')):=by
      unfold ze img
      dsimp only
      rw [hE,Option.bind_some,if_pos (by simp)]
      exact⟨_,_,rfl⟩
    unfold walkM
    exact⟨co,r',by simp only [iter,hb]⟩
  | succ k ih=>
    rintro z ⟨pa,ps⟩ ss lab fu hk hp hs he hl hlab hfu
    obtain⟨fu,rfl⟩:∃ f',fu=f'+1:=⟨fu - 1,by omega⟩
    obtain⟨a,q0,ha,hq0,_⟩:=z6y hp
    dsimp only at ha
    have hag:=z60 hn ha
    have hf:=z5b hag
    have hE:=z9g (fuel:=fuel) (L:=L) (p:=⟨pa,ps⟩) ha (by omega) he (by omega)
    rw [if_neg (show ¬ z.st=4000 by omega)] at hE
    obtain⟨h1,h2,a',q',g1,g2,g3,g4,g5,g6⟩:=z6t hp
    rw [ha] at g2
    obtain rfl:=Option.some.inj g2
    have hlen:=(z8C hn).2
    obtain⟨tx,t1,t2⟩:=zbL (fuel:=fuel) (p:=⟨pa,ps⟩) h1 (by dsimp only at g5 ⊢;omega) h2 (by dsimp only at g6 ⊢;omega)
    have hsz:(lab++tx).size≤44*(z.st+1):=by rw [ByteArray.size_append];omega
    have hE':=zcQ (p:=⟨pa,ps⟩) (z:=z) ha he
    have hl':=z9L (a:=a) (p:=⟨pa,ps⟩) hl
    have hbody:ze fuel (img n.Agents z0 L0) (lab,ss,pa,ps,(z.st:Int),(z.org.length:Int),z.org,timesOf n.Agents z.ent,L)=
        if(a.Kind != 4)=true then some (.brk ((lab++tx),ss,pa,ps,((entZ a ⟨pa,ps⟩ z).st:Int),(z.org.length:Int),z.org,timesOf n.Agents (entZ a ⟨pa,ps⟩ z).ent,L)) else
        ((z1S fuel (img n.Agents (entZ a ⟨pa,ps⟩ z) L) ⟨pa,ps⟩ ss).bind fun b=>(if(!b.2.1)=true then some (.ret ((⟨0,0,[],[]⟩:D.Core),13,(⟨(⟨n.Agents⟩:D.Net),b.2.2.1.entered,b.2.2.1.nodes,b.2.2.1.origins,b.2.2.1.times,b.2.2.1.labels⟩:D.reading))) else some (.next ((lab++tx),b.2.2.2,b.1.Agent,b.1.Slot,b.2.2.1.entered,b.2.2.1.nodes,b.2.2.1.origins,b.2.2.1.times,b.2.2.1.labels)))):=by
      unfold img at hE
      unfold ze img
      dsimp only
      rw [hE,Option.bind_some]
      rw [if_neg (by simp),t1,Option.bind_some,if_pos (decide_eq_true (by omega)),ha,Option.bind_some]
      rfl
    unfold walkM
    rw [ha]
    dsimp only
    simp only [iter]
    rw [hbody]
    by_cases h4:a.Kind=4
    · rw [if_neg (by simpa using h4),if_neg (by simpa using h4)]
      obtain⟨s,hsi,hso⟩:=hs.at hf.1 hf.2.1
      rw [zdg hn ha hsi,hsi]
      dsimp only
      unfold fanR
      have hpl:=hf.2.2.1 h4
      have go:∀ (t:Int) (s':List Int) (q:D.Port),idx a.Ports t=some q→StOk (z.st+1) s'→
          match walkM n.Agents k (entZ a ⟨pa,ps⟩ z) q (ss.set a.Level.toNat s') with
          | .inl c=>∃ co r',iter (ze fuel (img n.Agents z0 L0)) fu ((lab++tx),ss.set a.Level.toNat s',q.Agent,q.Slot,((entZ a ⟨pa,ps⟩ z).st:Int),((entZ a ⟨pa,ps⟩ z).org.length:Int),(entZ a ⟨pa,ps⟩ z).org,timesOf n.Agents (entZ a ⟨pa,ps⟩ z).ent,L)=some (.inr (co,c,r'))
          | .inr (z',p',ss')=>∃ lab':ByteArray,lab'.size≤176000∧iter (ze fuel (img n.Agents z0 L0)) fu ((lab++tx),ss.set a.Level.toNat s',q.Agent,q.Slot,((entZ a ⟨pa,ps⟩ z).st:Int),((entZ a ⟨pa,ps⟩ z).org.length:Int),(entZ a ⟨pa,ps⟩ z).org,timesOf n.Agents (entZ a ⟨pa,ps⟩ z).ent,L)=some (.inl (lab',ss',p'.Agent,p'.Slot,(z'.st:Int),(z'.org.length:Int),z'.org,timesOf n.Agents z'.ent,L)):=fun t s' q hq hs'=>
        ih (entZ a ⟨pa,ps⟩ z) q (ss.set a.Level.toNat s') (lab++tx) fu (by show z.st+1+k=4000;omega) (z7E hn ha hq) ((hs.mono (Nat.le_succ _)).set hs' _) hE' hl' hsz (by omega)
      by_cases hsl:ps>0
      · rw [if_pos hsl,if_pos hsl]
        obtain⟨q,hq⟩:=z35 (xs:=a.Ports) (i:=(0:Int).toNat) (by omega)
        have hqi:idx a.Ports 0=some q:=by rw [z4k (by omega),hq]
        rw [hqi]
        dsimp only
        rw [Option.bind_some,if_neg (by simp)]
        dsimp only
        exact go 0 (ps::s) q hqi ⟨by simp;exact hso.1,fun t ht=>by
          rcases List.mem_cons.1 ht with h | h
          · dsimp only at g6;omega
          · exact hso.2 t h⟩
      · rw [if_neg hsl,if_neg hsl]
        cases s with
        | nil=>
          dsimp only
          rw [Option.bind_some,if_pos (by simp)]
          exact⟨_,_,rfl⟩
        | cons t s'=>
          have ht:=hso.2 t (by simp)
          obtain⟨q,hq⟩:=z35 (xs:=a.Ports) (i:=t.toNat) (by omega)
          have hqi:idx a.Ports t=some q:=by rw [z4k (by omega),hq]
          dsimp only
          rw [hqi]
          dsimp only
          rw [Option.bind_some,if_neg (by simp)]
          dsimp only
          exact go t s' q hqi ⟨by have:=hso.1;simp at this;omega,fun u hu=>hso.2 u (by simp [hu])⟩
    · rw [if_pos (by simpa using h4),if_pos (by simpa using h4)]
      exact⟨_,by omega,rfl⟩
end Go.E


