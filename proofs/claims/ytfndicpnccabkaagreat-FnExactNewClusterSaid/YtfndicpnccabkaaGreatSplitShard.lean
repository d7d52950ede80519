/- What the functions that size, copy and compare give on well formed data (written by program). Conditions: sizes within the law s own bound. -/
import Derived.Test.YtfndicpnccabkaaGreatShort
import Derived.Test.YtfndicpnccabkaaGreatFA
import Derived.Test.YtfndicpnccabkaaGreatFN
import Derived.Test.YtfndicpnccabkaaGreatHS
import Derived.Test.YtfndicpnccabkaaGreatHSb
import Derived.Test.YtfndicpnccabkaaGreatHSc
import Derived.Test.YtfndicpnccabkaaGreatHSd
namespace Go.E
open Go.RowKit Go.Proofs
set_option linter.unusedSimpArgs false
set_option linter.unusedVariables false

theorem z6Y {fuel:Nat}{x:(List Int)}(hf:18446744073709551616≤fuel) (hs:x.length≤1048576):zE fuel x=some x:=by
  have hl:=hs
  unfold zE
  refine z9u hl hf (fun _=>rfl) ?_ ?_
  · intro i y out hy o
    have hi:=(List.getElem?_eq_some_iff.1 hy).1
    have hsy:0≤1048576:=Nat.zero_le _
    simp only [z4k,zy hy,Option.bind_some,lt_t (show(i:Int)<x.length by omega),if_true]
    rw [if_pos (by simp;omega)]
    simp
  · intro out
    simp [z4k]

theorem z41 {fuel:Nat}{x:(List Int)}(hf:18446744073709551616≤fuel) (hs:x.length≤1048576):zN fuel x x=some true:=by
  have hl:=hs
  unfold zN
  rw [if_neg (by simp)]
  refine z3Q (n:=x.length) (t:=()) (by unfold maxLen;omega) hf rfl ?_ ?_
  · intro i hi
    obtain⟨y,hy⟩:=z5i hi
    have hsy:0≤1048576:=Nat.zero_le _
    simp [z4p,zy hy,hi,zT]
  · simp [z4p]

theorem z3h {fuel:Nat}{x:D.Address}(hf:18446744073709551616≤fuel) (hs:0≤1048576):zJ fuel x x=some true:=by
  skip
  simp [zJ,zT]

theorem za3 {fuel:Nat}{x:(List Int)}{l:Int}(hf:18446744073709551616≤fuel) (hw:WfL I64 x) (h0:0≤l) (h1:l≤1048576):SzOk (x.length) l (z4D fuel x l):=by
  unfold z4D
  generalize hz:w64 (l - (x.length:Int))=z
  exact SzOk.sub2 h0 h1 hw.1 (m:=0) rfl hz fun g0 g1=>SzOk.same g0

theorem zbB {fuel:Nat}{x:D.Port}(hf:18446744073709551616≤fuel) (hs:0≤1048576):z5D fuel x x=some true:=by
  skip
  simp [z5D,zT]

theorem zbq {fuel:Nat}{x:D.Port}(hf:18446744073709551616≤fuel) (hs:0≤1048576):z5z fuel x=some x:=by
  skip
  unfold z5z
  rfl

theorem z9A {fuel:Nat}{x:(List (List Int))}(hf:18446744073709551616≤fuel) (hs:szL (fun x=>x.length) x≤1048576):z4a fuel x x=some true:=by
  have hl:=z3T hs
  unfold z4a
  rw [if_neg (by simp)]
  refine z3Q (n:=x.length) (t:=()) (by unfold maxLen;omega) hf rfl ?_ ?_
  · intro i hi
    obtain⟨y,hy⟩:=z5i hi
    have hsy:y.length≤1048576:=z3S hs (List.mem_of_getElem? hy)
    simp [z3Y,zy hy,hi,zT,z41 hf hsy]
  · simp [z3Y]

theorem zaU {fuel:Nat}{x:(List D.Port)}(hf:18446744073709551616≤fuel) (hs:x.length≤1048576):z57 fuel x x=some true:=by
  have hl:=hs
  unfold z57
  rw [if_neg (by simp)]
  refine z3Q (n:=x.length) (t:=()) (by unfold maxLen;omega) hf rfl ?_ ?_
  · intro i hi
    obtain⟨y,hy⟩:=z5i hi
    have hsy:0≤1048576:=Nat.zero_le _
    simp [z4T,zy hy,hi,zT,zbB hf hsy]
  · simp [z4T]

theorem zaC {fuel:Nat}{x:(List D.Port)}{l:Int}(hf:18446744073709551616≤fuel) (hw:WfL D.Port.wf x) (h0:0≤l) (h1:l≤1048576):SzOk (x.length) l (z52 fuel x l):=by
  unfold z52
  generalize hz:w64 (l - (x.length:Int))=z
  exact SzOk.sub2 h0 h1 hw.1 (m:=0) rfl hz fun g0 g1=>SzOk.same g0

theorem zaz {fuel:Nat}{x:(List D.Port)}(hf:18446744073709551616≤fuel) (hs:x.length≤1048576):z50 fuel x=some x:=by
  have hl:=hs
  unfold z50
  refine z9u hl hf (fun _=>rfl) ?_ ?_
  · intro i y out hy o
    have hi:=(List.getElem?_eq_some_iff.1 hy).1
    have hsy:0≤1048576:=Nat.zero_le _
    simp only [z4S,zy hy,Option.bind_some,lt_t (show(i:Int)<x.length by omega),if_true,zbq hf hsy]
    rw [if_pos (by simp;omega)]
    simp
  · intro out
    simp [z4S]

theorem z9n {fuel:Nat}{x:D.ShardVar}(hf:18446744073709551616≤fuel) (hs:0≤1048576):z3L fuel x x=some true:=by
  skip
  simp [z3L,zT,z3h hf (show 0≤1048576 by exact Nat.zero_le _)]

theorem z8q {fuel:Nat}{x:D.ShardRedex}(hf:18446744073709551616≤fuel) (hs:0≤1048576):z2s fuel x x=some true:=by
  skip
  simp [z2s,zT,z3h hf (show 0≤1048576 by exact Nat.zero_le _),z3h hf (show 0≤1048576 by exact Nat.zero_le _)]

theorem z9q {fuel:Nat}{x:(List D.Address)}(hf:18446744073709551616≤fuel) (hs:x.length≤1048576):z3N fuel x x=some true:=by
  have hl:=hs
  unfold z3N
  rw [if_neg (by simp)]
  refine z3Q (n:=x.length) (t:=()) (by unfold maxLen;omega) hf rfl ?_ ?_
  · intro i hi
    obtain⟨y,hy⟩:=z5i hi
    have hsy:0≤1048576:=Nat.zero_le _
    simp [z3n,zy hy,hi,zT,z3h hf hsy]
  · simp [z3n]

theorem zaV {fuel:Nat}{x:D.Agent}(hf:18446744073709551616≤fuel) (hs:D.Agent.sz x≤1048576):z58 fuel x x=some true:=by
  unfold D.Agent.sz at hs
  simp [z58,zT,z41 hf (show x.Data.length≤1048576 by omega),zaU hf (show x.Ports.length≤1048576 by omega)]

theorem zaD {fuel:Nat}{x:D.Agent}{l:Int}(hf:18446744073709551616≤fuel) (hw:D.Agent.wf x) (h0:0≤l) (h1:l≤1048576):SzOk (D.Agent.sz x) l (z53 fuel x l):=by
  obtain⟨w0,w1,w2,w3,w4,_⟩:=hw
  unfold z53 D.Agent.sz
  refine SzOk.bind (za3 hf w3 h0 (by omega)) rfl fun r1 g1a g1b=>?_
  refine SzOk.bind (zaC hf w4 g1a (by omega)) rfl fun r2 g2a g2b=>?_
  exact SzOk.same g2a

theorem zaA {fuel:Nat}{x:D.Agent}(hf:18446744073709551616≤fuel) (hs:D.Agent.sz x≤1048576):z51 fuel x=some x:=by
  unfold D.Agent.sz at hs
  unfold z51
  simp only [z6Y hf (show x.Data.length≤1048576 by omega),zaz hf (show x.Ports.length≤1048576 by omega),Option.bind_some]

theorem z8P {fuel:Nat}{x:(List D.ShardVar)}(hf:18446744073709551616≤fuel) (hs:x.length≤1048576):z3b fuel x x=some true:=by
  have hl:=hs
  unfold z3b
  rw [if_neg (by simp)]
  refine z3Q (n:=x.length) (t:=()) (by unfold maxLen;omega) hf rfl ?_ ?_
  · intro i hi
    obtain⟨y,hy⟩:=z5i hi
    have hsy:0≤1048576:=Nat.zero_le _
    simp [z3a,zy hy,hi,zT,z9n hf hsy]
  · simp [z3a]

theorem z80 {fuel:Nat}{x:(List D.ShardRedex)}(hf:18446744073709551616≤fuel) (hs:x.length≤1048576):z1Z fuel x x=some true:=by
  have hl:=hs
  unfold z1Z
  rw [if_neg (by simp)]
  refine z3Q (n:=x.length) (t:=()) (by unfold maxLen;omega) hf rfl ?_ ?_
  · intro i hi
    obtain⟨y,hy⟩:=z5i hi
    have hsy:0≤1048576:=Nat.zero_le _
    simp [z2b,zy hy,hi,zT,z8q hf hsy]
  · simp [z2b]

theorem z75 {fuel:Nat}{x:D.ShardCell}(hf:18446744073709551616≤fuel) (hs:D.ShardCell.sz x≤1048576):z1O fuel x x=some true:=by
  unfold D.ShardCell.sz at hs
  simp [z1O,zT,z41 hf (show x.Data.length≤1048576 by omega),z9q hf (show x.Aux.length≤1048576 by omega)]

theorem zah {fuel:Nat}{x:(List D.Agent)}(hf:18446744073709551616≤fuel) (hs:szL D.Agent.sz x≤1048576):z4H fuel x x=some true:=by
  have hl:=z3T hs
  unfold z4H
  rw [if_neg (by simp)]
  refine z3Q (n:=x.length) (t:=()) (by unfold maxLen;omega) hf rfl ?_ ?_
  · intro i hi
    obtain⟨y,hy⟩:=z5i hi
    have hsy:D.Agent.sz y≤1048576:=z3S hs (List.mem_of_getElem? hy)
    simp [z4q,zy hy,hi,zT,zaV hf hsy]
  · simp [z4q]

theorem za4 {fuel:Nat}{x:(List D.Agent)}{l:Int}(hf:18446744073709551616≤fuel) (hw:WfL D.Agent.wf x) (h0:0≤l) (h1:l≤1048576):SzOk (szL D.Agent.sz x) l (z4E fuel x l):=by
  unfold z4E
  generalize hz:w64 (l - (x.length:Int))=z
  refine SzOk.sub2 h0 h1 hw.1 (m:=sumL D.Agent.sz x) rfl hz fun g0 g1=>?_
  refine SzOk.loop hw.1 hf g0 (by omega) (fun _=>rfl) ?_ ?_
  · intro i y l hy h0 h1
    have hi:=(List.getElem?_eq_some_iff.1 hy).1
    have hwy:=hw.2 y (List.mem_of_getElem? hy)
    obtain⟨r,h2,h3⟩:=zaD hf hwy h0 h1
    simp only [z4n,zy hy,Option.bind_some,lt_t (show(i:Int)<x.length by omega),if_true,h2]
    by_cases hlt:r<0
    · exact .inl (by simp only [lt_t hlt,if_true])
    · exact .inr ⟨r,by simp only [lt_f hlt,if_false],h3.resolve_left hlt⟩
  · intro l
    simp [z4n]

theorem za2 {fuel:Nat}{x:(List D.Agent)}(hf:18446744073709551616≤fuel) (hs:szL D.Agent.sz x≤1048576):z4C fuel x=some x:=by
  have hl:=z3T hs
  unfold z4C
  refine z9u hl hf (fun _=>rfl) ?_ ?_
  · intro i y out hy o
    have hi:=(List.getElem?_eq_some_iff.1 hy).1
    have hsy:D.Agent.sz y≤1048576:=z3S hs (List.mem_of_getElem? hy)
    simp only [z4m,zy hy,Option.bind_some,lt_t (show(i:Int)<x.length by omega),if_true,zaA hf hsy]
    rw [if_pos (by simp;omega)]
    simp
  · intro out
    simp [z4m]

theorem z8r {fuel:Nat}{x:(List D.ShardCell)}(hf:18446744073709551616≤fuel) (hs:szL D.ShardCell.sz x≤1048576):z2t fuel x x=some true:=by
  have hl:=z3T hs
  unfold z2t
  rw [if_neg (by simp)]
  refine z3Q (n:=x.length) (t:=()) (by unfold maxLen;omega) hf rfl ?_ ?_
  · intro i hi
    obtain⟨y,hy⟩:=z5i hi
    have hsy:D.ShardCell.sz y≤1048576:=z3S hs (List.mem_of_getElem? hy)
    simp [z2B,zy hy,hi,zT,z75 hf hsy]
  · simp [z2B]

theorem zag {fuel:Nat}{x:D.Parcel}(hf:18446744073709551616≤fuel) (hs:D.Parcel.sz x≤1048576):z4G fuel x x=some true:=by
  unfold D.Parcel.sz at hs
  simp [z4G,zT,z75 hf (show D.ShardCell.sz x.Cell≤1048576 by omega),z3h hf (show 0≤1048576 by exact Nat.zero_le _),z3h hf (show 0≤1048576 by exact Nat.zero_le _)]

theorem z9V {fuel:Nat}{x:D.Net}(hf:18446744073709551616≤fuel) (hs:D.Net.sz x≤1048576):z5o fuel x x=some true:=by
  unfold D.Net.sz at hs
  simp [z5o,zT,zah hf (show szL D.Agent.sz x.Agents≤1048576 by omega)]

theorem z9N {fuel:Nat}{x:D.Net}{l:Int}(hf:18446744073709551616≤fuel) (hw:D.Net.wf x) (h0:0≤l) (h1:l≤1048576):SzOk (D.Net.sz x) l (z5k fuel x l):=by
  obtain⟨w0,_⟩:=hw
  unfold z5k D.Net.sz
  refine SzOk.bind (za4 hf w0 h0 (by omega)) rfl fun r1 g1a g1b=>?_
  exact SzOk.same g1a

theorem z9M {fuel:Nat}{x:D.Net}(hf:18446744073709551616≤fuel) (hs:D.Net.sz x≤1048576):z1j fuel x=some x:=by
  unfold D.Net.sz at hs
  unfold z1j
  simp only [za2 hf (show szL D.Agent.sz x.Agents≤1048576 by omega),Option.bind_some]

theorem zaT {fuel:Nat}{x:D.Shard}(hf:18446744073709551616≤fuel) (hs:D.Shard.sz x≤1048576):z56 fuel x x=some true:=by
  unfold D.Shard.sz at hs
  simp [z56,zT,z8r hf (show szL D.ShardCell.sz x.Cells≤1048576 by omega),z8P hf (show x.Vars.length≤1048576 by omega),z80 hf (show x.Redexes.length≤1048576 by omega)]

theorem z9z {fuel:Nat}{x:(List D.Parcel)}(hf:18446744073709551616≤fuel) (hs:szL D.Parcel.sz x≤1048576):z49 fuel x x=some true:=by
  have hl:=z3T hs
  unfold z49
  rw [if_neg (by simp)]
  refine z3Q (n:=x.length) (t:=()) (by unfold maxLen;omega) hf rfl ?_ ?_
  · intro i hi
    obtain⟨y,hy⟩:=z5i hi
    have hsy:D.Parcel.sz y≤1048576:=z3S hs (List.mem_of_getElem? hy)
    simp [z3X,zy hy,hi,zT,zag hf hsy]
  · simp [z3X]

theorem zaf {fuel:Nat}{x:(List D.Shard)}(hf:18446744073709551616≤fuel) (hs:szL D.Shard.sz x≤1048576):z4F fuel x x=some true:=by
  have hl:=z3T hs
  unfold z4F
  rw [if_neg (by simp)]
  refine z3Q (n:=x.length) (t:=()) (by unfold maxLen;omega) hf rfl ?_ ?_
  · intro i hi
    obtain⟨y,hy⟩:=z5i hi
    have hsy:D.Shard.sz y≤1048576:=z3S hs (List.mem_of_getElem? hy)
    simp [z4o,zy hy,hi,zT,zaT hf hsy]
  · simp [z4o]

theorem z9o {fuel:Nat}{x:(List (List D.Parcel))}(hf:18446744073709551616≤fuel) (hs:szL (fun x=>szL D.Parcel.sz x) x≤1048576):z3M fuel x x=some true:=by
  have hl:=z3T hs
  unfold z3M
  rw [if_neg (by simp)]
  refine z3Q (n:=x.length) (t:=()) (by unfold maxLen;omega) hf rfl ?_ ?_
  · intro i hi
    obtain⟨y,hy⟩:=z5i hi
    have hsy:szL D.Parcel.sz y≤1048576:=z3S hs (List.mem_of_getElem? hy)
    simp [z3m,zy hy,hi,zT,z9z hf hsy]
  · simp [z3m]

theorem z9p {fuel:Nat}{x:D.Grid}(hf:18446744073709551616≤fuel) (hs:D.Grid.sz x≤1048576):z3c fuel x x=some true:=by
  unfold D.Grid.sz at hs
  simp [z3c,zT,zaf hf (show szL D.Shard.sz x.Shards≤1048576 by omega),z3h hf (show 0≤1048576 by exact Nat.zero_le _)]

theorem z9B {fuel:Nat}{x:D.Cluster}(hf:18446744073709551616≤fuel) (hs:D.Cluster.sz x≤1048576):z1T fuel x x=some true:=by
  unfold D.Cluster.sz at hs
  simp [z1T,zT,z9p hf (show D.Grid.sz x.Grid≤1048576 by omega),z9o hf (show szL (fun x=>szL D.Parcel.sz x) x.Channels≤1048576 by omega),z9A hf (show szL (fun x=>x.length) x.Counts≤1048576 by omega),z41 hf (show x.Sent.length≤1048576 by omega),z41 hf (show x.Got.length≤1048576 by omega)]

theorem z9U:Opens Tryz.prog 2 tInt I64:=Opens.int Tryz.underlying2 (by kernel_rfl)
theorem zbz:Opens Tryz.prog 45 ty45 (WfL I64):=Opens.sl Tryz.underlying45 (by kernel_rfl) z9U
set_option maxRecDepth 100000 in
theorem zer:Opens Tryz.prog 299 zc8 D.Port.wf:=Opens.struct (f:=fun c:D.Port=>(c.Agent,c.Slot,())) Tryz.underlying299 (by kernel_rfl) (OpensF.cons z9U rfl rfl (OpensF.cons z9U rfl rfl OpensF.nil)) (fun⟨a0,a1,_⟩=>⟨⟨a0,a1⟩,rfl⟩)
theorem zet:Opens Tryz.prog 194 zas (WfL D.Port.wf):=Opens.sl Tryz.underlying194 (by kernel_rfl) zer
set_option maxRecDepth 100000 in
theorem zes:Opens Tryz.prog 196 zbg D.Agent.wf:=Opens.struct (f:=fun c:D.Agent=>(c.Kind,c.Level,c.Value,c.Data,c.Ports,())) Tryz.underlying196 (by kernel_rfl) (OpensF.cons z9U rfl rfl (OpensF.cons z9U rfl rfl (OpensF.cons z9U rfl rfl (OpensF.cons zbz rfl rfl (OpensF.cons zet rfl rfl OpensF.nil))))) (fun⟨a0,a1,a2,a3,a4,_⟩=>⟨⟨a0,a1,a2,a3,a4⟩,rfl⟩)
theorem zf9:Opens Tryz.prog 57 ty57 (WfL D.Agent.wf):=Opens.sl Tryz.underlying57 (by kernel_rfl) zes
set_option maxRecDepth 100000 in
theorem zcS:Opens Tryz.prog 59 ty59 D.Net.wf:=Opens.struct (f:=fun c:D.Net=>(c.Agents,())) Tryz.underlying59 (by kernel_rfl) (OpensF.cons zf9 rfl rfl OpensF.nil) (fun⟨a0,_⟩=>⟨⟨a0⟩,rfl⟩)
end Go.E


namespace Go.E
open Go.RowKit Go.Proofs
set_option linter.unusedSimpArgs false
set_option linter.unusedVariables false

def z7s (fuel:Nat) (x:Int) (k:Int):Int:=k
def z5R (x:Int):Nat:=1
def z4Q (fuel:Nat) (xs:List Int) (k:Int):List Int:=markL (z7s fuel) z5R xs k
def z1e (xs:List Int):Nat:=sumL z5R xs
theorem z1x {fuel:Nat}{xs:List Int}{k:Int}(hf:18446744073709551616≤fuel) (hl:xs.length≤1048576) (h0:0≤k) (h1:k+(z1e xs:Nat)≤2147483648):zv fuel xs k=some (k+(z1e xs:Nat),z4Q fuel xs k):=by
  unfold zv
  rw [z4y (f:=z7s fuel) (c:=z5R) (xs:=xs) (k:=k) (by have:=hl;omega) hf h0 h1 ?_ ?_]
  · rfl
  · intro i x ys k hi o hx hm h0 h1
    unfold z5R at h1
    unfold z3j z7s z5R
    rw [if_pos (decide_eq_true (show(i:Int)<xs.length by omega))]
    rw [if_pos (decide_eq_true (show 0≤(i:Int)∧(i:Int).toNat<ys.length from⟨by omega,by rw [o];simpa using hi⟩))]
    simp (disch:=omega) only [z4V,Int.toNat_natCast,Int.ofNat_one,Int.natCast_one]
  · intro k ys;unfold z3j;rw [if_neg (by simp)]

theorem z4N {fuel:Nat}{xs:List Int}{k:Int}(hf:18446744073709551616≤fuel) (hl:xs.length≤1048576) (h0:0≤k) (h1:k+(z1e xs:Nat)≤2147483648):zR fuel (z4Q fuel xs k) k=some (k+(z1e xs:Nat)):=by
  unfold zR
  have hlen:(z4Q fuel xs k).length=xs.length:=zX _ _
  rw [z5G (f:=z7s fuel) (c:=z5R) (xs:=xs) (k:=k) (by have:=hl;omega) hf h0 h1 ?_ ?_]
  · rfl
  · intro i x k' hi hx hm h0 h1
    unfold z5R at h1
    have o:(z4Q fuel xs k)[i]? = some (z7s fuel x k'):=hx
    unfold z1Y
    rw [if_pos (decide_eq_true (show(i:Int)<(z4Q fuel xs k).length by rw [hlen];omega))]
    simp only [zy o,Option.bind_some]
    unfold z7s z5R
    simp (disch:=omega) only [z4V,Option.bind_some,lt_f,if_false,bne_self_eq_false,Bool.false_eq_true,beq_self_eq_true,Bool.not_true,Int.ofNat_one,Int.natCast_one]
  · intro k';show z1Y fuel (z4Q fuel xs k) (k',((z4Q fuel xs k).length:Int))=_;unfold z1Y;rw [if_neg (by simp)]

theorem z4O {xs:List Int}:z1e xs≤64*(xs.length):=by
  have h:=z63 (c:=z5R) (g:=(fun _=>0)) (m:=64) (xs:=xs) fun x _=>by
    unfold z5R
    omega
  rw [z7q (fun _=>rfl)] at h
  exact h

def elAddressS (fuel:Nat) (x:D.Address) (k:Int):D.Address:=(⟨k,k+1,k+1+1⟩:D.Address)
def ecAddressS (x:D.Address):Nat:=1+1+1
def mkAddressS (fuel:Nat) (xs:List D.Address) (k:Int):List D.Address:=markL (elAddressS fuel) ecAddressS xs k
def ctAddressS (xs:List D.Address):Nat:=sumL ecAddressS xs
theorem z6P {fuel:Nat}{xs:List D.Address}{k:Int}(hf:18446744073709551616≤fuel) (hl:xs.length≤1048576) (h0:0≤k) (h1:k+(ctAddressS xs:Nat)≤2147483648):z1s fuel xs k=some (k+(ctAddressS xs:Nat),mkAddressS fuel xs k):=by
  unfold z1s
  rw [z4y (f:=elAddressS fuel) (c:=ecAddressS) (xs:=xs) (k:=k) (by have:=hl;omega) hf h0 h1 ?_ ?_]
  · rfl
  · intro i x ys k hi o hx hm h0 h1
    unfold ecAddressS at h1
    unfold z2A elAddressS ecAddressS
    rw [if_pos (decide_eq_true (show(i:Int)<xs.length by omega))]
    simp only [zy hx,Option.bind_some]
    simp (disch:=omega) only [z4V,Option.bind_some,Int.toNat_natCast]
    all_goals (refine congrArg some (congrArg Rd.next (Prod.ext ?_ ?_));rotate_left;first | rfl | (dsimp only;simp only [Int.natCast_add,Int.natCast_one,Int.ofNat_one,← Int.add_assoc]))
    all_goals (dsimp only;simp only [Int.natCast_add,Int.natCast_one,Int.ofNat_one];try omega)
  · intro k ys;unfold z2A;rw [if_neg (by simp)]

theorem z6T {fuel:Nat}{xs:List D.Address}{k:Int}(hf:18446744073709551616≤fuel) (hl:xs.length≤1048576) (h0:0≤k) (h1:k+(ctAddressS xs:Nat)≤2147483648):z1t fuel (mkAddressS fuel xs k) k=some (k+(ctAddressS xs:Nat)):=by
  unfold z1t
  have hlen:(mkAddressS fuel xs k).length=xs.length:=zX _ _
  rw [z5G (f:=elAddressS fuel) (c:=ecAddressS) (xs:=xs) (k:=k) (by have:=hl;omega) hf h0 h1 ?_ ?_]
  · rfl
  · intro i x k' hi hx hm h0 h1
    unfold ecAddressS at h1
    have o:(mkAddressS fuel xs k)[i]? = some (elAddressS fuel x k'):=hx
    unfold z1p
    rw [if_pos (decide_eq_true (show(i:Int)<(mkAddressS fuel xs k).length by rw [hlen];omega))]
    simp only [zy o,Option.bind_some]
    unfold elAddressS ecAddressS
    simp (disch:=omega) only [z4V,Option.bind_some,lt_f,if_false,bne_self_eq_false,Bool.false_eq_true,beq_self_eq_true,Bool.not_true,Int.ofNat_one,Int.natCast_one]
    try (refine congrArg some (congrArg Rd.next (Prod.ext ?_ rfl));dsimp only;simp only [Int.natCast_add,Int.natCast_one,Int.ofNat_one];try omega)
  · intro k';show z1p fuel (mkAddressS fuel xs k) (k',((mkAddressS fuel xs k).length:Int))=_;unfold z1p;rw [if_neg (by simp)]

theorem z85 {xs:List D.Address}:ctAddressS xs≤64*(xs.length):=by
  have h:=z63 (c:=ecAddressS) (g:=(fun _=>0)) (m:=64) (xs:=xs) fun x _=>by
    unfold ecAddressS
    omega
  rw [z7q (fun _=>rfl)] at h
  exact h

def elShardCellS (fuel:Nat) (x:D.ShardCell) (k:Int):D.ShardCell:=(⟨k,k+1,k+1+1,(z4Q fuel x.Data (k+1+1+1)),(mkAddressS fuel x.Aux (k+1+1+1+((z1e x.Data:Nat):Int)))⟩:D.ShardCell)
def ecShardCellS (x:D.ShardCell):Nat:=1+1+1+z1e x.Data+ctAddressS x.Aux
def mkShardCellS (fuel:Nat) (xs:List D.ShardCell) (k:Int):List D.ShardCell:=markL (elShardCellS fuel) ecShardCellS xs k
def ctShardCellS (xs:List D.ShardCell):Nat:=sumL ecShardCellS xs
theorem z7A {fuel:Nat}{xs:List D.ShardCell}{k:Int}(hf:18446744073709551616≤fuel) (hl:szL D.ShardCell.sz xs≤1048576) (h0:0≤k) (h1:k+(ctShardCellS xs:Nat)≤2147483648):z1y fuel xs k=some (k+(ctShardCellS xs:Nat),mkShardCellS fuel xs k):=by
  unfold z1y
  rw [z4y (f:=elShardCellS fuel) (c:=ecShardCellS) (xs:=xs) (k:=k) (by have:=(z3T hl);omega) hf h0 h1 ?_ ?_]
  · rfl
  · intro i x ys k hi o hx hm h0 h1
    unfold ecShardCellS at h1
    have hsx:=z3S hl hm
    unfold D.ShardCell.sz at hsx
    unfold z1M elShardCellS ecShardCellS
    rw [if_pos (decide_eq_true (show(i:Int)<xs.length by omega))]
    simp only [zy hx,Option.bind_some]
    simp (disch:=omega) only [z1x hf (show x.Data.length≤1048576 by omega),z6P hf (show x.Aux.length≤1048576 by omega),z4V,Option.bind_some,Int.toNat_natCast]
    all_goals (refine congrArg some (congrArg Rd.next (Prod.ext ?_ ?_));rotate_left;first | rfl | (dsimp only;simp only [Int.natCast_add,Int.natCast_one,Int.ofNat_one,← Int.add_assoc]))
    all_goals (dsimp only;simp only [Int.natCast_add,Int.natCast_one,Int.ofNat_one];try omega)
  · intro k ys;unfold z1M;rw [if_neg (by simp)]

theorem z7F {fuel:Nat}{xs:List D.ShardCell}{k:Int}(hf:18446744073709551616≤fuel) (hl:szL D.ShardCell.sz xs≤1048576) (h0:0≤k) (h1:k+(ctShardCellS xs:Nat)≤2147483648):z1z fuel (mkShardCellS fuel xs k) k=some (k+(ctShardCellS xs:Nat)):=by
  unfold z1z
  have hlen:(mkShardCellS fuel xs k).length=xs.length:=zX _ _
  rw [z5G (f:=elShardCellS fuel) (c:=ecShardCellS) (xs:=xs) (k:=k) (by have:=(z3T hl);omega) hf h0 h1 ?_ ?_]
  · rfl
  · intro i x k' hi hx hm h0 h1
    unfold ecShardCellS at h1
    have hsx:=z3S hl hm
    unfold D.ShardCell.sz at hsx
    have o:(mkShardCellS fuel xs k)[i]? = some (elShardCellS fuel x k'):=hx
    unfold z15
    rw [if_pos (decide_eq_true (show(i:Int)<(mkShardCellS fuel xs k).length by rw [hlen];omega))]
    simp only [zy o,Option.bind_some]
    unfold elShardCellS ecShardCellS
    simp (disch:=omega) only [z4N hf (show x.Data.length≤1048576 by omega),z6T hf (show x.Aux.length≤1048576 by omega),z4V,Option.bind_some,lt_f,if_false,bne_self_eq_false,Bool.false_eq_true,beq_self_eq_true,Bool.not_true,Int.ofNat_one,Int.natCast_one]
    try (refine congrArg some (congrArg Rd.next (Prod.ext ?_ rfl));dsimp only;simp only [Int.natCast_add,Int.natCast_one,Int.ofNat_one];try omega)
  · intro k';show z15 fuel (mkShardCellS fuel xs k) (k',((mkShardCellS fuel xs k).length:Int))=_;unfold z15;rw [if_neg (by simp)]

theorem z9t {xs:List D.ShardCell}:ctShardCellS xs≤64*(szL D.ShardCell.sz xs):=by
  have h:=z63 (c:=ecShardCellS) (g:=D.ShardCell.sz) (m:=64) (xs:=xs) fun x _=>by
    unfold ecShardCellS
    unfold D.ShardCell.sz
    have:=z4O (xs:=x.Data)
    have:=z85 (xs:=x.Aux)
    omega
  exact h

def elShardVarS (fuel:Nat) (x:D.ShardVar) (k:Int):D.ShardVar:=(⟨((k).tmod 3 == 0),((k+1).tmod 3 == 0),(⟨k+1+1,k+1+1+1,k+1+1+1+1⟩:D.Address)⟩:D.ShardVar)
def ecShardVarS (x:D.ShardVar):Nat:=1+1+1+1+1
def mkShardVarS (fuel:Nat) (xs:List D.ShardVar) (k:Int):List D.ShardVar:=markL (elShardVarS fuel) ecShardVarS xs k
def ctShardVarS (xs:List D.ShardVar):Nat:=sumL ecShardVarS xs
theorem z7U {fuel:Nat}{xs:List D.ShardVar}{k:Int}(hf:18446744073709551616≤fuel) (hl:xs.length≤1048576) (h0:0≤k) (h1:k+(ctShardVarS xs:Nat)≤2147483648):z1V fuel xs k=some (k+(ctShardVarS xs:Nat),mkShardVarS fuel xs k):=by
  unfold z1V
  rw [z4y (f:=elShardVarS fuel) (c:=ecShardVarS) (xs:=xs) (k:=k) (by have:=hl;omega) hf h0 h1 ?_ ?_]
  · rfl
  · intro i x ys k hi o hx hm h0 h1
    unfold ecShardVarS at h1
    unfold z2a elShardVarS ecShardVarS
    rw [if_pos (decide_eq_true (show(i:Int)<xs.length by omega))]
    simp only [zy hx,Option.bind_some]
    simp (disch:=omega) only [z4V,Option.bind_some,Int.toNat_natCast]
    all_goals (refine congrArg some (congrArg Rd.next (Prod.ext ?_ ?_));rotate_left;first | rfl | (dsimp only;simp only [Int.natCast_add,Int.natCast_one,Int.ofNat_one,← Int.add_assoc]))
    all_goals (dsimp only;simp only [Int.natCast_add,Int.natCast_one,Int.ofNat_one];try omega)
  · intro k ys;unfold z2a;rw [if_neg (by simp)]

theorem z7Y {fuel:Nat}{xs:List D.ShardVar}{k:Int}(hf:18446744073709551616≤fuel) (hl:xs.length≤1048576) (h0:0≤k) (h1:k+(ctShardVarS xs:Nat)≤2147483648):z1W fuel (mkShardVarS fuel xs k) k=some (k+(ctShardVarS xs:Nat)):=by
  unfold z1W
  have hlen:(mkShardVarS fuel xs k).length=xs.length:=zX _ _
  rw [z5G (f:=elShardVarS fuel) (c:=ecShardVarS) (xs:=xs) (k:=k) (by have:=hl;omega) hf h0 h1 ?_ ?_]
  · rfl
  · intro i x k' hi hx hm h0 h1
    unfold ecShardVarS at h1
    have o:(mkShardVarS fuel xs k)[i]? = some (elShardVarS fuel x k'):=hx
    unfold z1b
    rw [if_pos (decide_eq_true (show(i:Int)<(mkShardVarS fuel xs k).length by rw [hlen];omega))]
    simp only [zy o,Option.bind_some]
    unfold elShardVarS ecShardVarS
    simp (disch:=omega) only [z4V,Option.bind_some,lt_f,if_false,bne_self_eq_false,Bool.false_eq_true,beq_self_eq_true,Bool.not_true,Int.ofNat_one,Int.natCast_one]
    try (refine congrArg some (congrArg Rd.next (Prod.ext ?_ rfl));dsimp only;simp only [Int.natCast_add,Int.natCast_one,Int.ofNat_one];try omega)
  · intro k';show z1b fuel (mkShardVarS fuel xs k) (k',((mkShardVarS fuel xs k).length:Int))=_;unfold z1b;rw [if_neg (by simp)]

theorem z9C {xs:List D.ShardVar}:ctShardVarS xs≤64*(xs.length):=by
  have h:=z63 (c:=ecShardVarS) (g:=(fun _=>0)) (m:=64) (xs:=xs) fun x _=>by
    unfold ecShardVarS
    omega
  rw [z7q (fun _=>rfl)] at h
  exact h

def elShardRedexS (fuel:Nat) (x:D.ShardRedex) (k:Int):D.ShardRedex:=(⟨(⟨k,k+1,k+1+1⟩:D.Address),(⟨k+1+1+1,k+1+1+1+1,k+1+1+1+1+1⟩:D.Address)⟩:D.ShardRedex)
def ecShardRedexS (x:D.ShardRedex):Nat:=1+1+1+1+1+1
def mkShardRedexS (fuel:Nat) (xs:List D.ShardRedex) (k:Int):List D.ShardRedex:=markL (elShardRedexS fuel) ecShardRedexS xs k
def ctShardRedexS (xs:List D.ShardRedex):Nat:=sumL ecShardRedexS xs
theorem z7u {fuel:Nat}{xs:List D.ShardRedex}{k:Int}(hf:18446744073709551616≤fuel) (hl:xs.length≤1048576) (h0:0≤k) (h1:k+(ctShardRedexS xs:Nat)≤2147483648):z1m fuel xs k=some (k+(ctShardRedexS xs:Nat),mkShardRedexS fuel xs k):=by
  unfold z1m
  rw [z4y (f:=elShardRedexS fuel) (c:=ecShardRedexS) (xs:=xs) (k:=k) (by have:=hl;omega) hf h0 h1 ?_ ?_]
  · rfl
  · intro i x ys k hi o hx hm h0 h1
    unfold ecShardRedexS at h1
    unfold z1w elShardRedexS ecShardRedexS
    rw [if_pos (decide_eq_true (show(i:Int)<xs.length by omega))]
    simp only [zy hx,Option.bind_some]
    simp (disch:=omega) only [z4V,Option.bind_some,Int.toNat_natCast]
    all_goals (refine congrArg some (congrArg Rd.next (Prod.ext ?_ ?_));rotate_left;first | rfl | (dsimp only;simp only [Int.natCast_add,Int.natCast_one,Int.ofNat_one,← Int.add_assoc]))
    all_goals (dsimp only;simp only [Int.natCast_add,Int.natCast_one,Int.ofNat_one];try omega)
  · intro k ys;unfold z1w;rw [if_neg (by simp)]

theorem z7v {fuel:Nat}{xs:List D.ShardRedex}{k:Int}(hf:18446744073709551616≤fuel) (hl:xs.length≤1048576) (h0:0≤k) (h1:k+(ctShardRedexS xs:Nat)≤2147483648):z1n fuel (mkShardRedexS fuel xs k) k=some (k+(ctShardRedexS xs:Nat)):=by
  unfold z1n
  have hlen:(mkShardRedexS fuel xs k).length=xs.length:=zX _ _
  rw [z5G (f:=elShardRedexS fuel) (c:=ecShardRedexS) (xs:=xs) (k:=k) (by have:=hl;omega) hf h0 h1 ?_ ?_]
  · rfl
  · intro i x k' hi hx hm h0 h1
    unfold ecShardRedexS at h1
    have o:(mkShardRedexS fuel xs k)[i]? = some (elShardRedexS fuel x k'):=hx
    unfold z11
    rw [if_pos (decide_eq_true (show(i:Int)<(mkShardRedexS fuel xs k).length by rw [hlen];omega))]
    simp only [zy o,Option.bind_some]
    unfold elShardRedexS ecShardRedexS
    simp (disch:=omega) only [z4V,Option.bind_some,lt_f,if_false,bne_self_eq_false,Bool.false_eq_true,beq_self_eq_true,Bool.not_true,Int.ofNat_one,Int.natCast_one]
    try (refine congrArg some (congrArg Rd.next (Prod.ext ?_ rfl));dsimp only;simp only [Int.natCast_add,Int.natCast_one,Int.ofNat_one];try omega)
  · intro k';show z11 fuel (mkShardRedexS fuel xs k) (k',((mkShardRedexS fuel xs k).length:Int))=_;unfold z11;rw [if_neg (by simp)]

theorem z8Q {xs:List D.ShardRedex}:ctShardRedexS xs≤64*(xs.length):=by
  have h:=z63 (c:=ecShardRedexS) (g:=(fun _=>0)) (m:=64) (xs:=xs) fun x _=>by
    unfold ecShardRedexS
    omega
  rw [z7q (fun _=>rfl)] at h
  exact h

def elShardS (fuel:Nat) (x:D.Shard) (k:Int):D.Shard:=(⟨(mkShardCellS fuel x.Cells (k)),(mkShardVarS fuel x.Vars (k+((ctShardCellS x.Cells:Nat):Int))),(mkShardRedexS fuel x.Redexes (k+((ctShardCellS x.Cells:Nat):Int)+((ctShardVarS x.Vars:Nat):Int)))⟩:D.Shard)
def ecShardS (x:D.Shard):Nat:=ctShardCellS x.Cells+ctShardVarS x.Vars+ctShardRedexS x.Redexes
def mkShardS (fuel:Nat) (xs:List D.Shard) (k:Int):List D.Shard:=markL (elShardS fuel) ecShardS xs k
def ctShardS (xs:List D.Shard):Nat:=sumL ecShardS xs
theorem z7d {fuel:Nat}{xs:List D.Shard}{k:Int}(hf:18446744073709551616≤fuel) (hl:szL D.Shard.sz xs≤1048576) (h0:0≤k) (h1:k+(ctShardS xs:Nat)≤2147483648):z3H fuel xs k=some (k+(ctShardS xs:Nat),mkShardS fuel xs k):=by
  unfold z3H
  rw [z4y (f:=elShardS fuel) (c:=ecShardS) (xs:=xs) (k:=k) (by have:=(z3T hl);omega) hf h0 h1 ?_ ?_]
  · rfl
  · intro i x ys k hi o hx hm h0 h1
    unfold ecShardS at h1
    have hsx:=z3S hl hm
    unfold D.Shard.sz at hsx
    unfold z3i elShardS ecShardS
    rw [if_pos (decide_eq_true (show(i:Int)<xs.length by omega))]
    simp only [zy hx,Option.bind_some]
    simp (disch:=omega) only [z7A hf (show szL D.ShardCell.sz x.Cells≤1048576 by omega),z7U hf (show x.Vars.length≤1048576 by omega),z7u hf (show x.Redexes.length≤1048576 by omega),z4V,Option.bind_some,Int.toNat_natCast]
    all_goals (refine congrArg some (congrArg Rd.next (Prod.ext ?_ ?_));rotate_left;first | rfl | (dsimp only;simp only [Int.natCast_add,Int.natCast_one,Int.ofNat_one,← Int.add_assoc]))
    all_goals (dsimp only;simp only [Int.natCast_add,Int.natCast_one,Int.ofNat_one];try omega)
  · intro k ys;unfold z3i;rw [if_neg (by simp)]

theorem z7o {fuel:Nat}{xs:List D.Shard}{k:Int}(hf:18446744073709551616≤fuel) (hl:szL D.Shard.sz xs≤1048576) (h0:0≤k) (h1:k+(ctShardS xs:Nat)≤2147483648):z3K fuel (mkShardS fuel xs k) k=some (k+(ctShardS xs:Nat)):=by
  unfold z3K
  have hlen:(mkShardS fuel xs k).length=xs.length:=zX _ _
  rw [z5G (f:=elShardS fuel) (c:=ecShardS) (xs:=xs) (k:=k) (by have:=(z3T hl);omega) hf h0 h1 ?_ ?_]
  · rfl
  · intro i x k' hi hx hm h0 h1
    unfold ecShardS at h1
    have hsx:=z3S hl hm
    unfold D.Shard.sz at hsx
    have o:(mkShardS fuel xs k)[i]? = some (elShardS fuel x k'):=hx
    unfold z1X
    rw [if_pos (decide_eq_true (show(i:Int)<(mkShardS fuel xs k).length by rw [hlen];omega))]
    simp only [zy o,Option.bind_some]
    unfold elShardS ecShardS
    simp (disch:=omega) only [z7F hf (show szL D.ShardCell.sz x.Cells≤1048576 by omega),z7Y hf (show x.Vars.length≤1048576 by omega),z7v hf (show x.Redexes.length≤1048576 by omega),z4V,Option.bind_some,lt_f,if_false,bne_self_eq_false,Bool.false_eq_true,beq_self_eq_true,Bool.not_true,Int.ofNat_one,Int.natCast_one]
    try (refine congrArg some (congrArg Rd.next (Prod.ext ?_ rfl));dsimp only;simp only [Int.natCast_add,Int.natCast_one,Int.ofNat_one];try omega)
  · intro k';show z1X fuel (mkShardS fuel xs k) (k',((mkShardS fuel xs k).length:Int))=_;unfold z1X;rw [if_neg (by simp)]

theorem z9s {xs:List D.Shard}:ctShardS xs≤64*(szL D.Shard.sz xs):=by
  have h:=z63 (c:=ecShardS) (g:=D.Shard.sz) (m:=64) (xs:=xs) fun x _=>by
    unfold ecShardS
    unfold D.Shard.sz
    have:=z9t (xs:=x.Cells)
    have:=z9C (xs:=x.Vars)
    have:=z8Q (xs:=x.Redexes)
    omega
  exact h

def elPortS (fuel:Nat) (x:D.Port) (k:Int):D.Port:=(⟨k,k+1⟩:D.Port)
def ecPortS (x:D.Port):Nat:=1+1
def mkPortS (fuel:Nat) (xs:List D.Port) (k:Int):List D.Port:=markL (elPortS fuel) ecPortS xs k
def ctPortS (xs:List D.Port):Nat:=sumL ecPortS xs
theorem z9x {fuel:Nat}{xs:List D.Port}{k:Int}(hf:18446744073709551616≤fuel) (hl:xs.length≤1048576) (h0:0≤k) (h1:k+(ctPortS xs:Nat)≤2147483648):z48 fuel xs k=some (k+(ctPortS xs:Nat),mkPortS fuel xs k):=by
  unfold z48
  rw [z4y (f:=elPortS fuel) (c:=ecPortS) (xs:=xs) (k:=k) (by have:=hl;omega) hf h0 h1 ?_ ?_]
  · rfl
  · intro i x ys k hi o hx hm h0 h1
    unfold ecPortS at h1
    unfold z3W elPortS ecPortS
    rw [if_pos (decide_eq_true (show(i:Int)<xs.length by omega))]
    simp only [zy hx,Option.bind_some]
    simp (disch:=omega) only [z4V,Option.bind_some,Int.toNat_natCast]
    all_goals (refine congrArg some (congrArg Rd.next (Prod.ext ?_ ?_));rotate_left;first | rfl | (dsimp only;simp only [Int.natCast_add,Int.natCast_one,Int.ofNat_one,← Int.add_assoc]))
    all_goals (dsimp only;simp only [Int.natCast_add,Int.natCast_one,Int.ofNat_one];try omega)
  · intro k ys;unfold z3W;rw [if_neg (by simp)]

theorem zcr {xs:List D.Port}:ctPortS xs≤64*(xs.length):=by
  have h:=z63 (c:=ecPortS) (g:=(fun _=>0)) (m:=64) (xs:=xs) fun x _=>by
    unfold ecPortS
    omega
  rw [z7q (fun _=>rfl)] at h
  exact h

def elAgentS (fuel:Nat) (x:D.Agent) (k:Int):D.Agent:=(⟨k,k+1,k+1+1,(z4Q fuel x.Data (k+1+1+1)),(mkPortS fuel x.Ports (k+1+1+1+((z1e x.Data:Nat):Int)))⟩:D.Agent)
def ecAgentS (x:D.Agent):Nat:=1+1+1+z1e x.Data+ctPortS x.Ports
def mkAgentS (fuel:Nat) (xs:List D.Agent) (k:Int):List D.Agent:=markL (elAgentS fuel) ecAgentS xs k
def ctAgentS (xs:List D.Agent):Nat:=sumL ecAgentS xs
theorem z9i {fuel:Nat}{xs:List D.Agent}{k:Int}(hf:18446744073709551616≤fuel) (hl:szL D.Agent.sz xs≤1048576) (h0:0≤k) (h1:k+(ctAgentS xs:Nat)≤2147483648):z3J fuel xs k=some (k+(ctAgentS xs:Nat),mkAgentS fuel xs k):=by
  unfold z3J
  rw [z4y (f:=elAgentS fuel) (c:=ecAgentS) (xs:=xs) (k:=k) (by have:=(z3T hl);omega) hf h0 h1 ?_ ?_]
  · rfl
  · intro i x ys k hi o hx hm h0 h1
    unfold ecAgentS at h1
    have hsx:=z3S hl hm
    unfold D.Agent.sz at hsx
    unfold z3k elAgentS ecAgentS
    rw [if_pos (decide_eq_true (show(i:Int)<xs.length by omega))]
    simp only [zy hx,Option.bind_some]
    simp (disch:=omega) only [z1x hf (show x.Data.length≤1048576 by omega),z9x hf (show x.Ports.length≤1048576 by omega),z4V,Option.bind_some,Int.toNat_natCast]
    all_goals (refine congrArg some (congrArg Rd.next (Prod.ext ?_ ?_));rotate_left;first | rfl | (dsimp only;simp only [Int.natCast_add,Int.natCast_one,Int.ofNat_one,← Int.add_assoc]))
    all_goals (dsimp only;simp only [Int.natCast_add,Int.natCast_one,Int.ofNat_one];try omega)
  · intro k ys;unfold z3k;rw [if_neg (by simp)]

theorem zbC {xs:List D.Agent}:ctAgentS xs≤64*(szL D.Agent.sz xs):=by
  have h:=z63 (c:=ecAgentS) (g:=D.Agent.sz) (m:=64) (xs:=xs) fun x _=>by
    unfold ecAgentS
    unfold D.Agent.sz
    have:=z4O (xs:=x.Data)
    have:=zcr (xs:=x.Ports)
    omega
  exact h

def elParcelS (fuel:Nat) (x:D.Parcel) (k:Int):D.Parcel:=(⟨k,(⟨k+1,k+1+1,k+1+1+1,(z4Q fuel x.Cell.Data (k+1+1+1+1)),(mkAddressS fuel x.Cell.Aux (k+1+1+1+1+((z1e x.Cell.Data:Nat):Int)))⟩:D.ShardCell),(⟨k+1+1+1+1+((z1e x.Cell.Data:Nat):Int)+((ctAddressS x.Cell.Aux:Nat):Int),k+1+1+1+1+((z1e x.Cell.Data:Nat):Int)+((ctAddressS x.Cell.Aux:Nat):Int)+1,k+1+1+1+1+((z1e x.Cell.Data:Nat):Int)+((ctAddressS x.Cell.Aux:Nat):Int)+1+1⟩:D.Address),(⟨k+1+1+1+1+((z1e x.Cell.Data:Nat):Int)+((ctAddressS x.Cell.Aux:Nat):Int)+1+1+1,k+1+1+1+1+((z1e x.Cell.Data:Nat):Int)+((ctAddressS x.Cell.Aux:Nat):Int)+1+1+1+1,k+1+1+1+1+((z1e x.Cell.Data:Nat):Int)+((ctAddressS x.Cell.Aux:Nat):Int)+1+1+1+1+1⟩:D.Address)⟩:D.Parcel)
def ecParcelS (x:D.Parcel):Nat:=1+1+1+1+z1e x.Cell.Data+ctAddressS x.Cell.Aux+1+1+1+1+1+1
def mkParcelS (fuel:Nat) (xs:List D.Parcel) (k:Int):List D.Parcel:=markL (elParcelS fuel) ecParcelS xs k
def ctParcelS (xs:List D.Parcel):Nat:=sumL ecParcelS xs
theorem z8E {fuel:Nat}{xs:List D.Parcel}{k:Int}(hf:18446744073709551616≤fuel) (hl:szL D.Parcel.sz xs≤1048576) (h0:0≤k) (h1:k+(ctParcelS xs:Nat)≤2147483648):z34 fuel xs k=some (k+(ctParcelS xs:Nat),mkParcelS fuel xs k):=by
  unfold z34
  rw [z4y (f:=elParcelS fuel) (c:=ecParcelS) (xs:=xs) (k:=k) (by have:=(z3T hl);omega) hf h0 h1 ?_ ?_]
  · rfl
  · intro i x ys k hi o hx hm h0 h1
    unfold ecParcelS at h1
    have hsx:=z3S hl hm
    simp only [D.Parcel.sz,D.ShardCell.sz] at hsx
    unfold z33 elParcelS ecParcelS
    rw [if_pos (decide_eq_true (show(i:Int)<xs.length by omega))]
    simp only [zy hx,Option.bind_some]
    simp (disch:=omega) only [z1x hf (show x.Cell.Data.length≤1048576 by omega),z6P hf (show x.Cell.Aux.length≤1048576 by omega),z4V,Option.bind_some,Int.toNat_natCast]
    all_goals (refine congrArg some (congrArg Rd.next (Prod.ext ?_ ?_));rotate_left;first | rfl | (dsimp only;simp only [Int.natCast_add,Int.natCast_one,Int.ofNat_one,← Int.add_assoc]))
    all_goals (dsimp only;simp only [Int.natCast_add,Int.natCast_one,Int.ofNat_one];try omega)
  · intro k ys;unfold z33;rw [if_neg (by simp)]

set_option maxHeartbeats 4000000 in
theorem z8M {fuel:Nat}{xs:List D.Parcel}{k:Int}(hf:18446744073709551616≤fuel) (hl:szL D.Parcel.sz xs≤1048576) (h0:0≤k) (h1:k+(ctParcelS xs:Nat)≤2147483648):z38 fuel (mkParcelS fuel xs k) k=some (k+(ctParcelS xs:Nat)):=by
  unfold z38
  have hlen:(mkParcelS fuel xs k).length=xs.length:=zX _ _
  rw [z5G (f:=elParcelS fuel) (c:=ecParcelS) (xs:=xs) (k:=k) (by have:=(z3T hl);omega) hf h0 h1 ?_ ?_]
  · rfl
  · intro i x k' hi hx hm h0 h1
    unfold ecParcelS at h1
    have hsx:=z3S hl hm
    simp only [D.Parcel.sz,D.ShardCell.sz] at hsx
    have hx2:(mkParcelS fuel xs k)[i]? = some (elParcelS fuel x k'):=hx
    unfold z1A
    rw [if_pos (decide_eq_true (show(i:Int)<(mkParcelS fuel xs k).length by rw [hlen];omega))]
    simp only [zy hx2,Option.bind_some]
    unfold elParcelS ecParcelS
    simp (disch:=omega) only [z4N hf (show x.Cell.Data.length≤1048576 by omega),z6T hf (show x.Cell.Aux.length≤1048576 by omega),z4V,Option.bind_some,lt_f,if_false,bne_self_eq_false,Bool.false_eq_true,beq_self_eq_true,Bool.not_true,Int.ofNat_one,Int.natCast_one]
    try (refine congrArg some (congrArg Rd.next (Prod.ext ?_ rfl));dsimp only;simp only [Int.natCast_add,Int.natCast_one,Int.ofNat_one];try omega)
  · intro k';show z1A fuel (mkParcelS fuel xs k) (k',((mkParcelS fuel xs k).length:Int))=_;unfold z1A;rw [if_neg (by simp)]

theorem zb7 {xs:List D.Parcel}:ctParcelS xs≤64*(szL D.Parcel.sz xs):=by
  have h:=z63 (c:=ecParcelS) (g:=D.Parcel.sz) (m:=64) (xs:=xs) fun x _=>by
    unfold ecParcelS
    simp only [D.Parcel.sz,D.ShardCell.sz]
    have:=z4O (xs:=x.Cell.Data)
    have:=z85 (xs:=x.Cell.Aux)
    omega
  exact h

def elParcelSS (fuel:Nat) (x:(List D.Parcel)) (k:Int):(List D.Parcel):=(mkParcelS fuel x (k))
def ecParcelSS (x:(List D.Parcel)):Nat:=ctParcelS x
def mkParcelSS (fuel:Nat) (xs:List (List D.Parcel)) (k:Int):List (List D.Parcel):=markL (elParcelSS fuel) ecParcelSS xs k
def ctParcelSS (xs:List (List D.Parcel)):Nat:=sumL ecParcelSS xs
theorem z8k {fuel:Nat}{xs:List (List D.Parcel)}{k:Int}(hf:18446744073709551616≤fuel) (hl:szL (fun x=>szL D.Parcel.sz x) xs≤1048576) (h0:0≤k) (h1:k+(ctParcelSS xs:Nat)≤2147483648):z2p fuel xs k=some (k+(ctParcelSS xs:Nat),mkParcelSS fuel xs k):=by
  unfold z2p
  rw [z4y (f:=elParcelSS fuel) (c:=ecParcelSS) (xs:=xs) (k:=k) (by have:=(z3T hl);omega) hf h0 h1 ?_ ?_]
  · rfl
  · intro i x ys k hi o hx hm h0 h1
    unfold ecParcelSS at h1
    have hsx:=z3S hl hm
    unfold z2z elParcelSS ecParcelSS
    rw [if_pos (decide_eq_true (show(i:Int)<xs.length by omega))]
    simp only [zy hx,Option.bind_some]
    simp (disch:=omega) only [z8E hf (show szL D.Parcel.sz x≤1048576 by omega),z4V,Option.bind_some,Int.toNat_natCast]
    all_goals (refine congrArg some (congrArg Rd.next (Prod.ext ?_ ?_));rotate_left;first | rfl | (dsimp only;simp only [Int.natCast_add,Int.natCast_one,Int.ofNat_one,← Int.add_assoc]))
    all_goals (dsimp only;simp only [Int.natCast_add,Int.natCast_one,Int.ofNat_one];try omega)
  · intro k ys;unfold z2z;rw [if_neg (by simp)]

theorem z8p {fuel:Nat}{xs:List (List D.Parcel)}{k:Int}(hf:18446744073709551616≤fuel) (hl:szL (fun x=>szL D.Parcel.sz x) xs≤1048576) (h0:0≤k) (h1:k+(ctParcelSS xs:Nat)≤2147483648):z2r fuel (mkParcelSS fuel xs k) k=some (k+(ctParcelSS xs:Nat)):=by
  unfold z2r
  have hlen:(mkParcelSS fuel xs k).length=xs.length:=zX _ _
  rw [z5G (f:=elParcelSS fuel) (c:=ecParcelSS) (xs:=xs) (k:=k) (by have:=(z3T hl);omega) hf h0 h1 ?_ ?_]
  · rfl
  · intro i x k' hi hx hm h0 h1
    unfold ecParcelSS at h1
    have hsx:=z3S hl hm
    have o:(mkParcelSS fuel xs k)[i]? = some (elParcelSS fuel x k'):=hx
    unfold z1o
    rw [if_pos (decide_eq_true (show(i:Int)<(mkParcelSS fuel xs k).length by rw [hlen];omega))]
    simp only [zy o,Option.bind_some]
    unfold elParcelSS ecParcelSS
    simp (disch:=omega) only [z8M hf (show szL D.Parcel.sz x≤1048576 by omega),z4V,Option.bind_some,lt_f,if_false,bne_self_eq_false,Bool.false_eq_true,beq_self_eq_true,Bool.not_true,Int.ofNat_one,Int.natCast_one]
    try (refine congrArg some (congrArg Rd.next (Prod.ext ?_ rfl));dsimp only;simp only [Int.natCast_add,Int.natCast_one,Int.ofNat_one];try omega)
  · intro k';show z1o fuel (mkParcelSS fuel xs k) (k',((mkParcelSS fuel xs k).length:Int))=_;unfold z1o;rw [if_neg (by simp)]

theorem zan {xs:List (List D.Parcel)}:ctParcelSS xs≤64*(szL (fun x=>szL D.Parcel.sz x) xs):=by
  have h:=z63 (c:=ecParcelSS) (g:=(fun x=>szL D.Parcel.sz x)) (m:=64) (xs:=xs) fun x _=>by
    unfold ecParcelSS
    have:=zb7 (xs:=x)
    omega
  exact h

def z6V (fuel:Nat) (x:(List Int)) (k:Int):(List Int):=(z4Q fuel x (k))
def z5b (x:(List Int)):Nat:=z1e x
def z5U (fuel:Nat) (xs:List (List Int)) (k:Int):List (List Int):=markL (z6V fuel) z5b xs k
def z62 (xs:List (List Int)):Nat:=sumL z5b xs
theorem z8F {fuel:Nat}{xs:List (List Int)}{k:Int}(hf:18446744073709551616≤fuel) (hl:szL (fun x=>x.length) xs≤1048576) (h0:0≤k) (h1:k+(z62 xs:Nat)≤2147483648):z36 fuel xs k=some (k+(z62 xs:Nat),z5U fuel xs k):=by
  unfold z36
  rw [z4y (f:=z6V fuel) (c:=z5b) (xs:=xs) (k:=k) (by have:=(z3T hl);omega) hf h0 h1 ?_ ?_]
  · rfl
  · intro i x ys k hi o hx hm h0 h1
    unfold z5b at h1
    have hsx:=z3S hl hm
    unfold z35 z6V z5b
    rw [if_pos (decide_eq_true (show(i:Int)<xs.length by omega))]
    simp only [zy hx,Option.bind_some]
    simp (disch:=omega) only [z1x hf (show x.length≤1048576 by omega),z4V,Option.bind_some,Int.toNat_natCast]
    all_goals (refine congrArg some (congrArg Rd.next (Prod.ext ?_ ?_));rotate_left;first | rfl | (dsimp only;simp only [Int.natCast_add,Int.natCast_one,Int.ofNat_one,← Int.add_assoc]))
    all_goals (dsimp only;simp only [Int.natCast_add,Int.natCast_one,Int.ofNat_one];try omega)
  · intro k ys;unfold z35;rw [if_neg (by simp)]

theorem z8N {fuel:Nat}{xs:List (List Int)}{k:Int}(hf:18446744073709551616≤fuel) (hl:szL (fun x=>x.length) xs≤1048576) (h0:0≤k) (h1:k+(z62 xs:Nat)≤2147483648):z39 fuel (z5U fuel xs k) k=some (k+(z62 xs:Nat)):=by
  unfold z39
  have hlen:(z5U fuel xs k).length=xs.length:=zX _ _
  rw [z5G (f:=z6V fuel) (c:=z5b) (xs:=xs) (k:=k) (by have:=(z3T hl);omega) hf h0 h1 ?_ ?_]
  · rfl
  · intro i x k' hi hx hm h0 h1
    unfold z5b at h1
    have hsx:=z3S hl hm
    have o:(z5U fuel xs k)[i]? = some (z6V fuel x k'):=hx
    unfold z1B
    rw [if_pos (decide_eq_true (show(i:Int)<(z5U fuel xs k).length by rw [hlen];omega))]
    simp only [zy o,Option.bind_some]
    unfold z6V z5b
    simp (disch:=omega) only [z4N hf (show x.length≤1048576 by omega),z4V,Option.bind_some,lt_f,if_false,bne_self_eq_false,Bool.false_eq_true,beq_self_eq_true,Bool.not_true,Int.ofNat_one,Int.natCast_one]
    try (refine congrArg some (congrArg Rd.next (Prod.ext ?_ rfl));dsimp only;simp only [Int.natCast_add,Int.natCast_one,Int.ofNat_one];try omega)
  · intro k';show z1B fuel (z5U fuel xs k) (k',((z5U fuel xs k).length:Int))=_;unfold z1B;rw [if_neg (by simp)]

theorem zb8 {xs:List (List Int)}:z62 xs≤64*(szL (fun x=>x.length) xs):=by
  have h:=z63 (c:=z5b) (g:=(fun x=>x.length)) (m:=64) (xs:=xs) fun x _=>by
    unfold z5b
    have:=z4O (xs:=x)
    omega
  exact h

def mkGrid (fuel:Nat) (x:D.Grid) (k:Int):D.Grid:=(⟨mkShardS fuel x.Shards (k),(⟨x.Root.Machine,x.Root.Kind,x.Root.Index⟩:D.Address)⟩:D.Grid)
def ctGrid (x:D.Grid):Nat:=ctShardS x.Shards
theorem z7r {fuel:Nat}{x:D.Grid}{k:Int}:(⟨(mkGrid fuel x k).Shards,(⟨x.Root.Machine,x.Root.Kind,x.Root.Index⟩:D.Address)⟩:D.Grid)=mkGrid fuel x k:=rfl
theorem zab {fuel:Nat}{x:D.Grid}{k:Int}(hf:18446744073709551616≤fuel) (hs:x.sz≤1048576) (h0:0≤k) (h1:k+(ctGrid x:Nat)≤2147483648):z2q fuel x k=some (k+(ctGrid x:Nat),(mkGrid fuel x k).Shards):=by
  unfold ctGrid at h1 ⊢
  simp only [D.Grid.sz] at hs
  unfold z2q mkGrid
  simp (disch:=omega) only [z7d hf (show szL D.Shard.sz x.Shards≤1048576 by omega),Option.bind_some]
  all_goals try simp only [Int.natCast_add,Int.add_assoc]

theorem zac {fuel:Nat}{x:D.Grid}{k:Int}(hf:18446744073709551616≤fuel) (hs:x.sz≤1048576) (h0:0≤k) (h1:k+(ctGrid x:Nat)≤2147483648):z1C fuel (mkGrid fuel x k) k=some (k+(ctGrid x:Nat)):=by
  unfold ctGrid at h1 ⊢
  simp only [D.Grid.sz] at hs
  unfold z1C mkGrid
  simp (disch:=omega) only [z7o hf (show szL D.Shard.sz x.Shards≤1048576 by omega),Option.bind_some,lt_f,if_false]
  all_goals try simp only [Int.natCast_add,Int.add_assoc]

theorem ze5 {x:D.Grid}:ctGrid x≤64*x.sz:=by
  unfold ctGrid
  simp only [D.Grid.sz]
  have:=z9s (xs:=x.Shards)
  omega

def mkNet (fuel:Nat) (x:D.Net) (k:Int):D.Net:=(⟨mkAgentS fuel x.Agents (k)⟩:D.Net)
def ctNet (x:D.Net):Nat:=ctAgentS x.Agents
theorem z8v {fuel:Nat}{x:D.Net}{k:Int}(hf:18446744073709551616≤fuel) (hs:x.sz≤1048576) (h0:0≤k) (h1:k+(ctNet x:Nat)≤2147483648):z4f fuel x k=some (k+(ctNet x:Nat),(mkNet fuel x k).Agents):=by
  unfold ctNet at h1 ⊢
  simp only [D.Net.sz] at hs
  unfold z4f mkNet
  simp (disch:=omega) only [z9i hf (show szL D.Agent.sz x.Agents≤1048576 by omega),Option.bind_some]
  all_goals try simp only [Int.natCast_add,Int.add_assoc]

theorem zc2 {x:D.Net}:ctNet x≤64*x.sz:=by
  unfold ctNet
  simp only [D.Net.sz]
  have:=zbC (xs:=x.Agents)
  omega

def mkCluster (fuel:Nat) (x:D.Cluster) (k:Int):D.Cluster:=(⟨(⟨mkShardS fuel x.Grid.Shards (k),(⟨x.Grid.Root.Machine,x.Grid.Root.Kind,x.Grid.Root.Index⟩:D.Address)⟩:D.Grid),mkParcelSS fuel x.Channels (k+((ctShardS x.Grid.Shards:Nat):Int)),z5U fuel x.Counts (k+((ctShardS x.Grid.Shards:Nat):Int)+((ctParcelSS x.Channels:Nat):Int)),z4Q fuel x.Sent (k+((ctShardS x.Grid.Shards:Nat):Int)+((ctParcelSS x.Channels:Nat):Int)+((z62 x.Counts:Nat):Int)),z4Q fuel x.Got (k+((ctShardS x.Grid.Shards:Nat):Int)+((ctParcelSS x.Channels:Nat):Int)+((z62 x.Counts:Nat):Int)+((z1e x.Sent:Nat):Int))⟩:D.Cluster)
def ctCluster (x:D.Cluster):Nat:=ctShardS x.Grid.Shards+ctParcelSS x.Channels+z62 x.Counts+z1e x.Sent+z1e x.Got
theorem z6g {fuel:Nat}{x:D.Cluster}{k:Int}:(⟨(⟨(mkCluster fuel x k).Grid.Shards,(⟨x.Grid.Root.Machine,x.Grid.Root.Kind,x.Grid.Root.Index⟩:D.Address)⟩:D.Grid),(mkCluster fuel x k).Channels,(mkCluster fuel x k).Counts,(mkCluster fuel x k).Sent,(mkCluster fuel x k).Got⟩:D.Cluster)=mkCluster fuel x k:=rfl
theorem z8G {fuel:Nat}{x:D.Cluster}{k:Int}(hf:18446744073709551616≤fuel) (hs:x.sz≤1048576) (h0:0≤k) (h1:k+(ctCluster x:Nat)≤2147483648):z37 fuel x k=some (k+(ctCluster x:Nat),(mkCluster fuel x k).Grid.Shards,(mkCluster fuel x k).Channels,(mkCluster fuel x k).Counts,(mkCluster fuel x k).Sent,(mkCluster fuel x k).Got):=by
  unfold ctCluster at h1 ⊢
  simp only [D.Cluster.sz,D.Grid.sz] at hs
  unfold z37 mkCluster
  simp (disch:=omega) only [z7d hf (show szL D.Shard.sz x.Grid.Shards≤1048576 by omega),z8k hf (show szL (fun x=>szL D.Parcel.sz x) x.Channels≤1048576 by omega),z8F hf (show szL (fun x=>x.length) x.Counts≤1048576 by omega),z1x hf (show x.Sent.length≤1048576 by omega),z1x hf (show x.Got.length≤1048576 by omega),Option.bind_some,z2q]
  all_goals try simp only [Int.natCast_add,Int.add_assoc]

theorem z8O {fuel:Nat}{x:D.Cluster}{k:Int}(hf:18446744073709551616≤fuel) (hs:x.sz≤1048576) (h0:0≤k) (h1:k+(ctCluster x:Nat)≤2147483648):z1N fuel (mkCluster fuel x k) k=some (k+(ctCluster x:Nat)):=by
  unfold ctCluster at h1 ⊢
  simp only [D.Cluster.sz,D.Grid.sz] at hs
  unfold z1N mkCluster
  simp (disch:=omega) only [z7o hf (show szL D.Shard.sz x.Grid.Shards≤1048576 by omega),z8p hf (show szL (fun x=>szL D.Parcel.sz x) x.Channels≤1048576 by omega),z8N hf (show szL (fun x=>x.length) x.Counts≤1048576 by omega),z4N hf (show x.Sent.length≤1048576 by omega),z4N hf (show x.Got.length≤1048576 by omega),Option.bind_some,lt_f,if_false,z1C]
  all_goals try simp only [Int.natCast_add,Int.add_assoc]

theorem zb9 {x:D.Cluster}:ctCluster x≤64*x.sz:=by
  unfold ctCluster
  simp only [D.Cluster.sz,D.Grid.sz]
  have:=z9s (xs:=x.Grid.Shards)
  have:=zan (xs:=x.Channels)
  have:=zb8 (xs:=x.Counts)
  have:=z4O (xs:=x.Sent)
  have:=z4O (xs:=x.Got)
  omega

end Go.E


namespace Go.E
open Go.RowKit Go.Proofs
set_option linter.unusedSimpArgs false
set_option linter.unusedVariables false

theorem z5h {fuel:Nat}{a l h:Int}:zo fuel a l h=some (decide (l≤a∧a≤h)):=by
  unfold zo
  by_cases h1:l≤a
  · rw [if_pos (decide_eq_true (by omega))];simp [h1]
  · rw [if_neg (by simp;omega)];simp [h1]

def portsN (k f:Int):Int:=
  if k=9 then(if 0≤f∧f≤3 then 1+f else 0) else if f≠0 then 0 else if k=1∨k=5∨k=6∨k=12 then 1 else
  if k=8∨k=10∨k=11 then 2 else if k=2∨k=3∨k=4∨k=7 then 3 else 0
def levelN (k:Int):Bool:=decide (2≤k∧k≤12∧k≠5∧k≠6)
def allowN (k l:Int):Bool:=decide (1≤k∧k≤12) && (decide (l=0) || (levelN k && decide (0≤l∧l≤8)))
def defN (n:Int):Bool:=decide (0≤n∧n≤23)
def contentN (k v:Int) (d:List Int):Bool:=
  if k=6 then decide (d.length=0∧-2147483648≤v∧v≤2147483647) else
  if k=7 then decide (d.length=0∧1≤v∧v≤6) else
  if k=8 then decide (d.length=1∧1≤v∧v≤6) && d.all (fun n=>decide (-2147483648≤n∧n≤2147483647)) else
  if k=9 then decide (d.length=0∧0≤v∧v≤3) else
  if k=10 then decide (v=0∧1≤d.length∧d.length≤4) && d.all defN else
  if k=11 then decide (v=0∧d.length=2) && d.all defN else
  if k=12 then decide (d.length=0∧0≤v∧v≤23) else decide (v=0∧d.length=0)
def agentN (k l v:Int) (d:List Int) (n:Nat):Bool:=decide (portsN k (if k=9 then n - 1 else 0)=n) && (allowN k l && contentN k v d)

theorem kinds (k:Int):(k=1∨k=2∨k=3∨k=4∨k=5∨k=6∨k=7∨k=8∨k=9∨k=10∨k=11∨k=12)∨¬ (1≤k∧k≤12):=by omega
theorem zbQ {k:Int}(h:¬ (1≤k∧k≤12)) (c:Int) (h1:1≤c∧c≤12):(k == c)=false:=by
  rw [beq_eq_false_iff_ne];rintro rfl;exact h h1

theorem z9R {fuel:Nat}{k f:Int}:z3g fuel k f=some (portsN k f):=by
  by_cases h9:k=9
  · subst h9
    unfold z3g portsN
    simp only [z5h,Option.bind_some,beq_self_eq_true,if_true,decide_eq_true_eq]
    split
    · rw [zC (by omega) (by omega)]
    · rfl
  · by_cases hf:f=0
    · subst hf
      rcases kinds k with h | h
      · rcases h with rfl | rfl | rfl | rfl | rfl | rfl | rfl | rfl | rfl | rfl | rfl | rfl<;>first | exact absurd rfl h9 | rfl
      · simp [z3g,z3F,z3E,z3D,z3C,z3B,z3A,z3z,z3y,portsN,zbQ h,h9]
        omega
    · unfold z3g portsN
      rw [if_neg (by simpa using h9),if_pos (by simpa using hf),if_neg h9,if_pos hf]
theorem z70 {fuel:Nat}{k:Int}:z3Z fuel k=some (decide (1≤k∧k≤12)):=by
  unfold z3Z
  by_cases h1:1≤k
  · rw [if_pos (decide_eq_true (by omega))];simp [h1]
  · rw [if_neg (by simp;omega)];simp [h1]
theorem zcj {fuel:Nat}{k f:Int}:z4g fuel k f=some (portsN k f):=by
  by_cases h9:k=9
  · subst h9
    unfold z4g portsN z1v
    simp only [z70,Option.bind_some,beq_self_eq_true,if_true]
    by_cases h0:0≤f
    · by_cases h3:f≤3
      · rw [if_pos (decide_eq_true (by omega)),if_pos (decide_eq_true h3),if_pos ⟨h0,h3⟩,zC (by omega) (by omega),Int.add_comm]
      · rw [if_pos (decide_eq_true (by omega)),if_neg (by simpa using h3)];simp [zS,h3]
    · rw [if_neg (by simp;omega),if_neg Bool.false_ne_true];simp [zS,h0]
  · unfold z4g z1v
    rw [if_neg (by simpa using h9),if_neg Bool.false_ne_true,z70,Option.bind_some]
    rcases kinds k with h | h
    · by_cases hf:f=0
      · subst hf
        rcases h with rfl | rfl | rfl | rfl | rfl | rfl | rfl | rfl | rfl | rfl | rfl | rfl<;>first | exact absurd rfl h9 | rfl
      · rw [if_neg (by simp;omega),if_neg (by simpa using h9),show(f != 0)=true by simpa using hf]
        simp [zS,portsN,h9,hf]
    · rw [if_pos (by simp;omega)]
      simp [zS,portsN,h9]
      omega

theorem zck {fuel:Nat}{k:Int}:z4B fuel k=some (levelN k):=by
  rcases kinds k with h | h
  · rcases h with rfl | rfl | rfl | rfl | rfl | rfl | rfl | rfl | rfl | rfl | rfl | rfl<;>rfl
  · simp [z4B,z32,z31,z30,z2Z,z2Y,z2X,z2W,z2V,levelN,zbQ h]
    omega
theorem zcm {fuel:Nat}{k:Int}:z4M fuel k=some (levelN k):=by
  unfold z4M
  rw [z70,Option.bind_some]
  rcases kinds k with h | h
  · rcases h with rfl | rfl | rfl | rfl | rfl | rfl | rfl | rfl | rfl | rfl | rfl | rfl<;>rfl
  · rw [if_neg (by simpa using h)]
    simp [levelN];omega
theorem zct {fuel:Nat}{k l:Int}:z4A fuel k l=some (allowN k l):=by
  unfold z4A z5Q allowN
  simp only [zck,z5h,Option.bind_some]
  cases hl:levelN k with
  | true=>
    have:1≤k∧k≤12:=by unfold levelN at hl;simp at hl;omega
    simp [this];omega
  | false=>by_cases h:1≤k∧k≤12<;>by_cases h0:l=0<;>simp [h,h0]
theorem zcu {fuel:Nat}{k l:Int}:z4b fuel k l=some (allowN k l):=by
  unfold z4b allowN
  have hL:z59 fuel l=some (decide (0≤l∧l≤8)):=by
    unfold z59
    by_cases h1:0≤l
    · rw [if_pos (decide_eq_true (by omega))];simp [h1]
    · rw [if_neg (by simp;omega)];simp [h1]
  simp only [z70,zcm,hL,Option.bind_some]
  by_cases h:1≤k∧k≤12
  · by_cases h0:l=0
    · simp [h,h0]
    · cases hl:levelN k<;>simp [h,h0]
  · simp [h]

theorem zc0 {fuel:Nat}{n:Int}:z4R fuel n=some (defN n):=by
  unfold z4R defN;rw [z5h];rfl
theorem zc1 {fuel:Nat}{n:Int}:z2h fuel n=some (defN n):=by
  unfold z2h defN
  by_cases h1:0≤n
  · rw [if_pos (decide_eq_true (by omega))];simp [h1];omega
  · rw [if_neg (by simp;omega)];simp [h1]
theorem zey {fuel:Nat}{n:Int}:z5p fuel n=some (decide (-2147483648≤n∧n≤2147483647)):=by
  unfold z5p
  by_cases h1:-2147483648≤n
  · rw [if_pos (decide_eq_true (by omega))];simp [h1]
  · rw [if_neg (by simp;omega)];simp [h1]
theorem zcR {fuel:Nat}{n:Int}:z2g fuel n=some (decide (1≤n∧n≤6)):=by
  unfold z2g
  by_cases h1:1≤n
  · rw [if_pos (decide_eq_true (by omega))];simp [h1]
  · rw [if_neg (by simp;omega)];simp [h1]
theorem z7G {α:Type}{p:α→Bool}:∀ {xs:List α},xs.any (fun x=>!p x)=!xs.all p
  | []=>rfl
  | x::xs=>by simp [z7G (p:=p) (xs:=xs)]
theorem ze3 {fuel:Nat}{a:D.Agent}(hf:18446744073709551616≤fuel) (hl:a.Data.length≤maxLen):
    ((iter (z1U fuel a) fuel 0).bind fun o=>aft o (z4X fuel))=some (a.Data.all defN):=by
  rw [askOne (xs:=a.Data) (p:=fun n=>!defN n) (v:=false) (t:=()) hl hf (fun i x hi hx=>by
    unfold z1U
    simp only [zy hx,zc0,lt_t (show(i:Int)<a.Data.length by omega),if_true,Option.bind_some]) (by simp [z1U]),z7G]
  cases a.Data.all defN<;>rfl
theorem z8y {fuel:Nat}{p:Int→Bool}{f:Int→Option Bool}{xs:List Int}(hf:18446744073709551616≤fuel) (hl:xs.length≤maxLen) (h:∀ n,f n=some (p n)):
    zj fuel xs f=some (xs.any p):=by
  unfold zj zZ
  obtain⟨r,h1,h2⟩:=askIndex (xs:=xs) (p:=p) (body:=zw fuel xs f) (j:=z19 fuel) (t:=()) hl hf rfl (fun i x hi hx=>by
    simp only [zw,zy hx,h,lt_t (show(i:Int)<xs.length by omega),if_true,Option.bind_some]) (by simp [zw])
  rw [h1,Option.bind_some,h2]

theorem zba {fuel:Nat}{a:D.Agent}(hf:18446744073709551616≤fuel) (hl:a.Data.length≤maxLen):zu fuel a=some (contentN a.Kind a.Value a.Data):=by
  have hd:=ze3 (a:=a) hf hl
  obtain⟨k,l,v,d,ps⟩:=a
  dsimp only at hl hd ⊢
  by_cases h6:k=6
  · subst h6
    simp only [zu,contentN,z5h,Option.bind_some,beq_self_eq_true,if_true]
    by_cases h:d.length=0<;>simp [h]<;>omega
  by_cases h7:k=7
  · subst h7
    simp only [zu,contentN,z5h,Option.bind_some,beq_self_eq_true,if_true]
    by_cases h:d.length=0<;>simp [h]<;>omega
  by_cases h8:k=8
  · subst h8
    simp only [zu,contentN,z5h,Option.bind_some,beq_self_eq_true,if_true]
    match d with
    | []=>simp
    | [n]=>by_cases h:1≤v∧v≤6<;>simp [h,idx]
    | _::_::_=>simp;omega
  by_cases h9:k=9
  · subst h9
    simp only [zu,contentN,z5h,Option.bind_some,beq_self_eq_true,if_true]
    by_cases h:d.length=0<;>simp [h]<;>omega
  by_cases G:k=12
  · subst G
    simp only [zu,contentN,z5h,zc0,Option.bind_some,beq_self_eq_true,if_true]
    by_cases h:d.length=0<;>simp [h,defN]<;>omega
  by_cases o:k=10
  · subst o
    simp only [zu,zV,zp,contentN,z5h,Option.bind_some,beq_self_eq_true,if_true,hd]
    by_cases h:v=0
    · by_cases h1:1≤d.length∧d.length≤4
      · have h2:(1:Int)≤d.length∧(d.length:Int)≤4:=by omega
        simp [h,h1,h2]
      · have h2:¬ ((1:Int)≤d.length∧(d.length:Int)≤4):=by omega
        simp [h,h1,h2]
    · simp [h]
  by_cases z:k=11
  · subst z
    simp only [zu,zV,zp,contentN,z5h,Option.bind_some,beq_self_eq_true,if_true,hd]
    by_cases h:v=0
    · by_cases h1:d.length=2
      · simp [h,h1]
      · have h2:¬ ((d.length:Int)=2):=by omega
        simp [h,h1,h2]
    · simp [h]
  · simp only [zu,zV,contentN,h6,h7,h8,h9,o,z,G,if_false]
    by_cases h:v=0<;>by_cases h1:d.length=0<;>simp [h,h1,h6,h7,h8,h9,o,z,G]

theorem zbb {fuel:Nat}{a:D.Agent}(hf:18446744073709551616≤fuel) (hl:a.Data.length≤maxLen):zW fuel a false=some (contentN a.Kind a.Value a.Data):=by
  unfold zW
  rw [if_neg Bool.false_ne_true,z8y (p:=fun n=>!defN n) hf hl (fun n=>by unfold z3o;rw [zc1];rfl),Option.bind_some,z7G,Bool.not_not]
  obtain⟨k,l,v,d,ps⟩:=a
  dsimp only at hl ⊢
  simp only [z26,z25,z24,z23,z22,z1h,z21,z20,z1D,zey,zcR,zc1,Option.bind_some]
  by_cases h6:k=6
  · subst h6
    simp only [contentN,beq_self_eq_true,if_true]
    by_cases h:d.length=0<;>by_cases h1:-2147483648≤v∧v≤2147483647<;>simp [h,h1]
  by_cases h7:k=7
  · subst h7
    simp only [contentN,beq_self_eq_true,if_true]
    by_cases h:d.length=0<;>by_cases h1:1≤v∧v≤6<;>simp [h,h1]
  by_cases h8:k=8
  · subst h8
    simp only [contentN,beq_self_eq_true,if_true]
    match d with
    | []=>simp
    | [n]=>by_cases h:1≤v∧v≤6<;>simp [h,idx]
    | _::_::_=>simp;omega
  by_cases h9:k=9
  · subst h9
    simp only [contentN,beq_self_eq_true,if_true]
    by_cases h1:0≤v
    · by_cases h:d.length=0<;>by_cases h2:v<4<;>simp [h,h1,h2]<;>omega
    · simp [h1]
  by_cases G:k=12
  · subst G
    simp only [contentN,beq_self_eq_true,if_true]
    by_cases h:d.length=0<;>by_cases h1:0≤v∧v≤23<;>simp [h,h1,defN]
  by_cases o:k=10
  · subst o
    simp only [contentN,beq_self_eq_true,if_true]
    by_cases h:v=0
    · by_cases h1:1≤d.length
      · by_cases h2:d.length≤4
        · have h3:(1:Int)≤d.length:=by omega
          have h4:(d.length:Int)≤4:=by omega
          simp [h,h1,h2,h3,h4]
        · have h3:(1:Int)≤d.length:=by omega
          have h4:¬ (d.length:Int)≤4:=by omega
          simp [h,h1,h2,h3,h4]
      · have h3:¬ (1:Int)≤d.length:=by omega
        simp [h,h1,h3]
    · by_cases h1:(1:Int)≤d.length<;>by_cases h2:(d.length:Int)≤4<;>simp [h,h1,h2]
  by_cases z:k=11
  · subst z
    simp only [contentN,beq_self_eq_true,if_true]
    by_cases h:v=0<;>by_cases h1:d.length=2
    · simp [h,h1]
    · have h2:¬ ((d.length:Int)=2):=by omega
      simp [h,h1,h2]
    · simp [h,h1]
    · have h2:¬ ((d.length:Int)=2):=by omega
      simp [h,h1,h2]
  · simp only [contentN,h6,h7,h8,h9,o,z,G,if_false]
    by_cases h:v=0<;>by_cases h1:d.length=0<;>simp [h,h1,h6,h7,h8,h9,o,z,G]

theorem z7Z {n:Nat}(hn:n≤maxLen):w64 ((n:Int) - 1)=(n:Int) - 1:=by
  have:maxLen=9223372036854775807:=rfl
  exact zC (by omega) (by omega)
theorem zcw {fuel:Nat}{a:D.Agent}(hf:18446744073709551616≤fuel) (hl:a.Data.length≤maxLen) (h1:1≤a.Ports.length) (h2:a.Ports.length≤maxLen):
    z16 fuel a=some (agentN a.Kind a.Level a.Value a.Data a.Ports.length):=by
  unfold z16 agentN
  rw [if_neg (by simp;intro h;rw [h] at h1;exact absurd h1 (by decide))]
  have hF:z4K fuel a.Kind (a.Ports.length:Int)=some (if a.Kind=9 then(a.Ports.length:Int) - 1 else 0):=by
    unfold z4K
    by_cases h:a.Kind=9
    · rw [if_pos (by simpa using h),if_pos h,z7Z h2]
    · rw [if_neg (by simpa using h),if_neg h]
  rw [hF,Option.bind_some,zcj,Option.bind_some,zcu,Option.bind_some]
  by_cases hp:portsN a.Kind (if a.Kind=9 then(a.Ports.length:Int) - 1 else 0)=(a.Ports.length:Int)
  · rw [if_neg (by simp [hp]),decide_eq_true hp,Bool.true_and]
    cases allowN a.Kind a.Level with
    | false=>rfl
    | true=>rw [Bool.true_and];exact zbb hf hl
  · rw [if_pos (by simpa using hp),decide_eq_false hp];rfl
theorem zcv {fuel:Nat}{a:D.Agent}(hf:18446744073709551616≤fuel) (hl:a.Data.length≤maxLen) (h1:1≤a.Ports.length) (h2:a.Ports.length≤maxLen):
    z2n fuel a=some (agentN a.Kind a.Level a.Value a.Data a.Ports.length):=by
  unfold z2n agentN
  have hF:z1S fuel a=some (if a.Kind=9 then(a.Ports.length:Int) - 1 else 0):=by
    unfold z1S
    by_cases h:a.Kind=9
    · rw [if_pos (by simpa using h),if_pos h,z7Z h2]
    · rw [if_neg (by simpa using h),if_neg h]
  rw [hF,Option.bind_some,z9R,Option.bind_some,zct,Option.bind_some,zba hf hl]
  by_cases hp:portsN a.Kind (if a.Kind=9 then(a.Ports.length:Int) - 1 else 0)=(a.Ports.length:Int)
  · rw [hp,if_pos (decide_eq_true (by omega)),if_pos (by simp),decide_eq_true rfl,Bool.true_and]
    cases allowN a.Kind a.Level<;>rfl
  · rw [decide_eq_false hp]
    generalize portsN a.Kind (if a.Kind=9 then(a.Ports.length:Int) - 1 else 0)=r at hp ⊢
    by_cases h:r>0
    · rw [if_pos (decide_eq_true h),if_neg (by simpa using fun h=>hp h.symm)];rfl
    · rw [if_neg (by simpa using h)];rfl



def agN (a:D.Agent):Bool:=decide (a.Ports.length≠0) && agentN a.Kind a.Level a.Value a.Data a.Ports.length
theorem zeb {fuel:Nat}{a:D.Agent}(hf:18446744073709551616≤fuel) (hl:a.Data.length≤maxLen) (h2:a.Ports.length≤maxLen):z16 fuel a=some (agN a):=by
  by_cases h:a.Ports.length=0
  · unfold z16 agN
    rw [if_pos (by simp [h]),show decide (a.Ports.length≠0)=false by simp [h],Bool.false_and]
    rfl
  · rw [zcw hf hl (by omega) h2]
    unfold agN
    rw [decide_eq_true (by simpa using h),Bool.true_and]
theorem zfd {fuel:Nat}{a:D.Agent}(hf:18446744073709551616≤fuel) (hl:a.Data.length≤maxLen) (h2:a.Ports.length≤maxLen):z2n fuel a=some (agN a):=by
  by_cases h:a.Ports.length=0
  · unfold z2n agN
    have hF:z1S fuel a=some (if a.Kind=9 then(a.Ports.length:Int) - 1 else 0):=by
      unfold z1S
      by_cases h:a.Kind=9
      · rw [if_pos (by simpa using h),if_pos h,z7Z h2]
      · rw [if_neg (by simpa using h),if_neg h]
    rw [hF,Option.bind_some,z9R,Option.bind_some,show decide (a.Ports.length≠0)=false by simp [h],Bool.false_and]
    generalize portsN a.Kind (if a.Kind=9 then(a.Ports.length:Int) - 1 else 0)=r
    by_cases hr:r>0
    · rw [if_pos (decide_eq_true hr),if_neg (by rw [h];simp;omega)]
    · rw [if_neg (by simpa using hr)]
  · rw [zcv hf hl (by omega) h2]
    unfold agN
    rw [decide_eq_true (by simpa using h),Bool.true_and]
theorem zc3 {a:D.Agent}(h:agN a=true):a.Ports.length≠0:=by
  unfold agN at h
  simp only [Bool.and_eq_true,decide_eq_true_eq] at h
  exact h.1
end Go.E


namespace Go.E
open Go.RowKit Go.Proofs
set_option linter.unusedSimpArgs false
set_option linter.unusedVariables false


inductive Rnd (σ ρ:Type) where
  | go (s:σ)
  | back (r:ρ)
def foldR {α σ ρ:Type}(f:Nat→σ→α→Rnd σ ρ):Nat→List α→σ→Rnd σ ρ
  | _,[],s=>.go s
  | i,x::xs,s=>match f i s x with
    | .go s'=>foldR f (i+1) xs s'
    | .back r=>.back r
theorem loopR {α σ S τ ρ:Type}{xs:List α}{body:S→Option (Rd S τ ρ)}{mk:Int→σ→S}{out:σ→τ}{f:Nat→σ→α→Rnd σ ρ}{J:Nat→σ→Prop}{s0:σ}{fuel:Nat}
    (hl:xs.length≤maxLen) (hf:18446744073709551616≤fuel) (hJ:J 0 s0)
    (step:∀ (i:Nat) s x,i<xs.length→xs[i]? = some x→J i s→match f i s x with
      | .go s'=>body (mk i s)=some (.next (mk (w64 (i+1)) s'))∧J (i+1) s'
      | .back r=>body (mk i s)=some (.ret r))
    (last:∀ s,J xs.length s→body (mk xs.length s)=some (.brk (out s))):
    (match foldR f 0 xs s0 with
      | .go s=>iter body fuel (mk 0 s0)=some (.inl (out s))∧J xs.length s
      | .back r=>iter body fuel (mk 0 s0)=some (.inr r)):=by
  have hm:maxLen=9223372036854775807:=rfl
  have key:∀ (ys:List α) (i:Nat) (s:σ) (fu:Nat),i+ys.length=xs.length→(∀ j,ys[j]? = xs[i+j]?)→ys.length<fu→J i s→(match foldR f i ys s with
      | .go s'=>iter body fu (mk i s)=some (.inl (out s'))∧J xs.length s'
      | .back r=>iter body fu (mk i s)=some (.inr r)):=by
    intro ys
    induction ys with
    | nil=>
      intro i s fu hi _ hfu hj
      obtain⟨fu,rfl⟩:∃ f',fu=f'+1:=⟨fu - 1,by simp at hfu;omega⟩
      simp only [List.length_nil,Nat.add_zero] at hi
      subst hi
      simp only [foldR,iter,last s hj]
      exact⟨trivial,hj⟩
    | cons y ys ih=>
      intro i s fu hi hat hfu hj
      obtain⟨fu,rfl⟩:∃ f',fu=f'+1:=⟨fu - 1,by simp at hfu;omega⟩
      simp only [List.length_cons] at hi hfu
      have hx:xs[i]? = some y:=by have:=hat 0;simpa using this.symm
      have hs:=step i s y (by omega) hx hj
      unfold foldR
      cases hfs:f i s y with
      | go s'=>
        rw [hfs] at hs
        have h2:=ih (i+1) s' fu (by omega) (fun j=>by have:=hat (j+1);rw [show i+1+j=i+(j+1) by omega];simpa using this) (by omega) hs.2
        simp only [iter,hs.1]
        rw [zC (by omega) (by omega)]
        exact_mod_cast h2
      | back r=>
        rw [hfs] at hs
        simp only [iter,hs]
  have:=key xs 0 s0 fuel (by simp) (by simp) (by omega) hJ
  exact_mod_cast this

theorem z7y {α:Type}{xs:List α}{p:Nat→α→Bool}{k:Nat}:((xs.zipIdx k).all fun y=>p y.2 y.1)=true↔∀ i x,xs[i]? = some x→p (k+i) x=true:=by
  rw [List.all_eq_true]
  constructor
  · intro h i x hx
    have:(x,k+i)∈xs.zipIdx k:=by
      rw [List.mem_zipIdx_iff_le_and_getElem?_sub]
      exact⟨Nat.le_add_right _ _,by simpa using hx⟩
    exact h _ this
  · rintro h ⟨x,j⟩ hj
    rw [List.mem_zipIdx_iff_le_and_getElem?_sub] at hj
    have:=h (j - k) x hj.2
    rwa [show k+(j - k)=j by have:=hj.1;simp at this;omega] at this

theorem zaS {α ρ:Type}{p:Nat→α→Bool}{v:ρ}:∀ {xs:List α}{k:Nat},foldR (fun i (_:Unit) x=>if p i x=true then Rnd.go () else Rnd.back v) k xs ()=if((xs.zipIdx k).all fun y=>p y.2 y.1)=true then Rnd.go () else Rnd.back v
  | [],k=>by simp [foldR]
  | x::xs,k=>by
    unfold foldR
    cases h:p k x with
    | true=>simp only [if_true,zaS (xs:=xs),List.zipIdx_cons,List.all_cons,h,Bool.true_and]
    | false=>simp [h]


theorem allLoop {α τ ρ:Type}{xs:List α}{body:Int→Option (Rd Int τ ρ)}{p:Nat→α→Bool}{t:τ}{v:ρ}{fuel:Nat}(hl:xs.length≤maxLen) (hf:18446744073709551616≤fuel)
    (step:∀ (i:Nat) x,i<xs.length→xs[i]? = some x→body i=if p i x=true then some (.next (w64 (i+1))) else some (.ret v)) (last:body xs.length=some (.brk t)):
    iter body fuel 0=some (if(xs.zipIdx.all fun y=>p y.2 y.1)=true then .inl t else .inr v):=by
  have h:=loopR (xs:=xs) (body:=body) (mk:=fun i _=>i) (out:=fun(_:Unit)=>t) (f:=fun i (_:Unit) x=>if p i x=true then Rnd.go () else Rnd.back v) (J:=fun _ _=>True) (s0:=()) hl hf trivial
    (fun i s x hi hx _=>by
      have:=step i x hi hx
      cases hp:p i x with
      | true=>rw [hp] at this;exact⟨this,trivial⟩
      | false=>rw [hp] at this;simpa using this) (fun s _=>last)
  rw [zaS] at h
  cases hp:(xs.zipIdx.all fun y=>p y.2 y.1) with
  | true=>rw [hp] at h;exact h.1
  | false=>rw [hp] at h;exact h

theorem z9Y {α:Type}{xs:List α}{i:Nat}{x:α}(h:xs[i]? = some x):(xs.take (i+1)).zipIdx=(xs.take i).zipIdx++[(x,i)]:=by
  have hl:=(List.getElem?_eq_some_iff.1 h).1
  rw [List.take_add_one,h,List.zipIdx_append]
  simp [Nat.min_eq_left (Nat.le_of_lt hl)]

theorem appLoop {S τ ρ β:Type}{n:Nat}{body:S→Option (Rd S τ ρ)}{mk:Int→List β→S}{out:List β→τ}{g:Nat→List β}{s0:List β}{fuel:Nat}(hl:n≤1048576) (hf:18446744073709551616≤fuel)
    (step:∀ k:Nat,k<n→body (mk k (s0++(List.range k).flatMap g))=some (.next (mk (w64 (k+1)) (s0++(List.range k).flatMap g++g k))))
    (last:body (mk n (s0++(List.range n).flatMap g))=some (.brk (out (s0++(List.range n).flatMap g)))):
    iter body fuel (mk 0 s0)=some (.inl (out (s0++(List.range n).flatMap g))):=by
  obtain⟨o,h1,h2⟩:=z2K (body:=body) (fun k s=>s=mk k (s0++(List.range k).flatMap g)) n (fun o=>o=.inl (out (s0++(List.range n).flatMap g))) (by
    rintro k s hk rfl
    refine .inl ⟨_,step k hk,?_⟩
    rw [zC (by omega) (by omega),List.range_succ,List.flatMap_append,List.append_assoc]
    simp) (by
    rintro s rfl
    exact .inr ⟨_,last,rfl⟩) (fuel:=fuel) (i:=0) (s:=mk 0 s0) (Nat.zero_le _) (by omega) (by simp)
  rw [h1,h2]

theorem zipLoop {α S τ ρ β:Type}{xs:List α}{body:S→Option (Rd S τ ρ)}{mk:Int→List β→S}{out:List β→τ}{g:Nat→α→List β}{s0:List β}{fuel:Nat}(hl:xs.length≤1048576) (hf:18446744073709551616≤fuel)
    (step:∀ (i:Nat) x,xs[i]? = some x→body (mk i (s0++((xs.take i).zipIdx).flatMap fun x=>g x.2 x.1))=some (.next (mk (w64 (i+1)) (s0++(((xs.take i).zipIdx).flatMap fun x=>g x.2 x.1)++g i x))))
    (last:body (mk xs.length (s0++(xs.zipIdx).flatMap fun x=>g x.2 x.1))=some (.brk (out (s0++(xs.zipIdx).flatMap fun x=>g x.2 x.1)))):
    iter body fuel (mk 0 s0)=some (.inl (out (s0++(xs.zipIdx).flatMap fun x=>g x.2 x.1))):=by
  obtain⟨o,h1,h2⟩:=z2K (body:=body) (fun k s=>s=mk k (s0++((xs.take k).zipIdx).flatMap fun x=>g x.2 x.1)) xs.length (fun o=>o=.inl (out (s0++(xs.zipIdx).flatMap fun x=>g x.2 x.1))) (by
    rintro k s hk rfl
    obtain⟨x,hx⟩:=z5i hk
    refine .inl ⟨_,step k x hx,?_⟩
    rw [zC (by omega) (by omega),z9Y hx,List.flatMap_append,List.append_assoc]
    simp) (by
    rintro s rfl
    rw [List.take_length]
    exact .inr ⟨_,last,rfl⟩) (fuel:=fuel) (i:=0) (s:=mk 0 s0) (Nat.zero_le _) (by omega) (by simp)
  rw [h1,h2]

theorem ze9 {α:Type}{xs:List α}{p:α→Bool}:(xs.zipIdx.all fun y=>p y.1)=xs.all p:=by
  rw [Bool.eq_iff_iff,z7y (p:=fun _ x=>p x),List.all_eq_true]
  constructor
  · intro h x hx
    obtain⟨i,hi⟩:=List.getElem?_of_mem hx
    exact h i x hi
  · exact fun h i x hi=>h x (List.mem_of_getElem? hi)
end Go.E


namespace Go.E
open Go.RowKit Go.Proofs
set_option linter.unusedSimpArgs false
set_option linter.unusedVariables false

def agentOf (c:D.ShardCell):D.Agent:=⟨c.Kind,c.Level,c.Value,c.Data,List.replicate (c.Aux.length+1) ⟨0,0⟩⟩
def shCellN (c:D.ShardCell):Bool:=if c.Kind=0 then decide (c.Level=0∧c.Value=0∧c.Data=[]∧c.Aux=[]) else decide (c.Kind≠1) && agN (agentOf c)
def noneN:D.Address:=⟨0,0,0⟩
def shVarN (v:D.ShardVar):Bool:=(v.Used || !v.Full) && (v.Full || decide (v.Held=noneN))
def shardN (s:D.Shard):Bool:=decide (s.Cells.length≤400∧s.Vars.length≤400∧s.Redexes.length≤400) && (s.Cells.all shCellN && s.Vars.all shVarN)
theorem zeo {k f:Int}:portsN k f≤4:=by
  unfold portsN
  split
  · split<;>omega
  · split
    · omega
    · split
      · omega
      · split
        · omega
        · split<;>omega
theorem zea {a:D.Agent}(h:agN a=true):a.Ports.length≤4:=by
  unfold agN agentN at h
  rw [Bool.and_eq_true,Bool.and_eq_true,decide_eq_true_eq,decide_eq_true_eq] at h
  have h2:=h.2.1
  have:=zeo (k:=a.Kind) (f:=if a.Kind=9 then(a.Ports.length:Int) - 1 else 0)
  rw [h2] at this
  omega
theorem zec {a b:D.Address}:(((a.Machine:Int) == b.Machine) && (((a.Kind:Int) == b.Kind) && (((a.Index:Int) == b.Index) && true)))=decide (a=b):=by
  obtain⟨a1,a2,a3⟩:=a
  obtain⟨b1,b2,b3⟩:=b
  by_cases h1:a1=b1<;>by_cases h2:a2=b2<;>by_cases h3:a3=b3<;>simp [h1,h2,h3]
theorem za6 {fuel:Nat}{c:D.ShardCell}(hs:c.sz≤1048576):z3P fuel c=some (agentOf c):=by
  unfold D.ShardCell.sz at hs
  unfold z3P zt agentOf
  rw [if_pos (by simp;omega),Option.bind_some,zC (by omega) (by omega),if_pos (by simp;omega)]
  have:((c.Aux.length:Int)+1).toNat=c.Aux.length+1:=by omega
  rw [this]
  rfl
theorem zco {fuel:Nat}{xs ys:List Int}(hf:18446744073709551616≤fuel) (hl:xs.length≤maxLen):zU fuel xs ys=some (decide (xs=ys)):=by
  unfold zU
  exact eqWhole hl hf rfl (fun i a b hi ha hb=>by
    unfold z14
    rw [if_pos (by simpa using hi),zy ha,Option.bind_some,zy hb,Option.bind_some]
    by_cases h:a=b<;>simp [h]) (by unfold z14;rw [if_neg (by simp)])
theorem zbA {fuel:Nat}{xs ys:List D.Address}(hf:18446744073709551616≤fuel) (hl:xs.length≤maxLen):zh fuel xs ys=some (decide (xs=ys)):=by
  unfold zh
  exact eqWhole hl hf rfl (fun i a b hi ha hb=>by
    unfold zk
    rw [if_pos (by simpa using hi),zy ha,Option.bind_some,zy hb,Option.bind_some,zec]
    by_cases h:a=b<;>simp [h]) (by unfold zk;rw [if_neg (by simp)])
theorem ze6 {fuel:Nat}{c:D.ShardCell}(hf:18446744073709551616≤fuel) (hs:c.sz≤1048576):z1E fuel c=some (shCellN c):=by
  have hm:maxLen=9223372036854775807:=rfl
  have o:=hs
  unfold D.ShardCell.sz at o
  unfold z1E z3r
  dsimp only
  rw [zco hf (by omega),zbA hf (by omega),za6 hs,Option.bind_some,Option.bind_some,Option.bind_some,zeb hf (by unfold agentOf;dsimp only;omega) (by unfold agentOf;simp only [List.length_replicate];omega)]
  unfold shCellN
  by_cases k0:c.Kind=0
  · by_cases h1:c.Level=0<;>by_cases h2:c.Value=0<;>by_cases h3:c.Data=[]<;>by_cases h4:c.Aux=[]<;>simp [k0,h1,h2,h3,h4]
  · by_cases k1:c.Kind=1<;>simp [k0,k1]
theorem z9E {fuel:Nat}{p:D.ShardCell→Bool}{f:D.ShardCell→Option Bool}{xs:List D.ShardCell}(hf:18446744073709551616≤fuel) (hl:xs.length≤maxLen) (h:∀ n,n∈xs→f n=some (p n)):
    z7 fuel xs f=some (xs.any p):=by
  unfold z7 zg
  obtain⟨r,h1,h2⟩:=askIndex (xs:=xs) (p:=p) (body:=z6 fuel xs f) (j:=zm fuel) (t:=()) hl hf rfl (fun i x hi hx=>by
    simp only [z6,zy hx,h x (List.mem_of_getElem? hx),lt_t (show(i:Int)<xs.length by omega),if_true,Option.bind_some]) (by simp [z6])
  rw [h1,Option.bind_some,h2]
theorem zao {fuel:Nat}{p:D.ShardVar→Bool}{f:D.ShardVar→Option Bool}{xs:List D.ShardVar}(hf:18446744073709551616≤fuel) (hl:xs.length≤maxLen) (h:∀ n,n∈xs→f n=some (p n)):
    za fuel xs f=some (xs.any p):=by
  unfold za zi
  obtain⟨r,h1,h2⟩:=askIndex (xs:=xs) (p:=p) (body:=z9 fuel xs f) (j:=zr fuel) (t:=()) hl hf rfl (fun i x hi hx=>by
    simp only [z9,zy hx,h x (List.mem_of_getElem? hx),lt_t (show(i:Int)<xs.length by omega),if_true,Option.bind_some]) (by simp [z9])
  rw [h1,Option.bind_some,h2]
theorem z9D {fuel:Nat}{p:D.Shard→Bool}{f:D.Shard→Option Bool}{xs:List D.Shard}(hf:18446744073709551616≤fuel) (hl:xs.length≤maxLen) (h:∀ n,n∈xs→f n=some (p n)):
    zc fuel xs f=some (xs.any p):=by
  unfold zc zq
  obtain⟨r,h1,h2⟩:=askIndex (xs:=xs) (p:=p) (body:=zb fuel xs f) (j:=zH fuel) (t:=()) hl hf rfl (fun i x hi hx=>by
    simp only [zb,zy hx,h x (List.mem_of_getElem? hx),lt_t (show(i:Int)<xs.length by omega),if_true,Option.bind_some]) (by simp [zb])
  rw [h1,Option.bind_some,h2]
theorem zef {fuel:Nat}{v:D.ShardVar}:z27 fuel v=some (!shVarN v):=by
  have e:=zec (a:=v.Held) (b:=noneN)
  unfold noneN at e
  unfold z27 z3q shVarN noneN
  dsimp only at e
  rw [e]
  cases v.Used<;>cases v.Full<;>cases decide (v.Held=⟨0,0,0⟩)<;>rfl
theorem zbN {s:D.Shard}(h:s.sz≤1048576):s.Cells.length≤1048576∧s.Vars.length≤1048576∧s.Redexes.length≤1048576∧∀ c,c∈s.Cells→c.sz≤1048576:=by
  unfold D.Shard.sz at h
  have h1:szL D.ShardCell.sz s.Cells≤1048576:=by omega
  exact⟨z3T h1,by omega,by omega,fun c hc=>z3S h1 hc⟩
theorem zcf {fuel:Nat}{s:D.Shard}(hf:18446744073709551616≤fuel) (hs:s.sz≤1048576):z3O fuel s=some (shardN s):=by
  have hm:maxLen=9223372036854775807:=rfl
  obtain⟨z1,z2,z3,z4⟩:=zbN hs
  unfold z3O z1i shardN
  rw [z9E (p:=fun c=>!shCellN c) hf (by omega) (fun c hc=>by unfold z3p;rw [ze6 hf (z4 c hc)];rfl),zao (p:=fun v=>!shVarN v) hf (by omega) (fun v _=>zef),z7G,z7G]
  by_cases h1:s.Cells.length≤400
  · by_cases h2:s.Vars.length≤400
    · by_cases h3:s.Redexes.length≤400
      · rw [if_neg (by simp;omega),if_neg (by simp;omega),if_neg (by simp;omega),decide_eq_true ⟨h1,h2,h3⟩]
        cases s.Cells.all shCellN<;>cases s.Vars.all shVarN<;>rfl
      · rw [if_neg (by simp;omega),if_neg (by simp;omega),if_pos (by simp;omega),decide_eq_false (fun h=>h3 h.2.2)];rfl
    · rw [if_neg (by simp;omega),if_pos (by simp;omega),decide_eq_false (fun h=>h2 h.2.1)];rfl
  · rw [if_pos (by simp;omega),decide_eq_false (fun h=>h1 h.1)];rfl
end Go.E


