/- AssembleGrid: the statement FnExactAssembleGridSaid (program and reference agree), from the walk and the plain law; the lemmas that it rests on stand ahead of it, each with its own conditions. Conditions of the claim: none. -/
import Derived.Test.YtfndicpnccabkaaGreatLoops
import Derived.Test.YtfndicpnccabkaaGreatFZ
import Derived.Test.YtfndicpnccabkaaGreatFZb
import Derived.Test.YtfndicpnccabkaaGreatMark
import Derived.Test.YtfndicpnccabkaaGreatRows
import Derived.WalkKit
import Derived.ProofKit
import Derived.OpenShut
import Derived.ShutString
import Derived.ChangeOld
import Derived.Below
import Derived.Carry
namespace Go.E
open Go.RowKit Go.Proofs
set_option linter.unusedSimpArgs false
set_option linter.unusedVariables false

theorem zeD {fuel:Nat}{x:(List Int)}(hf:18446744073709551616≤fuel) (hs:x.length≤1048576):z6n fuel x=some x:=by
  have hl:=hs
  unfold z6n
  refine z9D hl hf (fun _=>rfl) ?_ ?_
  · intro i y out hy o
    have hi:=(List.getElem?_eq_some_iff.1 hy).1
    have hsy:0≤1048576:=Nat.zero_le _
    simp only [z60,z8 hy,Option.bind_some,lt_t (show(i:Int)<x.length by omega),if_true]
    rw [if_pos (by simp;omega)]
    simp
  · intro out
    simp [z60]

theorem zbt {fuel:Nat}{x:(List Int)}(hf:18446744073709551616≤fuel) (hs:x.length≤1048576):z5h fuel x x=some true:=by
  have hl:=hs
  unfold z5h
  rw [if_neg (by simp)]
  refine z7j (n:=x.length) (t:=()) (by unfold maxLen;omega) hf rfl ?_ ?_
  · intro i hi
    obtain⟨y,hy⟩:=z1r hi
    have hsy:0≤1048576:=Nat.zero_le _
    simp [z65,z8 hy,hi,z2w]
  · simp [z65]

theorem z6L {fuel:Nat}{x:D.Address}(hf:18446744073709551616≤fuel) (hs:0≤1048576):z1K fuel x=some x:=by
  skip
  unfold z1K
  rfl

theorem z6Z {fuel:Nat}{x:D.Address}(hf:18446744073709551616≤fuel) (hs:0≤1048576):z1L fuel x x=some true:=by
  skip
  simp [z1L,z2w]

theorem zeF {fuel:Nat}{x:(List Int)}{l:Int}(hf:18446744073709551616≤fuel) (hw:WfL I64 x) (h0:0≤l) (h1:l≤1048576):SzOk (x.length) l (z6p fuel x l):=by
  unfold z6p
  generalize hz:w64 (l - (x.length:Int))=z
  exact SzOk.sub2 h0 h1 hw.1 (m:=0) rfl hz fun g0 g1=>SzOk.same g0

theorem zh8 {fuel:Nat}{x:D.Port}(hf:18446744073709551616≤fuel) (hs:0≤1048576):z7D fuel x x=some true:=by
  skip
  simp [z7D,z2w]

theorem zgb {fuel:Nat}{x:(List D.Port)}(hf:18446744073709551616≤fuel) (hs:x.length≤1048576):z6S fuel x x=some true:=by
  have hl:=hs
  unfold z6S
  rw [if_neg (by simp)]
  refine z7j (n:=x.length) (t:=()) (by unfold maxLen;omega) hf rfl ?_ ?_
  · intro i hi
    obtain⟨y,hy⟩:=z1r hi
    have hsy:0≤1048576:=Nat.zero_le _
    simp [z6F,z8 hy,hi,z2w,zh8 hf hsy]
  · simp [z6F]

theorem zcX {fuel:Nat}{x:D.ShardVar}(hf:18446744073709551616≤fuel) (hs:0≤1048576):z59 fuel x=some x:=by
  skip
  unfold z59
  simp only [z6L hf (show 0≤1048576 by exact Nat.zero_le _),Option.bind_some]

theorem zbD {fuel:Nat}{x:D.ShardRedex}(hf:18446744073709551616≤fuel) (hs:0≤1048576):z3J fuel x=some x:=by
  skip
  unfold z3J
  simp only [z6L hf (show 0≤1048576 by exact Nat.zero_le _),z6L hf (show 0≤1048576 by exact Nat.zero_le _),Option.bind_some]

theorem zdE {fuel:Nat}{x:D.ShardVar}(hf:18446744073709551616≤fuel) (hs:0≤1048576):z5g fuel x x=some true:=by
  skip
  simp [z5g,z2w,z6Z hf (show 0≤1048576 by exact Nat.zero_le _)]

theorem zc5 {fuel:Nat}{x:D.ShardRedex}(hf:18446744073709551616≤fuel) (hs:0≤1048576):z3O fuel x x=some true:=by
  skip
  simp [z3O,z2w,z6Z hf (show 0≤1048576 by exact Nat.zero_le _),z6Z hf (show 0≤1048576 by exact Nat.zero_le _)]

theorem zd0 {fuel:Nat}{x:(List D.Address)}{l:Int}(hf:18446744073709551616≤fuel) (hw:WfL D.Address.wf x) (h0:0≤l) (h1:l≤1048576):SzOk (x.length) l (z5b fuel x l):=by
  unfold z5b
  generalize hz:w64 (l - (x.length:Int))=z
  exact SzOk.sub2 h0 h1 hw.1 (m:=0) rfl hz fun g0 g1=>SzOk.same g0

theorem zcY {fuel:Nat}{x:(List D.Address)}(hf:18446744073709551616≤fuel) (hs:x.length≤1048576):z5a fuel x=some x:=by
  have hl:=hs
  unfold z5a
  refine z9D hl hf (fun _=>rfl) ?_ ?_
  · intro i y out hy o
    have hi:=(List.getElem?_eq_some_iff.1 hy).1
    have hsy:0≤1048576:=Nat.zero_le _
    simp only [z4H,z8 hy,Option.bind_some,lt_t (show(i:Int)<x.length by omega),if_true,z6L hf hsy]
    rw [if_pos (by simp;omega)]
    simp
  · intro out
    simp [z4H]

theorem zdF {fuel:Nat}{x:(List D.Address)}(hf:18446744073709551616≤fuel) (hs:x.length≤1048576):z5i fuel x x=some true:=by
  have hl:=hs
  unfold z5i
  rw [if_neg (by simp)]
  refine z7j (n:=x.length) (t:=()) (by unfold maxLen;omega) hf rfl ?_ ?_
  · intro i hi
    obtain⟨y,hy⟩:=z1r hi
    have hsy:0≤1048576:=Nat.zero_le _
    simp [z4M,z8 hy,hi,z2w,z6Z hf hsy]
  · simp [z4M]

theorem zgc {fuel:Nat}{x:D.Agent}(hf:18446744073709551616≤fuel) (hs:D.Agent.sz x≤1048576):z6T fuel x x=some true:=by
  unfold D.Agent.sz at hs
  simp [z6T,z2w,zbt hf (show x.Data.length≤1048576 by omega),zgb hf (show x.Ports.length≤1048576 by omega)]

theorem zcj {fuel:Nat}{x:(List D.ShardVar)}{l:Int}(hf:18446744073709551616≤fuel) (hw:WfL D.ShardVar.wf x) (h0:0≤l) (h1:l≤1048576):SzOk (x.length) l (z4s fuel x l):=by
  unfold z4s
  generalize hz:w64 (l - (x.length:Int))=z
  exact SzOk.sub2 h0 h1 hw.1 (m:=0) rfl hz fun g0 g1=>SzOk.same g0

theorem zb7 {fuel:Nat}{x:(List D.ShardRedex)}{l:Int}(hf:18446744073709551616≤fuel) (hw:WfL D.ShardRedex.wf x) (h0:0≤l) (h1:l≤1048576):SzOk (x.length) l (z31 fuel x l):=by
  unfold z31
  generalize hz:w64 (l - (x.length:Int))=z
  exact SzOk.sub2 h0 h1 hw.1 (m:=0) rfl hz fun g0 g1=>SzOk.same g0

theorem zch {fuel:Nat}{x:(List D.ShardVar)}(hf:18446744073709551616≤fuel) (hs:x.length≤1048576):z4p fuel x=some x:=by
  have hl:=hs
  unfold z4p
  refine z9D hl hf (fun _=>rfl) ?_ ?_
  · intro i y out hy o
    have hi:=(List.getElem?_eq_some_iff.1 hy).1
    have hsy:0≤1048576:=Nat.zero_le _
    simp only [z4o,z8 hy,Option.bind_some,lt_t (show(i:Int)<x.length by omega),if_true,zcX hf hsy]
    rw [if_pos (by simp;omega)]
    simp
  · intro out
    simp [z4o]

theorem zb6 {fuel:Nat}{x:(List D.ShardRedex)}(hf:18446744073709551616≤fuel) (hs:x.length≤1048576):z30 fuel x=some x:=by
  have hl:=hs
  unfold z30
  refine z9D hl hf (fun _=>rfl) ?_ ?_
  · intro i y out hy o
    have hi:=(List.getElem?_eq_some_iff.1 hy).1
    have hsy:0≤1048576:=Nat.zero_le _
    simp only [z3j,z8 hy,Option.bind_some,lt_t (show(i:Int)<x.length by omega),if_true,zbD hf hsy]
    rw [if_pos (by simp;omega)]
    simp
  · intro out
    simp [z3j]

theorem zcv {fuel:Nat}{x:(List D.ShardVar)}(hf:18446744073709551616≤fuel) (hs:x.length≤1048576):z4v fuel x x=some true:=by
  have hl:=hs
  unfold z4v
  rw [if_neg (by simp)]
  refine z7j (n:=x.length) (t:=()) (by unfold maxLen;omega) hf rfl ?_ ?_
  · intro i hi
    obtain⟨y,hy⟩:=z1r hi
    have hsy:0≤1048576:=Nat.zero_le _
    simp [z4u,z8 hy,hi,z2w,zdE hf hsy]
  · simp [z4u]

theorem zbs {fuel:Nat}{x:(List D.ShardRedex)}(hf:18446744073709551616≤fuel) (hs:x.length≤1048576):z38 fuel x x=some true:=by
  have hl:=hs
  unfold z38
  rw [if_neg (by simp)]
  refine z7j (n:=x.length) (t:=()) (by unfold maxLen;omega) hf rfl ?_ ?_
  · intro i hi
    obtain⟨y,hy⟩:=z1r hi
    have hsy:0≤1048576:=Nat.zero_le _
    simp [z3m,z8 hy,hi,z2w,zc5 hf hsy]
  · simp [z3m]

theorem zck {fuel:Nat}{x:D.ShardCell}{l:Int}(hf:18446744073709551616≤fuel) (hw:D.ShardCell.wf x) (h0:0≤l) (h1:l≤1048576):SzOk (D.ShardCell.sz x) l (z4t fuel x l):=by
  obtain⟨w0,w1,w2,w3,w4,_⟩:=hw
  unfold z4t D.ShardCell.sz
  refine SzOk.bind (zeF hf w3 h0 (by omega)) rfl fun r1 g1a g1b=>?_
  refine SzOk.bind (zd0 hf w4 g1a (by omega)) rfl fun r2 g2a g2b=>?_
  exact SzOk.same g2a

theorem zci {fuel:Nat}{x:D.ShardCell}(hf:18446744073709551616≤fuel) (hs:D.ShardCell.sz x≤1048576):z4q fuel x=some x:=by
  unfold D.ShardCell.sz at hs
  unfold z4q
  simp only [zeD hf (show x.Data.length≤1048576 by omega),zcY hf (show x.Aux.length≤1048576 by omega),Option.bind_some]

theorem zcw {fuel:Nat}{x:D.ShardCell}(hf:18446744073709551616≤fuel) (hs:D.ShardCell.sz x≤1048576):z4w fuel x x=some true:=by
  unfold D.ShardCell.sz at hs
  simp [z4w,z2w,zbt hf (show x.Data.length≤1048576 by omega),zdF hf (show x.Aux.length≤1048576 by omega)]

theorem zf2 {fuel:Nat}{x:(List D.Agent)}(hf:18446744073709551616≤fuel) (hs:szL D.Agent.sz x≤1048576):z6t fuel x x=some true:=by
  have hl:=z8F hs
  unfold z6t
  rw [if_neg (by simp)]
  refine z7j (n:=x.length) (t:=()) (by unfold maxLen;omega) hf rfl ?_ ?_
  · intro i hi
    obtain⟨y,hy⟩:=z1r hi
    have hsy:D.Agent.sz y≤1048576:=z8E hs (List.mem_of_getElem? hy)
    simp [z67,z8 hy,hi,z2w,zgc hf hsy]
  · simp [z67]

theorem zbF {fuel:Nat}{x:(List D.ShardCell)}{l:Int}(hf:18446744073709551616≤fuel) (hw:WfL D.ShardCell.wf x) (h0:0≤l) (h1:l≤1048576):SzOk (szL D.ShardCell.sz x) l (z3L fuel x l):=by
  unfold z3L
  generalize hz:w64 (l - (x.length:Int))=z
  refine SzOk.sub2 h0 h1 hw.1 (m:=sumL D.ShardCell.sz x) rfl hz fun g0 g1=>?_
  refine SzOk.loop hw.1 hf g0 (by omega) (fun _=>rfl) ?_ ?_
  · intro i y l hy h0 h1
    have hi:=(List.getElem?_eq_some_iff.1 hy).1
    have hwy:=hw.2 y (List.mem_of_getElem? hy)
    obtain⟨r,h2,h3⟩:=zck hf hwy h0 h1
    simp only [z3T,z8 hy,Option.bind_some,lt_t (show(i:Int)<x.length by omega),if_true,h2]
    by_cases hlt:r<0
    · exact .inl (by simp only [lt_t hlt,if_true])
    · exact .inr ⟨r,by simp only [lt_f hlt,if_false],h3.resolve_left hlt⟩
  · intro l
    simp [z3T]

theorem zbE {fuel:Nat}{x:(List D.ShardCell)}(hf:18446744073709551616≤fuel) (hs:szL D.ShardCell.sz x≤1048576):z3K fuel x=some x:=by
  have hl:=z8F hs
  unfold z3K
  refine z9D hl hf (fun _=>rfl) ?_ ?_
  · intro i y out hy o
    have hi:=(List.getElem?_eq_some_iff.1 hy).1
    have hsy:D.ShardCell.sz y≤1048576:=z8E hs (List.mem_of_getElem? hy)
    simp only [z3S,z8 hy,Option.bind_some,lt_t (show(i:Int)<x.length by omega),if_true,zci hf hsy]
    rw [if_pos (by simp;omega)]
    simp
  · intro out
    simp [z3S]

theorem zc6 {fuel:Nat}{x:(List D.ShardCell)}(hf:18446744073709551616≤fuel) (hs:szL D.ShardCell.sz x≤1048576):z3P fuel x x=some true:=by
  have hl:=z8F hs
  unfold z3P
  rw [if_neg (by simp)]
  refine z7j (n:=x.length) (t:=()) (by unfold maxLen;omega) hf rfl ?_ ?_
  · intro i hi
    obtain⟨y,hy⟩:=z1r hi
    have hsy:D.ShardCell.sz y≤1048576:=z8E hs (List.mem_of_getElem? hy)
    simp [z3V,z8 hy,hi,z2w,zcw hf hsy]
  · simp [z3V]

theorem ziT {fuel:Nat}{x:D.Net}(hf:18446744073709551616≤fuel) (hs:D.Net.sz x≤1048576):z6s fuel x x=some true:=by
  unfold D.Net.sz at hs
  simp [z6s,z2w,zf2 hf (show szL D.Agent.sz x.Agents≤1048576 by omega)]

theorem zfA {fuel:Nat}{x:D.Shard}{l:Int}(hf:18446744073709551616≤fuel) (hw:D.Shard.wf x) (h0:0≤l) (h1:l≤1048576):SzOk (D.Shard.sz x) l (z6O fuel x l):=by
  obtain⟨w0,w1,w2,_⟩:=hw
  unfold z6O D.Shard.sz
  refine SzOk.bind (zbF hf w0 h0 (by omega)) rfl fun r1 g1a g1b=>?_
  refine SzOk.bind (zcj hf w1 g1a (by omega)) rfl fun r2 g2a g2b=>?_
  refine SzOk.bind (zb7 hf w2 g2a (by omega)) rfl fun r3 g3a g3b=>?_
  exact SzOk.same g3a

theorem zfy {fuel:Nat}{x:D.Shard}(hf:18446744073709551616≤fuel) (hs:D.Shard.sz x≤1048576):z6N fuel x=some x:=by
  unfold D.Shard.sz at hs
  unfold z6N
  simp only [zbE hf (show szL D.ShardCell.sz x.Cells≤1048576 by omega),zch hf (show x.Vars.length≤1048576 by omega),zb6 hf (show x.Redexes.length≤1048576 by omega),Option.bind_some]

theorem zga {fuel:Nat}{x:D.Shard}(hf:18446744073709551616≤fuel) (hs:D.Shard.sz x≤1048576):z6R fuel x x=some true:=by
  unfold D.Shard.sz at hs
  simp [z6R,z2w,zc6 hf (show szL D.ShardCell.sz x.Cells≤1048576 by omega),zcv hf (show x.Vars.length≤1048576 by omega),zbs hf (show x.Redexes.length≤1048576 by omega)]

theorem zeE {fuel:Nat}{x:(List D.Shard)}{l:Int}(hf:18446744073709551616≤fuel) (hw:WfL D.Shard.wf x) (h0:0≤l) (h1:l≤1048576):SzOk (szL D.Shard.sz x) l (z6o fuel x l):=by
  unfold z6o
  generalize hz:w64 (l - (x.length:Int))=z
  refine SzOk.sub2 h0 h1 hw.1 (m:=sumL D.Shard.sz x) rfl hz fun g0 g1=>?_
  refine SzOk.loop hw.1 hf g0 (by omega) (fun _=>rfl) ?_ ?_
  · intro i y l hy h0 h1
    have hi:=(List.getElem?_eq_some_iff.1 hy).1
    have hwy:=hw.2 y (List.mem_of_getElem? hy)
    obtain⟨r,h2,h3⟩:=zfA hf hwy h0 h1
    simp only [z61,z8 hy,Option.bind_some,lt_t (show(i:Int)<x.length by omega),if_true,h2]
    by_cases hlt:r<0
    · exact .inl (by simp only [lt_t hlt,if_true])
    · exact .inr ⟨r,by simp only [lt_f hlt,if_false],h3.resolve_left hlt⟩
  · intro l
    simp [z61]

theorem zeC {fuel:Nat}{x:(List D.Shard)}(hf:18446744073709551616≤fuel) (hs:szL D.Shard.sz x≤1048576):z6m fuel x=some x:=by
  have hl:=z8F hs
  unfold z6m
  refine z9D hl hf (fun _=>rfl) ?_ ?_
  · intro i y out hy o
    have hi:=(List.getElem?_eq_some_iff.1 hy).1
    have hsy:D.Shard.sz y≤1048576:=z8E hs (List.mem_of_getElem? hy)
    simp only [z5Z,z8 hy,Option.bind_some,lt_t (show(i:Int)<x.length by omega),if_true,zfy hf hsy]
    rw [if_pos (by simp;omega)]
    simp
  · intro out
    simp [z5Z]

theorem zf1 {fuel:Nat}{x:(List D.Shard)}(hf:18446744073709551616≤fuel) (hs:szL D.Shard.sz x≤1048576):z6r fuel x x=some true:=by
  have hl:=z8F hs
  unfold z6r
  rw [if_neg (by simp)]
  refine z7j (n:=x.length) (t:=()) (by unfold maxLen;omega) hf rfl ?_ ?_
  · intro i hi
    obtain⟨y,hy⟩:=z1r hi
    have hsy:D.Shard.sz y≤1048576:=z8E hs (List.mem_of_getElem? hy)
    simp [z62,z8 hy,hi,z2w,zga hf hsy]
  · simp [z62]

theorem zgS {fuel:Nat}{x:D.Grid}{l:Int}(hf:18446744073709551616≤fuel) (hw:D.Grid.wf x) (h0:0≤l) (h1:l≤1048576):SzOk (D.Grid.sz x) l (z7A fuel x l):=by
  obtain⟨w0,w1,_⟩:=hw
  unfold z7A D.Grid.sz
  refine SzOk.bind (zeE hf w0 h0 (by omega)) rfl fun r1 g1a g1b=>?_
  exact SzOk.same g1a

theorem zgR {fuel:Nat}{x:D.Grid}(hf:18446744073709551616≤fuel) (hs:D.Grid.sz x≤1048576):z4r fuel x=some x:=by
  unfold D.Grid.sz at hs
  unfold z4r
  simp only [zeC hf (show szL D.Shard.sz x.Shards≤1048576 by omega),z6L hf (show 0≤1048576 by exact Nat.zero_le _),Option.bind_some]

theorem zh9 {fuel:Nat}{x:D.Grid}(hf:18446744073709551616≤fuel) (hs:D.Grid.sz x≤1048576):z7E fuel x x=some true:=by
  unfold D.Grid.sz at hs
  simp [z7E,z2w,zf1 hf (show szL D.Shard.sz x.Shards≤1048576 by omega),z6Z hf (show 0≤1048576 by exact Nat.zero_le _)]

theorem zdk:Opens Tryz.prog 2 tInt I64:=Opens.int Tryz.underlying2 (by kernel_rfl)
theorem zoj:Opens Tryz.prog 45 ty45 (WfL I64):=Opens.sl Tryz.underlying45 (by kernel_rfl) zdk
set_option maxRecDepth 100000 in
theorem zdj:Opens Tryz.prog 24 ty24 D.Address.wf:=Opens.struct (f:=fun c:D.Address=>(c.Machine,c.Kind,c.Index,())) Tryz.underlying24 (by kernel_rfl) (OpensF.cons zdk rfl rfl (OpensF.cons zdk rfl rfl (OpensF.cons zdk rfl rfl OpensF.nil))) (fun⟨a0,a1,a2,_⟩=>⟨⟨a0,a1,a2⟩,rfl⟩)
theorem znc:Opens Tryz.prog 235 zfn (WfL D.Address.wf):=Opens.sl Tryz.underlying235 (by kernel_rfl) zdj
set_option maxRecDepth 100000 in
theorem znb:Opens Tryz.prog 237 zgK D.ShardCell.wf:=Opens.struct (f:=fun c:D.ShardCell=>(c.Kind,c.Level,c.Value,c.Data,c.Aux,())) Tryz.underlying237 (by kernel_rfl) (OpensF.cons zdk rfl rfl (OpensF.cons zdk rfl rfl (OpensF.cons zdk rfl rfl (OpensF.cons zoj rfl rfl (OpensF.cons znc rfl rfl OpensF.nil))))) (fun⟨a0,a1,a2,a3,a4,_⟩=>⟨⟨a0,a1,a2,a3,a4⟩,rfl⟩)
theorem zng:Opens Tryz.prog 137 zfs (WfL D.ShardCell.wf):=Opens.sl Tryz.underlying137 (by kernel_rfl) znb
theorem zob:Opens Tryz.prog 4 tBool fun _=>True:=Opens.bool Tryz.underlying4 (by kernel_rfl)
set_option maxRecDepth 100000 in
theorem zna:Opens Tryz.prog 270 zib D.ShardVar.wf:=Opens.struct (f:=fun c:D.ShardVar=>(c.Used,c.Full,c.Held,())) Tryz.underlying270 (by kernel_rfl) (OpensF.cons zob rfl rfl (OpensF.cons zob rfl rfl (OpensF.cons zdj rfl rfl OpensF.nil))) (fun⟨a0,a1,a2,_⟩=>⟨⟨a0,a1,a2⟩,rfl⟩)
theorem znf:Opens Tryz.prog 138 zfr (WfL D.ShardVar.wf):=Opens.sl Tryz.underlying138 (by kernel_rfl) zna
set_option maxRecDepth 100000 in
theorem zn9:Opens Tryz.prog 273 zia D.ShardRedex.wf:=Opens.struct (f:=fun c:D.ShardRedex=>(c.A,c.B,())) Tryz.underlying273 (by kernel_rfl) (OpensF.cons zdj rfl rfl (OpensF.cons zdj rfl rfl OpensF.nil)) (fun⟨a0,a1,_⟩=>⟨⟨a0,a1⟩,rfl⟩)
theorem zne:Opens Tryz.prog 139 zfq (WfL D.ShardRedex.wf):=Opens.sl Tryz.underlying139 (by kernel_rfl) zn9
set_option maxRecDepth 100000 in
theorem znd:Opens Tryz.prog 141 zgN D.Shard.wf:=Opens.struct (f:=fun c:D.Shard=>(c.Cells,c.Vars,c.Redexes,())) Tryz.underlying141 (by kernel_rfl) (OpensF.cons zng rfl rfl (OpensF.cons znf rfl rfl (OpensF.cons zne rfl rfl OpensF.nil))) (fun⟨a0,a1,a2,_⟩=>⟨⟨a0,a1,a2⟩,rfl⟩)
theorem zom:Opens Tryz.prog 22 ty22 (WfL D.Shard.wf):=Opens.sl Tryz.underlying22 (by kernel_rfl) znd
set_option maxRecDepth 100000 in
theorem zok:Opens Tryz.prog 26 ty26 D.Grid.wf:=Opens.struct (f:=fun c:D.Grid=>(c.Shards,c.Root,())) Tryz.underlying26 (by kernel_rfl) (OpensF.cons zom rfl rfl (OpensF.cons zdj rfl rfl OpensF.nil)) (fun⟨a0,a1,_⟩=>⟨⟨a0,a1⟩,rfl⟩)
end Go.E


namespace Go.E
open Go.RowKit Go.Proofs
set_option linter.unusedSimpArgs false
set_option linter.unusedVariables false

def zaC (fuel:Nat) (x:Int) (k:Int):Int:=k
def z85 (x:Int):Nat:=1
def z8y (fuel:Nat) (xs:List Int) (k:Int):List Int:=markL (zaC fuel) z85 xs k
def z8z (xs:List Int):Nat:=sumL z85 xs
theorem za9 {fuel:Nat}{xs:List Int}{k:Int}(hf:18446744073709551616≤fuel) (hl:xs.length≤1048576) (h0:0≤k) (h1:k+(z8z xs:Nat)≤2147483648):z3r fuel xs k=some (k+(z8z xs:Nat),z8y fuel xs k):=by
  unfold z3r
  rw [z8a (f:=zaC fuel) (c:=z85) (xs:=xs) (k:=k) (by have:=hl;omega) hf h0 h1 ?_ ?_]
  · rfl
  · intro i x ys k hi o hx hm h0 h1
    unfold z85 at h1
    unfold z4K zaC z85
    rw [if_pos (decide_eq_true (show(i:Int)<xs.length by omega))]
    rw [if_pos (decide_eq_true (show 0≤(i:Int)∧(i:Int).toNat<ys.length from⟨by omega,by rw [o];simpa using hi⟩))]
    simp (disch:=omega) only [z9p,Int.toNat_natCast,Int.ofNat_one,Int.natCast_one]
  · intro k ys;unfold z4K;rw [if_neg (by simp)]

theorem zdz {fuel:Nat}{xs:List Int}{k:Int}(hf:18446744073709551616≤fuel) (hl:xs.length≤1048576) (h0:0≤k) (h1:k+(z8z xs:Nat)≤2147483648):z5e fuel (z8y fuel xs k) k=some (k+(z8z xs:Nat)):=by
  unfold z5e
  have hlen:(z8y fuel xs k).length=xs.length:=z5q _ _
  rw [zdy (f:=zaC fuel) (c:=z85) (xs:=xs) (k:=k) (by have:=hl;omega) hf h0 h1 ?_ ?_]
  · rfl
  · intro i x k' hi hx hm h0 h1
    unfold z85 at h1
    have o:(z8y fuel xs k)[i]? = some (zaC fuel x k'):=hx
    unfold z34
    rw [if_pos (decide_eq_true (show(i:Int)<(z8y fuel xs k).length by rw [hlen];omega))]
    simp only [z8 o,Option.bind_some]
    unfold zaC z85
    simp (disch:=omega) only [z9p,Option.bind_some,lt_f,if_false,bne_self_eq_false,Bool.false_eq_true,beq_self_eq_true,Bool.not_true,Int.ofNat_one,Int.natCast_one]
  · intro k';show z34 fuel (z8y fuel xs k) (k',((z8y fuel xs k).length:Int))=_;unfold z34;rw [if_neg (by simp)]

theorem zdM {xs:List Int}:z8z xs≤64*(xs.length):=by
  have h:=z9E (c:=z85) (g:=(fun _=>0)) (m:=64) (xs:=xs) fun x _=>by
    unfold z85
    omega
  rw [zav (fun _=>rfl)] at h
  exact h

def elAddressS (fuel:Nat) (x:D.Address) (k:Int):D.Address:=(⟨k,k+1,k+1+1⟩:D.Address)
def ecAddressS (x:D.Address):Nat:=1+1+1
def mkAddressS (fuel:Nat) (xs:List D.Address) (k:Int):List D.Address:=markL (elAddressS fuel) ecAddressS xs k
def ctAddressS (xs:List D.Address):Nat:=sumL ecAddressS xs
theorem zbV {fuel:Nat}{xs:List D.Address}{k:Int}(hf:18446744073709551616≤fuel) (hl:xs.length≤1048576) (h0:0≤k) (h1:k+(ctAddressS xs:Nat)≤2147483648):z3M fuel xs k=some (k+(ctAddressS xs:Nat),mkAddressS fuel xs k):=by
  unfold z3M
  rw [z8a (f:=elAddressS fuel) (c:=ecAddressS) (xs:=xs) (k:=k) (by have:=hl;omega) hf h0 h1 ?_ ?_]
  · rfl
  · intro i x ys k hi o hx hm h0 h1
    unfold ecAddressS at h1
    unfold z3U elAddressS ecAddressS
    rw [if_pos (decide_eq_true (show(i:Int)<xs.length by omega))]
    simp only [z8 hx,Option.bind_some]
    simp (disch:=omega) only [z9p,Option.bind_some,Int.toNat_natCast]
    all_goals (refine congrArg some (congrArg Rd.next (Prod.ext ?_ ?_));rotate_left;first | rfl | (dsimp only;simp only [Int.natCast_add,Int.natCast_one,Int.ofNat_one,← Int.add_assoc]))
    all_goals (dsimp only;simp only [Int.natCast_add,Int.natCast_one,Int.ofNat_one];try omega)
  · intro k ys;unfold z3U;rw [if_neg (by simp)]

theorem zf9 {xs:List D.Address}:ctAddressS xs≤64*(xs.length):=by
  have h:=z9E (c:=ecAddressS) (g:=(fun _=>0)) (m:=64) (xs:=xs) fun x _=>by
    unfold ecAddressS
    omega
  rw [zav (fun _=>rfl)] at h
  exact h

def elShardCellS (fuel:Nat) (x:D.ShardCell) (k:Int):D.ShardCell:=(⟨k,k+1,k+1+1,(z8y fuel x.Data (k+1+1+1)),(mkAddressS fuel x.Aux (k+1+1+1+((z8z x.Data:Nat):Int)))⟩:D.ShardCell)
def ecShardCellS (x:D.ShardCell):Nat:=1+1+1+z8z x.Data+ctAddressS x.Aux
def mkShardCellS (fuel:Nat) (xs:List D.ShardCell) (k:Int):List D.ShardCell:=markL (elShardCellS fuel) ecShardCellS xs k
def ctShardCellS (xs:List D.ShardCell):Nat:=sumL ecShardCellS xs
theorem zaV {fuel:Nat}{xs:List D.ShardCell}{k:Int}(hf:18446744073709551616≤fuel) (hl:szL D.ShardCell.sz xs≤1048576) (h0:0≤k) (h1:k+(ctShardCellS xs:Nat)≤2147483648):z2E fuel xs k=some (k+(ctShardCellS xs:Nat),mkShardCellS fuel xs k):=by
  unfold z2E
  rw [z8a (f:=elShardCellS fuel) (c:=ecShardCellS) (xs:=xs) (k:=k) (by have:=(z8F hl);omega) hf h0 h1 ?_ ?_]
  · rfl
  · intro i x ys k hi o hx hm h0 h1
    unfold ecShardCellS at h1
    have hsx:=z8E hl hm
    unfold D.ShardCell.sz at hsx
    unfold z2U elShardCellS ecShardCellS
    rw [if_pos (decide_eq_true (show(i:Int)<xs.length by omega))]
    simp only [z8 hx,Option.bind_some]
    simp (disch:=omega) only [za9 hf (show x.Data.length≤1048576 by omega),zbV hf (show x.Aux.length≤1048576 by omega),z9p,Option.bind_some,Int.toNat_natCast]
    all_goals (refine congrArg some (congrArg Rd.next (Prod.ext ?_ ?_));rotate_left;first | rfl | (dsimp only;simp only [Int.natCast_add,Int.natCast_one,Int.ofNat_one,← Int.add_assoc]))
    all_goals (dsimp only;simp only [Int.natCast_add,Int.natCast_one,Int.ofNat_one];try omega)
  · intro k ys;unfold z2U;rw [if_neg (by simp)]

theorem zdL {xs:List D.ShardCell}:ctShardCellS xs≤64*(szL D.ShardCell.sz xs):=by
  have h:=z9E (c:=ecShardCellS) (g:=D.ShardCell.sz) (m:=64) (xs:=xs) fun x _=>by
    unfold ecShardCellS
    unfold D.ShardCell.sz
    have:=zdM (xs:=x.Data)
    have:=zf9 (xs:=x.Aux)
    omega
  exact h

def elShardVarS (fuel:Nat) (x:D.ShardVar) (k:Int):D.ShardVar:=(⟨((k).tmod 3 == 0),((k+1).tmod 3 == 0),(⟨k+1+1,k+1+1+1,k+1+1+1+1⟩:D.Address)⟩:D.ShardVar)
def ecShardVarS (x:D.ShardVar):Nat:=1+1+1+1+1
def mkShardVarS (fuel:Nat) (xs:List D.ShardVar) (k:Int):List D.ShardVar:=markL (elShardVarS fuel) ecShardVarS xs k
def ctShardVarS (xs:List D.ShardVar):Nat:=sumL ecShardVarS xs
theorem zbn {fuel:Nat}{xs:List D.ShardVar}{k:Int}(hf:18446744073709551616≤fuel) (hl:xs.length≤1048576) (h0:0≤k) (h1:k+(ctShardVarS xs:Nat)≤2147483648):z33 fuel xs k=some (k+(ctShardVarS xs:Nat),mkShardVarS fuel xs k):=by
  unfold z33
  rw [z8a (f:=elShardVarS fuel) (c:=ecShardVarS) (xs:=xs) (k:=k) (by have:=hl;omega) hf h0 h1 ?_ ?_]
  · rfl
  · intro i x ys k hi o hx hm h0 h1
    unfold ecShardVarS at h1
    unfold z3k elShardVarS ecShardVarS
    rw [if_pos (decide_eq_true (show(i:Int)<xs.length by omega))]
    simp only [z8 hx,Option.bind_some]
    simp (disch:=omega) only [z9p,Option.bind_some,Int.toNat_natCast]
    all_goals (refine congrArg some (congrArg Rd.next (Prod.ext ?_ ?_));rotate_left;first | rfl | (dsimp only;simp only [Int.natCast_add,Int.natCast_one,Int.ofNat_one,← Int.add_assoc]))
    all_goals (dsimp only;simp only [Int.natCast_add,Int.natCast_one,Int.ofNat_one];try omega)
  · intro k ys;unfold z3k;rw [if_neg (by simp)]

theorem zdZ {xs:List D.ShardVar}:ctShardVarS xs≤64*(xs.length):=by
  have h:=z9E (c:=ecShardVarS) (g:=(fun _=>0)) (m:=64) (xs:=xs) fun x _=>by
    unfold ecShardVarS
    omega
  rw [zav (fun _=>rfl)] at h
  exact h

def elShardRedexS (fuel:Nat) (x:D.ShardRedex) (k:Int):D.ShardRedex:=(⟨(⟨k,k+1,k+1+1⟩:D.Address),(⟨k+((1+1+1:Nat):Int),k+((1+1+1:Nat):Int)+1,k+((1+1+1:Nat):Int)+1+1⟩:D.Address)⟩:D.ShardRedex)
def ecShardRedexS (x:D.ShardRedex):Nat:=1+1+1+1+1+1
def mkShardRedexS (fuel:Nat) (xs:List D.ShardRedex) (k:Int):List D.ShardRedex:=markL (elShardRedexS fuel) ecShardRedexS xs k
def ctShardRedexS (xs:List D.ShardRedex):Nat:=sumL ecShardRedexS xs
theorem zaH {fuel:Nat}{xs:List D.ShardRedex}{k:Int}(hf:18446744073709551616≤fuel) (hl:xs.length≤1048576) (h0:0≤k) (h1:k+(ctShardRedexS xs:Nat)≤2147483648):z2e fuel xs k=some (k+(ctShardRedexS xs:Nat),mkShardRedexS fuel xs k):=by
  unfold z2e
  rw [z8a (f:=elShardRedexS fuel) (c:=ecShardRedexS) (xs:=xs) (k:=k) (by have:=hl;omega) hf h0 h1 ?_ ?_]
  · rfl
  · intro i x ys k hi o hx hm h0 h1
    unfold ecShardRedexS at h1
    unfold z2v elShardRedexS ecShardRedexS
    rw [if_pos (decide_eq_true (show(i:Int)<xs.length by omega))]
    simp only [z8 hx,Option.bind_some]
    simp (disch:=omega) only [z9p,Option.bind_some,Int.toNat_natCast]
    all_goals (refine congrArg some (congrArg Rd.next (Prod.ext ?_ ?_));rotate_left;first | rfl | (dsimp only;simp only [Int.natCast_add,Int.natCast_one,Int.ofNat_one,← Int.add_assoc]))
    all_goals (dsimp only;simp only [Int.natCast_add,Int.natCast_one,Int.ofNat_one];try omega)
  · intro k ys;unfold z2v;rw [if_neg (by simp)]

theorem zcx {xs:List D.ShardRedex}:ctShardRedexS xs≤64*(xs.length):=by
  have h:=z9E (c:=ecShardRedexS) (g:=(fun _=>0)) (m:=64) (xs:=xs) fun x _=>by
    unfold ecShardRedexS
    omega
  rw [zav (fun _=>rfl)] at h
  exact h

def elShardS (fuel:Nat) (x:D.Shard) (k:Int):D.Shard:=(⟨(mkShardCellS fuel x.Cells (k)),(mkShardVarS fuel x.Vars (k+((ctShardCellS x.Cells:Nat):Int))),(mkShardRedexS fuel x.Redexes (k+((ctShardCellS x.Cells:Nat):Int)+((ctShardVarS x.Vars:Nat):Int)))⟩:D.Shard)
def ecShardS (x:D.Shard):Nat:=ctShardCellS x.Cells+ctShardVarS x.Vars+ctShardRedexS x.Redexes
def mkShardS (fuel:Nat) (xs:List D.Shard) (k:Int):List D.Shard:=markL (elShardS fuel) ecShardS xs k
def ctShardS (xs:List D.Shard):Nat:=sumL ecShardS xs
theorem zdr {fuel:Nat}{xs:List D.Shard}{k:Int}(hf:18446744073709551616≤fuel) (hl:szL D.Shard.sz xs≤1048576) (h0:0≤k) (h1:k+(ctShardS xs:Nat)≤2147483648):z5c fuel xs k=some (k+(ctShardS xs:Nat),mkShardS fuel xs k):=by
  unfold z5c
  rw [z8a (f:=elShardS fuel) (c:=ecShardS) (xs:=xs) (k:=k) (by have:=(z8F hl);omega) hf h0 h1 ?_ ?_]
  · rfl
  · intro i x ys k hi o hx hm h0 h1
    unfold ecShardS at h1
    have hsx:=z8E hl hm
    unfold D.Shard.sz at hsx
    unfold z4J elShardS ecShardS
    rw [if_pos (decide_eq_true (show(i:Int)<xs.length by omega))]
    simp only [z8 hx,Option.bind_some]
    simp (disch:=omega) only [zaV hf (show szL D.ShardCell.sz x.Cells≤1048576 by omega),zbn hf (show x.Vars.length≤1048576 by omega),zaH hf (show x.Redexes.length≤1048576 by omega),z9p,Option.bind_some,Int.toNat_natCast]
    all_goals (refine congrArg some (congrArg Rd.next (Prod.ext ?_ ?_));rotate_left;first | rfl | (dsimp only;simp only [Int.natCast_add,Int.natCast_one,Int.ofNat_one,← Int.add_assoc]))
    all_goals (dsimp only;simp only [Int.natCast_add,Int.natCast_one,Int.ofNat_one];try omega)
  · intro k ys;unfold z4J;rw [if_neg (by simp)]

theorem zha {xs:List D.Shard}:ctShardS xs≤64*(szL D.Shard.sz xs):=by
  have h:=z9E (c:=ecShardS) (g:=D.Shard.sz) (m:=64) (xs:=xs) fun x _=>by
    unfold ecShardS
    unfold D.Shard.sz
    have:=zdL (xs:=x.Cells)
    have:=zdZ (xs:=x.Vars)
    have:=zcx (xs:=x.Redexes)
    omega
  exact h

def elPortS (fuel:Nat) (x:D.Port) (k:Int):D.Port:=(⟨k,k+1⟩:D.Port)
def ecPortS (x:D.Port):Nat:=1+1
def mkPortS (fuel:Nat) (xs:List D.Port) (k:Int):List D.Port:=markL (elPortS fuel) ecPortS xs k
def ctPortS (xs:List D.Port):Nat:=sumL ecPortS xs
theorem zdX {fuel:Nat}{xs:List D.Port}{k:Int}(hf:18446744073709551616≤fuel) (hl:xs.length≤1048576) (h0:0≤k) (h1:k+(ctPortS xs:Nat)≤2147483648):z5F fuel xs k=some (k+(ctPortS xs:Nat),mkPortS fuel xs k):=by
  unfold z5F
  rw [z8a (f:=elPortS fuel) (c:=ecPortS) (xs:=xs) (k:=k) (by have:=hl;omega) hf h0 h1 ?_ ?_]
  · rfl
  · intro i x ys k hi o hx hm h0 h1
    unfold ecPortS at h1
    unfold z5u elPortS ecPortS
    rw [if_pos (decide_eq_true (show(i:Int)<xs.length by omega))]
    simp only [z8 hx,Option.bind_some]
    simp (disch:=omega) only [z9p,Option.bind_some,Int.toNat_natCast]
    all_goals (refine congrArg some (congrArg Rd.next (Prod.ext ?_ ?_));rotate_left;first | rfl | (dsimp only;simp only [Int.natCast_add,Int.natCast_one,Int.ofNat_one,← Int.add_assoc]))
    all_goals (dsimp only;simp only [Int.natCast_add,Int.natCast_one,Int.ofNat_one];try omega)
  · intro k ys;unfold z5u;rw [if_neg (by simp)]

theorem zdY {fuel:Nat}{xs:List D.Port}{k:Int}(hf:18446744073709551616≤fuel) (hl:xs.length≤1048576) (h0:0≤k) (h1:k+(ctPortS xs:Nat)≤2147483648):z5G fuel (mkPortS fuel xs k) k=some (k+(ctPortS xs:Nat)):=by
  unfold z5G
  have hlen:(mkPortS fuel xs k).length=xs.length:=z5q _ _
  rw [zdy (f:=elPortS fuel) (c:=ecPortS) (xs:=xs) (k:=k) (by have:=hl;omega) hf h0 h1 ?_ ?_]
  · rfl
  · intro i x k' hi hx hm h0 h1
    unfold ecPortS at h1
    have o:(mkPortS fuel xs k)[i]? = some (elPortS fuel x k'):=hx
    unfold z3N
    rw [if_pos (decide_eq_true (show(i:Int)<(mkPortS fuel xs k).length by rw [hlen];omega))]
    simp only [z8 o,Option.bind_some]
    unfold elPortS ecPortS
    simp (disch:=omega) only [z9p,Option.bind_some,lt_f,if_false,bne_self_eq_false,Bool.false_eq_true,beq_self_eq_true,Bool.not_true,Int.ofNat_one,Int.natCast_one]
    try (refine congrArg some (congrArg Rd.next (Prod.ext ?_ rfl));dsimp only;simp only [Int.natCast_add,Int.natCast_one,Int.ofNat_one];try omega)
  · intro k';show z3N fuel (mkPortS fuel xs k) (k',((mkPortS fuel xs k).length:Int))=_;unfold z3N;rw [if_neg (by simp)]

theorem ziX {xs:List D.Port}:ctPortS xs≤64*(xs.length):=by
  have h:=z9E (c:=ecPortS) (g:=(fun _=>0)) (m:=64) (xs:=xs) fun x _=>by
    unfold ecPortS
    omega
  rw [zav (fun _=>rfl)] at h
  exact h

def elAgentS (fuel:Nat) (x:D.Agent) (k:Int):D.Agent:=(⟨k,k+1,k+1+1,(z8y fuel x.Data (k+1+1+1)),(mkPortS fuel x.Ports (k+1+1+1+((z8z x.Data:Nat):Int)))⟩:D.Agent)
def ecAgentS (x:D.Agent):Nat:=1+1+1+z8z x.Data+ctPortS x.Ports
def mkAgentS (fuel:Nat) (xs:List D.Agent) (k:Int):List D.Agent:=markL (elAgentS fuel) ecAgentS xs k
def ctAgentS (xs:List D.Agent):Nat:=sumL ecAgentS xs
theorem zds {fuel:Nat}{xs:List D.Agent}{k:Int}(hf:18446744073709551616≤fuel) (hl:szL D.Agent.sz xs≤1048576) (h0:0≤k) (h1:k+(ctAgentS xs:Nat)≤2147483648):z5d fuel xs k=some (k+(ctAgentS xs:Nat),mkAgentS fuel xs k):=by
  unfold z5d
  rw [z8a (f:=elAgentS fuel) (c:=ecAgentS) (xs:=xs) (k:=k) (by have:=(z8F hl);omega) hf h0 h1 ?_ ?_]
  · rfl
  · intro i x ys k hi o hx hm h0 h1
    unfold ecAgentS at h1
    have hsx:=z8E hl hm
    unfold D.Agent.sz at hsx
    unfold z4L elAgentS ecAgentS
    rw [if_pos (decide_eq_true (show(i:Int)<xs.length by omega))]
    simp only [z8 hx,Option.bind_some]
    simp (disch:=omega) only [za9 hf (show x.Data.length≤1048576 by omega),zdX hf (show x.Ports.length≤1048576 by omega),z9p,Option.bind_some,Int.toNat_natCast]
    all_goals (refine congrArg some (congrArg Rd.next (Prod.ext ?_ ?_));rotate_left;first | rfl | (dsimp only;simp only [Int.natCast_add,Int.natCast_one,Int.ofNat_one,← Int.add_assoc]))
    all_goals (dsimp only;simp only [Int.natCast_add,Int.natCast_one,Int.ofNat_one];try omega)
  · intro k ys;unfold z4L;rw [if_neg (by simp)]

theorem zdA {fuel:Nat}{xs:List D.Agent}{k:Int}(hf:18446744073709551616≤fuel) (hl:szL D.Agent.sz xs≤1048576) (h0:0≤k) (h1:k+(ctAgentS xs:Nat)≤2147483648):z5f fuel (mkAgentS fuel xs k) k=some (k+(ctAgentS xs:Nat)):=by
  unfold z5f
  have hlen:(mkAgentS fuel xs k).length=xs.length:=z5q _ _
  rw [zdy (f:=elAgentS fuel) (c:=ecAgentS) (xs:=xs) (k:=k) (by have:=(z8F hl);omega) hf h0 h1 ?_ ?_]
  · rfl
  · intro i x k' hi hx hm h0 h1
    unfold ecAgentS at h1
    have hsx:=z8E hl hm
    unfold D.Agent.sz at hsx
    have o:(mkAgentS fuel xs k)[i]? = some (elAgentS fuel x k'):=hx
    unfold z37
    rw [if_pos (decide_eq_true (show(i:Int)<(mkAgentS fuel xs k).length by rw [hlen];omega))]
    simp only [z8 o,Option.bind_some]
    unfold elAgentS ecAgentS
    simp (disch:=omega) only [zdz hf (show x.Data.length≤1048576 by omega),zdY hf (show x.Ports.length≤1048576 by omega),z9p,Option.bind_some,lt_f,if_false,bne_self_eq_false,Bool.false_eq_true,beq_self_eq_true,Bool.not_true,Int.ofNat_one,Int.natCast_one]
    try (refine congrArg some (congrArg Rd.next (Prod.ext ?_ rfl));dsimp only;simp only [Int.natCast_add,Int.natCast_one,Int.ofNat_one];try omega)
  · intro k';show z37 fuel (mkAgentS fuel xs k) (k',((mkAgentS fuel xs k).length:Int))=_;unfold z37;rw [if_neg (by simp)]

theorem zhb {xs:List D.Agent}:ctAgentS xs≤64*(szL D.Agent.sz xs):=by
  have h:=z9E (c:=ecAgentS) (g:=D.Agent.sz) (m:=64) (xs:=xs) fun x _=>by
    unfold ecAgentS
    unfold D.Agent.sz
    have:=zdM (xs:=x.Data)
    have:=ziX (xs:=x.Ports)
    omega
  exact h

def mkGrid (fuel:Nat) (x:D.Grid) (k:Int):D.Grid:=(⟨mkShardS fuel x.Shards (k),(⟨x.Root.Machine,x.Root.Kind,x.Root.Index⟩:D.Address)⟩:D.Grid)
def ctGrid (x:D.Grid):Nat:=ctShardS x.Shards
theorem zeQ {fuel:Nat}{x:D.Grid}{k:Int}(hf:18446744073709551616≤fuel) (hs:x.sz≤1048576) (h0:0≤k) (h1:k+(ctGrid x:Nat)≤2147483648):z6q fuel x k=some (k+(ctGrid x:Nat),(mkGrid fuel x k).Shards):=by
  unfold ctGrid at h1 ⊢
  simp only [D.Grid.sz] at hs
  unfold z6q mkGrid
  simp (disch:=omega) only [zdr hf (show szL D.Shard.sz x.Shards≤1048576 by omega),Option.bind_some]
  all_goals try simp only [Int.natCast_add,Int.add_assoc]

theorem zmA {x:D.Grid}:ctGrid x≤64*x.sz:=by
  unfold ctGrid
  simp only [D.Grid.sz]
  have:=zha (xs:=x.Shards)
  omega

def mkNet (fuel:Nat) (x:D.Net) (k:Int):D.Net:=(⟨mkAgentS fuel x.Agents (k)⟩:D.Net)
def ctNet (x:D.Net):Nat:=ctAgentS x.Agents
theorem zbm {fuel:Nat}{x:D.Net}{k:Int}:(⟨(mkNet fuel x k).Agents⟩:D.Net)=mkNet fuel x k:=rfl
theorem zfW {fuel:Nat}{x:D.Net}{k:Int}(hf:18446744073709551616≤fuel) (hs:x.sz≤1048576) (h0:0≤k) (h1:k+(ctNet x:Nat)≤2147483648):z6Q fuel x k=some (k+(ctNet x:Nat),(mkNet fuel x k).Agents):=by
  unfold ctNet at h1 ⊢
  simp only [D.Net.sz] at hs
  unfold z6Q mkNet
  simp (disch:=omega) only [zds hf (show szL D.Agent.sz x.Agents≤1048576 by omega),Option.bind_some]
  all_goals try simp only [Int.natCast_add,Int.add_assoc]

theorem zg3 {fuel:Nat}{x:D.Net}{k:Int}(hf:18446744073709551616≤fuel) (hs:x.sz≤1048576) (h0:0≤k) (h1:k+(ctNet x:Nat)≤2147483648):z5O fuel (mkNet fuel x k) k=some (k+(ctNet x:Nat)):=by
  unfold ctNet at h1 ⊢
  simp only [D.Net.sz] at hs
  unfold z5O mkNet
  simp (disch:=omega) only [zdA hf (show szL D.Agent.sz x.Agents≤1048576 by omega),Option.bind_some,lt_f,if_false]
  all_goals try simp only [Int.natCast_add,Int.add_assoc]

theorem zo1 {x:D.Net}:ctNet x≤64*x.sz:=by
  unfold ctNet
  simp only [D.Net.sz]
  have:=zhb (xs:=x.Agents)
  omega

end Go.E


namespace Go.E
open Go.RowKit Go.Proofs
set_option linter.unusedSimpArgs false
set_option linter.unusedVariables false


theorem zjj {α:Type}{f:α→Nat}{b:Nat}:∀ {xs:List α},(∀ x∈xs,f x≤b)→sumL f xs≤b*xs.length
  | [],_=>Nat.zero_le _
  | x::xs,h=>by
    have h1:=h x List.mem_cons_self
    have h2:=zjj (xs:=xs) (fun y hy=>h y (List.mem_cons_of_mem _ hy))
    simp only [sumL,List.length_cons,Nat.mul_succ]
    omega
theorem zoK {A:List D.Agent}(hN:NetOk A):(⟨canN A⟩:D.Net).sz≤1048576:=by
  have hn:=hN.len
  have hF:=zbT hN
  have hl:(canN A).length≤600:=by
    unfold canN renN
    have key:∀ l:List Int,(l.flatMap (renX A (orderN (nxN A) A.length (codeN A)))).length≤l.length:=by
      intro l
      induction l with
      | nil=>simp
      | cons x l ih=>
        rw [List.flatMap_cons,List.length_append,List.length_cons]
        have:=zgY (A:=A) (l:=orderN (nxN A) A.length (codeN A)) (x:=x)
        omega
    have:=key (orderN (nxN A) A.length (codeN A))
    have:=hF.len
    omega
  have ha:∀ a∈canN A,D.Agent.sz a≤8:=by
    intro a ha
    unfold canN renN at ha
    obtain⟨x,hx,h2⟩:=List.mem_flatMap.1 ha
    unfold renX at h2
    split at h2
    · rename_i b hb
      rw [List.mem_singleton] at h2
      subst h2
      have hbm:=List.mem_of_getElem? hb
      have:=hN.ports b hbm
      have:=hN.data b hbm
      unfold D.Agent.sz renA
      simp only [List.length_map]
      omega
    · cases h2
  have:=zjj ha
  unfold D.Net.sz szL
  dsimp only
  omega


def lvS (g:D.Grid):Lv:=fl (fun m (s:D.Shard)=>lvR 1 m s.Cells) g.Shards g.Shards.length
theorem zoq {g:D.Grid}{more:List D.ShardCell}:lvG g more=lvS g++lvR 3 0 more:=by
  unfold lvG lvS fl
  rw [List.take_length]
def lvC (t m i:Nat) (c:D.ShardCell):Lv:=if c.Kind=0 then [] else [((t,m,i),c)]
theorem zod {t m:Nat}{cs:List D.ShardCell}:lvR t m cs=fl (lvC t m) cs cs.length:=by
  unfold lvR fl lvC
  rw [List.take_length]
theorem zoe {t m i:Nat}{c:D.ShardCell}:(lvC t m i c).length≤1:=by unfold lvC;split<;>simp
theorem zno {fuel:Nat}{g:D.Grid}{ad3:Nat→D.Address}(hf:18446744073709551616≤fuel) (hS:Small g):z2K fuel g=some ((lvS g).map (·.2),(lvS g).map fun x=>adI ad3 x.1):=by
  have hn:=hS.n
  unfold z2K
  have h:=addLoop (xs:=g.Shards) (body:=z19 fuel g) (mk:=fun k (l:Lv)=>(l.map (·.2),l.map (fun x=>adI ad3 x.1),k)) (out:=fun(l:Lv)=>(l.map (·.2),l.map fun x=>adI ad3 x.1)) (fun m (s:D.Shard)=>lvR 1 m s.Cells) (s0:=[]) (fuel:=fuel) (by omega) hf (fun m s hs=>by
    have hml:=(List.getElem?_eq_some_iff.1 hs).1
    obtain⟨a1,a2,a3,a4,a5⟩:=hS.s s (List.mem_of_getElem? hs)
    have hfl:=z8i (f:=fun m (s:D.Shard)=>lvR 1 m s.Cells) (xs:=g.Shards) (b:=400) (fun j c hc=>by
      rw [zod]
      have:=z8i (f:=lvC 1 j) (xs:=c.Cells) (b:=1) (fun _ _ _=>zoe) c.Cells.length (Nat.le_refl _)
      have:=(hS.s c (List.mem_of_getElem? hc)).1
      omega) m (by omega)
    rw [List.nil_append]
    generalize fl (fun m (s:D.Shard)=>lvR 1 m s.Cells) g.Shards m=l0 at hfl ⊢
    unfold z19
    dsimp only
    rw [if_pos (by simpa using hml),z8 hs,Option.bind_some]
    have h1:=addLoop (xs:=s.Cells) (body:=z1T fuel (l0.map (·.2),l0.map (fun x=>adI ad3 x.1),(m:Int)) s) (mk:=fun k (l:Lv)=>(k,l.map (·.2),l.map (fun x=>adI ad3 x.1))) (out:=fun(l:Lv)=>(l.map (·.2),l.map fun x=>adI ad3 x.1)) (lvC 1 m) (s0:=l0) (fuel:=fuel) (by omega) hf (fun i c hc=>by
      have hil:=(List.getElem?_eq_some_iff.1 hc).1
      have hfl2:=z8i (f:=lvC 1 m) (xs:=s.Cells) (b:=1) (fun _ _ _=>zoe) i (by omega)
      have o:(l0++fl (lvC 1 m) s.Cells i).length≤5000:=by rw [List.length_append];omega
      generalize l0++fl (lvC 1 m) s.Cells i=l1 at o ⊢
      unfold z1T z1q z1S lvC
      dsimp only
      rw [if_pos (by simpa using hil),z8 hc,Option.bind_some]
      by_cases k0:c.Kind=0
      · rw [if_neg (by simp [k0]),if_pos k0,List.append_nil]
      · rw [if_pos (by simpa using k0),if_neg k0,if_pos (by simp;omega),Option.bind_some,if_pos (by simp;omega),List.map_append,List.map_append]
        rfl) (by
      unfold z1T
      rw [if_neg (by simp)])
    try dsimp only at h1
    rw [h1,Option.bind_some,z6]
    unfold z5n
    dsimp only
    rw [zod]) (by
    unfold z19
    rw [if_neg (by simp)])
  try dsimp only at h
  rw [List.nil_append] at h
  have h':iter (z19 fuel g) fuel ([],[],0)=_:=h
  rw [h',Option.bind_some,z6]
  rfl
def ad0:Nat→D.Address:=fun i=>⟨0,3,(i:Int)⟩
theorem zbO {fuel:Nat}{x:D.Grid}(hf:18446744073709551616≤fuel) (hs:x.sz≤1048576):∃ r,z3H fuel x=some r∧z2r fuel x=some r∧r.1.sz≤1048576:=by
  unfold z3H z2r
  have hv:z3Z fuel x=some (piecesN x && (gridA x && countsN x [] (gridS x))):=by rw [zk0 hf hs,zjZ]
  rw [znp hf hs,hv,Option.bind_some,Option.bind_some]
  cases hb:(piecesN x && (gridA x && countsN x [] (gridS x))) with
  | false=>
    exact⟨(⟨[]⟩,1),by rw [if_pos (by rfl)],by rw [if_pos (by rfl)],by decide⟩
  | true=>
    rw [Bool.and_eq_true,Bool.and_eq_true] at hb
    obtain⟨hp,hA,hc⟩:=hb
    rw [if_neg (by simp),if_neg (by simp)]
    have hS:=zeH hs hp
    have hn:=hS.n
    have hM:moreOk []:=⟨by simp,fun c hc=>by cases hc⟩
    obtain⟨L,at_,b1,hI⟩:=zgA (more:=[]) hf hS hM
    obtain⟨L',c1,c2⟩:=zmM hf hs hS hI
    have hR:=c2 hA
    have hSl:(gridS x).length≤1000000:=by
      have:=z8i (f:=shardS) (xs:=x.Shards) (b:=4000) (fun j c hc=>zfD hS hc) x.Shards.length (Nat.le_refl _)
      unfold gridS rootS
      rw [List.length_append]
      simp only [List.length_cons,List.length_nil]
      omega
    have hC:=zoJ hS hM (fun c hc=>by cases hc) hR hc (zk1 hA) hSl
    have hAd:=zoO (T:=gridT x) (ad3:=ad0) hC hR.pairsX (zk2 hA) (fun i hi=>by cases hi) (fun i j hi=>by cases hi)
    obtain⟨M',n1⟩:=znj hf hI hR hC
    have hlv:lvG x []=lvS x:=by rw [zoq];simp [lvR]
    rw [b1,Option.bind_some]
    dsimp only
    rw [c1,Option.bind_some]
    dsimp only
    have n1':z6D fuel ⟨L'.agents,L'.ports,L'.cells,L'.vars,L'.ends,L'.pairs⟩=_:=n1
    rw [n1',Option.bind_some,zno (ad3:=ad0) hf hS,Option.bind_some,← hlv]
    dsimp only
    have hsm:=hC.small
    rw [List.length_map,z7 (by omega) (by omega)]
    by_cases hbig:600<(lvG x []).length+1
    · rw [if_pos hbig,if_pos (by simp only [decide_eq_true_eq];omega)]
      exact⟨(⟨[]⟩,4),rfl,rfl,by decide⟩
    · rw [if_neg hbig,if_neg (by simp only [decide_eq_true_eq];omega),zaL hf hS,Option.bind_some,znk hf hC hAd (by omega),Option.bind_some]
      exact⟨_,rfl,rfl,zoK (zjJ hC (by omega))⟩

theorem lawAssembleGrid {x0:D.Grid}(h0:D.Grid.wf x0):∃ fuel,z2c fuel x0=some true:=by
  obtain⟨fuel,hf⟩:∃ n:Nat,18446744073709551616≤n:=⟨_,Nat.le_refl _⟩
  refine⟨fuel,?_⟩
  unfold z2c
  obtain⟨r0,e0,s0⟩:=zgS (l:=(1048576:Int)) hf h0 (by decide) (by omega)
  rw [e0,Option.bind_some]
  rcases s0 with s0 | ⟨s0,t0⟩
  · rw [if_pos (by simp [s0])]
  rw [if_neg (by simp [s0])]
  have z0:D.Grid.sz x0≤1048576:=by omega
  obtain⟨r,a0,a1,b0⟩:=zbO hf z0
  have m0:=fun {β:Type}(g:_→Option β)=>zan (g:=g) a0
  have m1:=fun {β:Type}(g:_→Option β)=>zan (g:=g) a1
  have m2:=fun {β:Type}(g:_→Option β)=>zan (g:=g) (zgR hf z0)
  have m3:=fun {β:Type}(g:_→Option β)=>zan (g:=g) (zh9 hf z0)
  have m4:=fun {β:Type}(g:_→Option β) (k:Int) (h0:0≤k) (h1:k+(ctGrid x0:Nat)≤2147483648)=>zan (g:=g) (zeQ hf z0 h0 h1)
  have c0:=zmA (x:=x0)
  have m5:=fun {β:Type}(g:_→Option β)=>zan (g:=g) (ziT hf b0)
  have m6:=fun {β:Type}(g:_→Option β) (k:Int) (h0:0≤k) (h1:k+(ctNet r.1:Nat)≤2147483648)=>zan (g:=g) (zfW hf b0 h0 h1)
  have m7:=fun {β:Type}(g:_→Option β) (k:Int) (h0:0≤k) (h1:k+(ctNet r.1:Nat)≤2147483648)=>zan (g:=g) (zg3 hf b0 h0 h1)
  have d0:=zo1 (x:=r.1)
  simp (disch:=omega) only [↓reduceIte,↓m0,↓m1,↓m2,↓m3,↓m4,↓m5,↓m6,↓m7,lt_f,Bool.not_true,Bool.false_eq_true,bne_self_eq_false,zbm]
  simp (disch:=omega) only [↓reduceIte,↓z13,↓m0,↓m1,↓m2,↓m3,↓m4,↓m5,↓m6,↓m7,lt_f,Bool.not_true,Bool.false_eq_true,bne_self_eq_false,zbm]
  simp (disch:=omega) only [↓reduceIte,↓zC,↓m0,↓m1,↓m2,↓m3,↓m4,↓m5,↓m6,↓m7,lt_f,Bool.not_true,Bool.false_eq_true,bne_self_eq_false,zbm]
  simp (disch:=omega) only [↓reduceIte,↓z12,↓m0,↓m1,↓m2,↓m3,↓m4,↓m5,↓m6,↓m7,lt_f,Bool.not_true,Bool.false_eq_true,bne_self_eq_false,zbm]
end Go.E


namespace Go.Proofs.YtfndicpnccabkaaGreat.lawAssembleGrid
open Go.ChangeShapes Go.WideShapes Go.ChangeAt Go.RowKit Go.E
set_option linter.unusedVariables false

theorem own:ownKnob Tryz.prog.godebug=none:=by kernel_rfl
theorem laidOut:laidOutB Tryz.prog=true:=by kernel_rfl

set_option maxRecDepth 100000 in
theorem lifted (os:Os) (started:os.Started) (H:Type) (enc:TypeId × Value→H):
    ReturnsInHanded {} Tryz.checked os 3 .any (Rows.fnExactAssembleGridSpec.pre6 enc Tryz.prog Tryz.f3 Rows.fnExactAssembleGridRow.domain false) (Rows.fnExactAssembleGridSpec.post enc Tryz.prog Tryz.f3 false true false false):=by
  refine returnsInHanded_of_change (C:=Tryz.checked) own started (by kernel_rfl) Tryz.func3
    (ChangeSpec.witness6 (enc:=enc) (C:=Tryz.checked) false ⟨#[],#[.agg #[.slice none 0 0,.int .i64 0,.int .i64 0,.int .i64 0]],[]⟩ 12 (by kernel_rfl) (by kernel_rfl) (by kernel_rfl) (by kernel_rfl)) ?_
  intro W base args ds gs before hval0 hW hcnd _
  have hval:∀ (j:Nat) t v,Tryz.f3.params[j]? = some t→args[j]? = some v→Value.okWide Tryz.prog W .any base t v:=hval0
  have hW':=hW
  obtain⟨p,q,hA0,hV,rfl,hfz,hnd⟩:=hW
  have hA:DataW.TrodAll enc Tryz.prog W 0 (fun _=>true) true Tryz.f3.params.toList args.toList ds p:=hA0
  rw [Tryz.params3] at hA hval
  obtain⟨v0,vs0,d0,ds0,p0,q0,hargs,rfl,rfl,h0,r0⟩:=trodAll_cons hA
  obtain⟨rfl,rfl,rfl⟩:=trodAll_nil r0
  obtain rfl:args = #[v0]:=by cases args;simp_all
  obtain⟨rfl,rfl⟩:=trodVars_none hV
  have k0:=h0
  have lt0:∀ x∈p0,x.block<W.heap.size:=by obtain⟨m,hm⟩:=k0;exact DataW.trod_lt m _ _ _ hm
  obtain⟨c0,x0,rfl,g0,w0⟩:=zj3 Tryz.underlying26 zok (hval 0 26 v0 rfl rfl) h0
  clear hA0 hval0
  obtain⟨fuel,hm⟩:=lawAssembleGrid (x0:=x0) w0
  refine(laws_FnExactAssembleGrid_ok (W:=Base.of W) (Ext.refl _) g0 hm).mono ?_
  intro e W' hq
  obtain⟨v,rfl,rfl,hS⟩:=Ret.out hq
  have bel:Below W.heap.size W W':=hS.ext.below
  exact⟨_,rfl,_,_,_,[],_,[],hW',trodAll_mk1 (shut_bool Tryz.underlying4 _),(trodAll_cons_mk (Below.trod laidOut (by kernel_rfl) (of_decide_eq_true (by kernel_rfl)) k0 bel lt0) trodAll_mk0),rfl,bel.frame _,fun h=>by cases h⟩

set_option maxRecDepth 100000 in
theorem j1:(Rows.fnExactAssembleGridRow.wf (OpenSpec.ofChange Rows.fnExactAssembleGridSpec))=true:=by kernel_rfl
set_option maxRecDepth 100000 in
theorem j2:(laidOutB Tryz.prog)=true:=by kernel_rfl
set_option maxRecDepth 100000 in
theorem j3:(mapsRowed Tryz.prog)=true:=by kernel_rfl
set_option maxRecDepth 100000 in
theorem j4:(Tryz.f3.params.all (Tryz.prog.readableRec ·))=true:=by kernel_rfl
set_option maxRecDepth 100000 in
theorem j5:(namedTie Tryz.prog Rows.fnExactAssembleGridRow.named Rows.fnExactAssembleGridSpec.vars)=true:=by kernel_rfl
set_option maxRecDepth 100000 in
theorem j6:((Rows.fnExactAssembleGridRow.stops == []))=true:=by kernel_rfl
set_option maxRecDepth 100000 in
theorem j7:((Tryz.prog.stops == []))=true:=by kernel_rfl
set_option maxRecDepth 100000 in
theorem j8:((Rows.fnExactAssembleGridRow.knobs == []))=true:=by kernel_rfl
set_option maxRecDepth 100000 in
theorem j9:((Tryz.prog.stopKnobs == []))=true:=by kernel_rfl
set_option maxRecDepth 100000 in
theorem j10:((Rows.fnExactAssembleGridRow.inPlace == Tryz.prog.inPlace 3))=true:=by kernel_rfl
set_option maxRecDepth 100000 in
theorem j11:((Rows.fnExactAssembleGridRow.unfollowed == Tryz.prog.unfollowed 3))=true:=by kernel_rfl
set_option maxRecDepth 100000 in
theorem j12:((Rows.fnExactAssembleGridRow.recurses == Tryz.prog.recurses 3))=true:=by kernel_rfl
set_option maxRecDepth 100000 in
theorem j13:((Rows.fnExactAssembleGridRow.named == Tryz.prog.varsNamed 3))=true:=by kernel_rfl
set_option maxRecDepth 100000 in
theorem j14:((Rows.fnExactAssembleGridRow.maps == (Tryz.f3.params.toList++Rows.fnExactAssembleGridSpec.plain.varTypes Tryz.prog).any (Tryz.prog.mapsRec ·)))=true:=by kernel_rfl
set_option maxRecDepth 100000 in
theorem j15:((Rows.fnExactAssembleGridRow.ifaces == (Tryz.f3.params.toList++Rows.fnExactAssembleGridSpec.plain.varTypes Tryz.prog).any (Tryz.prog.ifacesRec ·)))=true:=by kernel_rfl
set_option maxRecDepth 100000 in
theorem j16:((Rows.fnExactAssembleGridRow.mapsOut == Tryz.prog.mapsAmong Tryz.f3.resultTypes.toList))=true:=by kernel_rfl
set_option maxRecDepth 100000 in
theorem j17:((Rows.fnExactAssembleGridRow.loops == (Tryz.f3.params.toList++Rows.fnExactAssembleGridSpec.plain.varTypes Tryz.prog).any (Tryz.prog.loopsFrom ·)))=true:=by kernel_rfl
set_option maxRecDepth 100000 in
theorem j18:((Rows.fnExactAssembleGridRow.wideKeys == (Tryz.f3.params.toList++Rows.fnExactAssembleGridSpec.plain.varTypes Tryz.prog++Tryz.f3.resultTypes.toList).any (Tryz.prog.wideKeysFrom ·)))=true:=by kernel_rfl
set_option maxRecDepth 100000 in
theorem j19:(Rows.fnExactAssembleGridSpec.vars.all (Tryz.prog.varReadable ·))=true:=by kernel_rfl
set_option maxRecDepth 100000 in
theorem j20:(Tryz.f3.resultTypes.all (fun t=>Tryz.prog.readableRec t && decide (t<Tryz.prog.types.size)))=true:=by kernel_rfl
set_option maxRecDepth 100000 in
theorem j21:((Rows.fnExactAssembleGridRow.ifacesOut == Tryz.f3.resultTypes.toList.any (Tryz.prog.ifacesRec ·)))=true:=by kernel_rfl
set_option maxRecDepth 100000 in
theorem j22:((Rows.fnExactAssembleGridRow.loopsOut == Tryz.f3.resultTypes.toList.any (Tryz.prog.loopsFrom ·)))=true:=by kernel_rfl
set_option maxRecDepth 100000 in
theorem j23:((Rows.fnExactAssembleGridRow.plainKeys == Tryz.prog.plainKeys))=true:=by kernel_rfl
set_option maxRecDepth 100000 in
theorem j24:(Rows.fnExactAssembleGridRow.shortTexts.isNone)=true:=by kernel_rfl
set_option maxRecDepth 100000 in
theorem j25:(Tryz.prog.stopsHeard)=true:=by kernel_rfl
set_option maxRecDepth 100000 in
theorem j26:(Tryz.prog.mayEnter)=true:=by kernel_rfl
set_option maxRecDepth 100000 in
theorem j27:((Rows.fnExactAssembleGridRow.lifted == Tryz.prog.liftsFinal))=true:=by kernel_rfl
set_option maxRecDepth 100000 in
theorem j28:((Tryz.prog.make == some Rows.fnExactAssembleGridRow.make))=true:=by kernel_rfl
set_option maxRecDepth 100000 in
theorem j29:((Rows.fnExactAssembleGridRow.kinds == (if Rows.fnExactAssembleGridRow.domain.isEmpty then [] else Tryz.f3.params.toList.map fun t=>match Tryz.prog.underlying t with | some (.int k)=>some k | _=>none)))=true:=by kernel_rfl
set_option maxRecDepth 100000 in
theorem j30:((Rows.fnExactAssembleGridRow.pinned == Rows.fnExactAssembleGridRow.pinnedBy))=true:=by kernel_rfl
set_option maxRecDepth 100000 in
theorem j31:((Rows.fnExactAssembleGridRow.veiled == (Tryz.f3.params.toList++Rows.fnExactAssembleGridSpec.plain.varTypes Tryz.prog++Tryz.f3.resultTypes.toList).any (Tryz.prog.veiledRec ·)))=true:=by kernel_rfl
set_option maxRecDepth 100000 in
theorem j32:(Rows.fnExactAssembleGridRow.veiledFits Tryz.prog Tryz.f3.params.toList (Tryz.f3.params.toList++Rows.fnExactAssembleGridSpec.plain.varTypes Tryz.prog++Tryz.f3.resultTypes.toList))=true:=by kernel_rfl
set_option maxRecDepth 100000 in
theorem closed:joinedFacts Tryz.prog 3 Tryz.f3 Rows.fnExactAssembleGridSpec Rows.fnExactAssembleGridRow=true:=by
  unfold joinedFacts
  simp only [Bool.and_eq_true]
  exact⟨⟨⟨⟨⟨⟨⟨⟨⟨⟨⟨⟨⟨⟨⟨⟨⟨⟨⟨⟨⟨⟨⟨⟨⟨⟨⟨⟨⟨⟨⟨j1,j2⟩,j3⟩,j4⟩,j5⟩,j6⟩,j7⟩,j8⟩,j9⟩,j10⟩,j11⟩,j12⟩,j13⟩,j14⟩,j15⟩,j16⟩,j17⟩,j18⟩,j19⟩,j20⟩,j21⟩,j22⟩,j23⟩,j24⟩,j25⟩,j26⟩,j27⟩,j28⟩,j29⟩,j30⟩,j31⟩,j32⟩
set_option maxRecDepth 100000 in
theorem wraps:Tryz.f3.isWrapper Tryz.prog Rows.fnExactAssembleGridRow.wrapper Rows.fnExactAssembleGridRow.mainSum:=by
  unfold Func.isWrapper;first | (rw [if_pos (by decide +kernel)];kernel_rfl) | (rw [if_neg (by decide +kernel)];exact⟨rfl,rfl⟩)
theorem instd:Tryz.f3.isInstance Tryz.prog Rows.fnExactAssembleGridRow.origin Rows.fnExactAssembleGridRow.targs:=of_decide_eq_true (by kernel_rfl)

set_option maxRecDepth 100000 in
theorem over:Rows.fnExactAssembleGridRow.holds Tryz.pinned (OpenSpec.ofChange Rows.fnExactAssembleGridSpec):=
  OpenClaim.holds_of_wide 3 Tryz.f3 rfl rfl rfl rfl rfl rfl rfl ⟨rfl,rfl,rfl,rfl,rfl⟩ rfl rfl rfl rfl rfl (by kernel_rfl) Tryz.func3 closed instd wraps
    (fun os started H enc _=>lifted os started H enc)

theorem proved:Rows.FnExactAssembleGridSaid:=over
#print axioms proved
end Go.Proofs.YtfndicpnccabkaaGreat.lawAssembleGrid

