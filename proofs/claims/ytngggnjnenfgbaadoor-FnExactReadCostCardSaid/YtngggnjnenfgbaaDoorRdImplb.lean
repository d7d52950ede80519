/- What the functions that size, copy and compare give on well formed data (written by program). Conditions: sizes within the law s own bound. -/
import Derived.Test.YtngggnjnenfgbaaDoorSzDefs
import Derived.Test.YtngggnjnenfgbaaDoorFO
import Derived.Test.YtngggnjnenfgbaaDoorFA
import Derived.Test.YtngggnjnenfgbaaDoorFN
import Derived.Test.YtngggnjnenfgbaaDoorFT
namespace Go.E
open Go.RowKit Go.Proofs
set_option linter.unusedSimpArgs false
set_option linter.unusedVariables false

theorem z75 {fuel:Nat}{x:(List Int)}{l:Int}(hf:18446744073709551616≤fuel) (hw:WfL I64 x) (h0:0≤l) (h1:l≤1048576):SzOk (x.length) l (z3d fuel x l):=by
  unfold z3d
  generalize hz:w64 (l - (x.length:Int))=z
  exact SzOk.sub2 h0 h1 hw.1 (m:=0) rfl hz fun g0 g1=>SzOk.same g0

theorem z73 {fuel:Nat}{x:(List Int)}(hf:18446744073709551616≤fuel) (hs:x.length≤1048576):z3b fuel x=some x:=by
  have hl:=hs
  unfold z3b
  refine z6K hl hf (fun _=>rfl) ?_ ?_
  · intro i y out hy b
    have hi:=(List.getElem?_eq_some_iff.1 hy).1
    have hsy:0≤1048576:=Nat.zero_le _
    simp only [z2W,z2H hy,Option.bind_some,lt_t (show(i:Int)<x.length by omega),if_true]
    rw [if_pos (by simp;omega)]
    simp
  · intro out
    simp [z2W]

theorem z7g {fuel:Nat}{x:(List Int)}(hf:18446744073709551616≤fuel) (hs:x.length≤1048576):z3f fuel x x=some true:=by
  have hl:=hs
  unfold z3f
  rw [if_neg (by simp)]
  refine z5S (n:=x.length) (t:=()) (by unfold maxLen;omega) hf rfl ?_ ?_
  · intro i hi
    obtain⟨y,hy⟩:=z3J hi
    have hsy:0≤1048576:=Nat.zero_le _
    simp [z2Z,z2H hy,hi,z4K]
  · simp [z2Z]

theorem z86 {fuel:Nat}{x:D.Port}(hf:18446744073709551616≤fuel) (hs:0≤1048576):z3V fuel x=some x:=by
  skip
  unfold z3V
  rfl

theorem z8e {fuel:Nat}{x:D.Port}(hf:18446744073709551616≤fuel) (hs:0≤1048576):z3W fuel x x=some true:=by
  skip
  simp [z3W,z4K]

theorem z7z {fuel:Nat}{x:(List D.Port)}{l:Int}(hf:18446744073709551616≤fuel) (hw:WfL D.Port.wf x) (h0:0≤l) (h1:l≤1048576):SzOk (x.length) l (z3A fuel x l):=by
  unfold z3A
  generalize hz:w64 (l - (x.length:Int))=z
  exact SzOk.sub2 h0 h1 hw.1 (m:=0) rfl hz fun g0 g1=>SzOk.same g0

theorem z7x {fuel:Nat}{x:(List D.Port)}(hf:18446744073709551616≤fuel) (hs:x.length≤1048576):z3y fuel x=some x:=by
  have hl:=hs
  unfold z3y
  refine z6K hl hf (fun _=>rfl) ?_ ?_
  · intro i y out hy b
    have hi:=(List.getElem?_eq_some_iff.1 hy).1
    have hsy:0≤1048576:=Nat.zero_le _
    simp only [z3q,z2H hy,Option.bind_some,lt_t (show(i:Int)<x.length by omega),if_true,z86 hf hsy]
    rw [if_pos (by simp;omega)]
    simp
  · intro out
    simp [z3q]

theorem z7W {fuel:Nat}{x:(List D.Port)}(hf:18446744073709551616≤fuel) (hs:x.length≤1048576):z3C fuel x x=some true:=by
  have hl:=hs
  unfold z3C
  rw [if_neg (by simp)]
  refine z5S (n:=x.length) (t:=()) (by unfold maxLen;omega) hf rfl ?_ ?_
  · intro i hi
    obtain⟨y,hy⟩:=z3J hi
    have hsy:0≤1048576:=Nat.zero_le _
    simp [z3r,z2H hy,hi,z4K,z8e hf hsy]
  · simp [z3r]

theorem z7A {fuel:Nat}{x:D.Agent}{l:Int}(hf:18446744073709551616≤fuel) (hw:D.Agent.wf x) (h0:0≤l) (h1:l≤1048576):SzOk (D.Agent.sz x) l (z3B fuel x l):=by
  obtain⟨w0,w1,w2,w3,w4,_⟩:=hw
  unfold z3B D.Agent.sz
  refine SzOk.bind (z75 hf w3 h0 (by omega)) rfl fun r1 g1a g1b=>?_
  refine SzOk.bind (z7z hf w4 g1a (by omega)) rfl fun r2 g2a g2b=>?_
  exact SzOk.same g2a

theorem z7y {fuel:Nat}{x:D.Agent}(hf:18446744073709551616≤fuel) (hs:D.Agent.sz x≤1048576):z3z fuel x=some x:=by
  unfold D.Agent.sz at hs
  unfold z3z
  simp only [z73 hf (show x.Data.length≤1048576 by omega),z7x hf (show x.Ports.length≤1048576 by omega),Option.bind_some]

theorem z7X {fuel:Nat}{x:D.Agent}(hf:18446744073709551616≤fuel) (hs:D.Agent.sz x≤1048576):z3D fuel x x=some true:=by
  unfold D.Agent.sz at hs
  simp [z3D,z4K,z7g hf (show x.Data.length≤1048576 by omega),z7W hf (show x.Ports.length≤1048576 by omega)]

theorem z76 {fuel:Nat}{x:(List D.Agent)}{l:Int}(hf:18446744073709551616≤fuel) (hw:WfL D.Agent.wf x) (h0:0≤l) (h1:l≤1048576):SzOk (szL D.Agent.sz x) l (z3e fuel x l):=by
  unfold z3e
  generalize hz:w64 (l - (x.length:Int))=z
  refine SzOk.sub2 h0 h1 hw.1 (m:=sumL D.Agent.sz x) rfl hz fun g0 g1=>?_
  refine SzOk.loop hw.1 hf g0 (by omega) (fun _=>rfl) ?_ ?_
  · intro i y l hy h0 h1
    have hi:=(List.getElem?_eq_some_iff.1 hy).1
    have hwy:=hw.2 y (List.mem_of_getElem? hy)
    obtain⟨r,h2,h3⟩:=z7A hf hwy h0 h1
    simp only [z2Y,z2H hy,Option.bind_some,lt_t (show(i:Int)<x.length by omega),if_true,h2]
    by_cases hlt:r<0
    · exact .inl (by simp only [lt_t hlt,if_true])
    · exact .inr ⟨r,by simp only [lt_f hlt,if_false],h3.resolve_left hlt⟩
  · intro l
    simp [z2Y]

theorem z74 {fuel:Nat}{x:(List D.Agent)}(hf:18446744073709551616≤fuel) (hs:szL D.Agent.sz x≤1048576):z3c fuel x=some x:=by
  have hl:=z9o hs
  unfold z3c
  refine z6K hl hf (fun _=>rfl) ?_ ?_
  · intro i y out hy b
    have hi:=(List.getElem?_eq_some_iff.1 hy).1
    have hsy:D.Agent.sz y≤1048576:=z9n hs (List.mem_of_getElem? hy)
    simp only [z2X,z2H hy,Option.bind_some,lt_t (show(i:Int)<x.length by omega),if_true,z7y hf hsy]
    rw [if_pos (by simp;omega)]
    simp
  · intro out
    simp [z2X]

theorem z7h {fuel:Nat}{x:(List D.Agent)}(hf:18446744073709551616≤fuel) (hs:szL D.Agent.sz x≤1048576):z3g fuel x x=some true:=by
  have hl:=z9o hs
  unfold z3g
  rw [if_neg (by simp)]
  refine z5S (n:=x.length) (t:=()) (by unfold maxLen;omega) hf rfl ?_ ?_
  · intro i hi
    obtain⟨y,hy⟩:=z3J hi
    have hsy:D.Agent.sz y≤1048576:=z9n hs (List.mem_of_getElem? hy)
    simp [z30,z2H hy,hi,z4K,z7X hf hsy]
  · simp [z30]

theorem z8L {fuel:Nat}{x:D.Net}{l:Int}(hf:18446744073709551616≤fuel) (hw:D.Net.wf x) (h0:0≤l) (h1:l≤1048576):SzOk (D.Net.sz x) l (z4b fuel x l):=by
  obtain⟨w0,_⟩:=hw
  unfold z4b D.Net.sz
  refine SzOk.bind (z76 hf w0 h0 (by omega)) rfl fun r1 g1a g1b=>?_
  exact SzOk.same g1a

theorem z6O {fuel:Nat}{x:D.Net}(hf:18446744073709551616≤fuel) (hs:D.Net.sz x≤1048576):z3a fuel x=some x:=by
  unfold D.Net.sz at hs
  unfold z3a
  simp only [z74 hf (show szL D.Agent.sz x.Agents≤1048576 by omega),Option.bind_some]

theorem z6X {fuel:Nat}{x:D.Net}(hf:18446744073709551616≤fuel) (hs:D.Net.sz x≤1048576):z4c fuel x x=some true:=by
  unfold D.Net.sz at hs
  simp [z4c,z4K,z7h hf (show szL D.Agent.sz x.Agents≤1048576 by omega)]

theorem z6V:Opens Tryd.prog 2 tInt I64:=Opens.int Tryd.underlying2 (by kernel_rfl)
theorem zbk:Opens Tryd.prog 37 ty37 (WfL I64):=Opens.sl Tryd.underlying37 (by kernel_rfl) z6V
set_option maxRecDepth 100000 in
theorem z9Z:Opens Tryd.prog 116 z8K D.Port.wf:=Opens.struct (f:=fun c:D.Port=>(c.Agent,c.Slot,())) Tryd.underlying116 (by kernel_rfl) (OpensF.cons z6V rfl rfl (OpensF.cons z6V rfl rfl OpensF.nil)) (fun⟨a0,a1,_⟩=>⟨⟨a0,a1⟩,rfl⟩)
theorem zbj:Opens Tryd.prog 55 ty55 (WfL D.Port.wf):=Opens.sl Tryd.underlying55 (by kernel_rfl) z9Z
set_option maxRecDepth 100000 in
theorem zbi:Opens Tryd.prog 57 ty57 D.Agent.wf:=Opens.struct (f:=fun c:D.Agent=>(c.Kind,c.Level,c.Value,c.Data,c.Ports,())) Tryd.underlying57 (by kernel_rfl) (OpensF.cons z6V rfl rfl (OpensF.cons z6V rfl rfl (OpensF.cons z6V rfl rfl (OpensF.cons zbk rfl rfl (OpensF.cons zbj rfl rfl OpensF.nil))))) (fun⟨a0,a1,a2,a3,a4,_⟩=>⟨⟨a0,a1,a2,a3,a4⟩,rfl⟩)
theorem zbn:Opens Tryd.prog 22 ty22 (WfL D.Agent.wf):=Opens.sl Tryd.underlying22 (by kernel_rfl) zbi
set_option maxRecDepth 100000 in
theorem zbm:Opens Tryd.prog 24 ty24 D.Net.wf:=Opens.struct (f:=fun c:D.Net=>(c.Agents,())) Tryd.underlying24 (by kernel_rfl) (OpensF.cons zbn rfl rfl OpensF.nil) (fun⟨a0,_⟩=>⟨⟨a0⟩,rfl⟩)
end Go.E


namespace Go.E
set_option linter.unusedVariables false
set_option linter.unusedSimpArgs false


theorem eqLoop {α τ ρ:Type}[DecidableEq α] {xs ys:List α}{body:Int→Option (Rd Int τ ρ)}{fuel:Nat}{t:τ}{v:ρ}(hl:xs.length≤maxLen) (hf:18446744073709551616≤fuel) (he:xs.length=ys.length)
    (step:∀ (i:Nat) (a b:α),i<xs.length→xs[i]? = some a→ys[i]? = some b→body i=if a=b then some (.next (w64 (i+1))) else some (.ret v)) (last:body xs.length=some (.brk t)):
    iter body fuel 0=some (if xs=ys then .inl t else .inr v):=by
  have hm:maxLen=9223372036854775807:=rfl
  obtain⟨o,h2,h3⟩:=z2G (body:=body) (fun i s=>s=(i:Int)∧xs.take i=ys.take i) xs.length (fun o=>o=if xs=ys then .inl t else .inr v) (by
    rintro i s hi ⟨rfl,h⟩
    obtain⟨a,ha⟩:=z3J hi
    obtain⟨b,hb⟩:=z3J (he ▸ hi:i<ys.length)
    have hs:=step i a b hi ha hb
    by_cases e:a=b
    · rw [if_pos e] at hs
      refine .inl ⟨_,hs,by rw [zd (by omega) (by omega)];simp,?_⟩
      rw [List.take_add_one,List.take_add_one,h,ha,hb,e]
    · rw [if_neg e] at hs
      refine .inr (.inl ⟨_,hs,?_⟩)
      rw [if_neg]
      rintro rfl
      rw [ha] at hb
      exact e (Option.some.inj hb)) (by
    rintro s ⟨rfl,h⟩
    rw [List.take_length,he,List.take_length] at h
    exact .inr ⟨_,last,by rw [if_pos h]⟩) (fuel:=fuel) (i:=0) (s:=0) (Nat.zero_le _) (by omega) ⟨rfl,by simp⟩
  rw [h2,h3]


theorem eqWhole {α τ:Type}[DecidableEq α] {xs ys:List α}{body:Int→Option (Rd Int τ Bool)}{j:τ→Option Bool}{fuel:Nat}{t:τ}(hl:xs.length≤maxLen) (hf:18446744073709551616≤fuel) (hj:j t=some true)
    (step:∀ (i:Nat) (a b:α),i<xs.length→xs[i]? = some a→ys[i]? = some b→body i=if a=b then some (.next (w64 (i+1))) else some (.ret false)) (last:body xs.length=some (.brk t)):
    (if((xs.length:Int) != (ys.length:Int))=true then some false else((iter body fuel 0).bind fun o=>aft o j))=some (decide (xs=ys)):=by
  by_cases he:xs.length=ys.length
  · rw [if_neg (by simp [he]),eqLoop hl hf he step last]
    by_cases h:xs=ys
    · rw [if_pos h,decide_eq_true h];exact hj
    · rw [if_neg h,decide_eq_false h];rfl
  · rw [if_pos (by simp;omega),decide_eq_false (fun h=>he (by rw [h]))]


theorem askLoop {α τ ρ:Type}{xs:List α}{body:Int→Option (Rd Int τ ρ)}{fuel:Nat}{t:τ}{p:α→Bool}{g:Int→ρ}(hl:xs.length≤maxLen) (hf:18446744073709551616≤fuel)
    (step:∀ (i:Nat) (x:α),i<xs.length→xs[i]? = some x→body i=if p x=true then some (.ret (g i)) else some (.next (w64 (i+1)))) (last:body xs.length=some (.brk t)):
    (xs.any p=false∧iter body fuel 0=some (.inl t))∨(xs.any p=true∧∃ i:Nat,i<xs.length∧iter body fuel 0=some (.inr (g i))):=by
  have hm:maxLen=9223372036854775807:=rfl
  obtain⟨o,h2,h3⟩:=z2G (body:=body) (fun i s=>s=(i:Int)∧(xs.take i).any p=false) xs.length (fun o=>(xs.any p=false∧o=.inl t)∨(xs.any p=true∧∃ i:Nat,i<xs.length∧o=.inr (g i))) (by
    rintro i s hi ⟨rfl,ha⟩
    obtain⟨x,hx⟩:=z3J hi
    have hs:=step i x hi hx
    cases hp:p x with
    | true=>
      rw [hp,if_pos rfl] at hs
      exact .inr (.inl ⟨_,hs,.inr ⟨List.any_eq_true.2 ⟨x,List.mem_of_getElem? hx,hp⟩,i,hi,rfl⟩⟩)
    | false=>
      rw [hp,if_neg (by simp)] at hs
      refine .inl ⟨_,hs,by rw [zd (by omega) (by omega)];simp,?_⟩
      rw [List.take_add_one,hx,List.any_append,ha]
      simp [hp]) (by
    rintro s ⟨rfl,ha⟩
    rw [List.take_length] at ha
    exact .inr ⟨_,last,.inl ⟨ha,rfl⟩⟩) (fuel:=fuel) (i:=0) (s:=0) (Nat.zero_le _) (by omega) ⟨rfl,by simp⟩
  rcases h3 with⟨h3,rfl⟩ | ⟨h3,i,hi,rfl⟩
  · exact .inl ⟨h3,h2⟩
  · exact .inr ⟨h3,i,hi,h2⟩


theorem askOne {α τ ρ:Type}{xs:List α}{body:Int→Option (Rd Int τ ρ)}{j:τ→Option ρ}{fuel:Nat}{t:τ}{p:α→Bool}{v:ρ}(hl:xs.length≤maxLen) (hf:18446744073709551616≤fuel)
    (step:∀ (i:Nat) (x:α),i<xs.length→xs[i]? = some x→body i=if p x=true then some (.ret v) else some (.next (w64 (i+1)))) (last:body xs.length=some (.brk t)):
    ((iter body fuel 0).bind fun o=>aft o j)=if xs.any p=true then some v else j t:=by
  rcases askLoop (g:=fun _=>v) hl hf step last with⟨h1,h2⟩ | ⟨h1,i,_,h2⟩
  · rw [h2,h1];rfl
  · rw [h2,h1];rfl


theorem askIndex {α τ:Type}{xs:List α}{body:Int→Option (Rd Int τ Int)}{j:τ→Option Int}{fuel:Nat}{t:τ}{p:α→Bool}(hl:xs.length≤maxLen) (hf:18446744073709551616≤fuel) (hj:j t=some (-1))
    (step:∀ (i:Nat) (x:α),i<xs.length→xs[i]? = some x→body i=if p x=true then some (.ret i) else some (.next (w64 (i+1)))) (last:body xs.length=some (.brk t)):
    ∃ r,((iter body fuel 0).bind fun o=>aft o j)=some r∧decide (r≥0)=xs.any p:=by
  rcases askLoop (g:=fun i=>i) hl hf step last with⟨h1,h2⟩ | ⟨h1,i,_,h2⟩
  · exact⟨-1,by rw [h2];exact hj,by rw [h1];decide⟩
  · exact⟨i,by rw [h2];rfl,by rw [h1];exact decide_eq_true (by omega)⟩
end Go.E
namespace Go.E

end Go.E


namespace Go.E
open Go.RowKit Go.Proofs
set_option linter.unusedSimpArgs false
set_option linter.unusedVariables false

theorem z45 {fuel:Nat}{a l h:Int}:zD fuel a l h=some (decide (l≤a∧a≤h)):=by
  unfold zD
  by_cases h1:l≤a
  · rw [if_pos (decide_eq_true (by omega))];simp [h1]
  · rw [if_neg (by simp;omega)];simp [h1]

def portsN (k f:Int):Int:=
  if k=9 then(if 0≤f∧f≤3 then 1+f else 0) else if f≠0 then 0 else if k=1∨k=5∨k=6∨k=12 then 1 else
  if k=8∨k=10∨k=11 then 2 else if k=2∨k=3∨k=4∨k=7 then 3 else 0
def levelN (k:Int):Bool:=decide (2≤k∧k≤12∧k≠5∧k≠6)
def allowN (k l:Int):Bool:=decide (1≤k∧k≤12) && (decide (l=0) || (levelN k && decide (0≤l∧l≤8)))
def defN (n:Int):Bool:=decide (0≤n∧n≤23)
def contentN (k v:Int) (d:List Int):Bool:=
  if k=6 then decide (d.length=0∧-2147483648≤v∧v≤2147483647) else
  if k=7 then decide (d.length=0∧1≤v∧v≤6) else
  if k=8 then decide (d.length=1∧1≤v∧v≤6) && d.all (fun n=>decide (-2147483648≤n∧n≤2147483647)) else
  if k=9 then decide (d.length=0∧0≤v∧v≤3) else
  if k=10 then decide (v=0∧1≤d.length∧d.length≤4) && d.all defN else
  if k=11 then decide (v=0∧d.length=2) && d.all defN else
  if k=12 then decide (d.length=0∧0≤v∧v≤23) else decide (v=0∧d.length=0)
def agentN (k l v:Int) (d:List Int) (n:Nat):Bool:=decide (portsN k (if k=9 then n - 1 else 0)=n) && (allowN k l && contentN k v d)

theorem kinds (k:Int):(k=1∨k=2∨k=3∨k=4∨k=5∨k=6∨k=7∨k=8∨k=9∨k=10∨k=11∨k=12)∨¬ (1≤k∧k≤12):=by omega
theorem z8q {k:Int}(h:¬ (1≤k∧k≤12)) (c:Int) (h1:1≤c∧c≤12):(k == c)=false:=by
  rw [beq_eq_false_iff_ne];rintro rfl;exact h h1

theorem z6T {fuel:Nat}{k f:Int}:z2f fuel k f=some (portsN k f):=by
  by_cases h9:k=9
  · subst h9
    unfold z2f portsN
    simp only [z45,Option.bind_some,beq_self_eq_true,if_true,decide_eq_true_eq]
    split
    · rw [zd (by omega) (by omega)]
    · rfl
  · by_cases hf:f=0
    · subst hf
      rcases kinds k with h | h
      · rcases h with rfl | rfl | rfl | rfl | rfl | rfl | rfl | rfl | rfl | rfl | rfl | rfl<;>first | exact absurd rfl h9 | rfl
      · simp [z2f,z2D,z2C,z2B,z2A,z2z,z2y,z2x,z2w,portsN,z8q h,h9]
        omega
    · unfold z2f portsN
      rw [if_neg (by simpa using h9),if_pos (by simpa using hf),if_neg h9,if_pos hf]
theorem z4X {fuel:Nat}{k:Int}:z2L fuel k=some (decide (1≤k∧k≤12)):=by
  unfold z2L
  by_cases h1:1≤k
  · rw [if_pos (decide_eq_true (by omega))];simp [h1]
  · rw [if_neg (by simp;omega)];simp [h1]
theorem z8P {fuel:Nat}{k f:Int}:z2U fuel k f=some (portsN k f):=by
  by_cases h9:k=9
  · subst h9
    unfold z2U portsN z1q
    simp only [z4X,Option.bind_some,beq_self_eq_true,if_true]
    by_cases h0:0≤f
    · by_cases h3:f≤3
      · rw [if_pos (decide_eq_true (by omega)),if_pos (decide_eq_true h3),if_pos ⟨h0,h3⟩,zd (by omega) (by omega),Int.add_comm]
      · rw [if_pos (decide_eq_true (by omega)),if_neg (by simpa using h3)];simp [z12,h3]
    · rw [if_neg (by simp;omega),if_neg Bool.false_ne_true];simp [z12,h0]
  · unfold z2U z1q
    rw [if_neg (by simpa using h9),if_neg Bool.false_ne_true,z4X,Option.bind_some]
    rcases kinds k with h | h
    · by_cases hf:f=0
      · subst hf
        rcases h with rfl | rfl | rfl | rfl | rfl | rfl | rfl | rfl | rfl | rfl | rfl | rfl<;>first | exact absurd rfl h9 | rfl
      · rw [if_neg (by simp;omega),if_neg (by simpa using h9),show(f != 0)=true by simpa using hf]
        simp [z12,portsN,h9,hf]
    · rw [if_pos (by simp;omega)]
      simp [z12,portsN,h9]
      omega

theorem z8R {fuel:Nat}{k:Int}:z39 fuel k=some (levelN k):=by
  rcases kinds k with h | h
  · rcases h with rfl | rfl | rfl | rfl | rfl | rfl | rfl | rfl | rfl | rfl | rfl | rfl<;>rfl
  · simp [z39,z2d,z2c,z2b,z2a,z29,z28,z27,z26,levelN,z8q h]
    omega
theorem z8S {fuel:Nat}{k:Int}:z3k fuel k=some (levelN k):=by
  unfold z3k
  rw [z4X,Option.bind_some]
  rcases kinds k with h | h
  · rcases h with rfl | rfl | rfl | rfl | rfl | rfl | rfl | rfl | rfl | rfl | rfl | rfl<;>rfl
  · rw [if_neg (by simpa using h)]
    simp [levelN];omega
theorem z90 {fuel:Nat}{k l:Int}:z36 fuel k l=some (allowN k l):=by
  unfold z36 z48 allowN
  simp only [z8R,z45,Option.bind_some]
  cases hl:levelN k with
  | true=>
    have:1≤k∧k≤12:=by unfold levelN at hl;simp at hl;omega
    simp [this];omega
  | false=>by_cases h:1≤k∧k≤12<;>by_cases h0:l=0<;>simp [h,h0]
theorem z91 {fuel:Nat}{k l:Int}:z2Q fuel k l=some (allowN k l):=by
  unfold z2Q allowN
  have hL:z3E fuel l=some (decide (0≤l∧l≤8)):=by
    unfold z3E
    by_cases h1:0≤l
    · rw [if_pos (decide_eq_true (by omega))];simp [h1]
    · rw [if_neg (by simp;omega)];simp [h1]
  simp only [z4X,z8S,hL,Option.bind_some]
  by_cases h:1≤k∧k≤12
  · by_cases h0:l=0
    · simp [h,h0]
    · cases hl:levelN k<;>simp [h,h0]
  · simp [h]

theorem z8B {fuel:Nat}{n:Int}:z3o fuel n=some (defN n):=by
  unfold z3o defN;rw [z45];rfl
theorem z8C {fuel:Nat}{n:Int}:z1T fuel n=some (defN n):=by
  unfold z1T defN
  by_cases h1:0≤n
  · rw [if_pos (decide_eq_true (by omega))];simp [h1];omega
  · rw [if_neg (by simp;omega)];simp [h1]
theorem za3 {fuel:Nat}{n:Int}:z3O fuel n=some (decide (-2147483648≤n∧n≤2147483647)):=by
  unfold z3O
  by_cases h1:-2147483648≤n
  · rw [if_pos (decide_eq_true (by omega))];simp [h1]
  · rw [if_neg (by simp;omega)];simp [h1]
theorem z9x {fuel:Nat}{n:Int}:z1S fuel n=some (decide (1≤n∧n≤6)):=by
  unfold z1S
  by_cases h1:1≤n
  · rw [if_pos (decide_eq_true (by omega))];simp [h1]
  · rw [if_neg (by simp;omega)];simp [h1]
theorem z8h {α:Type}{p:α→Bool}:∀ {xs:List α},xs.any (fun x=>!p x)=!xs.all p
  | []=>rfl
  | x::xs=>by simp [z8h (p:=p) (xs:=xs)]
theorem z9H {fuel:Nat}{a:D.Agent}(hf:18446744073709551616≤fuel) (hl:a.Data.length≤maxLen):
    ((iter (z1z fuel a) fuel 0).bind fun o=>aft o (z3u fuel))=some (a.Data.all defN):=by
  rw [askOne (xs:=a.Data) (p:=fun n=>!defN n) (v:=false) (t:=()) hl hf (fun i x hi hx=>by
    unfold z1z
    simp only [z2H hx,z8B,lt_t (show(i:Int)<a.Data.length by omega),if_true,Option.bind_some]) (by simp [z1z]),z8h]
  cases a.Data.all defN<;>rfl
theorem z80 {fuel:Nat}{p:Int→Bool}{f:Int→Option Bool}{xs:List Int}(hf:18446744073709551616≤fuel) (hl:xs.length≤maxLen) (h:∀ n,f n=some (p n)):
    zu fuel xs f=some (xs.any p):=by
  unfold zu z15
  obtain⟨r,h1,h2⟩:=askIndex (xs:=xs) (p:=p) (body:=zt fuel xs f) (j:=z1a fuel) (t:=()) hl hf rfl (fun i x hi hx=>by
    simp only [zt,z2H hx,h,lt_t (show(i:Int)<xs.length by omega),if_true,Option.bind_some]) (by simp [zt])
  rw [h1,Option.bind_some,h2]

theorem z7Y {fuel:Nat}{a:D.Agent}(hf:18446744073709551616≤fuel) (hl:a.Data.length≤maxLen):zr fuel a=some (contentN a.Kind a.Value a.Data):=by
  have hd:=z9H (a:=a) hf hl
  obtain⟨k,l,v,d,ps⟩:=a
  dsimp only at hl hd ⊢
  by_cases h6:k=6
  · subst h6
    simp only [zr,contentN,z45,Option.bind_some,beq_self_eq_true,if_true]
    by_cases h:d.length=0<;>simp [h]<;>omega
  by_cases h7:k=7
  · subst h7
    simp only [zr,contentN,z45,Option.bind_some,beq_self_eq_true,if_true]
    by_cases h:d.length=0<;>simp [h]<;>omega
  by_cases h8:k=8
  · subst h8
    simp only [zr,contentN,z45,Option.bind_some,beq_self_eq_true,if_true]
    match d with
    | []=>simp
    | [n]=>by_cases h:1≤v∧v≤6<;>simp [h,idx]
    | _::_::_=>simp;omega
  by_cases h9:k=9
  · subst h9
    simp only [zr,contentN,z45,Option.bind_some,beq_self_eq_true,if_true]
    by_cases h:d.length=0<;>simp [h]<;>omega
  by_cases y:k=12
  · subst y
    simp only [zr,contentN,z45,z8B,Option.bind_some,beq_self_eq_true,if_true]
    by_cases h:d.length=0<;>simp [h,defN]<;>omega
  by_cases b:k=10
  · subst b
    simp only [zr,z13,zo,contentN,z45,Option.bind_some,beq_self_eq_true,if_true,hd]
    by_cases h:v=0
    · by_cases h1:1≤d.length∧d.length≤4
      · have h2:(1:Int)≤d.length∧(d.length:Int)≤4:=by omega
        simp [h,h1,h2]
      · have h2:¬ ((1:Int)≤d.length∧(d.length:Int)≤4):=by omega
        simp [h,h1,h2]
    · simp [h]
  by_cases o:k=11
  · subst o
    simp only [zr,z13,zo,contentN,z45,Option.bind_some,beq_self_eq_true,if_true,hd]
    by_cases h:v=0
    · by_cases h1:d.length=2
      · simp [h,h1]
      · have h2:¬ ((d.length:Int)=2):=by omega
        simp [h,h1,h2]
    · simp [h]
  · simp only [zr,z13,contentN,h6,h7,h8,h9,b,o,y,if_false]
    by_cases h:v=0<;>by_cases h1:d.length=0<;>simp [h,h1,h6,h7,h8,h9,b,o,y]

theorem z7Z {fuel:Nat}{a:D.Agent}(hf:18446744073709551616≤fuel) (hl:a.Data.length≤maxLen):z14 fuel a false=some (contentN a.Kind a.Value a.Data):=by
  unfold z14
  rw [if_neg Bool.false_ne_true,z80 (p:=fun n=>!defN n) hf hl (fun n=>by unfold z2j;rw [z8C];rfl),Option.bind_some,z8h,Bool.not_not]
  obtain⟨k,l,v,d,ps⟩:=a
  dsimp only at hl ⊢
  simp only [z1G,z1F,z1E,z1D,z1C,z1f,z1B,z1A,z1t,za3,z9x,z8C,Option.bind_some]
  by_cases h6:k=6
  · subst h6
    simp only [contentN,beq_self_eq_true,if_true]
    by_cases h:d.length=0<;>by_cases h1:-2147483648≤v∧v≤2147483647<;>simp [h,h1]
  by_cases h7:k=7
  · subst h7
    simp only [contentN,beq_self_eq_true,if_true]
    by_cases h:d.length=0<;>by_cases h1:1≤v∧v≤6<;>simp [h,h1]
  by_cases h8:k=8
  · subst h8
    simp only [contentN,beq_self_eq_true,if_true]
    match d with
    | []=>simp
    | [n]=>by_cases h:1≤v∧v≤6<;>simp [h,idx]
    | _::_::_=>simp;omega
  by_cases h9:k=9
  · subst h9
    simp only [contentN,beq_self_eq_true,if_true]
    by_cases h1:0≤v
    · by_cases h:d.length=0<;>by_cases h2:v<4<;>simp [h,h1,h2]<;>omega
    · simp [h1]
  by_cases y:k=12
  · subst y
    simp only [contentN,beq_self_eq_true,if_true]
    by_cases h:d.length=0<;>by_cases h1:0≤v∧v≤23<;>simp [h,h1,defN]
  by_cases b:k=10
  · subst b
    simp only [contentN,beq_self_eq_true,if_true]
    by_cases h:v=0
    · by_cases h1:1≤d.length
      · by_cases h2:d.length≤4
        · have h3:(1:Int)≤d.length:=by omega
          have h4:(d.length:Int)≤4:=by omega
          simp [h,h1,h2,h3,h4]
        · have h3:(1:Int)≤d.length:=by omega
          have h4:¬ (d.length:Int)≤4:=by omega
          simp [h,h1,h2,h3,h4]
      · have h3:¬ (1:Int)≤d.length:=by omega
        simp [h,h1,h3]
    · by_cases h1:(1:Int)≤d.length<;>by_cases h2:(d.length:Int)≤4<;>simp [h,h1,h2]
  by_cases o:k=11
  · subst o
    simp only [contentN,beq_self_eq_true,if_true]
    by_cases h:v=0<;>by_cases h1:d.length=2
    · simp [h,h1]
    · have h2:¬ ((d.length:Int)=2):=by omega
      simp [h,h1,h2]
    · simp [h,h1]
    · have h2:¬ ((d.length:Int)=2):=by omega
      simp [h,h1,h2]
  · simp only [contentN,h6,h7,h8,h9,b,o,y,if_false]
    by_cases h:v=0<;>by_cases h1:d.length=0<;>simp [h,h1,h6,h7,h8,h9,b,o,y]

theorem z5y {n:Nat}(hn:n≤maxLen):w64 ((n:Int) - 1)=(n:Int) - 1:=by
  have:maxLen=9223372036854775807:=rfl
  exact zd (by omega) (by omega)
theorem z93 {fuel:Nat}{a:D.Agent}(hf:18446744073709551616≤fuel) (hl:a.Data.length≤maxLen) (h1:1≤a.Ports.length) (h2:a.Ports.length≤maxLen):
    z1n fuel a=some (agentN a.Kind a.Level a.Value a.Data a.Ports.length):=by
  unfold z1n agentN
  rw [if_neg (by simp;intro h;rw [h] at h1;exact absurd h1 (by decide))]
  have hF:z3h fuel a.Kind (a.Ports.length:Int)=some (if a.Kind=9 then(a.Ports.length:Int) - 1 else 0):=by
    unfold z3h
    by_cases h:a.Kind=9
    · rw [if_pos (by simpa using h),if_pos h,z5y h2]
    · rw [if_neg (by simpa using h),if_neg h]
  rw [hF,Option.bind_some,z8P,Option.bind_some,z91,Option.bind_some]
  by_cases hp:portsN a.Kind (if a.Kind=9 then(a.Ports.length:Int) - 1 else 0)=(a.Ports.length:Int)
  · rw [if_neg (by simp [hp]),decide_eq_true hp,Bool.true_and]
    cases allowN a.Kind a.Level with
    | false=>rfl
    | true=>rw [Bool.true_and];exact z7Z hf hl
  · rw [if_pos (by simpa using hp),decide_eq_false hp];rfl
theorem z92 {fuel:Nat}{a:D.Agent}(hf:18446744073709551616≤fuel) (hl:a.Data.length≤maxLen) (h1:1≤a.Ports.length) (h2:a.Ports.length≤maxLen):
    z1V fuel a=some (agentN a.Kind a.Level a.Value a.Data a.Ports.length):=by
  unfold z1V agentN
  have hF:z1w fuel a=some (if a.Kind=9 then(a.Ports.length:Int) - 1 else 0):=by
    unfold z1w
    by_cases h:a.Kind=9
    · rw [if_pos (by simpa using h),if_pos h,z5y h2]
    · rw [if_neg (by simpa using h),if_neg h]
  rw [hF,Option.bind_some,z6T,Option.bind_some,z90,Option.bind_some,z7Y hf hl]
  by_cases hp:portsN a.Kind (if a.Kind=9 then(a.Ports.length:Int) - 1 else 0)=(a.Ports.length:Int)
  · rw [hp,if_pos (decide_eq_true (by omega)),if_pos (by simp),decide_eq_true rfl,Bool.true_and]
    cases allowN a.Kind a.Level<;>rfl
  · rw [decide_eq_false hp]
    generalize portsN a.Kind (if a.Kind=9 then(a.Ports.length:Int) - 1 else 0)=r at hp ⊢
    by_cases h:r>0
    · rw [if_pos (decide_eq_true h),if_neg (by simpa using fun h=>hp h.symm)];rfl
    · rw [if_neg (by simpa using h)];rfl



def agN (a:D.Agent):Bool:=decide (a.Ports.length≠0) && agentN a.Kind a.Level a.Value a.Data a.Ports.length
theorem zbz {fuel:Nat}{a:D.Agent}(hf:18446744073709551616≤fuel) (hl:a.Data.length≤maxLen) (h2:a.Ports.length≤maxLen):z1n fuel a=some (agN a):=by
  by_cases h:a.Ports.length=0
  · unfold z1n agN
    rw [if_pos (by simp [h]),show decide (a.Ports.length≠0)=false by simp [h],Bool.false_and]
    rfl
  · rw [z93 hf hl (by omega) h2]
    unfold agN
    rw [decide_eq_true (by simpa using h),Bool.true_and]
theorem zby {fuel:Nat}{a:D.Agent}(hf:18446744073709551616≤fuel) (hl:a.Data.length≤maxLen) (h2:a.Ports.length≤maxLen):z1V fuel a=some (agN a):=by
  by_cases h:a.Ports.length=0
  · unfold z1V agN
    have hF:z1w fuel a=some (if a.Kind=9 then(a.Ports.length:Int) - 1 else 0):=by
      unfold z1w
      by_cases h:a.Kind=9
      · rw [if_pos (by simpa using h),if_pos h,z5y h2]
      · rw [if_neg (by simpa using h),if_neg h]
    rw [hF,Option.bind_some,z6T,Option.bind_some,show decide (a.Ports.length≠0)=false by simp [h],Bool.false_and]
    generalize portsN a.Kind (if a.Kind=9 then(a.Ports.length:Int) - 1 else 0)=r
    by_cases hr:r>0
    · rw [if_pos (decide_eq_true hr),if_neg (by rw [h];simp;omega)]
    · rw [if_neg (by simpa using hr)]
  · rw [z92 hf hl (by omega) h2]
    unfold agN
    rw [decide_eq_true (by simpa using h),Bool.true_and]
theorem zb6 {a:D.Agent}(h:agN a=true):a.Ports.length≠0:=by
  unfold agN at h
  simp only [Bool.and_eq_true,decide_eq_true_eq] at h
  exact h.1
end Go.E


namespace Go.E
open Go.RowKit Go.Proofs
set_option linter.unusedSimpArgs false
set_option linter.unusedVariables false


inductive Rnd (σ ρ:Type) where
  | go (s:σ)
  | back (r:ρ)
def foldR {α σ ρ:Type}(f:Nat→σ→α→Rnd σ ρ):Nat→List α→σ→Rnd σ ρ
  | _,[],s=>.go s
  | i,x::xs,s=>match f i s x with
    | .go s'=>foldR f (i+1) xs s'
    | .back r=>.back r
theorem loopR {α σ S τ ρ:Type}{xs:List α}{body:S→Option (Rd S τ ρ)}{mk:Int→σ→S}{out:σ→τ}{f:Nat→σ→α→Rnd σ ρ}{J:Nat→σ→Prop}{s0:σ}{fuel:Nat}
    (hl:xs.length≤maxLen) (hf:18446744073709551616≤fuel) (hJ:J 0 s0)
    (step:∀ (i:Nat) s x,i<xs.length→xs[i]? = some x→J i s→match f i s x with
      | .go s'=>body (mk i s)=some (.next (mk (w64 (i+1)) s'))∧J (i+1) s'
      | .back r=>body (mk i s)=some (.ret r))
    (last:∀ s,J xs.length s→body (mk xs.length s)=some (.brk (out s))):
    (match foldR f 0 xs s0 with
      | .go s=>iter body fuel (mk 0 s0)=some (.inl (out s))∧J xs.length s
      | .back r=>iter body fuel (mk 0 s0)=some (.inr r)):=by
  have hm:maxLen=9223372036854775807:=rfl
  have key:∀ (ys:List α) (i:Nat) (s:σ) (fu:Nat),i+ys.length=xs.length→(∀ j,ys[j]? = xs[i+j]?)→ys.length<fu→J i s→(match foldR f i ys s with
      | .go s'=>iter body fu (mk i s)=some (.inl (out s'))∧J xs.length s'
      | .back r=>iter body fu (mk i s)=some (.inr r)):=by
    intro ys
    induction ys with
    | nil=>
      intro i s fu hi _ hfu hj
      obtain⟨fu,rfl⟩:∃ f',fu=f'+1:=⟨fu - 1,by simp at hfu;omega⟩
      simp only [List.length_nil,Nat.add_zero] at hi
      subst hi
      simp only [foldR,iter,last s hj]
      exact⟨trivial,hj⟩
    | cons y ys ih=>
      intro i s fu hi hat hfu hj
      obtain⟨fu,rfl⟩:∃ f',fu=f'+1:=⟨fu - 1,by simp at hfu;omega⟩
      simp only [List.length_cons] at hi hfu
      have hx:xs[i]? = some y:=by have:=hat 0;simpa using this.symm
      have hs:=step i s y (by omega) hx hj
      unfold foldR
      cases hfs:f i s y with
      | go s'=>
        rw [hfs] at hs
        have h2:=ih (i+1) s' fu (by omega) (fun j=>by have:=hat (j+1);rw [show i+1+j=i+(j+1) by omega];simpa using this) (by omega) hs.2
        simp only [iter,hs.1]
        rw [zd (by omega) (by omega)]
        exact_mod_cast h2
      | back r=>
        rw [hfs] at hs
        simp only [iter,hs]
  have:=key xs 0 s0 fuel (by simp) (by simp) (by omega) hJ
  exact_mod_cast this

theorem z5B {α:Type}{xs:List α}{p:Nat→α→Bool}{k:Nat}:((xs.zipIdx k).all fun y=>p y.2 y.1)=true↔∀ i x,xs[i]? = some x→p (k+i) x=true:=by
  rw [List.all_eq_true]
  constructor
  · intro h i x hx
    have:(x,k+i)∈xs.zipIdx k:=by
      rw [List.mem_zipIdx_iff_le_and_getElem?_sub]
      exact⟨Nat.le_add_right _ _,by simpa using hx⟩
    exact h _ this
  · rintro h ⟨x,j⟩ hj
    rw [List.mem_zipIdx_iff_le_and_getElem?_sub] at hj
    have:=h (j - k) x hj.2
    rwa [show k+(j - k)=j by have:=hj.1;simp at this;omega] at this

theorem z7V {α ρ:Type}{p:Nat→α→Bool}{v:ρ}:∀ {xs:List α}{k:Nat},foldR (fun i (_:Unit) x=>if p i x=true then Rnd.go () else Rnd.back v) k xs ()=if((xs.zipIdx k).all fun y=>p y.2 y.1)=true then Rnd.go () else Rnd.back v
  | [],k=>by simp [foldR]
  | x::xs,k=>by
    unfold foldR
    cases h:p k x with
    | true=>simp only [if_true,z7V (xs:=xs),List.zipIdx_cons,List.all_cons,h,Bool.true_and]
    | false=>simp [h]


theorem allLoop {α τ ρ:Type}{xs:List α}{body:Int→Option (Rd Int τ ρ)}{p:Nat→α→Bool}{t:τ}{v:ρ}{fuel:Nat}(hl:xs.length≤maxLen) (hf:18446744073709551616≤fuel)
    (step:∀ (i:Nat) x,i<xs.length→xs[i]? = some x→body i=if p i x=true then some (.next (w64 (i+1))) else some (.ret v)) (last:body xs.length=some (.brk t)):
    iter body fuel 0=some (if(xs.zipIdx.all fun y=>p y.2 y.1)=true then .inl t else .inr v):=by
  have h:=loopR (xs:=xs) (body:=body) (mk:=fun i _=>i) (out:=fun(_:Unit)=>t) (f:=fun i (_:Unit) x=>if p i x=true then Rnd.go () else Rnd.back v) (J:=fun _ _=>True) (s0:=()) hl hf trivial
    (fun i s x hi hx _=>by
      have:=step i x hi hx
      cases hp:p i x with
      | true=>rw [hp] at this;exact⟨this,trivial⟩
      | false=>rw [hp] at this;simpa using this) (fun s _=>last)
  rw [z7V] at h
  cases hp:(xs.zipIdx.all fun y=>p y.2 y.1) with
  | true=>rw [hp] at h;exact h.1
  | false=>rw [hp] at h;exact h

theorem z9Q {α:Type}{xs:List α}{i:Nat}{x:α}(h:xs[i]? = some x):(xs.take (i+1)).zipIdx=(xs.take i).zipIdx++[(x,i)]:=by
  have hl:=(List.getElem?_eq_some_iff.1 h).1
  rw [List.take_add_one,h,List.zipIdx_append]
  simp [Nat.min_eq_left (Nat.le_of_lt hl)]

end Go.E


namespace Go.E
open Go.RowKit Go.Proofs
set_option linter.unusedSimpArgs false
set_option linter.unusedVariables false


def portAt (n:D.Net) (p:D.Port):Option D.Port:=(idx n.Agents p.Agent).bind fun a=>idx a.Ports p.Slot
def hasN (l:List D.Agent) (p:D.Port):Bool:=decide (0≤p.Agent∧0≤p.Slot) && (l[p.Agent.toNat]?).any fun a=>decide (p.Slot<(a.Ports.length:Int))
def agentsN (l:List D.Agent):Bool:=decide (1≤l.length∧l.length≤600) && (l.zipIdx.all fun x=>agN x.1 && ((x.1.Kind == 1) == (x.2 == 0)))
def prt (i k:Nat):D.Port:=⟨i,k⟩
def chkN (n:D.Net) (i k:Nat) (p:D.Port):Bool:=!(decide (p=prt i k)) && (hasN n.Agents p && decide (portAt n p=some (prt i k)))
def netN (n:D.Net):Bool:=agentsN n.Agents && (n.Agents.zipIdx.all fun x=>x.1.Ports.zipIdx.all fun y=>chkN n x.2 y.2 y.1)

theorem z3m {α:Type}{xs:List α}{i:Int}(h:0≤i):idx xs i=xs[i.toNat]?:=by unfold idx;rw [if_pos h]
theorem z5b {l:List D.Agent}{p:D.Port}(h:hasN l p=true):0≤p.Agent∧0≤p.Slot∧∃ a q,l[p.Agent.toNat]? = some a∧idx l p.Agent=some a∧a.Ports[p.Slot.toNat]? = some q∧idx a.Ports p.Slot=some q∧p.Agent<l.length∧p.Slot<a.Ports.length:=by
  unfold hasN at h
  simp only [Bool.and_eq_true,decide_eq_true_eq] at h
  obtain⟨⟨h1,h2⟩,h3⟩:=h
  cases ha:l[p.Agent.toNat]? with
  | none=>rw [ha] at h3;simp at h3
  | some a=>
    rw [ha] at h3
    simp only [Option.any_some,decide_eq_true_eq] at h3
    obtain⟨q,hq⟩:=z3J (xs:=a.Ports) (i:=p.Slot.toNat) (by omega)
    have:=(List.getElem?_eq_some_iff.1 ha).1
    exact⟨h1,h2,a,q,rfl,by rw [z3m h1,ha],hq,by rw [z3m h2,hq],by omega,h3⟩
theorem z8b {p q:D.Port}:(((p.Agent:Int) == q.Agent) && (((p.Slot:Int) == q.Slot) && true))=decide (p=q):=by
  obtain⟨a,b⟩:=p
  obtain⟨c,d⟩:=q
  by_cases h1:a=c<;>by_cases h2:b=d<;>simp [h1,h2]
theorem zba {p:D.Port}{i k:Nat}:(((p.Agent:Int) == (i:Int)) && (((p.Slot:Int) == (k:Int)) && true))=decide (p=prt i k):=z8b (q:=prt i k)

theorem z7T {l:List D.Agent}{p:D.Port}{fuel:Nat}(hl:l.length≤maxLen) (hp:∀ a,a∈l→a.Ports.length≤maxLen):z3w fuel l p=some (hasN l p):=by
  unfold z3w
  rw [z45,Option.bind_some,z5y hl]
  by_cases h1:0≤p.Agent∧p.Agent≤(l.length:Int) - 1
  · rw [if_pos (by simpa using h1)]
    obtain⟨a,ha⟩:=z3J (xs:=l) (i:=p.Agent.toNat) (by omega)
    rw [z3m h1.1,ha,Option.bind_some,z45,z5y (hp a (List.mem_of_getElem? ha)),Option.bind_some]
    unfold hasN
    rw [ha]
    simp only [Option.bind_some,Option.any_some]
    by_cases h2:0≤p.Slot<;>by_cases h3:p.Slot<(a.Ports.length:Int)<;>simp [h1.1,h2,h3]<;>omega
  · rw [if_neg (by simpa using h1)]
    unfold hasN
    by_cases h0:0≤p.Agent
    · rw [List.getElem?_eq_none (by omega)];simp
    · simp [h0]
theorem z7U {l:List D.Agent}{p:D.Port}{fuel:Nat}:z3F fuel l p=some (hasN l p):=by
  unfold z3F hasN
  by_cases h0:0≤p.Agent
  · rw [if_pos (by simpa using h0)]
    by_cases h1:p.Agent<l.length
    · rw [if_pos (by simpa using h1)]
      obtain⟨a,ha⟩:=z3J (xs:=l) (i:=p.Agent.toNat) (by omega)
      by_cases h2:0≤p.Slot
      · rw [if_pos (by simpa using h2),z3m h0,ha];simp [h0,h2]
      · rw [if_neg (by simpa using h2)];simp [h2]
    · rw [if_neg (by simpa using h1),List.getElem?_eq_none (by omega)];simp
  · rw [if_neg (by simpa using h0)];simp [h0]
theorem z54 {n:D.Net}{p:D.Port}{fuel:Nat}:zN fuel n p=portAt n p:=by
  unfold zN portAt
  cases idx n.Agents p.Agent with
  | none=>rfl
  | some a=>
    simp only [Option.bind_some]
    cases idx a.Ports p.Slot<;>rfl


theorem z8r {i:Nat}:(((i:Int)) == 0)=(i == 0):=by
  by_cases h:i=0
  · subst h;rfl
  · have h2:¬ ((i:Int)=0):=by omega
    rw [beq_eq_false_iff_ne.2 h2,beq_eq_false_iff_ne.2 h]
theorem z8i {l:List D.Agent}{fuel:Nat}(hf:18446744073709551616≤fuel) (hl:l.length≤1048576) (hp:∀ a,a∈l→a.Data.length≤maxLen∧a.Ports.length≤maxLen):z2P fuel l=some (agentsN l):=by
  have hm:maxLen=9223372036854775807:=rfl
  unfold z2P agentsN
  rw [z45,Option.bind_some]
  by_cases h1:1≤l.length∧l.length≤600
  · rw [if_neg (by simp;omega),decide_eq_true h1,Bool.true_and,allLoop (xs:=l) (p:=fun i a=>agN a && ((a.Kind == 1) == (i == 0))) (t:=()) (v:=false) (by omega) hf (fun i a hi ha=>by
      unfold z2K
      rw [if_pos (by simpa using hi),z2H ha,Option.bind_some,zby hf (hp a (List.mem_of_getElem? ha)).1 (hp a (List.mem_of_getElem? ha)).2,Option.bind_some]
      unfold z1U
      simp only [Option.bind_some,z8r]
      cases agN a<;>cases (a.Kind == 1)<;>cases (i == 0)<;>rfl) (by unfold z2K;simp)]
    cases (l.zipIdx.all fun x=>agN x.1 && ((x.1.Kind == 1) == (x.2 == 0)))<;>rfl
  · rw [if_pos (by simp;omega),decide_eq_false h1,Bool.false_and]
theorem z8j {l:List D.Agent}{fuel:Nat}(hf:18446744073709551616≤fuel) (hl:l.length≤1048576) (hp:∀ a,a∈l→a.Data.length≤maxLen∧a.Ports.length≤maxLen):z2S fuel l=some (agentsN l):=by
  have hm:maxLen=9223372036854775807:=rfl
  have key:∀ b:Bool,z1p fuel l b=some (!b && (l.zipIdx.all fun x=>agN x.1 && ((x.1.Kind == 1) == (x.2 == 0)))):=fun b=>by
    unfold z1p
    cases b with
    | true=>rfl
    | false=>
      rw [if_neg Bool.false_ne_true,allLoop (xs:=l) (p:=fun i a=>agN a && ((a.Kind == 1) == (i == 0))) (t:=()) (v:=false) (by omega) hf (fun i a hi ha=>by
        unfold z2M
        rw [if_pos (by simpa using hi),z2H ha,Option.bind_some,zbz hf (hp a (List.mem_of_getElem? ha)).1 (hp a (List.mem_of_getElem? ha)).2,Option.bind_some]
        unfold z1W
        rw [z8r]
        cases agN a<;>cases (a.Kind == 1)<;>cases (i == 0)<;>rfl) (by unfold z2M;simp)]
      cases (l.zipIdx.all fun x=>agN x.1 && ((x.1.Kind == 1) == (x.2 == 0)))<;>rfl
  unfold z2S agentsN
  by_cases h1:1≤l.length
  · rw [if_neg (by simp;omega),key]
    by_cases h2:l.length≤600
    · rw [decide_eq_false (by omega),decide_eq_true ⟨h1,h2⟩];rfl
    · rw [decide_eq_true (by omega),decide_eq_false (by omega)];rfl
  · rw [if_pos (by simp;omega),key,decide_eq_false (by omega)];rfl


theorem za1 {n:D.Net}{fuel:Nat}(hf:18446744073709551616≤fuel) (hl:n.Agents.length≤1048576) (hp:∀ a,a∈n.Agents→a.Data.length≤maxLen∧a.Ports.length≤maxLen):z4a fuel n=some (netN n):=by
  have hm:maxLen=9223372036854775807:=rfl
  unfold z4a netN
  rw [z8i hf hl hp,Option.bind_some]
  cases hA:agentsN n.Agents with
  | false=>rfl
  | true=>
    rw [if_neg (by simp),allLoop (xs:=n.Agents) (p:=fun i a=>a.Ports.zipIdx.all fun y=>chkN n i y.2 y.1) (t:=()) (v:=false) (by omega) hf (fun i a hi ha=>by
      have hpa:=(hp a (List.mem_of_getElem? ha)).2
      unfold z3U
      rw [if_pos (by simpa using hi),z2H ha,Option.bind_some,allLoop (xs:=a.Ports) (p:=fun k p=>chkN n i k p) (t:=()) (v:=Rd.ret false) hpa hf (fun k p hk hq=>by
        unfold z3T
        rw [if_pos (by simpa using hk),z2H hq,Option.bind_some,zba,z7T (by omega) fun a ha=>(hp a ha).2]
        unfold z2v chkN
        by_cases h1:p=prt i k
        · rw [if_pos (decide_eq_true h1),decide_eq_true h1];rfl
        · rw [if_neg (by simpa using h1),decide_eq_false h1,Option.bind_some]
          cases h2:hasN n.Agents p with
          | false=>rfl
          | true=>
            obtain⟨_,_,b,q,_,h3,_,h4,_⟩:=z5b h2
            rw [if_neg (by simp),h3,Option.bind_some,h4,Option.bind_some,zba]
            have:portAt n p=some q:=by unfold portAt;rw [h3,Option.bind_some,h4]
            rw [this]
            by_cases h5:q=prt i k
            · simp [h5]
            · simp [h5]) (by unfold z3T;simp)]
      cases (a.Ports.zipIdx.all fun y=>chkN n i y.2 y.1)<;>rfl) (by unfold z3U;simp)]
    cases (n.Agents.zipIdx.all fun x=>x.1.Ports.zipIdx.all fun y=>chkN n x.2 y.2 y.1)<;>rfl


def portsL (n:D.Net):List D.Port:=n.Agents.zipIdx.flatMap fun x=>(List.range x.1.Ports.length).map fun k=>prt x.2 k
theorem z7e:∀ (xs:List D.Agent) (k:Nat),((xs.zipIdx k).flatMap fun x=>(List.range x.1.Ports.length).map fun j=>prt x.2 j).length=sumL (fun a=>a.Ports.length) xs
  | [],k=>by simp [sumL]
  | x::xs,k=>by
    rw [List.zipIdx_cons,List.flatMap_cons,List.length_append,z7e xs (k+1)]
    simp [sumL]
theorem z8Q {n:D.Net}:(portsL n).length=sumL (fun a=>a.Ports.length) n.Agents:=z7e _ _
theorem z9m {n:D.Net}(i:Nat):(((n.Agents.take i).zipIdx).flatMap fun x=>(List.range x.1.Ports.length).map fun j=>prt x.2 j).length≤sumL (fun a=>a.Ports.length) n.Agents:=by
  rw [z7e]
  have:=z5i (f:=fun a:D.Agent=>a.Ports.length) (xs:=n.Agents.take i) (ys:=n.Agents.drop i)
  rw [List.take_append_drop] at this
  omega
theorem netPorts {n:D.Net}{fuel:Nat}(hf:18446744073709551616≤fuel) (hl:n.Agents.length≤1048576) (hs:sumL (fun a=>a.Ports.length) n.Agents≤1048576):z2T fuel n=some (portsL n):=by
  have hm:maxLen=9223372036854775807:=rfl
  unfold z2T
  have h:=loopR (xs:=n.Agents) (body:=z1Y fuel n) (mk:=fun i s=>(s,i)) (out:=fun s:List D.Port=>s) (ρ:=List D.Port)
    (f:=fun i s a=>Rnd.go (s++(List.range a.Ports.length).map fun k=>prt i k)) (J:=fun i s=>s=((n.Agents.take i).zipIdx).flatMap fun x=>(List.range x.1.Ports.length).map fun k=>prt x.2 k) (s0:=[]) (fuel:=fuel) (by omega) hf (by simp)
    (fun i s a hi ha hJ=>by
      have hpa:a.Ports.length≤1048576:=Nat.le_trans (z68 (f:=fun a:D.Agent=>a.Ports.length) (List.mem_of_getElem? ha)) hs
      have hJ':s++((List.range a.Ports.length).map fun k=>prt i k)=((n.Agents.take (i+1)).zipIdx).flatMap fun x=>(List.range x.1.Ports.length).map fun k=>prt x.2 k:=by
        rw [z9Q ha,List.flatMap_append,hJ];simp
      refine⟨?_,hJ'⟩
      have hlen:=z9m (n:=n) (i+1)
      rw [← hJ',List.length_append,List.length_map,List.length_range] at hlen
      unfold z1Y
      rw [if_pos (by simpa using hi),z2H ha,Option.bind_some]
      obtain⟨o,h1,h2⟩:=z2G (body:=z1X fuel (s,(i:Int)) a) (fun k q=>q.1=(k:Int)∧q.2=s++(List.range k).map fun j=>prt i j) a.Ports.length (fun o=>o=.inl (s++(List.range a.Ports.length).map fun j=>prt i j)) (by
        rintro k ⟨q1,q2⟩ hk ⟨g1,g2⟩
        dsimp only at g1 g2
        subst g1;subst g2
        refine .inl ⟨(w64 ((k:Int)+1),(s++(List.range k).map fun j=>prt i j)++[⟨(i:Int),(k:Int)⟩]),?_,?_,?_⟩
        · unfold z1X
          rw [if_pos (by simpa using hk),if_pos (by simp;omega)]
        · dsimp only;rw [zd (by omega) (by omega)];simp
        · dsimp only;rw [List.range_succ,List.map_append];simp [prt]) (by
        rintro⟨q1,q2⟩ ⟨g1,g2⟩
        dsimp only at g1 g2
        subst g1;subst g2
        refine .inr ⟨_,?_,rfl⟩
        unfold z1X
        rw [if_neg (by simp)]) (fuel:=fuel) (i:=0) (s:=(0,s)) (Nat.zero_le _) (by omega) ⟨rfl,by simp⟩
      rw [h1,h2]
      rfl) (fun s _=>by unfold z1Y;rw [if_neg (by simp)])
  have key:∀ (ys:List D.Agent) (k:Nat) (s:List D.Port),foldR (ρ:=List D.Port) (fun i s (a:D.Agent)=>Rnd.go (s++(List.range a.Ports.length).map fun k=>prt i k)) k ys s=Rnd.go (s++(ys.zipIdx k).flatMap fun x=>(List.range x.1.Ports.length).map fun j=>prt x.2 j):=by
    intro ys
    induction ys with
    | nil=>intro k s;simp [foldR]
    | cons y ys ih=>intro k s;unfold foldR;dsimp only;rw [ih,List.zipIdx_cons,List.flatMap_cons,List.append_assoc]
  rw [key] at h
  rw [show(([]:List D.Port),(0:Int))=(([]:List D.Port),((0:Nat):Int)) from rfl] at *
  rw [h.1]
  unfold portsL
  simp [aft,z3M]
theorem z6C {n:D.Net}{p:D.Port}:p∈portsL n↔∃ (i:Nat) (a:D.Agent) (k:Nat),n.Agents[i]? = some a∧k<a.Ports.length∧p=prt i k:=by
  unfold portsL
  rw [List.mem_flatMap]
  constructor
  · rintro⟨⟨a,i⟩,h1,h2⟩
    rw [List.mem_zipIdx_iff_getElem?] at h1
    obtain⟨k,hk,rfl⟩:=List.mem_map.1 h2
    exact⟨i,a,k,h1,List.mem_range.1 hk,rfl⟩
  · rintro⟨i,a,k,h1,h2,rfl⟩
    exact⟨(a,i),by rw [List.mem_zipIdx_iff_getElem?];exact h1,List.mem_map.2 ⟨k,List.mem_range.2 h2,rfl⟩⟩
theorem z8c {n:D.Net}{i k:Nat}{a:D.Agent}{q:D.Port}(ha:n.Agents[i]? = some a) (hq:a.Ports[k]? = some q):portAt n (prt i k)=some q:=by
  unfold portAt prt
  rw [z2H ha,Option.bind_some,z2H hq]
theorem z7r {fuel:Nat}{p:D.Port→Bool}{f:D.Port→Option Bool}{xs:List D.Port}(hf:18446744073709551616≤fuel) (hl:xs.length≤maxLen) (h:∀ n,n∈xs→f n=some (p n)):
    zh fuel xs f=some (xs.any p):=by
  unfold zh zx
  obtain⟨r,h1,h2⟩:=askIndex (xs:=xs) (p:=p) (body:=zg fuel xs f) (j:=zP fuel) (t:=()) hl hf rfl (fun i x hi hx=>by
    simp only [zg,z2H hx,h x (List.mem_of_getElem? hx),lt_t (show(i:Int)<xs.length by omega),if_true,Option.bind_some]) (by simp [zg])
  rw [h1,Option.bind_some,h2]
theorem za2 {n:D.Net}{fuel:Nat}(hf:18446744073709551616≤fuel) (hl:n.Agents.length≤1048576) (hs:sumL (fun a=>a.Ports.length) n.Agents≤1048576) (hp:∀ a,a∈n.Agents→a.Data.length≤maxLen∧a.Ports.length≤maxLen):z3i fuel n=some (netN n):=by
  have hm:maxLen=9223372036854775807:=rfl
  unfold z3i netN
  rw [z8j hf hl hp,Option.bind_some]
  cases hA:agentsN n.Agents with
  | false=>rfl
  | true=>
    let bad:D.Port→Bool:=fun p=>match portAt n p with
      | some q=>decide (q=p) || !(hasN n.Agents q && decide (portAt n q=some p))
      | none=>true
    rw [if_neg (by simp),netPorts hf hl hs,Option.bind_some,z7r (p:=bad) hf (by rw [z8Q];omega) (fun p hpm=>by
      obtain⟨i,a,k,ha,hk,rfl⟩:=z6C.1 hpm
      obtain⟨q,hq⟩:=z3J hk
      have hpa:=z8c ha hq
      unfold z31
      show _=some (match portAt n (prt i k) with | some q=>_ | none=>_)
      rw [z54,hpa,Option.bind_some,z8b]
      dsimp only
      by_cases h1:q=prt i k
      · rw [if_pos (decide_eq_true h1),decide_eq_true h1];rfl
      · rw [if_neg (by simpa using h1),decide_eq_false h1,z7U,Option.bind_some]
        cases h2:hasN n.Agents q with
        | false=>rfl
        | true=>
          obtain⟨_,_,b,r,_,h3,_,h4,_⟩:=z5b h2
          have hr:portAt n q=some r:=by unfold portAt;rw [h3,Option.bind_some,h4]
          rw [if_neg (by simp),z54,hr,Option.bind_some,z8b]
          by_cases h5:r=prt i k<;>simp [h5]),Option.bind_some]
    congr 1
    rw [Bool.true_and,Bool.eq_iff_iff,Bool.not_eq_true',List.any_eq_false,z5B (xs:=n.Agents) (p:=fun i a=>a.Ports.zipIdx.all fun y=>chkN n i y.2 y.1)]
    constructor
    · intro h i a ha
      simp only [Nat.zero_add]
      rw [z5B (p:=fun k p=>chkN n i k p)]
      intro k q hq
      simp only [Nat.zero_add]
      have hk:=(List.getElem?_eq_some_iff.1 hq).1
      have:=h (prt i k) (z6C.2 ⟨i,a,k,ha,hk,rfl⟩)
      simp only [bad,z8c ha hq,Bool.or_eq_true,Bool.not_eq_true',not_or,decide_eq_true_eq,Bool.not_eq_false] at this
      unfold chkN
      rw [decide_eq_false this.1,this.2];rfl
    · intro h p hpm
      obtain⟨i,a,k,ha,hk,rfl⟩:=z6C.1 hpm
      obtain⟨q,hq⟩:=z3J hk
      have h1:=h i a ha
      simp only [Nat.zero_add] at h1
      rw [z5B (p:=fun k p=>chkN n i k p)] at h1
      have h2:=h1 k q hq
      simp only [Nat.zero_add] at h2
      unfold chkN at h2
      rw [Bool.and_eq_true] at h2
      simp only [bad,z8c ha hq,h2.2,Bool.not_true,Bool.or_false,Bool.not_eq_true]
      simpa using h2.1
end Go.E


namespace Go.E
open Go.RowKit Go.Proofs
set_option linter.unusedSimpArgs false
set_option linter.unusedVariables false


theorem z4V {n:D.Net}{p:D.Port}(h:hasN n.Agents p=true):∃ a q,idx n.Agents p.Agent=some a∧idx a.Ports p.Slot=some q∧portAt n p=some q:=by
  obtain⟨_,_,a,q,_,h4,_,h6,_⟩:=z5b h
  exact⟨a,q,h4,h6,by unfold portAt;rw [h4,Option.bind_some,h6]⟩
theorem z5G {n:D.Net}(hn:netN n=true){i j:Int}{a:D.Agent}{q:D.Port}(ha:idx n.Agents i=some a) (hq:idx a.Ports j=some q):hasN n.Agents q=true:=by
  unfold netN at hn
  rw [Bool.and_eq_true] at hn
  obtain⟨h1,h2⟩:=z1N ha
  obtain⟨h3,h4⟩:=z1N hq
  have h5:=hn.2
  rw [z5B (xs:=n.Agents) (p:=fun i a=>a.Ports.zipIdx.all fun y=>chkN n i y.2 y.1)] at h5
  have h6:=h5 _ _ h2
  rw [z5B (p:=fun k p=>chkN n (0+i.toNat) k p)] at h6
  have h7:=h6 _ _ h4
  unfold chkN at h7
  rw [Bool.and_eq_true,Bool.and_eq_true] at h7
  exact h7.2.1
theorem z4u {n:D.Net}(hn:netN n=true){i:Int}{a:D.Agent}(ha:idx n.Agents i=some a):agN a=true:=by
  unfold netN agentsN at hn
  rw [Bool.and_eq_true,Bool.and_eq_true] at hn
  obtain⟨h1,h2⟩:=z1N ha
  have h5:=hn.1.2
  rw [z5B (xs:=n.Agents) (p:=fun i a=>agN a && ((a.Kind == 1) == (i == 0)))] at h5
  have h6:=h5 _ _ h2
  rw [Bool.and_eq_true] at h6
  exact h6.1
theorem z6S {n:D.Net}(hn:netN n=true):1≤n.Agents.length∧n.Agents.length≤600:=by
  unfold netN agentsN at hn
  rw [Bool.and_eq_true,Bool.and_eq_true] at hn
  simpa using hn.1.1


theorem z3R {a:D.Agent}(h:agN a=true):0≤a.Level∧a.Level≤8∧
    (a.Kind=4→a.Ports.length=3)∧(a.Kind=2→a.Ports.length=3)∧(a.Kind=3→a.Ports.length=3)∧(a.Kind=7→a.Ports.length=3)∧
    (a.Kind=8→a.Ports.length=2∧a.Data.length=1)∧(a.Kind=10→a.Ports.length=2)∧(a.Kind=11→a.Ports.length=2)∧a.Data.length≤4∧a.Ports.length≤4:=by
  unfold agN agentN at h
  rw [Bool.and_eq_true,Bool.and_eq_true,Bool.and_eq_true] at h
  obtain⟨h0,h1,h2,h3⟩:=h
  have hl:0≤a.Level∧a.Level≤8:=by
    unfold allowN at h2
    rw [Bool.and_eq_true,Bool.or_eq_true,Bool.and_eq_true] at h2
    rcases h2.2 with h | h
    · have:a.Level=0:=by simpa using h
      omega
    · simpa using h.2
  have hp:=of_decide_eq_true h1
  have hk:∀ k,a.Kind=k→k≠9→portsN k 0=a.Ports.length:=fun k hk h9=>by
    rw [hk,if_neg h9] at hp
    exact hp
  have kk:1≤a.Kind∧a.Kind≤12:=by
    unfold allowN at h2
    rw [Bool.and_eq_true] at h2
    simpa using h2.1
  refine⟨hl.1,hl.2,fun h=>?_,fun h=>?_,fun h=>?_,fun h=>?_,fun h=>⟨?_,?_⟩,fun h=>?_,fun h=>?_,?_,?_⟩
  · have:=hk 4 h (by decide);simp [portsN] at this;omega
  · have:=hk 2 h (by decide);simp [portsN] at this;omega
  · have:=hk 3 h (by decide);simp [portsN] at this;omega
  · have:=hk 7 h (by decide);simp [portsN] at this;omega
  · have:=hk 8 h (by decide);simp [portsN] at this;omega
  · rw [h] at h3;unfold contentN at h3;simp at h3;omega
  · have:=hk 10 h (by decide);simp [portsN] at this;omega
  · have:=hk 11 h (by decide);simp [portsN] at this;omega
  · unfold contentN at h3
    rcases kinds a.Kind with hh | hh
    · rcases hh with hh | hh | hh | hh | hh | hh | hh | hh | hh | hh | hh | hh<;>rw [hh] at h3<;>simp [-List.length_eq_zero_iff] at h3<;>omega
    · exact absurd kk hh
  · rcases kinds a.Kind with hh | hh
    · rcases hh with hh | hh | hh | hh | hh | hh | hh | hh | hh | hh | hh | hh<;>rw [hh] at hp<;>simp [portsN] at hp<;>(try split at hp)<;>omega
    · exact absurd kk hh


abbrev SS:=List (List Int)
abbrev BS:=List (Int × SS)

structure Z where
  st:Nat
  ent:List Int
  org:List Int

def entZ (a:D.Agent) (p:D.Port) (z:Z):Z:=⟨z.st+1,if a.Kind=2∧p.Slot=1 then z.ent else z.ent++[p.Agent],z.org⟩


def walkM (l:List D.Agent):Nat→Z→D.Port→SS→Int ⊕ (Z × D.Port × SS)
  | 0,_,_,_=>.inl 4
  | n+1,z,p,ss=>match idx l p.Agent with
    | none=>.inl 99
    | some a=>if a.Kind≠4 then .inr (entZ a p z,p,ss) else match idx ss a.Level with
      | none=>.inl 99
      | some s=>if p.Slot>0 then(match idx a.Ports 0 with
          | none=>.inl 99
          | some q=>walkM l n (entZ a p z) q (ss.set a.Level.toNat (p.Slot::s))) else match s with
        | []=>.inl 13
        | t::s'=>match idx a.Ports t with
          | none=>.inl 99
          | some q=>walkM l n (entZ a p z) q (ss.set a.Level.toNat s')

def levelAt (l:List D.Agent) (i:Int):Nat:=match idx l i with
  | some a=>a.Level.toNat
  | none=>0

def varM (l:List D.Agent) (lam:Int) (ss:SS):BS→Nat→Option Int
  | [],_=>none
  | b::bs,k=>if b.1=lam∧ss.take (levelAt l lam)=b.2.take (levelAt l lam) then some k else varM l lam ss bs (k+1)

def numsFrom (n:Nat):List Int:=(List.range n).map fun(i:Nat)=>((i:Int)+1)

def shapeM (l:List D.Agent) (a:D.Agent) (p:D.Port) (ss:SS) (bs:BS):Option (Int × Int × List Int × List Int):=
  if a.Kind=2 then(if p.Slot=0 then some (4,0,[],[2]) else if p.Slot=1 then(varM l p.Agent ss bs 0).map (fun k=>(1,k,[],[])) else none)
  else if a.Kind=3 then(if p.Slot=2 then some (5,0,[],[0,1]) else none)
  else if a.Kind=6 then some (2,a.Value,[],[])
  else if a.Kind=7 then(if p.Slot=2 then some (3,a.Value,[],[0,1]) else none)
  else if a.Kind=8 then(if p.Slot=1 then some (3,a.Value,[],[0]) else none)
  else if a.Kind=9 then(if p.Slot=0 then some (8,a.Value,[],numsFrom (a.Ports.length - 1)) else none)
  else if a.Kind=10 then(if p.Slot=1 then some (9,0,a.Data,[0]) else none)
  else if a.Kind=11 then(if p.Slot=1 then some (10,0,a.Data,[0]) else none)
  else if a.Kind=12 then some (11,a.Value,[],[])
  else none


def kidsM (rec:Z→D.Port→Int ⊕ (D.Core × Z)) (a:D.Agent):List Int→Z→List D.Core→Int ⊕ (List D.Core × Z)
  | [],z,cs=>.inr (cs,z)
  | s::ss,z,cs=>match idx a.Ports s with
    | none=>.inl 99
    | some q=>match rec z q with
      | .inl c=>.inl c
      | .inr (c,z')=>kidsM rec a ss z' (cs++[c])


def stepM (l:List D.Agent) (k:Nat) (rec:SS→BS→Z→D.Port→Int ⊕ (D.Core × Z)) (ss:SS) (bs:BS) (z:Z) (p:D.Port):Int ⊕ (D.Core × Z):=
  match walkM l (4000 - z.st) z p ss with
  | .inl c=>.inl c
  | .inr (z1,p1,s1)=>match idx l p1.Agent with
    | none=>.inl 99
    | some a=>match shapeM l a p1 s1 bs with
      | none=>.inl 13
      | some (kd,v,d,slots)=>
        if z1.org.length≥400∨k=0 then .inl 4 else
        if a.Kind=8 then
          (if z1.org.length≥399∨k≤1 then .inl 4 else match idx a.Data 0 with
            | none=>.inl 99
            | some x=>match kidsM (rec s1 bs) a slots ⟨z1.st,z1.ent,z1.org++[p1.Agent]++[-1]⟩ [⟨2,x,[],[]⟩] with
              | .inl c=>.inl c
              | .inr (cs,z2)=>.inr (⟨kd,v,d,cs⟩,z2))
        else match kidsM (rec s1 (if kd=4 then(p1.Agent,s1)::bs else bs)) a slots ⟨z1.st,z1.ent,z1.org++[p1.Agent]⟩ [] with
          | .inl c=>.inl c
          | .inr (cs,z2)=>.inr (⟨kd,v,d,cs⟩,z2)
def readM (l:List D.Agent):Nat→SS→BS→Z→D.Port→Int ⊕ (D.Core × Z)
  | 0=>stepM l 0 fun _ _ _ _=>.inl 99
  | k+1=>stepM l (k+1) (readM l k)


def StOk (n:Nat) (s:List Int):Prop:=s.length≤n∧∀ t,t∈s→t=1∨t=2
def SsOk (n:Nat) (ss:SS):Prop:=ss.length=9∧∀ s,s∈ss→StOk n s
def BsOk (l:List D.Agent) (bs:BS):Prop:=∀ b,b∈bs→SsOk 4000 b.2∧∃ a,idx l b.1=some a
def EntOk (l:List D.Agent) (es:List Int):Prop:=∀ e,e∈es→0≤e∧e.toNat<l.length
structure ZOk (l:List D.Agent) (z:Z):Prop where
  st:z.st≤4000
  len:z.ent.length≤z.st
  ent:EntOk l z.ent
  org:z.org.length≤400

theorem SsOk.mono {n m:Nat}{ss:SS}(h:SsOk n ss) (hm:n≤m):SsOk m ss:=⟨h.1,fun s hs=>⟨Nat.le_trans (h.2 s hs).1 hm,(h.2 s hs).2⟩⟩
theorem SsOk.set {n:Nat}{ss:SS}{s:List Int}(h:SsOk n ss) (hs:StOk n s) (i:Nat):SsOk n (ss.set i s):=⟨by rw [List.length_set];exact h.1,fun t ht=>by
  rcases List.mem_or_eq_of_mem_set ht with h1 | h1
  · exact h.2 t h1
  · rw [h1];exact hs⟩
theorem SsOk.at {n:Nat}{ss:SS}{i:Int}(h:SsOk n ss) (h0:0≤i) (h8:i≤8):∃ s,idx ss i=some s∧StOk n s:=by
  obtain⟨s,hs⟩:=z3J (xs:=ss) (i:=i.toNat) (by rw [h.1];omega)
  exact⟨s,by rw [z3m h0,hs],h.2 s (List.mem_of_getElem? hs)⟩

theorem z9G {l:List D.Agent}{a:D.Agent}{p:D.Port}{z:Z}(ha:idx l p.Agent=some a) (he:EntOk l z.ent):EntOk l (entZ a p z).ent:=by
  unfold entZ
  dsimp only
  split
  · exact he
  · intro e h
    rcases List.mem_append.1 h with h | h
    · exact he e h
    · simp only [List.mem_singleton] at h
      subst h
      obtain⟨h0,h1⟩:=z1N ha
      exact⟨h0,(List.getElem?_eq_some_iff.1 h1).1⟩


theorem z7o {a:D.Agent}{p:D.Port}{z:Z}(h:z.ent.length≤z.st):(entZ a p z).ent.length≤(entZ a p z).st:=by
  unfold entZ
  dsimp only
  split
  · omega
  · simp;omega
theorem z66 {l:List D.Agent}:∀ (k:Nat) (z:Z) (p:D.Port) (ss:SS),z.ent.length≤z.st→∀ {z' p' ss'},walkM l k z p ss=.inr (z',p',ss')→z'.ent.length≤z'.st
  | 0,_,_,_,_,_,_,_,h=>by cases h
  | k+1,z,p,ss,hz,z',p',ss',h=>by
    unfold walkM at h
    split at h
    · cases h
    · rename_i a ha
      have he:=z7o (a:=a) (p:=p) hz
      split at h
      · cases h;exact he
      · split at h
        · cases h
        · split at h
          · split at h
            · cases h
            · exact z66 k _ _ _ he h
          · split at h
            · cases h
            · split at h
              · cases h
              · exact z66 k _ _ _ he h
theorem z84 {n:D.Net}(hn:netN n=true):∀ (k:Nat) (z:Z) (p:D.Port) (ss:SS),z.st+k=4000→hasN n.Agents p=true→SsOk z.st ss→EntOk n.Agents z.ent→
    match walkM n.Agents k z p ss with
    | .inl c=>c=4∨c=13
    | .inr (z',p',ss')=>hasN n.Agents p'=true∧SsOk z'.st ss'∧z'.st≤4000∧z.st<z'.st∧EntOk n.Agents z'.ent∧z'.org=z.org∧∃ a,idx n.Agents p'.Agent=some a∧a.Kind≠4
  | 0,z,p,ss,_,_,_,_=>.inl rfl
  | k+1,z,p,ss,hk,hp,hs,he=>by
    obtain⟨a,q0,ha,hq0,_⟩:=z4V hp
    have hf:=z3R (z4u hn ha)
    unfold walkM
    rw [ha]
    dsimp only
    have hE:=z9G (z:=z) ha he
    by_cases h4:a.Kind=4
    · rw [if_neg (by simpa using h4)]
      obtain⟨s,hsi,hso⟩:=hs.at hf.1 hf.2.1
      rw [hsi]
      dsimp only
      have hpl:=hf.2.2.1 h4
      have key:∀ (t:Int) (s':List Int),(t=0∨t=1∨t=2)→StOk (z.st+1) s'→match (match idx a.Ports t with
          | none=>(.inl 99:Int ⊕ (Z × D.Port × SS))
          | some q=>walkM n.Agents k (entZ a p z) q (ss.set a.Level.toNat s')) with
          | .inl c=>c=4∨c=13
          | .inr (z',p',ss')=>hasN n.Agents p'=true∧SsOk z'.st ss'∧z'.st≤4000∧z.st<z'.st∧EntOk n.Agents z'.ent∧z'.org=z.org∧∃ a,idx n.Agents p'.Agent=some a∧a.Kind≠4:=fun t s' ht hs'=>by
        obtain⟨q,hq⟩:=z3J (xs:=a.Ports) (i:=t.toNat) (by omega)
        have hqi:idx a.Ports t=some q:=by rw [z3m (by omega),hq]
        rw [hqi]
        dsimp only
        have ih:=z84 hn k (entZ a p z) q (ss.set a.Level.toNat s') (by show z.st+1+k=4000;omega) (z5G hn ha hqi) ((hs.mono (Nat.le_succ _)).set hs' _) hE
        cases hw:walkM n.Agents k (entZ a p z) q (ss.set a.Level.toNat s') with
        | inl c=>rw [hw] at ih;exact ih
        | inr x=>
          obtain⟨z',p',ss'⟩:=x
          rw [hw] at ih
          obtain⟨i1,i2,i3,i4,i5,i6,i7⟩:=ih
          exact⟨i1,i2,i3,by have:z.st+1<z'.st:=i4;omega,i5,i6,i7⟩
      by_cases hsl:p.Slot>0
      · rw [if_pos hsl]
        refine key 0 (p.Slot::s) (.inl rfl) ⟨by simp;exact hso.1,fun t ht=>?_⟩
        rcases List.mem_cons.1 ht with h | h
        · obtain⟨_,_,a',_,_,g4,_,_,_,g8⟩:=z5b hp
          rw [ha] at g4
          obtain rfl:=Option.some.inj g4
          omega
        · exact hso.2 t h
      · rw [if_neg hsl]
        cases s with
        | nil=>exact .inr rfl
        | cons t s'=>
          have ht:=hso.2 t (by simp)
          exact key t s' (by omega) ⟨by have:=hso.1;simp at this;omega,fun u hu=>hso.2 u (by simp [hu])⟩
    · rw [if_pos h4]
      exact⟨hp,hs.mono (Nat.le_succ _),by show z.st+1≤4000;omega,Nat.lt_succ_self _,hE,rfl,a,ha,h4⟩

theorem za0 {n:Nat}{x:Int}(h:x∈numsFrom n):1≤x∧x≤n:=by
  unfold numsFrom at h
  obtain⟨i,hi,rfl⟩:=List.mem_map.1 h
  have:=List.mem_range.1 hi
  omega
theorem z7d (n:Nat):(numsFrom n).length=n:=by simp [numsFrom]


theorem z6r {l:List D.Agent}{a:D.Agent}(hf:agN a=true){p:D.Port}{ss:SS}{bs:BS}{kd v:Int}{d slots:List Int}(h:shapeM l a p ss bs=some (kd,v,d,slots)):
    slots.length≤3∧(∀ s,s∈slots→0≤s∧s<a.Ports.length)∧(kd=4→a.Kind=2)∧(a.Kind=8→kd≠4∧a.Data.length=1)∧d.length≤4∧1≤kd∧kd≤11:=by
  obtain⟨_,_,f4,f2,f3,f7,f8,f10,f11,fd,fp⟩:=z3R hf
  unfold shapeM at h
  split at h
  · rename_i hk
    have:=f2 hk
    split at h
    · cases h;exact⟨by simp,fun s hs=>by simp at hs;omega,fun _=>hk,fun h=>by omega,by simp,by decide,by decide⟩
    · split at h
      · cases hv:varM l p.Agent ss bs 0 with
        | none=>rw [hv] at h;cases h
        | some k=>rw [hv] at h;cases h;exact⟨by simp,fun s hs=>by simp at hs,fun h=>by omega,fun h=>by omega,by simp,by decide,by decide⟩
      · cases h
  split at h
  · rename_i _ hk
    have:=f3 hk
    split at h
    · cases h;exact⟨by simp,fun s hs=>by simp at hs;omega,fun h=>by omega,fun h=>by omega,by simp,by decide,by decide⟩
    · cases h
  split at h
  · cases h;exact⟨by simp,fun s hs=>by simp at hs,fun h=>by omega,fun h=>by omega,by simp,by decide,by decide⟩
  split at h
  · rename_i _ _ _ hk
    have:=f7 hk
    split at h
    · cases h;exact⟨by simp,fun s hs=>by simp at hs;omega,fun h=>by omega,fun h=>by omega,by simp,by decide,by decide⟩
    · cases h
  split at h
  · rename_i _ _ _ _ hk
    have:=f8 hk
    split at h
    · cases h;exact⟨by simp,fun s hs=>by simp at hs;omega,fun h=>by omega,fun _=>⟨by decide,this.2⟩,by simp,by decide,by decide⟩
    · cases h
  split at h
  · rename_i _ _ _ _ _ hk
    split at h
    · cases h
      refine⟨by rw [z7d];omega,fun s hs=>?_,fun h=>by omega,fun h=>by omega,by simp,by decide,by decide⟩
      have:=za0 hs
      omega
    · cases h
  split at h
  · rename_i _ _ _ _ _ _ hk
    have:=f10 hk
    split at h
    · cases h;exact⟨by simp,fun s hs=>by simp at hs;omega,fun h=>by omega,fun h=>by omega,fd,by decide,by decide⟩
    · cases h
  split at h
  · rename_i _ _ _ _ _ _ _ hk
    have:=f11 hk
    split at h
    · cases h;exact⟨by simp,fun s hs=>by simp at hs;omega,fun h=>by omega,fun h=>by omega,fd,by decide,by decide⟩
    · cases h
  split at h
  · cases h;exact⟨by simp,fun s hs=>by simp at hs,fun h=>by omega,fun h=>by omega,by simp,by decide,by decide⟩
  · cases h
end Go.E


namespace Go.E
open Go.RowKit Go.Proofs
set_option linter.unusedSimpArgs false
set_option linter.unusedVariables false


def timesOf (l:List D.Agent) (es:List Int):List Int:=l.zipIdx.map fun x=>if x.1.Kind=4 then 0 else((es.count (x.2:Int):Nat):Int)
theorem z4j {l:List D.Agent}{es:List Int}:(timesOf l es).length=l.length:=by simp [timesOf]
theorem z5c {l:List D.Agent}{es:List Int}{i:Nat}{a:D.Agent}(ha:l[i]? = some a):(timesOf l es)[i]? = some (if a.Kind=4 then 0 else((es.count (i:Int):Nat):Int)):=by
  unfold timesOf
  rw [List.getElem?_map,List.getElem?_zipIdx,ha]
  simp
theorem z9j {l:List D.Agent}:timesOf l []=List.replicate l.length 0:=by
  apply List.ext_getElem?
  intro i
  rw [List.getElem?_replicate]
  rcases Nat.lt_or_ge i l.length with h | h
  · obtain⟨a,ha⟩:=z3J h
    rw [z5c ha,if_pos h]
    simp
  · rw [if_neg (by omega),List.getElem?_eq_none (by rw [z4j];exact h)]
theorem z9k {l:List D.Agent}{es:List Int}{p:Int}{a:D.Agent}(ha:idx l p=some a) (h4:a.Kind=4):timesOf l (es++[p])=timesOf l es:=by
  apply List.ext_getElem?
  intro i
  rcases Nat.lt_or_ge i l.length with h | h
  · obtain⟨b,hb⟩:=z3J h
    rw [z5c hb,z5c hb]
    by_cases hk:b.Kind=4
    · rw [if_pos hk,if_pos hk]
    · rw [if_neg hk,if_neg hk,List.count_append]
      have:¬ p=(i:Int):=fun e=>by
        rw [e,z2H hb] at ha
        cases ha
        exact hk h4
      simp [this]
  · rw [List.getElem?_eq_none (by rw [z4j];exact h),List.getElem?_eq_none (by rw [z4j];exact h)]
theorem z9i {l:List D.Agent}{es:List Int}{p:Int}{a:D.Agent}(ha:idx l p=some a) (h4:a.Kind≠4):
    idx (timesOf l es) p=some ((es.count p:Nat):Int)∧(timesOf l es).set p.toNat (((es.count p:Nat):Int)+1)=timesOf l (es++[p]):=by
  obtain⟨h0,h1⟩:=z1N ha
  have hp:((p.toNat:Nat):Int)=p:=by omega
  have hl:=(List.getElem?_eq_some_iff.1 h1).1
  refine⟨by rw [z3m h0,z5c h1,if_neg h4,hp],?_⟩
  apply List.ext_getElem?
  intro i
  rcases Nat.lt_or_ge i l.length with h | h
  · obtain⟨b,hb⟩:=z3J h
    rw [z5c hb]
    by_cases hi:i=p.toNat
    · subst hi
      rw [List.getElem?_set_self (by rw [z4j];exact hl)]
      rw [h1] at hb
      cases hb
      rw [if_neg h4,hp,List.count_append]
      simp
    · rw [List.getElem?_set_ne (by omega),z5c hb]
      by_cases hk:b.Kind=4
      · rw [if_pos hk,if_pos hk]
      · rw [if_neg hk,if_neg hk,List.count_append]
        have:¬ p=(i:Int):=fun e=>hi (by omega)
        simp [this]
  · rw [List.getElem?_eq_none (by rw [List.length_set,z4j];exact h),List.getElem?_eq_none (by rw [z4j];exact h)]


def img (l:List D.Agent) (z:Z) (L:List ByteArray):D.reading:=⟨⟨l⟩,z.st,z.org.length,z.org,timesOf l z.ent,L⟩


theorem z7q {fuel:Nat}{x:Int}(h0:-9223372036854775808≤x) (h1:x≤9223372036854775807):∃ t,z2i fuel x=some t∧t.size≤21:=by
  unfold z2i z2J
  rw [if_pos ⟨rfl,h0,h1⟩,Option.bind_some]
  exact⟨_,rfl,by rw [ByteArray.size,List.size_toArray];exact Lib.itoa_length_le x h0 h1⟩
theorem z8T {fuel:Nat}{p:D.Port}(h0:0≤p.Agent) (h1:p.Agent≤1048576) (h2:0≤p.Slot) (h3:p.Slot≤1048576):∃ t,z2R fuel p=some t∧t.size≤44:=by
  obtain⟨s,e1,e2⟩:=z7q (fuel:=fuel) (x:=p.Agent) (by omega) (by omega)
  obtain⟨t,g1,g2⟩:=z7q (fuel:=fuel) (x:=p.Slot) (by omega) (by omega)
  have d1:(⟨#[46]⟩:ByteArray).size=1:=rfl
  have d2:(⟨#[59]⟩:ByteArray).size=1:=rfl
  unfold z2R
  rw [e1,Option.bind_some,if_pos (decide_eq_true (by rw [d1];omega)),g1,Option.bind_some,if_pos (decide_eq_true (by rw [ByteArray.size_append,d1];omega)),if_pos (decide_eq_true (by rw [ByteArray.size_append,ByteArray.size_append,d1,d2];omega))]
  exact⟨_,rfl,by rw [ByteArray.size_append,ByteArray.size_append,ByteArray.size_append,d1,d2];omega⟩

theorem z6Z {fuel:Nat}{l:List D.Agent}{z:Z}{L:List ByteArray}{p:D.Port}{a:D.Agent}(ha:idx l p.Agent=some a) (hst:z.st≤4000) (he:EntOk l z.ent) (hl:z.ent.length≤4000):
    z1H fuel (img l z L) p=if z.st=4000 then some (4,⟨⟨l⟩,4001,z.org.length,z.org,timesOf l z.ent,L⟩) else some (0,img l (entZ a p z) L):=by
  unfold z1H z11 img
  dsimp only
  rw [zd (n:=(z.st:Int)+1) (by omega) (by omega)]
  by_cases h:z.st=4000
  · rw [if_pos (decide_eq_true (by omega)),if_pos h,h];rfl
  · rw [if_neg (by simp;omega),if_neg h,ha,Option.bind_some]
    have hc:z.ent.count p.Agent≤z.ent.length:=List.count_le_length
    by_cases h4:a.Kind=4
    · have hent:timesOf l (entZ a p z).ent=timesOf l z.ent:=by
        unfold entZ
        dsimp only
        rw [if_neg (by rw [h4];rintro⟨h,_⟩;cases h)]
        exact z9k ha h4
      rw [if_neg (by simp [h4]),if_neg (by simp),hent]
      rfl
    · obtain⟨t1,t2⟩:=z9i (es:=z.ent) ha h4
      obtain⟨i0,i1⟩:=z1N ha
      have i2:=(List.getElem?_eq_some_iff.1 i1).1
      have go:(if true=true then((idx (timesOf l z.ent) p.Agent).bind fun b=>(if decide (0≤p.Agent∧p.Agent.toNat<(timesOf l z.ent).length)=true then some ((0:Int),(⟨(⟨l⟩:D.Net),(z.st:Int)+1,z.org.length,z.org,((timesOf l z.ent).set p.Agent.toNat (w64 (b+1))),L⟩:D.reading)) else none)) else some (0,(⟨(⟨l⟩:D.Net),(z.st:Int)+1,z.org.length,z.org,timesOf l z.ent,L⟩:D.reading)))=some (0,⟨⟨l⟩,(z.st:Int)+1,z.org.length,z.org,timesOf l (z.ent++[p.Agent]),L⟩):=by
        rw [if_pos rfl,t1,Option.bind_some,if_pos (decide_eq_true ⟨i0,by rw [z4j];exact i2⟩),zd (by omega) (by omega),t2]
      rw [if_pos (by simpa using h4)]
      by_cases h2:a.Kind=2
      · rw [if_pos (by simpa using h2)]
        by_cases h1:p.Slot=1
        · rw [if_neg (by simp [h1])]
          have:(entZ a p z).ent=z.ent:=by unfold entZ;dsimp only;rw [if_pos ⟨h2,h1⟩]
          rw [this];rfl
        · have h1':(!(p.Slot == 1))=true:=by simpa using h1
          rw [h1',go]
          have:(entZ a p z).ent=z.ent++[p.Agent]:=by unfold entZ;dsimp only;rw [if_neg (fun h=>h1 h.2)]
          rw [this];rfl
      · rw [if_neg (by simpa using h2),go]
        have:(entZ a p z).ent=z.ent++[p.Agent]:=by unfold entZ;dsimp only;rw [if_neg (fun h=>h2 h.1)]
        rw [this];rfl

def fanR (R:D.reading) (a:D.Agent) (p:D.Port) (ss:SS) (s:List Int):Option (D.Port × Bool × D.reading × SS):=
  if p.Slot>0 then(match idx a.Ports 0 with
    | none=>none
    | some q=>some (q,true,R,ss.set a.Level.toNat (p.Slot::s))) else match s with
    | []=>some (⟨0,0⟩,false,R,ss)
    | t::s'=>match idx a.Ports t with
      | none=>none
      | some q=>some (q,true,R,ss.set a.Level.toNat s')
theorem za4 {fuel:Nat}{n:D.Net}(hn:netN n=true){z:Z}{L:List ByteArray}{p:D.Port}{ss:SS}{a:D.Agent}(ha:idx n.Agents p.Agent=some a){s:List Int}(hsi:idx ss a.Level=some s):
    z1u fuel (img n.Agents z L) p ss=fanR (img n.Agents z L) a p ss s:=by
  have hf:=z3R (z4u hn ha)
  have hb:decide (0≤a.Level∧a.Level.toNat<9)=true:=decide_eq_true (by omega)
  have hpe:∀ t:Int,zN fuel (⟨n.Agents⟩:D.Net) (⟨p.Agent,t⟩:D.Port)=idx a.Ports t:=fun t=>by
    rw [z54];unfold portAt;dsimp only;rw [ha,Option.bind_some]
  unfold z1u fanR img
  dsimp only
  rw [ha,Option.bind_some]
  by_cases hsl:p.Slot>0
  · rw [if_pos (decide_eq_true hsl),if_pos hsl,if_pos hb,hsi,Option.bind_some,if_pos hb,hpe]
    cases idx a.Ports 0<;>rfl
  · rw [if_neg (by simpa using hsl),if_neg hsl,if_pos hb,hsi,Option.bind_some]
    cases s with
    | nil=>rfl
    | cons t s'=>
      rw [if_neg (by simp)]
      show((some t).bind fun y86=>_)=_
      rw [Option.bind_some,if_pos hb,hpe]
      dsimp only
      cases idx a.Ports t<;>rfl
end Go.E


namespace Go.E
open Go.RowKit Go.Proofs
set_option linter.unusedSimpArgs false
set_option linter.unusedVariables false

theorem z97 {fuel:Nat}{n:D.Net}(hn:netN n=true){z0:Z}{L0 L:List ByteArray}:∀ (k:Nat) (z:Z) (p:D.Port) (ss:SS) (lab:ByteArray) (fu:Nat),z.st+k=4000→hasN n.Agents p=true→SsOk z.st ss→EntOk n.Agents z.ent→z.ent.length≤z.st→lab.size≤44*z.st→k<fu→
    match walkM n.Agents k z p ss with
    | .inl c=>∃ co r',iter (za fuel (img n.Agents z0 L0)) fu (lab,ss,p.Agent,p.Slot,(z.st:Int),(z.org.length:Int),z.org,timesOf n.Agents z.ent,L)=some (.inr (co,c,r'))
    | .inr (z',p',ss')=>∃ lab':ByteArray,lab'.size≤176000∧iter (za fuel (img n.Agents z0 L0)) fu (lab,ss,p.Agent,p.Slot,(z.st:Int),(z.org.length:Int),z.org,timesOf n.Agents z.ent,L)=some (.inl (lab',ss',p'.Agent,p'.Slot,(z'.st:Int),(z'.org.length:Int),z'.org,timesOf n.Agents z'.ent,L)):=by
  intro k
  induction k with
  | zero=>
    rintro z ⟨pa,ps⟩ ss lab fu hk hp hs he hl hlab hfu
    obtain⟨fu,rfl⟩:∃ f',fu=f'+1:=⟨fu - 1,by omega⟩
    obtain⟨a,q0,ha,_,_⟩:=z4V hp
    have hE:=z6Z (fuel:=fuel) (L:=L) ha (by omega) he (by omega)
    rw [if_pos (show z.st=4000 by omega)] at hE
    unfold img at hE
    obtain⟨co,r',hb⟩:∃ co r',za fuel (img n.Agents z0 L0) (lab,ss,pa,ps,(z.st:Int),(z.org.length:Int),z.org,timesOf n.Agents z.ent,L)=some (.ret (co,4,r')):=by
      unfold za img
      dsimp only
      rw [hE,Option.bind_some,if_pos (by simp)]
      exact⟨_,_,rfl⟩
    unfold walkM
    exact⟨co,r',by simp only [iter,hb]⟩
  | succ k ih=>
    rintro z ⟨pa,ps⟩ ss lab fu hk hp hs he hl hlab hfu
    obtain⟨fu,rfl⟩:∃ f',fu=f'+1:=⟨fu - 1,by omega⟩
    obtain⟨a,q0,ha,hq0,_⟩:=z4V hp
    dsimp only at ha
    have hag:=z4u hn ha
    have hf:=z3R hag
    have hE:=z6Z (fuel:=fuel) (L:=L) (p:=⟨pa,ps⟩) ha (by omega) he (by omega)
    rw [if_neg (show ¬ z.st=4000 by omega)] at hE
    obtain⟨h1,h2,a',q',g1,g2,g3,g4,g5,g6⟩:=z5b hp
    rw [ha] at g2
    obtain rfl:=Option.some.inj g2
    have hlen:=(z6S hn).2
    obtain⟨tx,t1,t2⟩:=z8T (fuel:=fuel) (p:=⟨pa,ps⟩) h1 (by dsimp only at g5 ⊢;omega) h2 (by dsimp only at g6 ⊢;omega)
    have hsz:(lab++tx).size≤44*(z.st+1):=by rw [ByteArray.size_append];omega
    have hE':=z9G (p:=⟨pa,ps⟩) (z:=z) ha he
    have hl':=z7o (a:=a) (p:=⟨pa,ps⟩) hl
    have hbody:za fuel (img n.Agents z0 L0) (lab,ss,pa,ps,(z.st:Int),(z.org.length:Int),z.org,timesOf n.Agents z.ent,L)=
        if(a.Kind != 4)=true then some (.brk ((lab++tx),ss,pa,ps,((entZ a ⟨pa,ps⟩ z).st:Int),(z.org.length:Int),z.org,timesOf n.Agents (entZ a ⟨pa,ps⟩ z).ent,L)) else
        ((z1u fuel (img n.Agents (entZ a ⟨pa,ps⟩ z) L) ⟨pa,ps⟩ ss).bind fun b=>(if(!b.2.1)=true then some (.ret ((⟨0,0,[],[]⟩:D.Core),13,(⟨(⟨n.Agents⟩:D.Net),b.2.2.1.entered,b.2.2.1.nodes,b.2.2.1.origins,b.2.2.1.times,b.2.2.1.labels⟩:D.reading))) else some (.next ((lab++tx),b.2.2.2,b.1.Agent,b.1.Slot,b.2.2.1.entered,b.2.2.1.nodes,b.2.2.1.origins,b.2.2.1.times,b.2.2.1.labels)))):=by
      unfold img at hE
      unfold za img
      dsimp only
      rw [hE,Option.bind_some]
      rw [if_neg (by simp),t1,Option.bind_some,if_pos (decide_eq_true (by omega)),ha,Option.bind_some]
      rfl
    unfold walkM
    rw [ha]
    dsimp only
    simp only [iter]
    rw [hbody]
    by_cases h4:a.Kind=4
    · rw [if_neg (by simpa using h4),if_neg (by simpa using h4)]
      obtain⟨s,hsi,hso⟩:=hs.at hf.1 hf.2.1
      rw [za4 hn ha hsi,hsi]
      dsimp only
      unfold fanR
      have hpl:=hf.2.2.1 h4
      have go:∀ (t:Int) (s':List Int) (q:D.Port),idx a.Ports t=some q→StOk (z.st+1) s'→
          match walkM n.Agents k (entZ a ⟨pa,ps⟩ z) q (ss.set a.Level.toNat s') with
          | .inl c=>∃ co r',iter (za fuel (img n.Agents z0 L0)) fu ((lab++tx),ss.set a.Level.toNat s',q.Agent,q.Slot,((entZ a ⟨pa,ps⟩ z).st:Int),((entZ a ⟨pa,ps⟩ z).org.length:Int),(entZ a ⟨pa,ps⟩ z).org,timesOf n.Agents (entZ a ⟨pa,ps⟩ z).ent,L)=some (.inr (co,c,r'))
          | .inr (z',p',ss')=>∃ lab':ByteArray,lab'.size≤176000∧iter (za fuel (img n.Agents z0 L0)) fu ((lab++tx),ss.set a.Level.toNat s',q.Agent,q.Slot,((entZ a ⟨pa,ps⟩ z).st:Int),((entZ a ⟨pa,ps⟩ z).org.length:Int),(entZ a ⟨pa,ps⟩ z).org,timesOf n.Agents (entZ a ⟨pa,ps⟩ z).ent,L)=some (.inl (lab',ss',p'.Agent,p'.Slot,(z'.st:Int),(z'.org.length:Int),z'.org,timesOf n.Agents z'.ent,L)):=fun t s' q hq hs'=>
        ih (entZ a ⟨pa,ps⟩ z) q (ss.set a.Level.toNat s') (lab++tx) fu (by show z.st+1+k=4000;omega) (z5G hn ha hq) ((hs.mono (Nat.le_succ _)).set hs' _) hE' hl' hsz (by omega)
      by_cases hsl:ps>0
      · rw [if_pos hsl,if_pos hsl]
        obtain⟨q,hq⟩:=z3J (xs:=a.Ports) (i:=(0:Int).toNat) (by omega)
        have hqi:idx a.Ports 0=some q:=by rw [z3m (by omega),hq]
        rw [hqi]
        dsimp only
        rw [Option.bind_some,if_neg (by simp)]
        dsimp only
        exact go 0 (ps::s) q hqi ⟨by simp;exact hso.1,fun t ht=>by
          rcases List.mem_cons.1 ht with h | h
          · dsimp only at g6;omega
          · exact hso.2 t h⟩
      · rw [if_neg hsl,if_neg hsl]
        cases s with
        | nil=>
          dsimp only
          rw [Option.bind_some,if_pos (by simp)]
          exact⟨_,_,rfl⟩
        | cons t s'=>
          have ht:=hso.2 t (by simp)
          obtain⟨q,hq⟩:=z3J (xs:=a.Ports) (i:=t.toNat) (by omega)
          have hqi:idx a.Ports t=some q:=by rw [z3m (by omega),hq]
          dsimp only
          rw [hqi]
          dsimp only
          rw [Option.bind_some,if_neg (by simp)]
          dsimp only
          exact go t s' q hqi ⟨by have:=hso.1;simp at this;omega,fun u hu=>hso.2 u (by simp [hu])⟩
    · rw [if_pos (by simpa using h4),if_pos (by simpa using h4)]
      exact⟨_,by omega,rfl⟩
end Go.E


