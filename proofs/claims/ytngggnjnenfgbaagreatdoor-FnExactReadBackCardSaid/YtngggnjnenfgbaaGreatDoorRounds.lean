/- Agents: the reference's and the program's tests of one agent agree. Conditions: the data within the law's bound. -/
import Derived.Test.YtngggnjnenfgbaaGreatDoorLoops
import Derived.Test.YtngggnjnenfgbaaGreatDoorFA
namespace Go.E
open Go.RowKit Go.Proofs
set_option linter.unusedSimpArgs false
set_option linter.unusedVariables false

theorem z4E {fuel:Nat}{a l h:Int}:zG fuel a l h=some (decide (l≤a∧a≤h)):=by
  unfold zG
  by_cases h1:l≤a
  · rw [if_pos (decide_eq_true (by omega))];simp [h1]
  · rw [if_neg (by simp;omega)];simp [h1]

def portsN (k f:Int):Int:=
  if k=9 then(if 0≤f∧f≤3 then 1+f else 0) else if f≠0 then 0 else if k=1∨k=5∨k=6∨k=12 then 1 else
  if k=8∨k=10∨k=11 then 2 else if k=2∨k=3∨k=4∨k=7 then 3 else 0
def levelN (k:Int):Bool:=decide (2≤k∧k≤12∧k≠5∧k≠6)
def allowN (k l:Int):Bool:=decide (1≤k∧k≤12) && (decide (l=0) || (levelN k && decide (0≤l∧l≤8)))
def defN (n:Int):Bool:=decide (0≤n∧n≤23)
def contentN (k v:Int) (d:List Int):Bool:=
  if k=6 then decide (d.length=0∧-2147483648≤v∧v≤2147483647) else
  if k=7 then decide (d.length=0∧1≤v∧v≤6) else
  if k=8 then decide (d.length=1∧1≤v∧v≤6) && d.all (fun n=>decide (-2147483648≤n∧n≤2147483647)) else
  if k=9 then decide (d.length=0∧0≤v∧v≤3) else
  if k=10 then decide (v=0∧1≤d.length∧d.length≤4) && d.all defN else
  if k=11 then decide (v=0∧d.length=2) && d.all defN else
  if k=12 then decide (d.length=0∧0≤v∧v≤23) else decide (v=0∧d.length=0)
def agentN (k l v:Int) (d:List Int) (n:Nat):Bool:=decide (portsN k (if k=9 then n - 1 else 0)=n) && (allowN k l && contentN k v d)

theorem kinds (k:Int):(k=1∨k=2∨k=3∨k=4∨k=5∨k=6∨k=7∨k=8∨k=9∨k=10∨k=11∨k=12)∨¬ (1≤k∧k≤12):=by omega
theorem z9O {k:Int}(h:¬ (1≤k∧k≤12)) (c:Int) (h1:1≤c∧c≤12):(k == c)=false:=by
  rw [beq_eq_false_iff_ne];rintro rfl;exact h h1

theorem z7V {fuel:Nat}{k f:Int}:z2y fuel k f=some (portsN k f):=by
  by_cases h9:k=9
  · subst h9
    unfold z2y portsN
    simp only [z4E,Option.bind_some,beq_self_eq_true,if_true,decide_eq_true_eq]
    split
    · rw [z8 (by omega) (by omega)]
    · rfl
  · by_cases hf:f=0
    · subst hf
      rcases kinds k with h | h
      · rcases h with rfl | rfl | rfl | rfl | rfl | rfl | rfl | rfl | rfl | rfl | rfl | rfl<;>first | exact absurd rfl h9 | rfl
      · simp [z2y,z2Y,z2X,z2W,z2V,z2U,z2T,z2S,z2R,portsN,z9O h,h9]
        omega
    · unfold z2y portsN
      rw [if_neg (by simpa using h9),if_pos (by simpa using hf),if_neg h9,if_pos hf]
theorem z5N {fuel:Nat}{k:Int}:z3a fuel k=some (decide (1≤k∧k≤12)):=by
  unfold z3a
  by_cases h1:1≤k
  · rw [if_pos (decide_eq_true (by omega))];simp [h1]
  · rw [if_neg (by simp;omega)];simp [h1]
theorem zam {fuel:Nat}{k f:Int}:z3n fuel k f=some (portsN k f):=by
  by_cases h9:k=9
  · subst h9
    unfold z3n portsN z1z
    simp only [z5N,Option.bind_some,beq_self_eq_true,if_true]
    by_cases h0:0≤f
    · by_cases h3:f≤3
      · rw [if_pos (decide_eq_true (by omega)),if_pos (decide_eq_true h3),if_pos ⟨h0,h3⟩,z8 (by omega) (by omega),Int.add_comm]
      · rw [if_pos (decide_eq_true (by omega)),if_neg (by simpa using h3)];simp [z14,h3]
    · rw [if_neg (by simp;omega),if_neg Bool.false_ne_true];simp [z14,h0]
  · unfold z3n z1z
    rw [if_neg (by simpa using h9),if_neg Bool.false_ne_true,z5N,Option.bind_some]
    rcases kinds k with h | h
    · by_cases hf:f=0
      · subst hf
        rcases h with rfl | rfl | rfl | rfl | rfl | rfl | rfl | rfl | rfl | rfl | rfl | rfl<;>first | exact absurd rfl h9 | rfl
      · rw [if_neg (by simp;omega),if_neg (by simpa using h9),show(f != 0)=true by simpa using hf]
        simp [z14,portsN,h9,hf]
    · rw [if_pos (by simp;omega)]
      simp [z14,portsN,h9]
      omega

theorem zao {fuel:Nat}{k:Int}:z3D fuel k=some (levelN k):=by
  rcases kinds k with h | h
  · rcases h with rfl | rfl | rfl | rfl | rfl | rfl | rfl | rfl | rfl | rfl | rfl | rfl<;>rfl
  · simp [z3D,z2t,z2s,z2r,z2q,z2p,z2o,z2n,z2m,levelN,z9O h]
    omega
theorem zap {fuel:Nat}{k:Int}:z3N fuel k=some (levelN k):=by
  unfold z3N
  rw [z5N,Option.bind_some]
  rcases kinds k with h | h
  · rcases h with rfl | rfl | rfl | rfl | rfl | rfl | rfl | rfl | rfl | rfl | rfl | rfl<;>rfl
  · rw [if_neg (by simpa using h)]
    simp [levelN];omega
theorem zaz {fuel:Nat}{k l:Int}:z3B fuel k l=some (allowN k l):=by
  unfold z3B z4H allowN
  simp only [zao,z4E,Option.bind_some]
  cases hl:levelN k with
  | true=>
    have:1≤k∧k≤12:=by unfold levelN at hl;simp at hl;omega
    simp [this];omega
  | false=>by_cases h:1≤k∧k≤12<;>by_cases h0:l=0<;>simp [h,h0]
theorem zaA {fuel:Nat}{k l:Int}:z3g fuel k l=some (allowN k l):=by
  unfold z3g allowN
  have hL:z4b fuel l=some (decide (0≤l∧l≤8)):=by
    unfold z4b
    by_cases h1:0≤l
    · rw [if_pos (decide_eq_true (by omega))];simp [h1]
    · rw [if_neg (by simp;omega)];simp [h1]
  simp only [z5N,zap,hL,Option.bind_some]
  by_cases h:1≤k∧k≤12
  · by_cases h0:l=0
    · simp [h,h0]
    · cases hl:levelN k<;>simp [h,h0]
  · simp [h]

theorem za2 {fuel:Nat}{n:Int}:z3Q fuel n=some (defN n):=by
  unfold z3Q defN;rw [z4E];rfl
theorem za3 {fuel:Nat}{n:Int}:z27 fuel n=some (defN n):=by
  unfold z27 defN
  by_cases h1:0≤n
  · rw [if_pos (decide_eq_true (by omega))];simp [h1];omega
  · rw [if_neg (by simp;omega)];simp [h1]
theorem zbV {fuel:Nat}{n:Int}:z4m fuel n=some (decide (-2147483648≤n∧n≤2147483647)):=by
  unfold z4m
  by_cases h1:-2147483648≤n
  · rw [if_pos (decide_eq_true (by omega))];simp [h1]
  · rw [if_neg (by simp;omega)];simp [h1]
theorem zb4 {fuel:Nat}{n:Int}:z26 fuel n=some (decide (1≤n∧n≤6)):=by
  unfold z26
  by_cases h1:1≤n
  · rw [if_pos (decide_eq_true (by omega))];simp [h1]
  · rw [if_neg (by simp;omega)];simp [h1]
theorem z9C {α:Type}{p:α→Bool}:∀ {xs:List α},xs.any (fun x=>!p x)=!xs.all p
  | []=>rfl
  | x::xs=>by simp [z9C (p:=p) (xs:=xs)]
theorem zbw {fuel:Nat}{a:D.Agent}(hf:18446744073709551616≤fuel) (hl:a.Data.length≤maxLen):
    ((iter (z1M fuel a) fuel 0).bind fun o=>aft o (z3Y fuel))=some (a.Data.all defN):=by
  rw [askOne (xs:=a.Data) (p:=fun n=>!defN n) (v:=false) (t:=()) hl hf (fun i x hi hx=>by
    unfold z1M
    simp only [z21 hx,za2,lt_t (show(i:Int)<a.Data.length by omega),if_true,Option.bind_some]) (by simp [z1M]),z9C]
  cases a.Data.all defN<;>rfl
theorem z9g {fuel:Nat}{p:Int→Bool}{f:Int→Option Bool}{xs:List Int}(hf:18446744073709551616≤fuel) (hl:xs.length≤maxLen) (h:∀ n,f n=some (p n)):
    zv fuel xs f=some (xs.any p):=by
  unfold zv z18
  obtain⟨r,h1,h2⟩:=askIndex (xs:=xs) (p:=p) (body:=zu fuel xs f) (j:=z1g fuel) (t:=()) hl hf rfl (fun i x hi hx=>by
    simp only [zu,z21 hx,h,lt_t (show(i:Int)<xs.length by omega),if_true,Option.bind_some]) (by simp [zu])
  rw [h1,Option.bind_some,h2]

theorem z9e {fuel:Nat}{a:D.Agent}(hf:18446744073709551616≤fuel) (hl:a.Data.length≤maxLen):zt fuel a=some (contentN a.Kind a.Value a.Data):=by
  have hd:=zbw (a:=a) hf hl
  obtain⟨k,l,v,d,ps⟩:=a
  dsimp only at hl hd ⊢
  by_cases h6:k=6
  · subst h6
    simp only [zt,contentN,z4E,Option.bind_some,beq_self_eq_true,if_true]
    by_cases h:d.length=0<;>simp [h]<;>omega
  by_cases h7:k=7
  · subst h7
    simp only [zt,contentN,z4E,Option.bind_some,beq_self_eq_true,if_true]
    by_cases h:d.length=0<;>simp [h]<;>omega
  by_cases h8:k=8
  · subst h8
    simp only [zt,contentN,z4E,Option.bind_some,beq_self_eq_true,if_true]
    match d with
    | []=>simp
    | [n]=>by_cases h:1≤v∧v≤6<;>simp [h,idx]
    | _::_::_=>simp;omega
  by_cases h9:k=9
  · subst h9
    simp only [zt,contentN,z4E,Option.bind_some,beq_self_eq_true,if_true]
    by_cases h:d.length=0<;>simp [h]<;>omega
  by_cases y:k=12
  · subst y
    simp only [zt,contentN,z4E,za2,Option.bind_some,beq_self_eq_true,if_true]
    by_cases h:d.length=0<;>simp [h,defN]<;>omega
  by_cases b:k=10
  · subst b
    simp only [zt,z15,zp,contentN,z4E,Option.bind_some,beq_self_eq_true,if_true,hd]
    by_cases h:v=0
    · by_cases h1:1≤d.length∧d.length≤4
      · have h2:(1:Int)≤d.length∧(d.length:Int)≤4:=by omega
        simp [h,h1,h2]
      · have h2:¬ ((1:Int)≤d.length∧(d.length:Int)≤4):=by omega
        simp [h,h1,h2]
    · simp [h]
  by_cases o:k=11
  · subst o
    simp only [zt,z15,zp,contentN,z4E,Option.bind_some,beq_self_eq_true,if_true,hd]
    by_cases h:v=0
    · by_cases h1:d.length=2
      · simp [h,h1]
      · have h2:¬ ((d.length:Int)=2):=by omega
        simp [h,h1,h2]
    · simp [h]
  · simp only [zt,z15,contentN,h6,h7,h8,h9,b,o,y,if_false]
    by_cases h:v=0<;>by_cases h1:d.length=0<;>simp [h,h1,h6,h7,h8,h9,b,o,y]

theorem z9f {fuel:Nat}{a:D.Agent}(hf:18446744073709551616≤fuel) (hl:a.Data.length≤maxLen):z17 fuel a false=some (contentN a.Kind a.Value a.Data):=by
  unfold z17
  rw [if_neg Bool.false_ne_true,z9g (p:=fun n=>!defN n) hf hl (fun n=>by unfold z2E;rw [za3];rfl),Option.bind_some,z9C,Bool.not_not]
  obtain⟨k,l,v,d,ps⟩:=a
  dsimp only at hl ⊢
  simp only [z1U,z1T,z1S,z1R,z1Q,z1n,z1P,z1O,z1F,zbV,zb4,za3,Option.bind_some]
  by_cases h6:k=6
  · subst h6
    simp only [contentN,beq_self_eq_true,if_true]
    by_cases h:d.length=0<;>by_cases h1:-2147483648≤v∧v≤2147483647<;>simp [h,h1]
  by_cases h7:k=7
  · subst h7
    simp only [contentN,beq_self_eq_true,if_true]
    by_cases h:d.length=0<;>by_cases h1:1≤v∧v≤6<;>simp [h,h1]
  by_cases h8:k=8
  · subst h8
    simp only [contentN,beq_self_eq_true,if_true]
    match d with
    | []=>simp
    | [n]=>by_cases h:1≤v∧v≤6<;>simp [h,idx]
    | _::_::_=>simp;omega
  by_cases h9:k=9
  · subst h9
    simp only [contentN,beq_self_eq_true,if_true]
    by_cases h1:0≤v
    · by_cases h:d.length=0<;>by_cases h2:v<4<;>simp [h,h1,h2]<;>omega
    · simp [h1]
  by_cases y:k=12
  · subst y
    simp only [contentN,beq_self_eq_true,if_true]
    by_cases h:d.length=0<;>by_cases h1:0≤v∧v≤23<;>simp [h,h1,defN]
  by_cases b:k=10
  · subst b
    simp only [contentN,beq_self_eq_true,if_true]
    by_cases h:v=0
    · by_cases h1:1≤d.length
      · by_cases h2:d.length≤4
        · have h3:(1:Int)≤d.length:=by omega
          have h4:(d.length:Int)≤4:=by omega
          simp [h,h1,h2,h3,h4]
        · have h3:(1:Int)≤d.length:=by omega
          have h4:¬ (d.length:Int)≤4:=by omega
          simp [h,h1,h2,h3,h4]
      · have h3:¬ (1:Int)≤d.length:=by omega
        simp [h,h1,h3]
    · by_cases h1:(1:Int)≤d.length<;>by_cases h2:(d.length:Int)≤4<;>simp [h,h1,h2]
  by_cases o:k=11
  · subst o
    simp only [contentN,beq_self_eq_true,if_true]
    by_cases h:v=0<;>by_cases h1:d.length=2
    · simp [h,h1]
    · have h2:¬ ((d.length:Int)=2):=by omega
      simp [h,h1,h2]
    · simp [h,h1]
    · have h2:¬ ((d.length:Int)=2):=by omega
      simp [h,h1,h2]
  · simp only [contentN,h6,h7,h8,h9,b,o,y,if_false]
    by_cases h:v=0<;>by_cases h1:d.length=0<;>simp [h,h1,h6,h7,h8,h9,b,o,y]

theorem z6s {n:Nat}(hn:n≤maxLen):w64 ((n:Int) - 1)=(n:Int) - 1:=by
  have:maxLen=9223372036854775807:=rfl
  exact z8 (by omega) (by omega)
theorem zaC {fuel:Nat}{a:D.Agent}(hf:18446744073709551616≤fuel) (hl:a.Data.length≤maxLen) (h1:1≤a.Ports.length) (h2:a.Ports.length≤maxLen):
    z1w fuel a=some (agentN a.Kind a.Level a.Value a.Data a.Ports.length):=by
  unfold z1w agentN
  rw [if_neg (by simp;intro h;rw [h] at h1;exact absurd h1 (by decide))]
  have hF:z3L fuel a.Kind (a.Ports.length:Int)=some (if a.Kind=9 then(a.Ports.length:Int) - 1 else 0):=by
    unfold z3L
    by_cases h:a.Kind=9
    · rw [if_pos (by simpa using h),if_pos h,z6s h2]
    · rw [if_neg (by simpa using h),if_neg h]
  rw [hF,Option.bind_some,zam,Option.bind_some,zaA,Option.bind_some]
  by_cases hp:portsN a.Kind (if a.Kind=9 then(a.Ports.length:Int) - 1 else 0)=(a.Ports.length:Int)
  · rw [if_neg (by simp [hp]),decide_eq_true hp,Bool.true_and]
    cases allowN a.Kind a.Level with
    | false=>rfl
    | true=>rw [Bool.true_and];exact z9f hf hl
  · rw [if_pos (by simpa using hp),decide_eq_false hp];rfl
theorem zaB {fuel:Nat}{a:D.Agent}(hf:18446744073709551616≤fuel) (hl:a.Data.length≤maxLen) (h1:1≤a.Ports.length) (h2:a.Ports.length≤maxLen):
    z29 fuel a=some (agentN a.Kind a.Level a.Value a.Data a.Ports.length):=by
  unfold z29 agentN
  have hF:z1J fuel a=some (if a.Kind=9 then(a.Ports.length:Int) - 1 else 0):=by
    unfold z1J
    by_cases h:a.Kind=9
    · rw [if_pos (by simpa using h),if_pos h,z6s h2]
    · rw [if_neg (by simpa using h),if_neg h]
  rw [hF,Option.bind_some,z7V,Option.bind_some,zaz,Option.bind_some,z9e hf hl]
  by_cases hp:portsN a.Kind (if a.Kind=9 then(a.Ports.length:Int) - 1 else 0)=(a.Ports.length:Int)
  · rw [hp,if_pos (decide_eq_true (by omega)),if_pos (by simp),decide_eq_true rfl,Bool.true_and]
    cases allowN a.Kind a.Level<;>rfl
  · rw [decide_eq_false hp]
    generalize portsN a.Kind (if a.Kind=9 then(a.Ports.length:Int) - 1 else 0)=r at hp ⊢
    by_cases h:r>0
    · rw [if_pos (decide_eq_true h),if_neg (by simpa using fun h=>hp h.symm)];rfl
    · rw [if_neg (by simpa using h)];rfl



def agN (a:D.Agent):Bool:=decide (a.Ports.length≠0) && agentN a.Kind a.Level a.Value a.Data a.Ports.length
theorem zdd {fuel:Nat}{a:D.Agent}(hf:18446744073709551616≤fuel) (hl:a.Data.length≤maxLen) (h2:a.Ports.length≤maxLen):z1w fuel a=some (agN a):=by
  by_cases h:a.Ports.length=0
  · unfold z1w agN
    rw [if_pos (by simp [h]),show decide (a.Ports.length≠0)=false by simp [h],Bool.false_and]
    rfl
  · rw [zaC hf hl (by omega) h2]
    unfold agN
    rw [decide_eq_true (by simpa using h),Bool.true_and]
theorem zdc {fuel:Nat}{a:D.Agent}(hf:18446744073709551616≤fuel) (hl:a.Data.length≤maxLen) (h2:a.Ports.length≤maxLen):z29 fuel a=some (agN a):=by
  by_cases h:a.Ports.length=0
  · unfold z29 agN
    have hF:z1J fuel a=some (if a.Kind=9 then(a.Ports.length:Int) - 1 else 0):=by
      unfold z1J
      by_cases h:a.Kind=9
      · rw [if_pos (by simpa using h),if_pos h,z6s h2]
      · rw [if_neg (by simpa using h),if_neg h]
    rw [hF,Option.bind_some,z7V,Option.bind_some,show decide (a.Ports.length≠0)=false by simp [h],Bool.false_and]
    generalize portsN a.Kind (if a.Kind=9 then(a.Ports.length:Int) - 1 else 0)=r
    by_cases hr:r>0
    · rw [if_pos (decide_eq_true hr),if_neg (by rw [h];simp;omega)]
    · rw [if_neg (by simpa using hr)]
  · rw [zaB hf hl (by omega) h2]
    unfold agN
    rw [decide_eq_true (by simpa using h),Bool.true_and]
theorem zcS {a:D.Agent}(h:agN a=true):a.Ports.length≠0:=by
  unfold agN at h
  simp only [Bool.and_eq_true,decide_eq_true_eq] at h
  exact h.1
end Go.E


namespace Go.E
open Go.RowKit Go.Proofs
set_option linter.unusedSimpArgs false
set_option linter.unusedVariables false


inductive Rnd (σ ρ:Type) where
  | go (s:σ)
  | back (r:ρ)
def foldR {α σ ρ:Type}(f:Nat→σ→α→Rnd σ ρ):Nat→List α→σ→Rnd σ ρ
  | _,[],s=>.go s
  | i,x::xs,s=>match f i s x with
    | .go s'=>foldR f (i+1) xs s'
    | .back r=>.back r
theorem loopR {α σ S τ ρ:Type}{xs:List α}{body:S→Option (Rd S τ ρ)}{mk:Int→σ→S}{out:σ→τ}{f:Nat→σ→α→Rnd σ ρ}{J:Nat→σ→Prop}{s0:σ}{fuel:Nat}
    (hl:xs.length≤maxLen) (hf:18446744073709551616≤fuel) (hJ:J 0 s0)
    (step:∀ (i:Nat) s x,i<xs.length→xs[i]? = some x→J i s→match f i s x with
      | .go s'=>body (mk i s)=some (.next (mk (w64 (i+1)) s'))∧J (i+1) s'
      | .back r=>body (mk i s)=some (.ret r))
    (last:∀ s,J xs.length s→body (mk xs.length s)=some (.brk (out s))):
    (match foldR f 0 xs s0 with
      | .go s=>iter body fuel (mk 0 s0)=some (.inl (out s))∧J xs.length s
      | .back r=>iter body fuel (mk 0 s0)=some (.inr r)):=by
  have hm:maxLen=9223372036854775807:=rfl
  have key:∀ (ys:List α) (i:Nat) (s:σ) (fu:Nat),i+ys.length=xs.length→(∀ j,ys[j]? = xs[i+j]?)→ys.length<fu→J i s→(match foldR f i ys s with
      | .go s'=>iter body fu (mk i s)=some (.inl (out s'))∧J xs.length s'
      | .back r=>iter body fu (mk i s)=some (.inr r)):=by
    intro ys
    induction ys with
    | nil=>
      intro i s fu hi _ hfu hj
      obtain⟨fu,rfl⟩:∃ f',fu=f'+1:=⟨fu - 1,by simp at hfu;omega⟩
      simp only [List.length_nil,Nat.add_zero] at hi
      subst hi
      simp only [foldR,iter,last s hj]
      exact⟨trivial,hj⟩
    | cons y ys ih=>
      intro i s fu hi hat hfu hj
      obtain⟨fu,rfl⟩:∃ f',fu=f'+1:=⟨fu - 1,by simp at hfu;omega⟩
      simp only [List.length_cons] at hi hfu
      have hx:xs[i]? = some y:=by have:=hat 0;simpa using this.symm
      have hs:=step i s y (by omega) hx hj
      unfold foldR
      cases hfs:f i s y with
      | go s'=>
        rw [hfs] at hs
        have h2:=ih (i+1) s' fu (by omega) (fun j=>by have:=hat (j+1);rw [show i+1+j=i+(j+1) by omega];simpa using this) (by omega) hs.2
        simp only [iter,hs.1]
        rw [z8 (by omega) (by omega)]
        exact_mod_cast h2
      | back r=>
        rw [hfs] at hs
        simp only [iter,hs]
  have:=key xs 0 s0 fuel (by simp) (by simp) (by omega) hJ
  exact_mod_cast this

theorem z6v {α:Type}{xs:List α}{p:Nat→α→Bool}{k:Nat}:((xs.zipIdx k).all fun y=>p y.2 y.1)=true↔∀ i x,xs[i]? = some x→p (k+i) x=true:=by
  rw [List.all_eq_true]
  constructor
  · intro h i x hx
    have:(x,k+i)∈xs.zipIdx k:=by
      rw [List.mem_zipIdx_iff_le_and_getElem?_sub]
      exact⟨Nat.le_add_right _ _,by simpa using hx⟩
    exact h _ this
  · rintro h ⟨x,j⟩ hj
    rw [List.mem_zipIdx_iff_le_and_getElem?_sub] at hj
    have:=h (j - k) x hj.2
    rwa [show k+(j - k)=j by have:=hj.1;simp at this;omega] at this

theorem z97 {α ρ:Type}{p:Nat→α→Bool}{v:ρ}:∀ {xs:List α}{k:Nat},foldR (fun i (_:Unit) x=>if p i x=true then Rnd.go () else Rnd.back v) k xs ()=if((xs.zipIdx k).all fun y=>p y.2 y.1)=true then Rnd.go () else Rnd.back v
  | [],k=>by simp [foldR]
  | x::xs,k=>by
    unfold foldR
    cases h:p k x with
    | true=>simp only [if_true,z97 (xs:=xs),List.zipIdx_cons,List.all_cons,h,Bool.true_and]
    | false=>simp [h]


theorem allLoop {α τ ρ:Type}{xs:List α}{body:Int→Option (Rd Int τ ρ)}{p:Nat→α→Bool}{t:τ}{v:ρ}{fuel:Nat}(hl:xs.length≤maxLen) (hf:18446744073709551616≤fuel)
    (step:∀ (i:Nat) x,i<xs.length→xs[i]? = some x→body i=if p i x=true then some (.next (w64 (i+1))) else some (.ret v)) (last:body xs.length=some (.brk t)):
    iter body fuel 0=some (if(xs.zipIdx.all fun y=>p y.2 y.1)=true then .inl t else .inr v):=by
  have h:=loopR (xs:=xs) (body:=body) (mk:=fun i _=>i) (out:=fun(_:Unit)=>t) (f:=fun i (_:Unit) x=>if p i x=true then Rnd.go () else Rnd.back v) (J:=fun _ _=>True) (s0:=()) hl hf trivial
    (fun i s x hi hx _=>by
      have:=step i x hi hx
      cases hp:p i x with
      | true=>rw [hp] at this;exact⟨this,trivial⟩
      | false=>rw [hp] at this;simpa using this) (fun s _=>last)
  rw [z97] at h
  cases hp:(xs.zipIdx.all fun y=>p y.2 y.1) with
  | true=>rw [hp] at h;exact h.1
  | false=>rw [hp] at h;exact h

theorem zbF {α:Type}{xs:List α}{i:Nat}{x:α}(h:xs[i]? = some x):(xs.take (i+1)).zipIdx=(xs.take i).zipIdx++[(x,i)]:=by
  have hl:=(List.getElem?_eq_some_iff.1 h).1
  rw [List.take_add_one,h,List.zipIdx_append]
  simp [Nat.min_eq_left (Nat.le_of_lt hl)]

end Go.E


