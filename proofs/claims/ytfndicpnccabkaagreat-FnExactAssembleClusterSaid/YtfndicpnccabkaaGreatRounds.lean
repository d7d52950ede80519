/- QG: the reference's and the program's tests of one agent agree. Conditions: the data within the law's bound. -/
import Derived.Test.YtfndicpnccabkaaGreatLoops
import Derived.Test.YtfndicpnccabkaaGreatFA
set_option linter.unusedVariables false
set_option linter.unusedSimpArgs false
namespace Go.E
open Go.RowKit Go.Proofs

variable {fu:Nat}
theorem z9B {a l h:Int}:zS fu a l h=some (decide (l≤a∧a≤h)):=by
 unfold zS
 by_cases h1:l≤a
 ·rw[if_pos (dct (by omega))];simp[h1]
 ·rw[if_neg (by simp;omega)];simp[h1]

def zc2 (k f:Int):Int:=
 if k=9 then(if 0≤f∧f≤3 then 1+f else 0) else if f≠0 then 0 else if k=1∨k=5∨k=6∨k=12 then 1 else
 if k=8∨k=10∨k=11 then 2 else if k=2∨k=3∨k=4∨k=7 then 3 else 0
def zhg (k:Int):Bool:=decide (2≤k∧k≤12∧k≠5∧k≠6)
def zjE (k l:Int):Bool:=decide (1≤k∧k≤12) && (decide (l=0) || (zhg k && decide (0≤l∧l≤8)))
def zrL (n:Int):Bool:=decide (0≤n∧n≤23)
def z3Z (k v:Int)(d:L9):Bool:=
 if k=6 then decide (d.length=0∧-2147483648≤v∧v≤2147483647) else
 if k=7 then decide (d.length=0∧1≤v∧v≤6) else
 if k=8 then decide (d.length=1∧1≤v∧v≤6) && d.all (fun n=>decide (-2147483648≤n∧n≤2147483647)) else
 if k=9 then decide (d.length=0∧0≤v∧v≤3) else
 if k=10 then decide (v=0∧1≤d.length∧d.length≤4) && d.all zrL else
 if k=11 then decide (v=0∧d.length=2) && d.all zrL else
 if k=12 then decide (d.length=0∧0≤v∧v≤23) else decide (v=0∧d.length=0)
def zjG (k l v:Int)(d:L9)(n:Nat):Bool:=decide (zc2 k (if k=9 then n - 1 else 0)=n) && (zjE k l && z3Z k v d)

theorem kinds (k:Int):(k=1∨k=2∨k=3∨k=4∨k=5∨k=6∨k=7∨k=8∨k=9∨k=10∨k=11∨k=12)∨¬ (1≤k∧k≤12):=by omega
theorem zpZ {k:Int}(h:¬ (1≤k∧k≤12))(c:Int)(h1:1≤c∧c≤12):(k == c)=false:=by
 rw[beq_eq_false_iff_ne];rintro rfl;exact h h1

theorem zkw {k f:Int}:z6d fu k f=some (zc2 k f):=by
 by_cases h9:k=9
 ·subst h9
  unfold z6d zc2
  simp only[z9B,bsm,beq_self_eq_true,if_true,decide_eq_true_eq]
  split
  ·rw[zb (by omega) (by omega)]
  ·rfl
 ·by_cases hf:f=0
  ·subst hf
   rcases kinds k with h | h
   ·rcases h with rfl | rfl | rfl | rfl | rfl | rfl | rfl | rfl | rfl | rfl | rfl | rfl<;>first | exact absurd rfl h9 | rfl
   ·simp[z6d,z6Q,z6P,z6O,z6N,z6M,z6L,z6K,z6J,zc2,zpZ h,h9]
    omega
  ·unfold z6d zc2
   rw[if_neg (by simpa using h9),if_pos (by simpa using hf),if_neg h9,if_pos hf]
theorem zdL {k:Int}:z7v fu k=some (decide (1≤k∧k≤12)):=by
 unfold z7v
 by_cases h1:1≤k
 ·rw[if_pos (dct (by omega))];simp[h1]
 ·rw[if_neg (by simp;omega)];simp[h1]
theorem zr4 {k f:Int}:z82 fu k f=some (zc2 k f):=by
 by_cases h9:k=9
 ·subst h9
  unfold z82 zc2 z3i
  simp only[zdL,bsm,beq_self_eq_true,if_true]
  by_cases h0:0≤f
  ·by_cases h3:f≤3
   ·rw[if_pos (dct (by omega)),if_pos (dct h3),if_pos ⟨h0,h3⟩,zb (by omega) (by omega),Int.add_comm]
   ·rw[if_pos (dct (by omega)),if_neg (by simpa using h3)];simp[z1N,h3]
  ·rw[if_neg (by simp;omega),if_neg Bool.false_ne_true];simp[z1N,h0]
 ·unfold z82 z3i
  rw[if_neg (by simpa using h9),if_neg Bool.false_ne_true,zdL,bsm]
  rcases kinds k with h | h
  ·by_cases hf:f=0
   ·subst hf
    rcases h with rfl | rfl | rfl | rfl | rfl | rfl | rfl | rfl | rfl | rfl | rfl | rfl<;>first | exact absurd rfl h9 | rfl
   ·rw[if_neg (by simp;omega),if_neg (by simpa using h9),show(f != 0)=true by simpa using hf]
    simp[z1N,zc2,h9,hf]
  ·rw[if_pos (by simp;omega)]
   simp[z1N,zc2,h9]
   omega

theorem zrg {k:Int}:z8D fu k=some (zhg k):=by
 rcases kinds k with h | h
 ·rcases h with rfl | rfl | rfl | rfl | rfl | rfl | rfl | rfl | rfl | rfl | rfl | rfl<;>rfl
 ·simp[z8D,z5Q,z5P,z5O,z5N,z5M,z5L,z5K,z5J,zhg,zpZ h]
  omega
theorem zrh {k:Int}:z8S fu k=some (zhg k):=by
 unfold z8S
 rw[zdL,bsm]
 rcases kinds k with h | h
 ·rcases h with rfl | rfl | rfl | rfl | rfl | rfl | rfl | rfl | rfl | rfl | rfl | rfl<;>rfl
 ·rw[if_neg (by simpa using h)]
  simp[zhg];omega
theorem zrF {k l:Int}:z8C fu k l=some (zjE k l):=by
 unfold z8C zb0 zjE
 simp only[zrg,z9B,bsm]
 cases hl:zhg k with
 | true=>
  have:1≤k∧k≤12:=by unfold zhg at hl;simp at hl;omega
  simp[this];omega
 | false=>by_cases h:1≤k∧k≤12<;>by_cases h0:l=0<;>simp[h,h0]
theorem zrG {k l:Int}:z7V fu k l=some (zjE k l):=by
 unfold z7V zjE
 have hL:z9n fu l=some (decide (0≤l∧l≤8)):=by
  unfold z9n
  by_cases h1:0≤l
  ·rw[if_pos (dct (by omega))];simp[h1]
  ·rw[if_neg (by simp;omega)];simp[h1]
 simp only[zdL,zrh,hL,bsm]
 by_cases h:1≤k∧k≤12
 ·by_cases h0:l=0
  ·simp[h,h0]
  ·cases hl:zhg k<;>simp[h,h0]
 ·simp[h]

theorem zqm {n:Int}:z92 fu n=some (zrL n):=by
 unfold z92 zrL;rw[z9B];rfl
theorem zqn {n:Int}:z4C fu n=some (zrL n):=by
 unfold z4C zrL
 by_cases h1:0≤n
 ·rw[if_pos (dct (by omega))];simp[h1];omega
 ·rw[if_neg (by simp;omega)];simp[h1]
theorem zvT {n:Int}:z9L fu n=some (decide (-2147483648≤n∧n≤2147483647)):=by
 unfold z9L
 by_cases h1:-2147483648≤n
 ·rw[if_pos (dct (by omega))];simp[h1]
 ·rw[if_neg (by simp;omega)];simp[h1]
theorem zsn {n:Int}:z4B fu n=some (decide (1≤n∧n≤6)):=by
 unfold z4B
 by_cases h1:1≤n
 ·rw[if_pos (dct (by omega))];simp[h1]
 ·rw[if_neg (by simp;omega)];simp[h1]
theorem zdV {α:Type}{p:α→Bool}:∀ {xs:List α},xs.any (fun x=>!p x)=!xs.all p
 | []=>rfl
 | x::xs=>by simp[zdV (p:=p) (xs:=xs)]
theorem zuG {a:D.Qe}(hf:Big fu)(hl:a.Data.length≤maxLen):
  ((iter (z4a fu a) fu 0).bind fun o=>aft o (z99 fu))=some (a.Data.all zrL):=by
 rw[zxP (xs:=a.Data) (p:=fun n=>!zrL n) (v:=false) (t:=()) hl hf (fun i x hi hx=>by
  unfold z4a
  simp only[za hx,zqm,lt_t (show(i:Int)<a.Data.length by omega),if_true,bsm]) (by simp[z4a]),zdV]
 cases a.Data.all zrL<;>rfl
theorem zho {p:Int→Bool}{f:Int→Option Bool}{xs:L9}(hf:Big fu)(hl:xs.length≤maxLen)(h:∀ n,f n=some (p n)):
  zD fu xs f=some (xs.any p):=by
 unfold zD z1V
 obtain⟨r,h1,h2⟩:=zf3 (xs:=xs) (p:=p) (body:=z11 fu xs f) (j:=z2G fu) (t:=()) hl hf rfl (fun i x hi hx=>by
  simp only[z11,za hx,h,lt_t (show(i:Int)<xs.length by omega),if_true,bsm]) (by simp[z11])
 rw[h1,bsm,h2]

theorem zor {a:D.Qe}(hf:Big fu)(hl:a.Data.length≤maxLen):z10 fu a=some (z3Z a.Qi a.Value a.Data):=by
 have hd:=zuG (a:=a) hf hl
 obtain⟨k,l,v,d,ps⟩:=a
 dsimp only at hl hd ⊢
 by_cases h6:k=6
 ·subst h6
  simp only[z10,z3Z,z9B,bsm,beq_self_eq_true,if_true]
  by_cases h:d.length=0<;>simp[h]<;>omega
 by_cases h7:k=7
 ·subst h7
  simp only[z10,z3Z,z9B,bsm,beq_self_eq_true,if_true]
  by_cases h:d.length=0<;>simp[h]<;>omega
 by_cases h8:k=8
 ·subst h8
  simp only[z10,z3Z,z9B,bsm,beq_self_eq_true,if_true]
  match d with
  | []=>simp
  | [n]=>by_cases h:1≤v∧v≤6<;>simp[h,idx]
  | _::_::_=>simp;omega
 by_cases h9:k=9
 ·subst h9
  simp only[z10,z3Z,z9B,bsm,beq_self_eq_true,if_true]
  by_cases h:d.length=0<;>simp[h]<;>omega
 by_cases G:k=12
 ·subst G
  simp only[z10,z3Z,z9B,zqm,bsm,beq_self_eq_true,if_true]
  by_cases h:d.length=0<;>simp[h,zrL]<;>omega
 by_cases o:k=10
 ·subst o
  simp only[z10,z1R,zU,z3Z,z9B,bsm,beq_self_eq_true,if_true,hd]
  by_cases h:v=0
  ·by_cases h1:1≤d.length∧d.length≤4
   ·have h2:(1:Int)≤d.length∧(d.length:Int)≤4:=by omega
    simp[h,h1,h2]
   ·have h2:¬ ((1:Int)≤d.length∧(d.length:Int)≤4):=by omega
    simp[h,h1,h2]
  ·simp[h]
 by_cases q:k=11
 ·subst q
  simp only[z10,z1R,zU,z3Z,z9B,bsm,beq_self_eq_true,if_true,hd]
  by_cases h:v=0
  ·by_cases h1:d.length=2
   ·simp[h,h1]
   ·have h2:¬ ((d.length:Int)=2):=by omega
    simp[h,h1,h2]
  ·simp[h]
 ·simp only[z10,z1R,z3Z,h6,h7,h8,h9,o,q,G,if_false]
  by_cases h:v=0<;>by_cases h1:d.length=0<;>simp[h,h1,h6,h7,h8,h9,o,q,G]

theorem zos {a:D.Qe}(hf:Big fu)(hl:a.Data.length≤maxLen):z1S fu a false=some (z3Z a.Qi a.Value a.Data):=by
 unfold z1S
 rw[if_neg Bool.false_ne_true,zho (p:=fun n=>!zrL n) hf hl (fun n=>by unfold z6t;rw[zqn];rfl),bsm,zdV,Bool.not_not]
 obtain⟨k,l,v,d,ps⟩:=a
 dsimp only at hl ⊢
 simp only[z4o,z4n,z4m,z4k,z4j,z2O,z4i,z4h,z3A,zvT,zsn,zqn,bsm]
 by_cases h6:k=6
 ·subst h6
  simp only[z3Z,beq_self_eq_true,if_true]
  by_cases h:d.length=0<;>by_cases h1:-2147483648≤v∧v≤2147483647<;>simp[h,h1]
 by_cases h7:k=7
 ·subst h7
  simp only[z3Z,beq_self_eq_true,if_true]
  by_cases h:d.length=0<;>by_cases h1:1≤v∧v≤6<;>simp[h,h1]
 by_cases h8:k=8
 ·subst h8
  simp only[z3Z,beq_self_eq_true,if_true]
  match d with
  | []=>simp
  | [n]=>by_cases h:1≤v∧v≤6<;>simp[h,idx]
  | _::_::_=>simp;omega
 by_cases h9:k=9
 ·subst h9
  simp only[z3Z,beq_self_eq_true,if_true]
  by_cases h1:0≤v
  ·by_cases h:d.length=0<;>by_cases h2:v<4<;>simp[h,h1,h2]<;>omega
  ·simp[h1]
 by_cases G:k=12
 ·subst G
  simp only[z3Z,beq_self_eq_true,if_true]
  by_cases h:d.length=0<;>by_cases h1:0≤v∧v≤23<;>simp[h,h1,zrL]
 by_cases o:k=10
 ·subst o
  simp only[z3Z,beq_self_eq_true,if_true]
  by_cases h:v=0
  ·by_cases h1:1≤d.length
   ·by_cases h2:d.length≤4
    ·have h3:(1:Int)≤d.length:=by omega
     have h4:(d.length:Int)≤4:=by omega
     simp[h,h1,h2,h3,h4]
    ·have h3:(1:Int)≤d.length:=by omega
     have h4:¬ (d.length:Int)≤4:=by omega
     simp[h,h1,h2,h3,h4]
   ·have h3:¬ (1:Int)≤d.length:=by omega
    simp[h,h1,h3]
  ·by_cases h1:(1:Int)≤d.length<;>by_cases h2:(d.length:Int)≤4<;>simp[h,h1,h2]
 by_cases q:k=11
 ·subst q
  simp only[z3Z,beq_self_eq_true,if_true]
  by_cases h:v=0<;>by_cases h1:d.length=2
  ·simp[h,h1]
  ·have h2:¬ ((d.length:Int)=2):=by omega
   simp[h,h1,h2]
  ·simp[h,h1]
  ·have h2:¬ ((d.length:Int)=2):=by omega
   simp[h,h1,h2]
 ·simp only[z3Z,h6,h7,h8,h9,o,q,G,if_false]
  by_cases h:v=0<;>by_cases h1:d.length=0<;>simp[h,h1,h6,h7,h8,h9,o,q,G]

theorem zeX {n:Nat}(hn:n≤maxLen):w64 ((n:Int) - 1)=(n:Int) - 1:=by
 have:maxLen=9223372036854775807:=rfl
 exact zb (by omega) (by omega)
theorem zrJ {a:D.Qe}(hf:Big fu)(hl:a.Data.length≤maxLen)(h1:1≤a.Qy.length)(h2:a.Qy.length≤maxLen):
  z3h fu a=some (zjG a.Qi a.QC a.Value a.Data a.Qy.length):=by
 unfold z3h zjG
 rw[if_neg (by simp;intro h;rw[h] at h1;exact absurd h1 (by decide))]
 have hF:z8P fu a.Qi (a.Qy.length:Int)=some (if a.Qi=9 then(a.Qy.length:Int) - 1 else 0):=by
  unfold z8P
  by_cases h:a.Qi=9
  ·rw[if_pos (by simpa using h),if_pos h,zeX h2]
  ·rw[if_neg (by simpa using h),if_neg h]
 rw[hF,bsm,zr4,bsm,zrG,bsm]
 by_cases hp:zc2 a.Qi (if a.Qi=9 then(a.Qy.length:Int) - 1 else 0)=(a.Qy.length:Int)
 ·rw[if_neg (by simp[hp]),dct hp,Bool.true_and]
  cases zjE a.Qi a.QC with
  | false=>rfl
  | true=>rw[Bool.true_and];exact zos hf hl
 ·rw[if_pos (by simpa using hp),decide_eq_false hp];rfl
theorem zrH {a:D.Qe}(hf:Big fu)(hl:a.Data.length≤maxLen)(h1:1≤a.Qy.length)(h2:a.Qy.length≤maxLen):
  z4W fu a=some (zjG a.Qi a.QC a.Value a.Data a.Qy.length):=by
 unfold z4W zjG
 have hF:z43 fu a=some (if a.Qi=9 then(a.Qy.length:Int) - 1 else 0):=by
  unfold z43
  by_cases h:a.Qi=9
  ·rw[if_pos (by simpa using h),if_pos h,zeX h2]
  ·rw[if_neg (by simpa using h),if_neg h]
 rw[hF,bsm,zkw,bsm,zrF,bsm,zor hf hl]
 by_cases hp:zc2 a.Qi (if a.Qi=9 then(a.Qy.length:Int) - 1 else 0)=(a.Qy.length:Int)
 ·rw[hp,if_pos (dct (by omega)),if_pos (by simp),dct rfl,Bool.true_and]
  cases zjE a.Qi a.QC<;>rfl
 ·rw[decide_eq_false hp]
  generalize zc2 a.Qi (if a.Qi=9 then(a.Qy.length:Int) - 1 else 0)=r at hp ⊢
  by_cases h:r>0
  ·rw[if_pos (dct h),if_neg (by simpa using fun h=>hp h.symm)];rfl
  ·rw[if_neg (by simpa using h)];rfl



def agN (a:D.Qe):Bool:=decide (a.Qy.length≠0) && zjG a.Qi a.QC a.Value a.Data a.Qy.length
theorem zxy {a:D.Qe}(hf:Big fu)(hl:a.Data.length≤maxLen)(h2:a.Qy.length≤maxLen):z3h fu a=some (agN a):=by
 by_cases h:a.Qy.length=0
 ·unfold z3h agN
  rw[if_pos (by simp[h]),show decide (a.Qy.length≠0)=false by simp[h],Bool.false_and]
  rfl
 ·rw[zrJ hf hl (by omega) h2]
  unfold agN
  rw[dct (by simpa using h),Bool.true_and]
theorem zxx {a:D.Qe}(hf:Big fu)(hl:a.Data.length≤maxLen)(h2:a.Qy.length≤maxLen):z4W fu a=some (agN a):=by
 by_cases h:a.Qy.length=0
 ·unfold z4W agN
  have hF:z43 fu a=some (if a.Qi=9 then(a.Qy.length:Int) - 1 else 0):=by
   unfold z43
   by_cases h:a.Qi=9
   ·rw[if_pos (by simpa using h),if_pos h,zeX h2]
   ·rw[if_neg (by simpa using h),if_neg h]
  rw[hF,bsm,zkw,bsm,show decide (a.Qy.length≠0)=false by simp[h],Bool.false_and]
  generalize zc2 a.Qi (if a.Qi=9 then(a.Qy.length:Int) - 1 else 0)=r
  by_cases hr:r>0
  ·rw[if_pos (dct hr),if_neg (by rw[h];simp;omega)]
  ·rw[if_neg (by simpa using hr)]
 ·rw[zrH hf hl (by omega) h2]
  unfold agN
  rw[dct (by simpa using h),Bool.true_and]
end Go.E




namespace Go.E
open Go.RowKit Go.Proofs


inductive Rnd (σ ρ:Type) where
 | go (s:σ)
 | back (r:ρ)
def znM {α σ ρ:Type}(f:Nat→σ→α→Rnd σ ρ):Nat→List α→σ→Rnd σ ρ
 | _,[],s=>.go s
 | i,x::xs,s=>match f i s x with
  | .go s'=>znM f (i+1) xs s'
  | .back r=>.back r
theorem zy4 {α σ S τ ρ:Type}{xs:List α}{body:S→Option (Rd S τ ρ)}{mk:Int→σ→S}{out:σ→τ}{f:Nat→σ→α→Rnd σ ρ}{J:Nat→σ→Prop}{s0:σ}{fu:Nat}
  (hl:xs.length≤maxLen)(hf:Big fu)(hJ:J 0 s0)
  (step:∀ (i:Nat) s x,i<xs.length→xs[i]? = some x→J i s→match f i s x with
   | .go s'=>body (mk i s)=some (.next (mk (w64 (i+1)) s'))∧J (i+1) s'
   | .back r=>body (mk i s)=some (.ret r))
  (q:∀ s,J xs.length s→body (mk xs.length s)=some (.brk (out s))):
  (match znM f 0 xs s0 with
   | .go s=>iter body fu (mk 0 s0)=some (.inl (out s))∧J xs.length s
   | .back r=>iter body fu (mk 0 s0)=some (.inr r)):=by
 have hm:maxLen=9223372036854775807:=rfl
 have key:∀ (ys:List α) (i:Nat) (s:σ) (fu:Nat),i+ys.length=xs.length→(∀ j,ys[j]? = xs[i+j]?)→ys.length<fu→J i s→(match znM f i ys s with
   | .go s'=>iter body fu (mk i s)=some (.inl (out s'))∧J xs.length s'
   | .back r=>iter body fu (mk i s)=some (.inr r)):=by
  intro ys
  induction ys with
  | nil=>
   intro i s fu hi _ o hj
   obtain⟨fu,rfl⟩:∃ f',fu=f'+1:=⟨fu - 1,by simp at o;omega⟩
   simp only[List.length_nil,Nat.add_zero] at hi
   subst hi
   simp only[znM,iter,q s hj]
   exact⟨trivial,hj⟩
  | cons y ys ih=>
   intro i s fu hi G o hj
   obtain⟨fu,rfl⟩:∃ f',fu=f'+1:=⟨fu - 1,by simp at o;omega⟩
   simp only[List.length_cons] at hi o
   have hx:xs[i]? = some y:=by have:=G 0;simpa using this.symm
   have hs:=step i s y (by omega) hx hj
   unfold znM
   cases hfs:f i s y with
   | go s'=>
    rw[hfs] at hs
    have h2:=ih (i+1) s' fu (by omega) (fun j=>by have:=G (j+1);rw[show i+1+j=i+(j+1) by omega];simpa using this) (by omega) hs.2
    simp only[iter,hs.1]
    rw[zb (by omega) (by omega)]
    exact_mod_cast h2
   | back r=>
    rw[hfs] at hs
    simp only[iter,hs]
 have:=key xs 0 s0 fu (by simp) (by simp) (by omega) hJ
 exact_mod_cast this

theorem z69 {α:Type}{xs:List α}{p:Nat→α→Bool}{k:Nat}:((xs.zipIdx k).all fun y=>p y.2 y.1)=true↔∀ i x,xs[i]? = some x→p (k+i) x=true:=by
 rw[List.all_eq_true]
 constructor
 ·intro h i x hx
  have:(x,k+i)∈xs.zipIdx k:=by
   rw[List.mem_zipIdx_iff_le_and_getElem?_sub]
   exact⟨Nat.le_add_right _ _,by simpa using hx⟩
  exact h _ this
 ·rintro h ⟨x,j⟩ hj
  rw[List.mem_zipIdx_iff_le_and_getElem?_sub] at hj
  have:=h (j - k) x hj.2
  rwa [show k+(j - k)=j by have:=hj.1;simp at this;omega] at this

theorem znL {α ρ:Type}{p:Nat→α→Bool}{v:ρ}:∀ {xs:List α}{k:Nat},znM (fun i (_:Unit) x=>if p i x=true then Rnd.go () else Rnd.back v) k xs ()=if((xs.zipIdx k).all fun y=>p y.2 y.1)=true then Rnd.go () else Rnd.back v
 | [],k=>by simp[znM]
 | x::xs,k=>by
  unfold znM
  cases h:p k x with
  | true=>simp only[if_true,znL (xs:=xs),List.zipIdx_cons,List.all_cons,h,Bool.true_and]
  | false=>simp[h]


theorem z9F {α τ ρ:Type}{xs:List α}{body:Int→Option (Rd Int τ ρ)}{p:Nat→α→Bool}{t:τ}{v:ρ}{fu:Nat}(hl:xs.length≤maxLen)(hf:Big fu)
  (step:∀ (i:Nat) x,i<xs.length→xs[i]? = some x→body i=if p i x=true then some (.next (w64 (i+1))) else some (.ret v))(o:body xs.length=some (.brk t)):
  iter body fu 0=some (if(xs.zipIdx.all fun y=>p y.2 y.1)=true then .inl t else .inr v):=by
 have h:=zy4 (xs:=xs) (body:=body) (mk:=fun i _=>i) (out:=fun(_:Unit)=>t) (f:=fun i (_:Unit) x=>if p i x=true then Rnd.go () else Rnd.back v) (J:=fun _ _=>True) (s0:=()) hl hf trivial
  (fun i s x hi hx _=>by
   have:=step i x hi hx
   cases hp:p i x with
   | true=>rw[hp] at this;exact⟨this,trivial⟩
   | false=>rw[hp] at this;simpa using this) (fun s _=>o)
 rw[znL] at h
 cases hp:(xs.zipIdx.all fun y=>p y.2 y.1) with
 | true=>rw[hp] at h;exact h.1
 | false=>rw[hp] at h;exact h

theorem zfH {α:Type}{xs:List α}{i:Nat}{x:α}(h:xs[i]? = some x):(xs.take (i+1)).zipIdx=(xs.take i).zipIdx++[(x,i)]:=by
 have hl:=(List.getElem?_eq_some_iff.1 h).1
 rw[List.take_add_one,h,List.zipIdx_append]
 simp[Nat.min_eq_left (Nat.le_of_lt hl)]

theorem z8Y {α:Type}{xs:List α}{p:α→Bool}:(xs.zipIdx.all fun y=>p y.1)=xs.all p:=by
 rw[Bool.eq_iff_iff,z69 (p:=fun _ x=>p x),List.all_eq_true]
 constructor
 ·intro h x hx
  obtain⟨i,hi⟩:=List.getElem?_of_mem hx
  exact h i x hi
 ·exact fun h i x hi=>h x (List.mem_of_getElem? hi)
end Go.E



