/- NewCluster: the plain law. Conditions: none but the arguments' own size. -/
import Derived.Test.YtfndicpnccabkaaGreatSplitShard
import Derived.Test.YtfndicpnccabkaaGreatSplitSame
namespace Go.E
open Go.RowKit Go.Proofs
set_option linter.unusedSimpArgs false
set_option linter.unusedVariables false

def newC (g:D.Grid) (k:Nat):D.Cluster:=⟨g,List.replicate (k*k) [],List.replicate k (List.replicate 7 0),List.replicate k 0,List.replicate k 0⟩
theorem zeu {fuel k:Nat}{g:D.Grid}(hf:18446744073709551616≤fuel) (hk:g.Shards.length=k) (h4:k≤4):z5r fuel g=some (newC g k):=by
  have hm:maxLen=9223372036854775807:=rfl
  have hkk:(k:Int)*k≤16∧0≤(k:Int)*k:=by
    have h1:k*k≤4*4:=Nat.mul_le_mul h4 h4
    constructor
    · exact_mod_cast h1
    · exact_mod_cast Nat.zero_le (k*k)
  have ekk:((k:Int)*k).toNat=k*k:=by rw [show(k:Int)*k=((k*k:Nat):Int) by push_cast;rfl];exact Int.toNat_natCast _
  unfold z5r
  have h:=appLoop (body:=z44 fuel g) (n:=k) (mk:=fun i s=>(i,s)) (out:=fun s=>s) (g:=fun _=>[List.replicate 7 (0:Int)]) (s0:=[]) (fuel:=fuel) (by omega) hf (fun i hi=>by
    have hlen:([]++(List.range i).flatMap fun _=>[List.replicate 7 (0:Int)]).length=i:=by rw [List.nil_append,z71,List.length_replicate]
    generalize ([]++(List.range i).flatMap fun _=>[List.replicate 7 (0:Int)])=s at hlen ⊢
    unfold z44
    dsimp only
    rw [hk,if_pos (decide_eq_true (by omega)),if_pos (by decide),if_pos (decide_eq_true (by simp only [List.length_cons,List.length_nil];omega))]
    rfl) (by unfold z44;dsimp only;rw [hk,if_neg (by simp)])
  rw [List.nil_append,z71] at h
  rw [hk,zC (n:=(k:Int)*k) (by omega) (by omega),if_pos (decide_eq_true (by omega)),h,Option.bind_some,z8]
  unfold z64
  rw [hk,zC (n:=(k:Int)*k) (by omega) (by omega),if_pos (decide_eq_true (by omega)),if_pos (decide_eq_true (by omega)),ekk,Int.toNat_natCast]
  rfl
def noneC:D.Cluster:=⟨⟨[],⟨0,0,0⟩⟩,[],[],[],[]⟩
theorem zcJ {α:Type}{f:α→Nat}{x:α}:∀ k:Nat,sumL f (List.replicate k x)=k*f x
  | 0=>by simp [sumL]
  | k+1=>by rw [List.replicate_succ,sumL,zcJ k,Nat.succ_mul];omega
theorem z98 {fuel:Nat}{x:D.Net}{ow:List Int}{k:Int}(hf:18446744073709551616≤fuel) (hs:x.sz≤1048576) (hl:ow.length≤1048576):
    ∃ r:D.Cluster × Int,z3G fuel x ow k=some r∧z2i fuel x ow k=some r∧r.1.sz≤1048576:=by
  obtain⟨g,g1,g2,g3,g4⟩:=z7P (k:=k) hf hs hl
  unfold z3G z2i
  rw [g1,g2,Option.bind_some,Option.bind_some]
  by_cases h0:g.2=0
  · obtain⟨k1,k4,kl⟩:=g4 h0
    obtain⟨kn,rfl⟩:∃ u:Nat,k=(u:Int):=⟨k.toNat,by omega⟩
    have hb:(g.2 != 0)=false:=by rw [h0];rfl
    have hkk:(kn:Int)*kn≤16∧0≤(kn:Int)*kn:=by
      have h1:kn*kn≤4*4:=Nat.mul_le_mul (by omega) (by omega)
      constructor
      · exact_mod_cast h1
      · exact_mod_cast Nat.zero_le (kn*kn)
    have ekk:((kn:Int)*kn).toNat=kn*kn:=by rw [show(kn:Int)*kn=((kn*kn:Nat):Int) by push_cast;rfl];exact Int.toNat_natCast _
    have kk16:kn*kn≤16:=Nat.mul_le_mul (show kn≤4 by omega) (show kn≤4 by omega)
    rw [hb,if_neg (c:=false=true) (by simp),if_neg (c:=false=true) (by simp),zeu hf (k:=kn) (by omega) (by omega),Option.bind_some]
    refine⟨(newC g.1 kn,0),rfl,?_,?_⟩
    · rw [zC (n:=(kn:Int)*kn) (by omega) (by omega),if_pos (decide_eq_true (by omega)),if_pos (decide_eq_true (by omega)),if_pos (decide_eq_true (by omega)),ekk,Int.toNat_natCast]
      unfold z3s
      dsimp only
      have h:=appLoop (body:=z29 fuel (kn:Int)) (n:=kn) (mk:=fun i s=>(i,s)) (out:=fun s=>s) (g:=fun _=>[List.replicate 7 (0:Int)]) (s0:=[]) (fuel:=fuel) (by omega) hf (fun i hi=>by
        have hlen:([]++(List.range i).flatMap fun _=>[List.replicate 7 (0:Int)]).length=i:=by rw [List.nil_append,z71,List.length_replicate]
        generalize ([]++(List.range i).flatMap fun _=>[List.replicate 7 (0:Int)])=s at hlen ⊢
        unfold z29
        dsimp only
        rw [if_pos (decide_eq_true (by omega)),if_pos (by decide),if_pos (decide_eq_true (by simp only [List.length_cons,List.length_nil];omega))]
        rfl) (by unfold z29;dsimp only;rw [if_neg (by simp)])
      rw [List.nil_append,z71] at h
      rw [h,Option.bind_some,z8]
      rfl
    · unfold newC D.Cluster.sz szL
      dsimp only
      simp only [zcJ,List.length_replicate,szL,sumL,List.length_nil]
      omega
  · have hb:(g.2 != 0)=true:=by simpa using h0
    rw [hb]
    exact⟨(noneC,g.2),rfl,rfl,by show noneC.sz≤1048576;decide⟩

theorem lawNewCluster {x0:D.Net}{x1:(List Int)}{x2:Int}(h0:D.Net.wf x0) (h1:(WfL I64) x1) (h2:I64 x2):∃ fuel,z1P fuel x0 x1 x2=some true:=by
  obtain⟨fuel,hf⟩:∃ n:Nat,18446744073709551616≤n:=⟨_,Nat.le_refl _⟩
  refine⟨fuel,?_⟩
  unfold z1P
  by_cases q1:(x1.length:Int)>1048576
  · rw [if_pos (decide_eq_true q1)]
  rw [if_neg (by simpa using q1)]
  obtain⟨r0,e0,s0⟩:=z9N (l:=(1048576:Int)) hf h0 (by decide) (by omega)
  rw [e0,Option.bind_some]
  rcases s0 with s0 | ⟨s0,t0⟩
  · rw [if_pos (by simp [s0])]
  rw [if_neg (by simp [s0])]
  have z1:x1.length≤1048576:=by omega
  have z0:D.Net.sz x0≤1048576:=by omega
  obtain⟨r,a0,a1,b0⟩:=z98 (k:=x2) hf z0 z1
  have m0:=fun {β:Type}(g:_→Option β)=>z2G (g:=g) a0
  have m1:=fun {β:Type}(g:_→Option β)=>z2G (g:=g) a1
  have m2:=fun {β:Type}(g:_→Option β)=>z2G (g:=g) (z9M hf z0)
  have m3:=fun {β:Type}(g:_→Option β)=>z2G (g:=g) (z9V hf z0)
  have m4:=fun {β:Type}(g:_→Option β) (k:Int) (h0:0≤k) (h1:k+(ctNet x0:Nat)≤2147483648)=>z2G (g:=g) (z8v hf z0 h0 h1)
  have c0:=zc2 (x:=x0)
  have m5:=fun {β:Type}(g:_→Option β)=>z2G (g:=g) (z6Y hf z1)
  have m6:=fun {β:Type}(g:_→Option β)=>z2G (g:=g) (z41 hf z1)
  have m7:=fun {β:Type}(g:_→Option β) (k:Int) (h0:0≤k) (h1:k+(z1e x1:Nat)≤2147483648)=>z2G (g:=g) (z1x hf z1 h0 h1)
  have c1:=z4O (xs:=x1)
  have m8:=fun {β:Type}(g:_→Option β)=>z2G (g:=g) (z9B hf b0)
  have m9:=fun {β:Type}(g:_→Option β) (k:Int) (h0:0≤k) (h1:k+(ctCluster r.1:Nat)≤2147483648)=>z2G (g:=g) (z8G hf b0 h0 h1)
  have m10:=fun {β:Type}(g:_→Option β) (k:Int) (h0:0≤k) (h1:k+(ctCluster r.1:Nat)≤2147483648)=>z2G (g:=g) (z8O hf b0 h0 h1)
  have d0:=zb9 (x:=r.1)
  simp (disch:=omega) only [↓reduceIte,↓m0,↓m1,↓m2,↓m3,↓m4,↓m5,↓m6,↓m7,↓m8,↓m9,↓m10,lt_f,Bool.not_true,Bool.false_eq_true,bne_self_eq_false,z6g]
  simp (disch:=omega) only [↓reduceIte,↓zP,↓m0,↓m1,↓m2,↓m3,↓m4,↓m5,↓m6,↓m7,↓m8,↓m9,↓m10,lt_f,Bool.not_true,Bool.false_eq_true,bne_self_eq_false,z6g]
  simp (disch:=omega) only [↓reduceIte,↓zF,↓m0,↓m1,↓m2,↓m3,↓m4,↓m5,↓m6,↓m7,↓m8,↓m9,↓m10,lt_f,Bool.not_true,Bool.false_eq_true,bne_self_eq_false,z6g]
  simp (disch:=omega) only [↓reduceIte,↓zO,↓m0,↓m1,↓m2,↓m3,↓m4,↓m5,↓m6,↓m7,↓m8,↓m9,↓m10,lt_f,Bool.not_true,Bool.false_eq_true,bne_self_eq_false,z6g]
end Go.E


