/- What the functions that mark data and look for the marks give (written by program). Conditions: counts stay small. -/
import Derived.Test.YteommboffflkbaaGreatShort
import Derived.Test.YteommboffflkbaaGreatSizesD
import Derived.Test.YteommboffflkbaaGreatFM
import Derived.Test.YteommboffflkbaaGreatHN
import Derived.Test.YteommboffflkbaaGreatMarksV
import Derived.Test.YteommboffflkbaaGreatFGe
import Derived.Test.YteommboffflkbaaGreatFA
namespace Go.E
open Go.RowKit Go.Proofs
set_option linter.unusedSimpArgs false
set_option linter.unusedVariables false
set_option maxHeartbeats 1000000

theorem z7w {fuel:Nat}{xs:List Int}{k:Int}(hf:18446744073709551616≤fuel) (hl:xs.length≤1048576) (h0:0≤k) (h1:k+(z2b xs:Nat)≤2147483648):z1z fuel (z71 fuel xs k) k=some (k+(z2b xs:Nat)):=by
  unfold z1z
  have hlen:(z71 fuel xs k).length=xs.length:=z1u _ _
  rw [z81 (f:=zbU fuel) (c:=z9a) (xs:=xs) (k:=k) (by have:=hl;omega) hf h0 h1 ?_ ?_]
  · rfl
  · intro i x k' hi hx hm h0 h1
    unfold z9a at h1
    have d:(z71 fuel xs k)[i]? = some (zbU fuel x k'):=hx
    unfold z3J
    rw [if_pos (decide_eq_true (show(i:Int)<(z71 fuel xs k).length by rw [hlen];omega))]
    simp only [z9 d,Option.bind_some]
    unfold zbU z9a
    simp (disch:=omega) only [z7F,Option.bind_some,lt_f,if_false,bne_self_eq_false,Bool.false_eq_true,beq_self_eq_true,Bool.not_true,Int.ofNat_one,Int.natCast_one]
  · intro k';show z3J fuel (z71 fuel xs k) (k',((z71 fuel xs k).length:Int))=_;unfold z3J;rw [if_neg (by simp)]

theorem zaT {fuel:Nat}{xs:List D.Address}{k:Int}(hf:18446744073709551616≤fuel) (hl:xs.length≤1048576) (h0:0≤k) (h1:k+(ctAddressS xs:Nat)≤2147483648):z2N fuel (mkAddressS fuel xs k) k=some (k+(ctAddressS xs:Nat)):=by
  unfold z2N
  have hlen:(mkAddressS fuel xs k).length=xs.length:=z1u _ _
  rw [z81 (f:=elAddressS fuel) (c:=ecAddressS) (xs:=xs) (k:=k) (by have:=hl;omega) hf h0 h1 ?_ ?_]
  · rfl
  · intro i x k' hi hx hm h0 h1
    unfold ecAddressS at h1
    have d:(mkAddressS fuel xs k)[i]? = some (elAddressS fuel x k'):=hx
    unfold z2E
    rw [if_pos (decide_eq_true (show(i:Int)<(mkAddressS fuel xs k).length by rw [hlen];omega))]
    simp only [z9 d,Option.bind_some]
    unfold elAddressS ecAddressS
    simp (disch:=omega) only [z7F,Option.bind_some,lt_f,if_false,bne_self_eq_false,Bool.false_eq_true,beq_self_eq_true,Bool.not_true,Int.ofNat_one,Int.natCast_one]
    try (refine congrArg some (congrArg Rd.next (Prod.ext ?_ rfl));dsimp only;simp only [Int.natCast_add,Int.natCast_one,Int.ofNat_one];try omega)
  · intro k';show z2E fuel (mkAddressS fuel xs k) (k',((mkAddressS fuel xs k).length:Int))=_;unfold z2E;rw [if_neg (by simp)]

theorem zdw {fuel:Nat}{xs:List D.Parcel}{k:Int}(hf:18446744073709551616≤fuel) (hl:szL D.Parcel.sz xs≤1048576) (h0:0≤k) (h1:k+(ctParcelS xs:Nat)≤2147483648):z5j fuel (mkParcelS fuel xs k) k=some (k+(ctParcelS xs:Nat)):=by
  unfold z5j
  have hlen:(mkParcelS fuel xs k).length=xs.length:=z1u _ _
  rw [z81 (f:=elParcelS fuel) (c:=ecParcelS) (xs:=xs) (k:=k) (by have:=(z3v hl);omega) hf h0 h1 ?_ ?_]
  · rfl
  · intro i x k' hi hx hm h0 h1
    unfold ecParcelS at h1
    have hsx:=z3u hl hm
    simp only [D.Parcel.sz,D.ShardCell.sz] at hsx
    have d:(mkParcelS fuel xs k)[i]? = some (elParcelS fuel x k'):=hx
    unfold z35
    rw [if_pos (decide_eq_true (show(i:Int)<(mkParcelS fuel xs k).length by rw [hlen];omega))]
    simp only [z9 d,Option.bind_some]
    unfold elParcelS ecParcelS
    simp only [Int.natCast_add,Int.natCast_one,Int.ofNat_one,← Int.add_assoc] at h1 ⊢
    simp (disch:=omega) only [z7w hf (show x.Cell.Data.length≤1048576 by omega),zaT hf (show x.Cell.Aux.length≤1048576 by omega),z7F,Option.bind_some,lt_f,if_false,bne_self_eq_false,Bool.false_eq_true,beq_self_eq_true,Bool.not_true,Int.ofNat_one,Int.natCast_one]
    try (refine congrArg some (congrArg Rd.next (Prod.ext ?_ rfl));dsimp only;simp only [Int.natCast_add,Int.natCast_one,Int.ofNat_one];try omega)
  · intro k';show z35 fuel (mkParcelS fuel xs k) (k',((mkParcelS fuel xs k).length:Int))=_;unfold z35;rw [if_neg (by simp)]

theorem zd6 {fuel:Nat}{xs:List (List D.Parcel)}{k:Int}(hf:18446744073709551616≤fuel) (hl:szL (fun x=>szL D.Parcel.sz x) xs≤1048576) (h0:0≤k) (h1:k+(ctParcelSS xs:Nat)≤2147483648):z4t fuel (mkParcelSS fuel xs k) k=some (k+(ctParcelSS xs:Nat)):=by
  unfold z4t
  have hlen:(mkParcelSS fuel xs k).length=xs.length:=z1u _ _
  rw [z81 (f:=elParcelSS fuel) (c:=ecParcelSS) (xs:=xs) (k:=k) (by have:=(z3v hl);omega) hf h0 h1 ?_ ?_]
  · rfl
  · intro i x k' hi hx hm h0 h1
    unfold ecParcelSS at h1
    have hsx:=z3u hl hm
    have d:(mkParcelSS fuel xs k)[i]? = some (elParcelSS fuel x k'):=hx
    unfold z2D
    rw [if_pos (decide_eq_true (show(i:Int)<(mkParcelSS fuel xs k).length by rw [hlen];omega))]
    simp only [z9 d,Option.bind_some]
    unfold elParcelSS ecParcelSS
    simp (disch:=omega) only [zdw hf (show szL D.Parcel.sz x≤1048576 by omega),z7F,Option.bind_some,lt_f,if_false,bne_self_eq_false,Bool.false_eq_true,beq_self_eq_true,Bool.not_true,Int.ofNat_one,Int.natCast_one]
    try (refine congrArg some (congrArg Rd.next (Prod.ext ?_ rfl));dsimp only;simp only [Int.natCast_add,Int.natCast_one,Int.ofNat_one];try omega)
  · intro k';show z2D fuel (mkParcelSS fuel xs k) (k',((mkParcelSS fuel xs k).length:Int))=_;unfold z2D;rw [if_neg (by simp)]

theorem zdx {fuel:Nat}{xs:List (List Int)}{k:Int}(hf:18446744073709551616≤fuel) (hl:szL (fun x=>x.length) xs≤1048576) (h0:0≤k) (h1:k+(z6S xs:Nat)≤2147483648):z5k fuel (z8r fuel xs k) k=some (k+(z6S xs:Nat)):=by
  unfold z5k
  have hlen:(z8r fuel xs k).length=xs.length:=z1u _ _
  rw [z81 (f:=zaU fuel) (c:=z82) (xs:=xs) (k:=k) (by have:=(z3v hl);omega) hf h0 h1 ?_ ?_]
  · rfl
  · intro i x k' hi hx hm h0 h1
    unfold z82 at h1
    have hsx:=z3u hl hm
    have d:(z8r fuel xs k)[i]? = some (zaU fuel x k'):=hx
    unfold z36
    rw [if_pos (decide_eq_true (show(i:Int)<(z8r fuel xs k).length by rw [hlen];omega))]
    simp only [z9 d,Option.bind_some]
    unfold zaU z82
    simp (disch:=omega) only [z7w hf (show x.length≤1048576 by omega),z7F,Option.bind_some,lt_f,if_false,bne_self_eq_false,Bool.false_eq_true,beq_self_eq_true,Bool.not_true,Int.ofNat_one,Int.natCast_one]
    try (refine congrArg some (congrArg Rd.next (Prod.ext ?_ rfl));dsimp only;simp only [Int.natCast_add,Int.natCast_one,Int.ofNat_one];try omega)
  · intro k';show z36 fuel (z8r fuel xs k) (k',((z8r fuel xs k).length:Int))=_;unfold z36;rw [if_neg (by simp)]

def elBoolS (fuel:Nat) (x:Bool) (k:Int):Bool:=((k).tmod 3 == 0)
def ecBoolS (x:Bool):Nat:=1
def mkBoolS (fuel:Nat) (xs:List Bool) (k:Int):List Bool:=markL (elBoolS fuel) ecBoolS xs k
def ctBoolS (xs:List Bool):Nat:=sumL ecBoolS xs
theorem zf2 {fuel:Nat}{xs:List Bool}{k:Int}(hf:18446744073709551616≤fuel) (hl:xs.length≤1048576) (h0:0≤k) (h1:k+(ctBoolS xs:Nat)≤2147483648):z6M fuel xs k=some (k+(ctBoolS xs:Nat),mkBoolS fuel xs k):=by
  unfold z6M
  rw [z7N (f:=elBoolS fuel) (c:=ecBoolS) (xs:=xs) (k:=k) (by have:=hl;omega) hf h0 h1 ?_ ?_]
  · rfl
  · intro i x ys k hi d hx hm h0 h1
    unfold ecBoolS at h1
    unfold z6s elBoolS ecBoolS
    rw [if_pos (decide_eq_true (show(i:Int)<xs.length by omega))]
    rw [if_pos (decide_eq_true (show 0≤(i:Int)∧(i:Int).toNat<ys.length from⟨by omega,by rw [d];simpa using hi⟩))]
    simp (disch:=omega) only [z7F,Int.toNat_natCast,Int.ofNat_one,Int.natCast_one]
  · intro k ys;unfold z6s;rw [if_neg (by simp)]

theorem zf3 {fuel:Nat}{xs:List Bool}{k:Int}(hf:18446744073709551616≤fuel) (hl:xs.length≤1048576) (h0:0≤k) (h1:k+(ctBoolS xs:Nat)≤2147483648):z6N fuel (mkBoolS fuel xs k) k=some (k+(ctBoolS xs:Nat)):=by
  unfold z6N
  have hlen:(mkBoolS fuel xs k).length=xs.length:=z1u _ _
  rw [z81 (f:=elBoolS fuel) (c:=ecBoolS) (xs:=xs) (k:=k) (by have:=hl;omega) hf h0 h1 ?_ ?_]
  · rfl
  · intro i x k' hi hx hm h0 h1
    unfold ecBoolS at h1
    have d:(mkBoolS fuel xs k)[i]? = some (elBoolS fuel x k'):=hx
    unfold z4u
    rw [if_pos (decide_eq_true (show(i:Int)<(mkBoolS fuel xs k).length by rw [hlen];omega))]
    simp only [z9 d,Option.bind_some]
    unfold elBoolS ecBoolS
    simp (disch:=omega) only [z7F,Option.bind_some,lt_f,if_false,bne_self_eq_false,Bool.false_eq_true,beq_self_eq_true,Bool.not_true,Int.ofNat_one,Int.natCast_one]
  · intro k';show z4u fuel (mkBoolS fuel xs k) (k',((mkBoolS fuel xs k).length:Int))=_;unfold z4u;rw [if_neg (by simp)]

theorem ziY {xs:List Bool}:ctBoolS xs≤64*(xs.length):=by
  have h:=z9W (c:=ecBoolS) (g:=(fun _=>0)) (m:=64) (xs:=xs) fun x _=>by
    unfold ecBoolS
    omega
  rw [zbO (fun _=>rfl)] at h
  exact h

theorem zcg {fuel:Nat}{xs:List D.ShardCell}{k:Int}(hf:18446744073709551616≤fuel) (hl:szL D.ShardCell.sz xs≤1048576) (h0:0≤k) (h1:k+(ctShardCellS xs:Nat)≤2147483648):z34 fuel (mkShardCellS fuel xs k) k=some (k+(ctShardCellS xs:Nat)):=by
  unfold z34
  have hlen:(mkShardCellS fuel xs k).length=xs.length:=z1u _ _
  rw [z81 (f:=elShardCellS fuel) (c:=ecShardCellS) (xs:=xs) (k:=k) (by have:=(z3v hl);omega) hf h0 h1 ?_ ?_]
  · rfl
  · intro i x k' hi hx hm h0 h1
    unfold ecShardCellS at h1
    have hsx:=z3u hl hm
    unfold D.ShardCell.sz at hsx
    have d:(mkShardCellS fuel xs k)[i]? = some (elShardCellS fuel x k'):=hx
    unfold z25
    rw [if_pos (decide_eq_true (show(i:Int)<(mkShardCellS fuel xs k).length by rw [hlen];omega))]
    simp only [z9 d,Option.bind_some]
    unfold elShardCellS ecShardCellS
    simp (disch:=omega) only [z7w hf (show x.Data.length≤1048576 by omega),zaT hf (show x.Aux.length≤1048576 by omega),z7F,Option.bind_some,lt_f,if_false,bne_self_eq_false,Bool.false_eq_true,beq_self_eq_true,Bool.not_true,Int.ofNat_one,Int.natCast_one]
    try (refine congrArg some (congrArg Rd.next (Prod.ext ?_ rfl));dsimp only;simp only [Int.natCast_add,Int.natCast_one,Int.ofNat_one];try omega)
  · intro k';show z25 fuel (mkShardCellS fuel xs k) (k',((mkShardCellS fuel xs k).length:Int))=_;unfold z25;rw [if_neg (by simp)]

theorem zcG {fuel:Nat}{xs:List D.ShardVar}{k:Int}(hf:18446744073709551616≤fuel) (hl:xs.length≤1048576) (h0:0≤k) (h1:k+(ctShardVarS xs:Nat)≤2147483648):z3G fuel (mkShardVarS fuel xs k) k=some (k+(ctShardVarS xs:Nat)):=by
  unfold z3G
  have hlen:(mkShardVarS fuel xs k).length=xs.length:=z1u _ _
  rw [z81 (f:=elShardVarS fuel) (c:=ecShardVarS) (xs:=xs) (k:=k) (by have:=hl;omega) hf h0 h1 ?_ ?_]
  · rfl
  · intro i x k' hi hx hm h0 h1
    unfold ecShardVarS at h1
    have d:(mkShardVarS fuel xs k)[i]? = some (elShardVarS fuel x k'):=hx
    unfold z2p
    rw [if_pos (decide_eq_true (show(i:Int)<(mkShardVarS fuel xs k).length by rw [hlen];omega))]
    simp only [z9 d,Option.bind_some]
    unfold elShardVarS ecShardVarS
    simp (disch:=omega) only [z7F,Option.bind_some,lt_f,if_false,bne_self_eq_false,Bool.false_eq_true,beq_self_eq_true,Bool.not_true,Int.ofNat_one,Int.natCast_one]
    try (refine congrArg some (congrArg Rd.next (Prod.ext ?_ rfl));dsimp only;simp only [Int.natCast_add,Int.natCast_one,Int.ofNat_one];try omega)
  · intro k';show z2p fuel (mkShardVarS fuel xs k) (k',((mkShardVarS fuel xs k).length:Int))=_;unfold z2p;rw [if_neg (by simp)]

theorem zc0 {fuel:Nat}{xs:List D.ShardRedex}{k:Int}(hf:18446744073709551616≤fuel) (hl:xs.length≤1048576) (h0:0≤k) (h1:k+(ctShardRedexS xs:Nat)≤2147483648):z2C fuel (mkShardRedexS fuel xs k) k=some (k+(ctShardRedexS xs:Nat)):=by
  unfold z2C
  have hlen:(mkShardRedexS fuel xs k).length=xs.length:=z1u _ _
  rw [z81 (f:=elShardRedexS fuel) (c:=ecShardRedexS) (xs:=xs) (k:=k) (by have:=hl;omega) hf h0 h1 ?_ ?_]
  · rfl
  · intro i x k' hi hx hm h0 h1
    unfold ecShardRedexS at h1
    have d:(mkShardRedexS fuel xs k)[i]? = some (elShardRedexS fuel x k'):=hx
    unfold z1L
    rw [if_pos (decide_eq_true (show(i:Int)<(mkShardRedexS fuel xs k).length by rw [hlen];omega))]
    simp only [z9 d,Option.bind_some]
    unfold elShardRedexS ecShardRedexS
    simp only [Int.natCast_add,Int.natCast_one,Int.ofNat_one,← Int.add_assoc] at h1 ⊢
    simp (disch:=omega) only [z7F,Option.bind_some,lt_f,if_false,bne_self_eq_false,Bool.false_eq_true,beq_self_eq_true,Bool.not_true,Int.ofNat_one,Int.natCast_one]
    try (refine congrArg some (congrArg Rd.next (Prod.ext ?_ rfl));dsimp only;simp only [Int.natCast_add,Int.natCast_one,Int.ofNat_one];try omega)
  · intro k';show z1L fuel (mkShardRedexS fuel xs k) (k',((mkShardRedexS fuel xs k).length:Int))=_;unfold z1L;rw [if_neg (by simp)]

theorem zep {fuel:Nat}{xs:List D.Shard}{k:Int}(hf:18446744073709551616≤fuel) (hl:szL D.Shard.sz xs≤1048576) (h0:0≤k) (h1:k+(ctShardS xs:Nat)≤2147483648):z6a fuel (mkShardS fuel xs k) k=some (k+(ctShardS xs:Nat)):=by
  unfold z6a
  have hlen:(mkShardS fuel xs k).length=xs.length:=z1u _ _
  rw [z81 (f:=elShardS fuel) (c:=ecShardS) (xs:=xs) (k:=k) (by have:=(z3v hl);omega) hf h0 h1 ?_ ?_]
  · rfl
  · intro i x k' hi hx hm h0 h1
    unfold ecShardS at h1
    have hsx:=z3u hl hm
    unfold D.Shard.sz at hsx
    have d:(mkShardS fuel xs k)[i]? = some (elShardS fuel x k'):=hx
    unfold z3H
    rw [if_pos (decide_eq_true (show(i:Int)<(mkShardS fuel xs k).length by rw [hlen];omega))]
    simp only [z9 d,Option.bind_some]
    unfold elShardS ecShardS
    simp (disch:=omega) only [zcg hf (show szL D.ShardCell.sz x.Cells≤1048576 by omega),zcG hf (show x.Vars.length≤1048576 by omega),zc0 hf (show x.Redexes.length≤1048576 by omega),z7F,Option.bind_some,lt_f,if_false,bne_self_eq_false,Bool.false_eq_true,beq_self_eq_true,Bool.not_true,Int.ofNat_one,Int.natCast_one]
    try (refine congrArg some (congrArg Rd.next (Prod.ext ?_ rfl));dsimp only;simp only [Int.natCast_add,Int.natCast_one,Int.ofNat_one];try omega)
  · intro k';show z3H fuel (mkShardS fuel xs k) (k',((mkShardS fuel xs k).length:Int))=_;unfold z3H;rw [if_neg (by simp)]

def mkDetector (fuel:Nat) (x:D.Detector) (k:Int):D.Detector:=(⟨(⟨(⟨mkShardS fuel x.Cluster.Grid.Shards (k),(⟨x.Cluster.Grid.Root.Machine,x.Cluster.Grid.Root.Kind,x.Cluster.Grid.Root.Index⟩:D.Address)⟩:D.Grid),mkParcelSS fuel x.Cluster.Channels (k+((ctShardS x.Cluster.Grid.Shards:Nat):Int)),z8r fuel x.Cluster.Counts (k+((ctShardS x.Cluster.Grid.Shards:Nat):Int)+((ctParcelSS x.Cluster.Channels:Nat):Int)),z71 fuel x.Cluster.Sent (k+((ctShardS x.Cluster.Grid.Shards:Nat):Int)+((ctParcelSS x.Cluster.Channels:Nat):Int)+((z6S x.Cluster.Counts:Nat):Int)),z71 fuel x.Cluster.Got (k+((ctShardS x.Cluster.Grid.Shards:Nat):Int)+((ctParcelSS x.Cluster.Channels:Nat):Int)+((z6S x.Cluster.Counts:Nat):Int)+((z2b x.Cluster.Sent:Nat):Int))⟩:D.Cluster),x.Holder,x.Count,x.Dark,mkBoolS fuel x.Stained (k+((ctShardS x.Cluster.Grid.Shards:Nat):Int)+((ctParcelSS x.Cluster.Channels:Nat):Int)+((z6S x.Cluster.Counts:Nat):Int)+((z2b x.Cluster.Sent:Nat):Int)+((z2b x.Cluster.Got:Nat):Int)),x.Rounds,x.Announced⟩:D.Detector)
def ctDetector (x:D.Detector):Nat:=ctShardS x.Cluster.Grid.Shards+ctParcelSS x.Cluster.Channels+z6S x.Cluster.Counts+z2b x.Cluster.Sent+z2b x.Cluster.Got+ctBoolS x.Stained
theorem z97 {fuel:Nat}{x:D.Detector}{k:Int}:(⟨(⟨(⟨(mkDetector fuel x k).Cluster.Grid.Shards,(⟨x.Cluster.Grid.Root.Machine,x.Cluster.Grid.Root.Kind,x.Cluster.Grid.Root.Index⟩:D.Address)⟩:D.Grid),(mkDetector fuel x k).Cluster.Channels,(mkDetector fuel x k).Cluster.Counts,(mkDetector fuel x k).Cluster.Sent,(mkDetector fuel x k).Cluster.Got⟩:D.Cluster),x.Holder,x.Count,x.Dark,(mkDetector fuel x k).Stained,x.Rounds,x.Announced⟩:D.Detector)=mkDetector fuel x k:=rfl
theorem zd2 {fuel:Nat}{x:D.Detector}{k:Int}(hf:18446744073709551616≤fuel) (hs:x.sz≤1048576) (h0:0≤k) (h1:k+(ctDetector x:Nat)≤2147483648):z4s fuel x k=some (k+(ctDetector x:Nat),(mkDetector fuel x k).Cluster.Grid.Shards,(mkDetector fuel x k).Cluster.Channels,(mkDetector fuel x k).Cluster.Counts,(mkDetector fuel x k).Cluster.Sent,(mkDetector fuel x k).Cluster.Got,(mkDetector fuel x k).Stained):=by
  unfold ctDetector at h1 ⊢
  simp only [D.Detector.sz,D.Cluster.sz,D.Grid.sz] at hs
  unfold z4s mkDetector
  simp (disch:=omega) only [zbs hf (show szL D.Shard.sz x.Cluster.Grid.Shards≤1048576 by omega),zaN hf (show szL (fun x=>szL D.Parcel.sz x) x.Cluster.Channels≤1048576 by omega),zbd hf (show szL (fun x=>x.length) x.Cluster.Counts≤1048576 by omega),z48 hf (show x.Cluster.Sent.length≤1048576 by omega),z48 hf (show x.Cluster.Got.length≤1048576 by omega),zf2 hf (show x.Stained.length≤1048576 by omega),Option.bind_some,z2o,z7j]
  all_goals try simp only [Int.natCast_add,Int.add_assoc]

theorem zd7 {fuel:Nat}{x:D.Detector}{k:Int}(hf:18446744073709551616≤fuel) (hs:x.sz≤1048576) (h0:0≤k) (h1:k+(ctDetector x:Nat)≤2147483648):z2M fuel (mkDetector fuel x k) k=some (k+(ctDetector x:Nat)):=by
  unfold ctDetector at h1 ⊢
  simp only [D.Detector.sz,D.Cluster.sz,D.Grid.sz] at hs
  unfold z2M mkDetector
  simp (disch:=omega) only [zep hf (show szL D.Shard.sz x.Cluster.Grid.Shards≤1048576 by omega),zd6 hf (show szL (fun x=>szL D.Parcel.sz x) x.Cluster.Channels≤1048576 by omega),zdx hf (show szL (fun x=>x.length) x.Cluster.Counts≤1048576 by omega),z7w hf (show x.Cluster.Sent.length≤1048576 by omega),z7w hf (show x.Cluster.Got.length≤1048576 by omega),zf3 hf (show x.Stained.length≤1048576 by omega),Option.bind_some,lt_f,if_false,z76,z8H]
  all_goals try simp only [Int.natCast_add,Int.add_assoc]

theorem zg7 {x:D.Detector}:ctDetector x≤64*x.sz:=by
  unfold ctDetector
  simp only [D.Detector.sz,D.Cluster.sz,D.Grid.sz]
  have:=zeE (xs:=x.Cluster.Grid.Shards)
  have:=zcM (xs:=x.Cluster.Channels)
  have:=zdf (xs:=x.Cluster.Counts)
  have:=z8e (xs:=x.Cluster.Sent)
  have:=z8e (xs:=x.Cluster.Got)
  have:=ziY (xs:=x.Stained)
  omega

end Go.E


namespace Go.E
open Go.RowKit Go.Proofs
set_option linter.unusedVariables false
set_option linter.unusedSimpArgs false
set_option maxHeartbeats 2000000
set_option maxRecDepth 100000

end Go.E


namespace Go.E
open Go.RowKit Go.Proofs
set_option linter.unusedSimpArgs false
set_option linter.unusedVariables false

theorem z8b {fuel:Nat}{a l h:Int}:zT fuel a l h=some (decide (l≤a∧a≤h)):=by
  unfold zT
  by_cases h1:l≤a
  · rw [if_pos (decide_eq_true (by omega))];simp [h1]
  · rw [if_neg (by simp;omega)];simp [h1]

def portsN (k f:Int):Int:=
  if k=9 then(if 0≤f∧f≤3 then 1+f else 0) else if f≠0 then 0 else if k=1∨k=5∨k=6∨k=12 then 1 else
  if k=8∨k=10∨k=11 then 2 else if k=2∨k=3∨k=4∨k=7 then 3 else 0
def levelN (k:Int):Bool:=decide (2≤k∧k≤12∧k≠5∧k≠6)
def allowN (k l:Int):Bool:=decide (1≤k∧k≤12) && (decide (l=0) || (levelN k && decide (0≤l∧l≤8)))
def defN (n:Int):Bool:=decide (0≤n∧n≤23)
def contentN (k v:Int) (d:List Int):Bool:=
  if k=6 then decide (d.length=0∧-2147483648≤v∧v≤2147483647) else
  if k=7 then decide (d.length=0∧1≤v∧v≤6) else
  if k=8 then decide (d.length=1∧1≤v∧v≤6) && d.all (fun n=>decide (-2147483648≤n∧n≤2147483647)) else
  if k=9 then decide (d.length=0∧0≤v∧v≤3) else
  if k=10 then decide (v=0∧1≤d.length∧d.length≤4) && d.all defN else
  if k=11 then decide (v=0∧d.length=2) && d.all defN else
  if k=12 then decide (d.length=0∧0≤v∧v≤23) else decide (v=0∧d.length=0)
def agentN (k l v:Int) (d:List Int) (n:Nat):Bool:=decide (portsN k (if k=9 then n - 1 else 0)=n) && (allowN k l && contentN k v d)

theorem kinds (k:Int):(k=1∨k=2∨k=3∨k=4∨k=5∨k=6∨k=7∨k=8∨k=9∨k=10∨k=11∨k=12)∨¬ (1≤k∧k≤12):=by omega
theorem zi8 {k:Int}(h:¬ (1≤k∧k≤12)) (c:Int) (h1:1≤c∧c≤12):(k == c)=false:=by
  rw [beq_eq_false_iff_ne];rintro rfl;exact h h1

theorem zfs {fuel:Nat}{k f:Int}:z5w fuel k f=some (portsN k f):=by
  by_cases h9:k=9
  · subst h9
    unfold z5w portsN
    simp only [z8b,Option.bind_some,beq_self_eq_true,if_true,decide_eq_true_eq]
    split
    · rw [za (by omega) (by omega)]
    · rfl
  · by_cases hf:f=0
    · subst hf
      rcases kinds k with h | h
      · rcases h with rfl | rfl | rfl | rfl | rfl | rfl | rfl | rfl | rfl | rfl | rfl | rfl<;>first | exact absurd rfl h9 | rfl
      · simp [z5w,z63,z62,z61,z60,z5Z,z5Y,z5X,z5W,portsN,zi8 h,h9]
        omega
    · unfold z5w portsN
      rw [if_neg (by simpa using h9),if_pos (by simpa using hf),if_neg h9,if_pos hf]
theorem zb4 {fuel:Nat}{k:Int}:z6x fuel k=some (decide (1≤k∧k≤12)):=by
  unfold z6x
  by_cases h1:1≤k
  · rw [if_pos (decide_eq_true (by omega))];simp [h1]
  · rw [if_neg (by simp;omega)];simp [h1]
theorem ziO {fuel:Nat}{k f:Int}:z6V fuel k f=some (portsN k f):=by
  by_cases h9:k=9
  · subst h9
    unfold z6V portsN z2Q
    simp only [zb4,Option.bind_some,beq_self_eq_true,if_true]
    by_cases h0:0≤f
    · by_cases h3:f≤3
      · rw [if_pos (decide_eq_true (by omega)),if_pos (decide_eq_true h3),if_pos ⟨h0,h3⟩,za (by omega) (by omega),Int.add_comm]
      · rw [if_pos (decide_eq_true (by omega)),if_neg (by simpa using h3)];simp [z1B,h3]
    · rw [if_neg (by simp;omega),if_neg Bool.false_ne_true];simp [z1B,h0]
  · unfold z6V z2Q
    rw [if_neg (by simpa using h9),if_neg Bool.false_ne_true,zb4,Option.bind_some]
    rcases kinds k with h | h
    · by_cases hf:f=0
      · subst hf
        rcases h with rfl | rfl | rfl | rfl | rfl | rfl | rfl | rfl | rfl | rfl | rfl | rfl<;>first | exact absurd rfl h9 | rfl
      · rw [if_neg (by simp;omega),if_neg (by simpa using h9),show(f != 0)=true by simpa using hf]
        simp [z1B,portsN,h9,hf]
    · rw [if_pos (by simp;omega)]
      simp [z1B,portsN,h9]
      omega

theorem ziQ {fuel:Nat}{k:Int}:z7e fuel k=some (levelN k):=by
  rcases kinds k with h | h
  · rcases h with rfl | rfl | rfl | rfl | rfl | rfl | rfl | rfl | rfl | rfl | rfl | rfl<;>rfl
  · simp [z7e,z5b,z5a,z59,z58,z57,z56,z55,z54,levelN,zi8 h]
    omega
theorem ziR {fuel:Nat}{k:Int}:z7s fuel k=some (levelN k):=by
  unfold z7s
  rw [zb4,Option.bind_some]
  rcases kinds k with h | h
  · rcases h with rfl | rfl | rfl | rfl | rfl | rfl | rfl | rfl | rfl | rfl | rfl | rfl<;>rfl
  · rw [if_neg (by simpa using h)]
    simp [levelN];omega
theorem zj8 {fuel:Nat}{k l:Int}:z7d fuel k l=some (allowN k l):=by
  unfold z7d z99 allowN
  simp only [ziQ,z8b,Option.bind_some]
  cases hl:levelN k with
  | true=>
    have:1≤k∧k≤12:=by unfold levelN at hl;simp at hl;omega
    simp [this];omega
  | false=>by_cases h:1≤k∧k≤12<;>by_cases h0:l=0<;>simp [h,h0]
theorem zj9 {fuel:Nat}{k l:Int}:z6Q fuel k l=some (allowN k l):=by
  unfold z6Q allowN
  have hL:z7W fuel l=some (decide (0≤l∧l≤8)):=by
    unfold z7W
    by_cases h1:0≤l
    · rw [if_pos (decide_eq_true (by omega))];simp [h1]
    · rw [if_neg (by simp;omega)];simp [h1]
  simp only [zb4,ziR,hL,Option.bind_some]
  by_cases h:1≤k∧k≤12
  · by_cases h0:l=0
    · simp [h,h0]
    · cases hl:levelN k<;>simp [h,h0]
  · simp [h]

theorem zih {fuel:Nat}{n:Int}:z7C fuel n=some (defN n):=by
  unfold z7C defN;rw [z8b];rfl
theorem zii {fuel:Nat}{n:Int}:z46 fuel n=some (defN n):=by
  unfold z46 defN
  by_cases h1:0≤n
  · rw [if_pos (decide_eq_true (by omega))];simp [h1];omega
  · rw [if_neg (by simp;omega)];simp [h1]
theorem zns {fuel:Nat}{n:Int}:z8j fuel n=some (decide (-2147483648≤n∧n≤2147483647)):=by
  unfold z8j
  by_cases h1:-2147483648≤n
  · rw [if_pos (decide_eq_true (by omega))];simp [h1]
  · rw [if_neg (by simp;omega)];simp [h1]
theorem zjy {fuel:Nat}{n:Int}:z45 fuel n=some (decide (1≤n∧n≤6)):=by
  unfold z45
  by_cases h1:1≤n
  · rw [if_pos (decide_eq_true (by omega))];simp [h1]
  · rw [if_neg (by simp;omega)];simp [h1]
theorem zaD {α:Type}{p:α→Bool}:∀ {xs:List α},xs.any (fun x=>!p x)=!xs.all p
  | []=>rfl
  | x::xs=>by simp [zaD (p:=p) (xs:=xs)]
theorem zmD {fuel:Nat}{a:D.Agent}(hf:18446744073709551616≤fuel) (hl:a.Data.length≤maxLen):
    ((iter (z3C fuel a) fuel 0).bind fun o=>aft o (z7K fuel))=some (a.Data.all defN):=by
  rw [askOne (xs:=a.Data) (p:=fun n=>!defN n) (v:=false) (t:=()) hl hf (fun i x hi hx=>by
    unfold z3C
    simp only [z9 hx,zih,lt_t (show(i:Int)<a.Data.length by omega),if_true,Option.bind_some]) (by simp [z3C]),zaD]
  cases a.Data.all defN<;>rfl
theorem zdg {fuel:Nat}{p:Int→Bool}{f:Int→Option Bool}{xs:List Int}(hf:18446744073709551616≤fuel) (hl:xs.length≤maxLen) (h:∀ n,f n=some (p n)):
    zJ fuel xs f=some (xs.any p):=by
  unfold zJ z1J
  obtain⟨r,h1,h2⟩:=askIndex (xs:=xs) (p:=p) (body:=z12 fuel xs f) (j:=z2m fuel) (t:=()) hl hf rfl (fun i x hi hx=>by
    simp only [z12,z9 hx,h,lt_t (show(i:Int)<xs.length by omega),if_true,Option.bind_some]) (by simp [z12])
  rw [h1,Option.bind_some,h2]

theorem zhk {fuel:Nat}{a:D.Agent}(hf:18446744073709551616≤fuel) (hl:a.Data.length≤maxLen):z11 fuel a=some (contentN a.Kind a.Value a.Data):=by
  have hd:=zmD (a:=a) hf hl
  obtain⟨k,l,v,d,ps⟩:=a
  dsimp only at hl hd ⊢
  by_cases h6:k=6
  · subst h6
    simp only [z11,contentN,z8b,Option.bind_some,beq_self_eq_true,if_true]
    by_cases h:d.length=0<;>simp [h]<;>omega
  by_cases h7:k=7
  · subst h7
    simp only [z11,contentN,z8b,Option.bind_some,beq_self_eq_true,if_true]
    by_cases h:d.length=0<;>simp [h]<;>omega
  by_cases h8:k=8
  · subst h8
    simp only [z11,contentN,z8b,Option.bind_some,beq_self_eq_true,if_true]
    match d with
    | []=>simp
    | [n]=>by_cases h:1≤v∧v≤6<;>simp [h,idx]
    | _::_::_=>simp;omega
  by_cases h9:k=9
  · subst h9
    simp only [z11,contentN,z8b,Option.bind_some,beq_self_eq_true,if_true]
    by_cases h:d.length=0<;>simp [h]<;>omega
  by_cases y:k=12
  · subst y
    simp only [z11,contentN,z8b,zih,Option.bind_some,beq_self_eq_true,if_true]
    by_cases h:d.length=0<;>simp [h,defN]<;>omega
  by_cases o:k=10
  · subst o
    simp only [z11,z1F,zW,contentN,z8b,Option.bind_some,beq_self_eq_true,if_true,hd]
    by_cases h:v=0
    · by_cases h1:1≤d.length∧d.length≤4
      · have h2:(1:Int)≤d.length∧(d.length:Int)≤4:=by omega
        simp [h,h1,h2]
      · have h2:¬ ((1:Int)≤d.length∧(d.length:Int)≤4):=by omega
        simp [h,h1,h2]
    · simp [h]
  by_cases q:k=11
  · subst q
    simp only [z11,z1F,zW,contentN,z8b,Option.bind_some,beq_self_eq_true,if_true,hd]
    by_cases h:v=0
    · by_cases h1:d.length=2
      · simp [h,h1]
      · have h2:¬ ((d.length:Int)=2):=by omega
        simp [h,h1,h2]
    · simp [h]
  · simp only [z11,z1F,contentN,h6,h7,h8,h9,o,q,y,if_false]
    by_cases h:v=0<;>by_cases h1:d.length=0<;>simp [h,h1,h6,h7,h8,h9,o,q,y]

theorem zhm {fuel:Nat}{a:D.Agent}(hf:18446744073709551616≤fuel) (hl:a.Data.length≤maxLen):z1G fuel a false=some (contentN a.Kind a.Value a.Data):=by
  unfold z1G
  rw [if_neg Bool.false_ne_true,zdg (p:=fun n=>!defN n) hf hl (fun n=>by unfold z5L;rw [zii];rfl),Option.bind_some,zaD,Bool.not_not]
  obtain⟨k,l,v,d,ps⟩:=a
  dsimp only at hl ⊢
  simp only [z3R,z3Q,z3P,z3O,z3N,z2u,z3M,z3L,z38,zns,zjy,zii,Option.bind_some]
  by_cases h6:k=6
  · subst h6
    simp only [contentN,beq_self_eq_true,if_true]
    by_cases h:d.length=0<;>by_cases h1:-2147483648≤v∧v≤2147483647<;>simp [h,h1]
  by_cases h7:k=7
  · subst h7
    simp only [contentN,beq_self_eq_true,if_true]
    by_cases h:d.length=0<;>by_cases h1:1≤v∧v≤6<;>simp [h,h1]
  by_cases h8:k=8
  · subst h8
    simp only [contentN,beq_self_eq_true,if_true]
    match d with
    | []=>simp
    | [n]=>by_cases h:1≤v∧v≤6<;>simp [h,idx]
    | _::_::_=>simp;omega
  by_cases h9:k=9
  · subst h9
    simp only [contentN,beq_self_eq_true,if_true]
    by_cases h1:0≤v
    · by_cases h:d.length=0<;>by_cases h2:v<4<;>simp [h,h1,h2]<;>omega
    · simp [h1]
  by_cases y:k=12
  · subst y
    simp only [contentN,beq_self_eq_true,if_true]
    by_cases h:d.length=0<;>by_cases h1:0≤v∧v≤23<;>simp [h,h1,defN]
  by_cases o:k=10
  · subst o
    simp only [contentN,beq_self_eq_true,if_true]
    by_cases h:v=0
    · by_cases h1:1≤d.length
      · by_cases h2:d.length≤4
        · have h3:(1:Int)≤d.length:=by omega
          have h4:(d.length:Int)≤4:=by omega
          simp [h,h1,h2,h3,h4]
        · have h3:(1:Int)≤d.length:=by omega
          have h4:¬ (d.length:Int)≤4:=by omega
          simp [h,h1,h2,h3,h4]
      · have h3:¬ (1:Int)≤d.length:=by omega
        simp [h,h1,h3]
    · by_cases h1:(1:Int)≤d.length<;>by_cases h2:(d.length:Int)≤4<;>simp [h,h1,h2]
  by_cases q:k=11
  · subst q
    simp only [contentN,beq_self_eq_true,if_true]
    by_cases h:v=0<;>by_cases h1:d.length=2
    · simp [h,h1]
    · have h2:¬ ((d.length:Int)=2):=by omega
      simp [h,h1,h2]
    · simp [h,h1]
    · have h2:¬ ((d.length:Int)=2):=by omega
      simp [h,h1,h2]
  · simp only [contentN,h6,h7,h8,h9,o,q,y,if_false]
    by_cases h:v=0<;>by_cases h1:d.length=0<;>simp [h,h1,h6,h7,h8,h9,o,q,y]

theorem zbT {n:Nat}(hn:n≤maxLen):w64 ((n:Int) - 1)=(n:Int) - 1:=by
  have:maxLen=9223372036854775807:=rfl
  exact za (by omega) (by omega)
theorem zjb {fuel:Nat}{a:D.Agent}(hf:18446744073709551616≤fuel) (hl:a.Data.length≤maxLen) (h1:1≤a.Ports.length) (h2:a.Ports.length≤maxLen):
    z2P fuel a=some (agentN a.Kind a.Level a.Value a.Data a.Ports.length):=by
  unfold z2P agentN
  rw [if_neg (by simp;intro h;rw [h] at h1;exact absurd h1 (by decide))]
  have hF:z7p fuel a.Kind (a.Ports.length:Int)=some (if a.Kind=9 then(a.Ports.length:Int) - 1 else 0):=by
    unfold z7p
    by_cases h:a.Kind=9
    · rw [if_pos (by simpa using h),if_pos h,zbT h2]
    · rw [if_neg (by simpa using h),if_neg h]
  rw [hF,Option.bind_some,ziO,Option.bind_some,zj9,Option.bind_some]
  by_cases hp:portsN a.Kind (if a.Kind=9 then(a.Ports.length:Int) - 1 else 0)=(a.Ports.length:Int)
  · rw [if_neg (by simp [hp]),decide_eq_true hp,Bool.true_and]
    cases allowN a.Kind a.Level with
    | false=>rfl
    | true=>rw [Bool.true_and];exact zhm hf hl
  · rw [if_pos (by simpa using hp),decide_eq_false hp];rfl
theorem zja {fuel:Nat}{a:D.Agent}(hf:18446744073709551616≤fuel) (hl:a.Data.length≤maxLen) (h1:1≤a.Ports.length) (h2:a.Ports.length≤maxLen):
    z4n fuel a=some (agentN a.Kind a.Level a.Value a.Data a.Ports.length):=by
  unfold z4n agentN
  have hF:z3x fuel a=some (if a.Kind=9 then(a.Ports.length:Int) - 1 else 0):=by
    unfold z3x
    by_cases h:a.Kind=9
    · rw [if_pos (by simpa using h),if_pos h,zbT h2]
    · rw [if_neg (by simpa using h),if_neg h]
  rw [hF,Option.bind_some,zfs,Option.bind_some,zj8,Option.bind_some,zhk hf hl]
  by_cases hp:portsN a.Kind (if a.Kind=9 then(a.Ports.length:Int) - 1 else 0)=(a.Ports.length:Int)
  · rw [hp,if_pos (decide_eq_true (by omega)),if_pos (by simp),decide_eq_true rfl,Bool.true_and]
    cases allowN a.Kind a.Level<;>rfl
  · rw [decide_eq_false hp]
    generalize portsN a.Kind (if a.Kind=9 then(a.Ports.length:Int) - 1 else 0)=r at hp ⊢
    by_cases h:r>0
    · rw [if_pos (decide_eq_true h),if_neg (by simpa using fun h=>hp h.symm)];rfl
    · rw [if_neg (by simpa using h)];rfl



def agN (a:D.Agent):Bool:=decide (a.Ports.length≠0) && agentN a.Kind a.Level a.Value a.Data a.Ports.length
theorem zow {fuel:Nat}{a:D.Agent}(hf:18446744073709551616≤fuel) (hl:a.Data.length≤maxLen) (h2:a.Ports.length≤maxLen):z2P fuel a=some (agN a):=by
  by_cases h:a.Ports.length=0
  · unfold z2P agN
    rw [if_pos (by simp [h]),show decide (a.Ports.length≠0)=false by simp [h],Bool.false_and]
    rfl
  · rw [zjb hf hl (by omega) h2]
    unfold agN
    rw [decide_eq_true (by simpa using h),Bool.true_and]
theorem zov {fuel:Nat}{a:D.Agent}(hf:18446744073709551616≤fuel) (hl:a.Data.length≤maxLen) (h2:a.Ports.length≤maxLen):z4n fuel a=some (agN a):=by
  by_cases h:a.Ports.length=0
  · unfold z4n agN
    have hF:z3x fuel a=some (if a.Kind=9 then(a.Ports.length:Int) - 1 else 0):=by
      unfold z3x
      by_cases h:a.Kind=9
      · rw [if_pos (by simpa using h),if_pos h,zbT h2]
      · rw [if_neg (by simpa using h),if_neg h]
    rw [hF,Option.bind_some,zfs,Option.bind_some,show decide (a.Ports.length≠0)=false by simp [h],Bool.false_and]
    generalize portsN a.Kind (if a.Kind=9 then(a.Ports.length:Int) - 1 else 0)=r
    by_cases hr:r>0
    · rw [if_pos (decide_eq_true hr),if_neg (by rw [h];simp;omega)]
    · rw [if_neg (by simpa using hr)]
  · rw [zja hf hl (by omega) h2]
    unfold agN
    rw [decide_eq_true (by simpa using h),Bool.true_and]
end Go.E


namespace Go.E
open Go.RowKit Go.Proofs
set_option linter.unusedSimpArgs false
set_option linter.unusedVariables false


inductive Rnd (σ ρ:Type) where
  | go (s:σ)
  | back (r:ρ)
def foldR {α σ ρ:Type}(f:Nat→σ→α→Rnd σ ρ):Nat→List α→σ→Rnd σ ρ
  | _,[],s=>.go s
  | i,x::xs,s=>match f i s x with
    | .go s'=>foldR f (i+1) xs s'
    | .back r=>.back r
theorem loopR {α σ S τ ρ:Type}{xs:List α}{body:S→Option (Rd S τ ρ)}{mk:Int→σ→S}{out:σ→τ}{f:Nat→σ→α→Rnd σ ρ}{J:Nat→σ→Prop}{s0:σ}{fuel:Nat}
    (hl:xs.length≤maxLen) (hf:18446744073709551616≤fuel) (hJ:J 0 s0)
    (step:∀ (i:Nat) s x,i<xs.length→xs[i]? = some x→J i s→match f i s x with
      | .go s'=>body (mk i s)=some (.next (mk (w64 (i+1)) s'))∧J (i+1) s'
      | .back r=>body (mk i s)=some (.ret r))
    (last:∀ s,J xs.length s→body (mk xs.length s)=some (.brk (out s))):
    (match foldR f 0 xs s0 with
      | .go s=>iter body fuel (mk 0 s0)=some (.inl (out s))∧J xs.length s
      | .back r=>iter body fuel (mk 0 s0)=some (.inr r)):=by
  have hm:maxLen=9223372036854775807:=rfl
  have key:∀ (ys:List α) (i:Nat) (s:σ) (fu:Nat),i+ys.length=xs.length→(∀ j,ys[j]? = xs[i+j]?)→ys.length<fu→J i s→(match foldR f i ys s with
      | .go s'=>iter body fu (mk i s)=some (.inl (out s'))∧J xs.length s'
      | .back r=>iter body fu (mk i s)=some (.inr r)):=by
    intro ys
    induction ys with
    | nil=>
      intro i s fu hi _ hfu hj
      obtain⟨fu,rfl⟩:∃ f',fu=f'+1:=⟨fu - 1,by simp at hfu;omega⟩
      simp only [List.length_nil,Nat.add_zero] at hi
      subst hi
      simp only [foldR,iter,last s hj]
      exact⟨trivial,hj⟩
    | cons y ys ih=>
      intro i s fu hi hat hfu hj
      obtain⟨fu,rfl⟩:∃ f',fu=f'+1:=⟨fu - 1,by simp at hfu;omega⟩
      simp only [List.length_cons] at hi hfu
      have hx:xs[i]? = some y:=by have:=hat 0;simpa using this.symm
      have hs:=step i s y (by omega) hx hj
      unfold foldR
      cases hfs:f i s y with
      | go s'=>
        rw [hfs] at hs
        have h2:=ih (i+1) s' fu (by omega) (fun j=>by have:=hat (j+1);rw [show i+1+j=i+(j+1) by omega];simpa using this) (by omega) hs.2
        simp only [iter,hs.1]
        rw [za (by omega) (by omega)]
        exact_mod_cast h2
      | back r=>
        rw [hfs] at hs
        simp only [iter,hs]
  have:=key xs 0 s0 fuel (by simp) (by simp) (by omega) hJ
  exact_mod_cast this

theorem z84 {α:Type}{xs:List α}{p:Nat→α→Bool}{k:Nat}:((xs.zipIdx k).all fun y=>p y.2 y.1)=true↔∀ i x,xs[i]? = some x→p (k+i) x=true:=by
  rw [List.all_eq_true]
  constructor
  · intro h i x hx
    have:(x,k+i)∈xs.zipIdx k:=by
      rw [List.mem_zipIdx_iff_le_and_getElem?_sub]
      exact⟨Nat.le_add_right _ _,by simpa using hx⟩
    exact h _ this
  · rintro h ⟨x,j⟩ hj
    rw [List.mem_zipIdx_iff_le_and_getElem?_sub] at hj
    have:=h (j - k) x hj.2
    rwa [show k+(j - k)=j by have:=hj.1;simp at this;omega] at this

theorem zgO {α ρ:Type}{p:Nat→α→Bool}{v:ρ}:∀ {xs:List α}{k:Nat},foldR (fun i (_:Unit) x=>if p i x=true then Rnd.go () else Rnd.back v) k xs ()=if((xs.zipIdx k).all fun y=>p y.2 y.1)=true then Rnd.go () else Rnd.back v
  | [],k=>by simp [foldR]
  | x::xs,k=>by
    unfold foldR
    cases h:p k x with
    | true=>simp only [if_true,zgO (xs:=xs),List.zipIdx_cons,List.all_cons,h,Bool.true_and]
    | false=>simp [h]


theorem allLoop {α τ ρ:Type}{xs:List α}{body:Int→Option (Rd Int τ ρ)}{p:Nat→α→Bool}{t:τ}{v:ρ}{fuel:Nat}(hl:xs.length≤maxLen) (hf:18446744073709551616≤fuel)
    (step:∀ (i:Nat) x,i<xs.length→xs[i]? = some x→body i=if p i x=true then some (.next (w64 (i+1))) else some (.ret v)) (last:body xs.length=some (.brk t)):
    iter body fuel 0=some (if(xs.zipIdx.all fun y=>p y.2 y.1)=true then .inl t else .inr v):=by
  have h:=loopR (xs:=xs) (body:=body) (mk:=fun i _=>i) (out:=fun(_:Unit)=>t) (f:=fun i (_:Unit) x=>if p i x=true then Rnd.go () else Rnd.back v) (J:=fun _ _=>True) (s0:=()) hl hf trivial
    (fun i s x hi hx _=>by
      have:=step i x hi hx
      cases hp:p i x with
      | true=>rw [hp] at this;exact⟨this,trivial⟩
      | false=>rw [hp] at this;simpa using this) (fun s _=>last)
  rw [zgO] at h
  cases hp:(xs.zipIdx.all fun y=>p y.2 y.1) with
  | true=>rw [hp] at h;exact h.1
  | false=>rw [hp] at h;exact h

theorem zcj {α:Type}{xs:List α}{i:Nat}{x:α}(h:xs[i]? = some x):(xs.take (i+1)).zipIdx=(xs.take i).zipIdx++[(x,i)]:=by
  have hl:=(List.getElem?_eq_some_iff.1 h).1
  rw [List.take_add_one,h,List.zipIdx_append]
  simp [Nat.min_eq_left (Nat.le_of_lt hl)]

theorem mapLoop {α β ρ:Type}{xs:List α}{body:Int × List β→Option (Rd (Int × List β) (List β) ρ)}{g:α→β}{fuel:Nat}(hl:xs.length≤1048576) (hf:18446744073709551616≤fuel)
    (step:∀ (i:Nat) x (s:List β),xs[i]? = some x→s.length=i→body ((i:Int),s)=some (.next (w64 (i+1),s++[g x]))) (last:∀ s,body ((xs.length:Int),s)=some (.brk s)):
    iter body fuel (0,[])=some (.inl (xs.map g)):=by
  have hm:maxLen=9223372036854775807:=rfl
  obtain⟨o,h1,h2⟩:=z1f (body:=body) (fun i s=>s.1=(i:Int)∧s.2=(xs.take i).map g) xs.length (fun o=>o=.inl (xs.map g)) (by
    rintro i ⟨a,s⟩ hi ⟨g1,g2⟩
    dsimp only at g1 g2
    subst g1;subst g2
    obtain⟨x,hx⟩:=z4O hi
    refine .inl ⟨_,step i x _ hx (by simp;omega),?_,?_⟩
    · dsimp only;rw [za (by omega) (by omega)];simp
    · dsimp only;rw [List.take_add_one,hx];simp) (by
    rintro⟨a,s⟩ ⟨g1,g2⟩
    dsimp only at g1 g2
    subst g1;subst g2
    exact .inr ⟨_,last _,by rw [List.take_length]⟩) (fuel:=fuel) (i:=0) (s:=(0,[])) (Nat.zero_le _) (by omega) ⟨rfl,by simp⟩
  rw [h1,h2]

theorem sumLoop {α S τ ρ:Type}{xs:List α}{body:S→Option (Rd S τ ρ)}{mk:Int→Int→S}{out:Int→τ}{f:α→Nat}{c0:Int}{fuel:Nat}(hl:xs.length≤1048576) (hf:18446744073709551616≤fuel)
    (step:∀ (i:Nat) x,xs[i]? = some x→body (mk i (c0+(sumL f (xs.take i):Nat)))=some (.next (mk (w64 (i+1)) (c0+(sumL f (xs.take i):Nat)+(f x:Nat)))))
    (last:∀ c,body (mk xs.length c)=some (.brk (out c))):
    iter body fuel (mk 0 c0)=some (.inl (out (c0+(sumL f xs:Nat)))):=by
  obtain⟨o,h1,h2⟩:=z1f (body:=body) (fun k s=>s=mk k (c0+(sumL f (xs.take k):Nat))) xs.length (fun o=>o=.inl (out (c0+(sumL f xs:Nat)))) (by
    rintro k s hk rfl
    obtain⟨x,hx⟩:=z4O hk
    refine .inl ⟨_,step k x hx,?_⟩
    rw [za (by omega) (by omega),zaG hx]
    congr 1
    omega) (by
    rintro s rfl
    rw [List.take_length]
    exact .inr ⟨_,last _,rfl⟩) (fuel:=fuel) (i:=0) (s:=mk 0 c0) (Nat.zero_le _) (by omega) (by simp [sumL])
  rw [h1,h2]

theorem z70 {α:Type}{xs:List α}{p:α→Bool}:(xs.zipIdx.all fun y=>p y.1)=xs.all p:=by
  rw [Bool.eq_iff_iff,z84 (p:=fun _ x=>p x),List.all_eq_true]
  constructor
  · intro h x hx
    obtain⟨i,hi⟩:=List.getElem?_of_mem hx
    exact h i x hi
  · exact fun h i x hi=>h x (List.mem_of_getElem? hi)
end Go.E


namespace Go.E
open Go.RowKit Go.Proofs
set_option linter.unusedSimpArgs false
set_option linter.unusedVariables false

def agentOf (c:D.ShardCell):D.Agent:=⟨c.Kind,c.Level,c.Value,c.Data,List.replicate (c.Aux.length+1) ⟨0,0⟩⟩
def shCellN (c:D.ShardCell):Bool:=if c.Kind=0 then decide (c.Level=0∧c.Value=0∧c.Data=[]∧c.Aux=[]) else decide (c.Kind≠1) && agN (agentOf c)
def noneN:D.Address:=⟨0,0,0⟩
def shVarN (v:D.ShardVar):Bool:=(v.Used || !v.Full) && (v.Full || decide (v.Held=noneN))
def shardN (s:D.Shard):Bool:=decide (s.Cells.length≤400∧s.Vars.length≤400∧s.Redexes.length≤400) && (s.Cells.all shCellN && s.Vars.all shVarN)
def piecesN (g:D.Grid):Bool:=decide (1≤g.Shards.length∧g.Shards.length≤4) && g.Shards.all shardN

theorem zn7 {k f:Int}:portsN k f≤4:=by
  unfold portsN
  split
  · split<;>omega
  · split
    · omega
    · split
      · omega
      · split
        · omega
        · split<;>omega
theorem zoC {a:D.Agent}(h:agN a=true):a.Ports.length≤4:=by
  unfold agN agentN at h
  rw [Bool.and_eq_true,Bool.and_eq_true,decide_eq_true_eq,decide_eq_true_eq] at h
  have h2:=h.2.1
  have:=zn7 (k:=a.Kind) (f:=if a.Kind=9 then(a.Ports.length:Int) - 1 else 0)
  rw [h2] at this
  omega
theorem zgx {c:D.ShardCell}(h:shCellN c=true):c.Aux.length≤3:=by
  unfold shCellN at h
  split at h
  · rw [decide_eq_true_eq] at h
    rw [h.2.2.2];simp
  · rw [Bool.and_eq_true] at h
    have:=zoC h.2
    unfold agentOf at this
    simp only [List.length_replicate] at this
    omega
theorem zeQ {a b:D.Address}:(((a.Machine:Int) == b.Machine) && (((a.Kind:Int) == b.Kind) && (((a.Index:Int) == b.Index) && true)))=decide (a=b):=by
  obtain⟨a1,a2,a3⟩:=a
  obtain⟨b1,b2,b3⟩:=b
  by_cases h1:a1=b1<;>by_cases h2:a2=b2<;>by_cases h3:a3=b3<;>simp [h1,h2,h3]
theorem zi4 {fuel:Nat}{c:D.ShardCell}(hs:c.sz≤1048576):z5V fuel c=some (agentOf c):=by
  unfold D.ShardCell.sz at hs
  unfold z5V z2S agentOf
  rw [if_pos (by simp;omega),Option.bind_some,za (by omega) (by omega),if_pos (by simp;omega)]
  have:((c.Aux.length:Int)+1).toNat=c.Aux.length+1:=by omega
  rw [this]
  rfl
theorem zfN {fuel:Nat}{c:D.ShardCell}(hs:c.sz≤1048576):z6f fuel c=some (agentOf c):=by
  unfold D.ShardCell.sz at hs
  unfold z6f zj agentOf
  rw [if_pos (by simp;omega),Option.bind_some,za (by omega) (by omega),if_pos (by simp;omega)]
  have:((c.Aux.length:Int)+1).toNat=c.Aux.length+1:=by omega
  rw [this]
  rfl
theorem zho {fuel:Nat}{c:D.ShardCell}(hf:18446744073709551616≤fuel) (hs:c.sz≤1048576):z4R fuel c=some (shCellN c):=by
  have hm:maxLen=9223372036854775807:=rfl
  unfold z4R
  rw [zi4 hs,Option.bind_some]
  have d:=hs
  unfold D.ShardCell.sz at d
  by_cases k0:c.Kind=0
  · unfold shCellN
    by_cases h1:c.Level=0<;>by_cases h2:c.Value=0<;>by_cases h3:c.Data=[]<;>by_cases h4:c.Aux=[]<;>simp [k0,h1,h2,h3,h4]
  · rw [if_neg (by simpa using k0)]
    by_cases ha:c.Aux.length≤3
    · rw [if_neg (by simp;omega)]
      unfold shCellN
      rw [if_neg k0]
      by_cases k1:c.Kind=1
      · rw [if_neg (by simp [agentOf,k1])];simp [k1]
      · rw [if_pos (by simpa [agentOf] using k1),show(⟨(agentOf c).Kind,(agentOf c).Level,(agentOf c).Value,(agentOf c).Data,(agentOf c).Ports⟩:D.Agent)=agentOf c from rfl,zov hf (by unfold agentOf;dsimp only;omega) (by unfold agentOf;simp only [List.length_replicate];omega)]
        simp [k1]
    · rw [if_pos (by simp;omega)]
      cases hh:shCellN c with
      | false=>rfl
      | true=>exact absurd (zgx hh) ha
theorem zfB {fuel:Nat}{xs ys:List Int}(hf:18446744073709551616≤fuel) (hl:xs.length≤maxLen):z1E fuel xs ys=some (decide (xs=ys)):=by
  unfold z1E
  exact eqWhole hl hf rfl (fun i a b hi ha hb=>by
    unfold z20
    rw [if_pos (by simpa using hi),z9 ha,Option.bind_some,z9 hb,Option.bind_some]
    by_cases h:a=b<;>simp [h]) (by unfold z20;rw [if_neg (by simp)])
theorem zeq {fuel:Nat}{xs ys:List D.Address}(hf:18446744073709551616≤fuel) (hl:xs.length≤maxLen):zx fuel xs ys=some (decide (xs=ys)):=by
  unfold zx
  exact eqWhole hl hf rfl (fun i a b hi ha hb=>by
    unfold zM
    rw [if_pos (by simpa using hi),z9 ha,Option.bind_some,z9 hb,Option.bind_some,zeQ]
    by_cases h:a=b<;>simp [h]) (by unfold zM;rw [if_neg (by simp)])
theorem zhp {fuel:Nat}{c:D.ShardCell}(hf:18446744073709551616≤fuel) (hs:c.sz≤1048576):z26 fuel c=some (shCellN c):=by
  have hm:maxLen=9223372036854775807:=rfl
  have d:=hs
  unfold D.ShardCell.sz at d
  unfold z26 z1H
  dsimp only
  rw [zfB hf (by omega),zeq hf (by omega),zfN hs,Option.bind_some,Option.bind_some,Option.bind_some,zow hf (by unfold agentOf;dsimp only;omega) (by unfold agentOf;simp only [List.length_replicate];omega)]
  unfold shCellN
  by_cases k0:c.Kind=0
  · by_cases h1:c.Level=0<;>by_cases h2:c.Value=0<;>by_cases h3:c.Data=[]<;>by_cases h4:c.Aux=[]<;>simp [k0,h1,h2,h3,h4]
  · by_cases k1:c.Kind=1<;>simp [k0,k1]
theorem zf8 {fuel:Nat}{p:D.ShardCell→Bool}{f:D.ShardCell→Option Bool}{xs:List D.ShardCell}(hf:18446744073709551616≤fuel) (hl:xs.length≤maxLen) (h:∀ n,n∈xs→f n=some (p n)):
    ze fuel xs f=some (xs.any p):=by
  unfold ze zw
  obtain⟨r,h1,h2⟩:=askIndex (xs:=xs) (p:=p) (body:=zd fuel xs f) (j:=zR fuel) (t:=()) hl hf rfl (fun i x hi hx=>by
    simp only [zd,z9 hx,h x (List.mem_of_getElem? hx),lt_t (show(i:Int)<xs.length by omega),if_true,Option.bind_some]) (by simp [zd])
  rw [h1,Option.bind_some,h2]
theorem zg8 {fuel:Nat}{p:D.ShardVar→Bool}{f:D.ShardVar→Option Bool}{xs:List D.ShardVar}(hf:18446744073709551616≤fuel) (hl:xs.length≤maxLen) (h:∀ n,n∈xs→f n=some (p n)):
    zi fuel xs f=some (xs.any p):=by
  unfold zi zG
  obtain⟨r,h1,h2⟩:=askIndex (xs:=xs) (p:=p) (body:=zh fuel xs f) (j:=zZ fuel) (t:=()) hl hf rfl (fun i x hi hx=>by
    simp only [zh,z9 hx,h x (List.mem_of_getElem? hx),lt_t (show(i:Int)<xs.length by omega),if_true,Option.bind_some]) (by simp [zh])
  rw [h1,Option.bind_some,h2]
theorem zf7 {fuel:Nat}{p:D.Shard→Bool}{f:D.Shard→Option Bool}{xs:List D.Shard}(hf:18446744073709551616≤fuel) (hl:xs.length≤maxLen) (h:∀ n,n∈xs→f n=some (p n)):
    zr fuel xs f=some (xs.any p):=by
  unfold zr zY
  obtain⟨r,h1,h2⟩:=askIndex (xs:=xs) (p:=p) (body:=zq fuel xs f) (j:=z1k fuel) (t:=()) hl hf rfl (fun i x hi hx=>by
    simp only [zq,z9 hx,h x (List.mem_of_getElem? hx),lt_t (show(i:Int)<xs.length by omega),if_true,Option.bind_some]) (by simp [zq])
  rw [h1,Option.bind_some,h2]
theorem zmX {fuel:Nat}{v:D.ShardVar}:z3S fuel v=some (!shVarN v):=by
  have e:=zeQ (a:=v.Held) (b:=noneN)
  unfold noneN at e
  unfold z3S z5N shVarN noneN
  dsimp only at e
  rw [e]
  cases v.Used<;>cases v.Full<;>cases decide (v.Held=⟨0,0,0⟩)<;>rfl
theorem zao {s:D.Shard}(h:s.sz≤1048576):s.Cells.length≤1048576∧s.Vars.length≤1048576∧s.Redexes.length≤1048576∧∀ c,c∈s.Cells→c.sz≤1048576:=by
  unfold D.Shard.sz at h
  have h1:szL D.ShardCell.sz s.Cells≤1048576:=by omega
  exact⟨z3v h1,by omega,by omega,fun c hc=>z3u h1 hc⟩
theorem ziK {fuel:Nat}{s:D.Shard}(hf:18446744073709551616≤fuel) (hs:s.sz≤1048576):z6e fuel s=some (shardN s):=by
  have hm:maxLen=9223372036854775807:=rfl
  obtain⟨z1,z2,z3,z4⟩:=zao hs
  unfold z6e z2v shardN
  rw [zf8 (p:=fun c=>!shCellN c) hf (by omega) (fun c hc=>by unfold z5M;rw [zhp hf (z4 c hc)];rfl),zg8 (p:=fun v=>!shVarN v) hf (by omega) (fun v _=>zmX),zaD,zaD]
  by_cases h1:s.Cells.length≤400
  · by_cases h2:s.Vars.length≤400
    · by_cases h3:s.Redexes.length≤400
      · rw [if_neg (by simp;omega),if_neg (by simp;omega),if_neg (by simp;omega),decide_eq_true ⟨h1,h2,h3⟩]
        cases s.Cells.all shCellN<;>cases s.Vars.all shVarN<;>rfl
      · rw [if_neg (by simp;omega),if_neg (by simp;omega),if_pos (by simp;omega),decide_eq_false (fun h=>h3 h.2.2)];rfl
    · rw [if_neg (by simp;omega),if_pos (by simp;omega),decide_eq_false (fun h=>h2 h.2.1)];rfl
  · rw [if_pos (by simp;omega),decide_eq_false (fun h=>h1 h.1)];rfl
theorem zbD {g:D.Grid}(h:g.sz≤1048576):g.Shards.length≤1048576∧∀ s,s∈g.Shards→s.sz≤1048576:=by
  unfold D.Grid.sz at h
  have h1:szL D.Shard.sz g.Shards≤1048576:=by omega
  exact⟨z3v h1,fun s hs=>z3u h1 hs⟩
theorem zhM {fuel:Nat}{g:D.Grid}{xs:List D.statement}(hf:18446744073709551616≤fuel) (hs:g.sz≤1048576):z28 fuel g xs=z1e fuel g xs (!piecesN g):=by
  have hm:maxLen=9223372036854775807:=rfl
  obtain⟨z1,z2⟩:=zbD hs
  unfold z28 piecesN
  rw [zf7 (p:=fun s=>!shardN s) hf (by omega) (fun s h=>by unfold z3t;rw [ziK hf (z2 s h)];rfl),zaD,Option.bind_some]
  by_cases h1:1≤g.Shards.length
  · by_cases h2:g.Shards.length≤4
    · rw [if_neg (by simp;omega),if_neg (by simp;omega),decide_eq_true ⟨h1,h2⟩,Bool.true_and]
    · rw [if_neg (by simp;omega),if_pos (by simp;omega),decide_eq_false (fun h=>h2 h.2)];rfl
  · rw [if_pos (by simp;omega),decide_eq_false (fun h=>h1 h.1)];rfl
theorem ziJ {fuel:Nat}{s:D.Shard}{k:Int}(hf:18446744073709551616≤fuel) (hs:s.sz≤1048576) (hc:s.Cells.length≤400∧s.Vars.length≤400∧s.Redexes.length≤400):
    z1i fuel k s false=if(s.Cells.all shCellN && s.Vars.all shVarN)=true then some (.next (w64 (k+1))) else some (.ret false):=by
  have hm:maxLen=9223372036854775807:=rfl
  obtain⟨z1,z2,z3,z4⟩:=zao hs
  have hC:=allLoop (xs:=s.Cells) (body:=z4g fuel s) (p:=fun _ c=>shCellN c) (t:=()) (v:=Rd.ret false) (fuel:=fuel) (by omega) hf (fun i c hi hx=>by
    unfold z4g
    rw [if_pos (by simpa using hi),z9 hx,Option.bind_some,zho hf (z4 c (List.mem_of_getElem? hx)),Option.bind_some]
    cases shCellN c<;>simp) (by unfold z4g;rw [if_neg (by simp)])
  have hV:=allLoop (xs:=s.Vars) (body:=z4f fuel s) (p:=fun _ v=>shVarN v) (t:=()) (v:=Rd.ret false) (fuel:=fuel) (by omega) hf (fun i v hi hx=>by
    have e:=zeQ (a:=v.Held) (b:=noneN)
    unfold noneN at e
    dsimp only at e
    unfold z4f z1v shVarN noneN
    rw [if_pos (by simpa using hi),z9 hx,Option.bind_some,e]
    cases v.Used<;>cases v.Full<;>cases decide (v.Held=⟨0,0,0⟩)<;>rfl) (by unfold z4f;rw [if_neg (by simp)])
  rw [z70] at hC hV
  unfold z1i
  rw [if_neg (by simp),hC,Option.bind_some]
  cases s.Cells.all shCellN with
  | false=>rfl
  | true=>
    rw [if_pos rfl]
    simp only [aft]
    unfold z89
    rw [hV,Option.bind_some]
    cases s.Vars.all shVarN with
    | false=>rfl
    | true=>rfl
theorem zhL {fuel:Nat}{g:D.Grid}(hf:18446744073709551616≤fuel) (hs:g.sz≤1048576):z6E fuel g=some (piecesN g):=by
  have hm:maxLen=9223372036854775807:=rfl
  obtain⟨z1,z2⟩:=zbD hs
  unfold z6E
  rw [z8b,Option.bind_some]
  have hS:=allLoop (xs:=g.Shards) (body:=z4h fuel g) (p:=fun _ s=>shardN s) (t:=()) (v:=false) (fuel:=fuel) (by omega) hf (fun i s hi hx=>by
    have hss:=z2 s (List.mem_of_getElem? hx)
    unfold z4h
    rw [if_pos (by simpa using hi),z9 hx,Option.bind_some]
    have no:z1i fuel (i:Int) s true=some (.ret false):=by unfold z1i;rfl
    unfold shardN
    by_cases h1:s.Cells.length≤400
    · by_cases h2:s.Vars.length≤400
      · by_cases h3:s.Redexes.length≤400
        · rw [if_neg (by simp;omega),if_neg (by simp;omega),show decide ((s.Redexes.length:Int)>400)=false by simp;omega,ziJ hf hss ⟨h1,h2,h3⟩,decide_eq_true ⟨h1,h2,h3⟩,Bool.true_and]
        · rw [if_neg (by simp;omega),if_neg (by simp;omega),show decide ((s.Redexes.length:Int)>400)=true by simp;omega,no,decide_eq_false (fun h=>h3 h.2.2)];rfl
      · rw [if_neg (by simp;omega),if_pos (by simp;omega),no,decide_eq_false (fun h=>h2 h.2.1)];rfl
    · rw [if_pos (by simp;omega),no,decide_eq_false (fun h=>h1 h.1)];rfl) (by unfold z4h;rw [if_neg (by simp)])
  rw [z70] at hS
  unfold piecesN
  rw [hS,Option.bind_some]
  have hd:decide ((1:Int)≤(g.Shards.length:Int)∧(g.Shards.length:Int)≤4)=decide (1≤g.Shards.length∧g.Shards.length≤4):=by
    rw [decide_eq_decide];omega
  rw [hd]
  cases decide (1≤g.Shards.length∧g.Shards.length≤4) with
  | false=>rfl
  | true=>
    rw [if_neg (by simp)]
    cases g.Shards.all shardN<;>rfl
end Go.E


namespace Go.E
open Go.RowKit Go.Proofs
set_option linter.unusedSimpArgs false
set_option linter.unusedVariables false


abbrev Key:=Nat × Nat × Nat × Nat
def cellK (t m i:Nat) (c:D.ShardCell):List Key:=if c.Kind=0 then [] else(List.range (c.Aux.length+1)).map fun k=>(t,m,i,k)
def rowK (t m:Nat) (cs:List D.ShardCell):List Key:=cs.zipIdx.flatMap fun x=>cellK t m x.2 x.1
def portK (ss:List D.Shard):List Key:=(0,0,0,0)::ss.zipIdx.flatMap fun x=>rowK 1 x.2 x.1.Cells
def varR (m:Nat) (s:D.Shard):List Key:=(List.range s.Vars.length).map fun i=>(2,m,i,0)
def varK (ss:List D.Shard):List Key:=ss.zipIdx.flatMap fun x=>varR x.2 x.1
def allK (g:D.Grid) (more:List D.ShardCell):List Key:=(portK g.Shards++rowK 3 0 more)++varK g.Shards

theorem zdF {α β:Type}{xs:List α}{g:Nat→α→List β}{i k:Nat}{x:α}(hx:xs[i]? = some x) (hk:k<(g i x).length):
    (xs.zipIdx.flatMap fun y=>g y.2 y.1)[((xs.take i).zipIdx.flatMap fun y=>g y.2 y.1).length+k]? = (g i x)[k]?:=by
  have h1:xs.zipIdx=(xs.take (i+1)).zipIdx++(xs.drop (i+1)).zipIdx (xs.take (i+1)).length:=by
    have:=List.zipIdx_append (xs:=xs.take (i+1)) (ys:=xs.drop (i+1)) (k:=0)
    rw [List.take_append_drop] at this
    simpa using this
  rw [h1,zcj hx,List.flatMap_append,List.flatMap_append,List.append_assoc,List.getElem?_append_right (Nat.le_add_right _ _),Nat.add_sub_cancel_left]
  simp only [List.flatMap_cons,List.flatMap_nil,List.append_nil]
  rw [List.getElem?_append_left hk]
theorem zd8 {α β:Type}{xs:List α}{g:Nat→α→List β}(f:β→Nat) (h1:∀ i x,xs[i]? = some x→(g i x).Nodup) (h2:∀ i x y,y∈g i x→f y=i):(xs.zipIdx.flatMap fun y=>g y.2 y.1).Nodup:=by
  unfold List.Nodup
  rw [List.pairwise_flatMap]
  constructor
  · rintro⟨a,i⟩ h
    rw [List.mem_zipIdx_iff_getElem?] at h
    exact h1 i a h
  · rw [List.pairwise_iff_getElem]
    intro i j hi hj hij p hp q hq he
    simp only [List.getElem_zipIdx] at hp hq
    have a:=h2 _ _ _ hp
    have b:=h2 _ _ _ hq
    rw [he] at a
    omega
theorem zeM {t m i:Nat}{c:D.ShardCell}{k:Key}(h:k∈cellK t m i c):k.1=t∧k.2.1=m∧k.2.2.1=i:=by
  unfold cellK at h
  split at h
  · cases h
  · obtain⟨j,_,rfl⟩:=List.mem_map.1 h
    exact⟨rfl,rfl,rfl⟩
theorem zcu {t m:Nat}{cs:List D.ShardCell}{k:Key}(h:k∈rowK t m cs):k.1=t∧k.2.1=m:=by
  obtain⟨x,_,h2⟩:=List.mem_flatMap.1 h
  exact⟨(zeM h2).1,(zeM h2).2.1⟩
theorem zhX {t m i:Nat}{c:D.ShardCell}:(cellK t m i c).Nodup:=by
  unfold cellK
  split
  · exact List.nodup_nil
  · unfold List.Nodup
    rw [List.pairwise_map]
    refine List.Pairwise.imp ?_ (List.nodup_range (n:=c.Aux.length+1))
    intro x y hxy he
    simp only [Prod.mk.injEq,true_and] at he
    exact hxy he
theorem zfr {t m:Nat}{cs:List D.ShardCell}:(rowK t m cs).Nodup:=
  zd8 (g:=fun i c=>cellK t m i c) (fun k:Key=>k.2.2.1) (fun i x _=>zhX) (fun i x y h=>(zeM h).2.2)
theorem zgD {ss:List D.Shard}{k:Key}(h:k∈portK ss):k.1=0∨k.1=1:=by
  unfold portK at h
  rcases List.mem_cons.1 h with rfl | h
  · exact .inl rfl
  · obtain⟨x,_,h2⟩:=List.mem_flatMap.1 h
    exact .inr (zcu h2).1
theorem zmY {ss:List D.Shard}{k:Key}(h:k∈varK ss):k.1=2:=by
  obtain⟨x,_,h2⟩:=List.mem_flatMap.1 h
  obtain⟨j,_,rfl⟩:=List.mem_map.1 h2
  rfl
theorem zfD {g:D.Grid}{more:List D.ShardCell}:(allK g more).Nodup:=by
  unfold allK
  refine List.nodup_append.2 ⟨List.nodup_append.2 ⟨?_,zfr,?_⟩,?_,?_⟩
  · unfold portK
    refine List.nodup_cons.2 ⟨fun h=>?_,zd8 (g:=fun i (s:D.Shard)=>rowK 1 i s.Cells) (fun k:Key=>k.2.1) (fun i x _=>zfr) (fun i x y h=>(zcu h).2)⟩
    obtain⟨x,_,h2⟩:=List.mem_flatMap.1 h
    exact absurd (zcu h2).1 (by decide)
  · intro a ha b hb he
    have h1:=zgD ha
    have h2:=(zcu hb).1
    rw [he] at h1
    omega
  · refine zd8 (g:=fun i (s:D.Shard)=>varR i s) (fun k:Key=>k.2.1) (fun i x _=>?_) (fun i x y h=>?_)
    · unfold varR List.Nodup
      rw [List.pairwise_map]
      refine List.Pairwise.imp ?_ (List.nodup_range (n:=x.Vars.length))
      intro x y hxy he
      simp only [Prod.mk.injEq,true_and,and_true] at he
      exact hxy he
    · obtain⟨j,_,rfl⟩:=List.mem_map.1 h
      rfl
  · intro a ha b hb he
    have h2:=zmY hb
    rcases List.mem_append.1 ha with h | h
    · have h1:=zgD h
      rw [he] at h1
      omega
    · have h1:=(zcu h).1
      rw [he] at h1
      omega
theorem zmN {t m i t' m' i':Nat}{c:D.ShardCell}:(cellK t m i c).length=(cellK t' m' i' c).length:=by
  unfold cellK
  split<;>simp
theorem zo6 {t m i:Nat}{c:D.ShardCell}(h:c.Aux.length≤3):(cellK t m i c).length≤4:=by
  unfold cellK
  split
  · simp
  · simp;omega
theorem zbo {t m i:Nat}{cs:List D.ShardCell}{c:D.ShardCell}(h:cs[i]? = some c):rowK t m (cs.take (i+1))=rowK t m (cs.take i)++cellK t m i c:=by
  unfold rowK
  rw [zcj h,List.flatMap_append]
  simp
theorem zbp {t m:Nat}{cs:List D.ShardCell}(h:∀ c,c∈cs→c.Aux.length≤3):∀ i,i≤cs.length→(rowK t m (cs.take i)).length≤4*i
  | 0,_=>by simp [rowK]
  | i+1,hi=>by
    obtain⟨c,hc⟩:=z4O (xs:=cs) (i:=i) (by omega)
    rw [zbo hc,List.length_append]
    have:=zbp (t:=t) (m:=m) h i (by omega)
    have:=zo6 (t:=t) (m:=m) (i:=i) (h c (List.mem_of_getElem? hc))
    omega
theorem zcv {t m t' m':Nat}{cs:List D.ShardCell}:∀ i,i≤cs.length→(rowK t m (cs.take i)).length=(rowK t' m' (cs.take i)).length
  | 0,_=>by simp [rowK]
  | i+1,hi=>by
    obtain⟨c,hc⟩:=z4O (xs:=cs) (i:=i) (by omega)
    rw [zbo hc,zbo hc,List.length_append,List.length_append,zcv i (by omega),zmN (t':=t') (m':=m') (i':=i)]
theorem zft {m:Nat}{ss:List D.Shard}{s:D.Shard}(h:ss[m]? = some s):portK (ss.take (m+1))=portK (ss.take m)++rowK 1 m s.Cells:=by
  unfold portK
  rw [zcj h,List.flatMap_append]
  simp
theorem zgg {m:Nat}{ss:List D.Shard}{s:D.Shard}(h:ss[m]? = some s):varK (ss.take (m+1))=varK (ss.take m)++varR m s:=by
  unfold varK
  rw [zcj h,List.flatMap_append]
  simp
theorem zik {g:D.Grid}{more:List D.ShardCell}{m i k:Nat}{s:D.Shard}{c:D.ShardCell}(hs:g.Shards[m]? = some s) (hc:s.Cells[i]? = some c) (h0:c.Kind≠0) (hk:k≤c.Aux.length):
    (allK g more)[(portK (g.Shards.take m)).length+(rowK 1 m (s.Cells.take i)).length+k]? = some (1,m,i,k):=by
  have hcl:k<(cellK 1 m i c).length:=by unfold cellK;rw [if_neg h0];simp;omega
  have h2:=zdF (g:=fun i c=>cellK 1 m i c) hc hcl
  have h3:(cellK 1 m i c)[k]? = some (1,m,i,k):=by unfold cellK;rw [if_neg h0,List.getElem?_map,List.getElem?_range (by omega)];rfl
  rw [h3] at h2
  have h2':(rowK 1 m s.Cells)[(rowK 1 m (s.Cells.take i)).length+k]? = some (1,m,i,k):=h2
  have hlt:=(List.getElem?_eq_some_iff.1 h2').1
  have h4:=zdF (g:=fun i (s:D.Shard)=>rowK 1 i s.Cells) hs hlt
  rw [h2'] at h4
  have h5:(portK g.Shards)[(portK (g.Shards.take m)).length+(rowK 1 m (s.Cells.take i)).length+k]? = some (1,m,i,k):=by
    unfold portK
    rw [List.length_cons,show ∀ a b c:Nat,a+1+b+c=(a+(b+c))+1 by omega,List.getElem?_cons_succ]
    exact h4
  have d:=(List.getElem?_eq_some_iff.1 h5).1
  unfold allK
  rw [List.append_assoc,List.getElem?_append_left d]
  exact h5
theorem zim {g:D.Grid}{more:List D.ShardCell}{i k:Nat}{c:D.ShardCell}(hc:more[i]? = some c) (h0:c.Kind≠0) (hk:k≤c.Aux.length):
    (allK g more)[(portK g.Shards).length+(rowK 3 0 (more.take i)).length+k]? = some (3,0,i,k):=by
  have hcl:k<(cellK 3 0 i c).length:=by unfold cellK;rw [if_neg h0];simp;omega
  have h2:=zdF (g:=fun i c=>cellK 3 0 i c) hc hcl
  have h3:(cellK 3 0 i c)[k]? = some (3,0,i,k):=by unfold cellK;rw [if_neg h0,List.getElem?_map,List.getElem?_range (by omega)];rfl
  rw [h3] at h2
  have h2':(rowK 3 0 more)[(rowK 3 0 (more.take i)).length+k]? = some (3,0,i,k):=h2
  have hlt:=(List.getElem?_eq_some_iff.1 h2').1
  unfold allK
  rw [List.getElem?_append_left (by rw [List.length_append];omega),Nat.add_assoc,List.getElem?_append_right (Nat.le_add_right _ _),Nat.add_sub_cancel_left]
  exact h2'
theorem zmT {g:D.Grid}{more:List D.ShardCell}{m i:Nat}{s:D.Shard}(hs:g.Shards[m]? = some s) (hi:i<s.Vars.length):
    (allK g more)[(portK g.Shards).length+(rowK 3 0 more).length+(varK (g.Shards.take m)).length+i]? = some (2,m,i,0):=by
  have h4:=zdF (g:=fun i (s:D.Shard)=>varR i s) (k:=i) hs (by unfold varR;simpa using hi)
  have h3:(varR m s)[i]? = some (2,m,i,0):=by unfold varR;rw [List.getElem?_map,List.getElem?_range hi];rfl
  rw [h3] at h4
  unfold allK
  rw [List.getElem?_append_right (by rw [List.length_append];omega),List.length_append,Nat.add_assoc,Nat.add_sub_cancel_left]
  exact h4


theorem zfy {fuel:Nat}{L:D.l27Links}{c:D.ShardCell}{t m i:Nat}(hf:18446744073709551616≤fuel) (hs:c.sz≤1048576) (ha:c.Aux.length≤3) (hp:L.ports.length≤1000000) (hg:L.agents.length≤1000000):
    ∃ P A,z2t fuel L c=some ((L.ports.length:Int),⟨A,P,L.cells,L.vars,L.ends,L.pairs⟩)∧P.length=L.ports.length+(cellK t m i c).length∧A.length≤L.agents.length+1:=by
  unfold z2t
  by_cases k0:c.Kind=0
  · rw [if_pos (by simp [k0])]
    exact⟨L.ports,L.agents,rfl,by unfold cellK;rw [if_pos k0];rfl,by omega⟩
  · rw [if_neg (by simpa using k0)]
    obtain⟨o,h1,P,rfl,h2⟩:=z1f (body:=z2j fuel L c) (fun k s=>∃ P:List D.Port,s=((k:Int),P)∧P.length=L.ports.length+k) (c.Aux.length+1) (fun o=>∃ P,o=.inl P∧P.length=L.ports.length+(c.Aux.length+1)) (by
      rintro k s hk ⟨P,rfl,hP⟩
      refine .inl ⟨(w64 (k+1),P++[⟨(L.agents.length:Int),(k:Int)⟩]),?_,_,by rw [za (by omega) (by omega)];rfl,by simp [hP];omega⟩
      unfold z2j
      dsimp only
      rw [if_pos (by simp;omega),if_pos (by simp;omega)]) (by
      rintro s ⟨P,rfl,hP⟩
      refine .inr ⟨P,?_,P,rfl,hP⟩
      unfold z2j
      rw [if_neg (by simp;omega)]) (fuel:=fuel) (i:=0) (s:=(0,L.ports)) (Nat.zero_le _) (by omega) ⟨_,rfl,rfl⟩
    rw [h1,Option.bind_some]
    simp only [aft]
    unfold z6n
    rw [zi4 hs,Option.bind_some,if_pos (by simp;omega)]
    exact⟨P,_,rfl,by rw [h2];unfold cellK;rw [if_neg k0];simp,by simp⟩

def baseL (b:Nat) (cs:List D.ShardCell) (n:Nat):List Int:=(List.range n).map fun i=>((b+(rowK 1 0 (cs.take i)).length:Nat):Int)
theorem zhq {b n:Nat}{cs:List D.ShardCell}:baseL b cs (n+1)=baseL b cs n++[((b+(rowK 1 0 (cs.take n)).length:Nat):Int)]:=by
  unfold baseL
  rw [List.range_succ,List.map_append]
  rfl
theorem zmQ {b n i:Nat}{cs:List D.ShardCell}(h:i<n):(baseL b cs n)[i]? = some ((b+(rowK 1 0 (cs.take i)).length:Nat):Int):=by
  unfold baseL
  rw [List.getElem?_map,List.getElem?_range h]
  rfl

theorem zob {fuel:Nat}{g:D.Grid}{m:Nat}{s:D.Shard}{z:List (List Int) × List (List Int) × List (List Int) × List (List Int) × List D.Port × List D.Agent}{C V E Q:List (List Int)}{P:List D.Port}{A:List D.Agent}
    (hf:18446744073709551616≤fuel) (hm:g.Shards[m]? = some s) (hz:s.Cells.length≤400) (hs:∀ c,c∈s.Cells→c.sz≤1048576∧c.Aux.length≤3) (hP:P.length≤100000) (hA:A.length≤100000):
    ∃ P' A',iter (z3h fuel g ((m:Int),z)) fuel (0,[],C,V,E,Q,P,A)=some (.inl (baseL P.length s.Cells s.Cells.length,C,V,E,Q,P',A'))∧P'.length=P.length+(rowK 1 m s.Cells).length∧A'.length≤A.length+s.Cells.length:=by
  have hle:=fun i hi=>zbp (t:=1) (m:=m) (cs:=s.Cells) (fun c hc=>(hs c hc).2) i hi
  obtain⟨o,h1,P',A',rfl,h2,h3⟩:=z1f (body:=z3h fuel g ((m:Int),z)) (fun i st=>∃ P' A',st=((i:Int),baseL P.length s.Cells i,C,V,E,Q,P',A')∧P'.length=P.length+(rowK 1 m (s.Cells.take i)).length∧A'.length≤A.length+i) s.Cells.length
    (fun o=>∃ P' A',o=.inl (baseL P.length s.Cells s.Cells.length,C,V,E,Q,P',A')∧P'.length=P.length+(rowK 1 m s.Cells).length∧A'.length≤A.length+s.Cells.length) (by
    rintro i st hi ⟨P',A',rfl,hP',hA'⟩
    obtain⟨c,hc⟩:=z4O hi
    obtain⟨c1,c2⟩:=hs c (List.mem_of_getElem? hc)
    have:=hle i (by omega)
    obtain⟨P2,A2,e1,e2,e3⟩:=zfy (L:=⟨A',P',C,V,E,Q⟩) (t:=1) (m:=m) (i:=i) hf c1 c2 (by dsimp only;omega) (by dsimp only;omega)
    dsimp only at e1 e2 e3
    refine .inl ⟨(w64 (i+1),baseL P.length s.Cells (i+1),C,V,E,Q,P2,A2),?_,P2,A2,by rw [za (by omega) (by omega)];rfl,by rw [e2,hP',zbo hc,List.length_append];omega,by omega⟩
    unfold z3h
    dsimp only
    rw [z9 hm,Option.bind_some,if_pos (by simpa using hi),Option.bind_some,z9 hc,Option.bind_some,e1,Option.bind_some]
    dsimp only
    rw [if_pos (by unfold baseL;simp;omega),zhq,hP',zcv (t:=1) (m:=m) (t':=1) (m':=0) i (by omega)]) (by
    rintro st ⟨P',A',rfl,hP',hA'⟩
    rw [List.take_length] at hP'
    refine .inr ⟨_,?_,P',A',rfl,hP',hA'⟩
    unfold z3h
    dsimp only
    rw [z9 hm,Option.bind_some,if_neg (by simp)]) (fuel:=fuel) (i:=0) (s:=(0,[],C,V,E,Q,P,A)) (Nat.zero_le _) (by omega) ⟨P,A,rfl,by simp [rowK],by omega⟩
  exact⟨P',A',h1,h2,h3⟩

theorem znq {fuel:Nat}{more:List D.ShardCell}{C V E Q:List (List Int)}{P:List D.Port}{A:List D.Agent}
    (hf:18446744073709551616≤fuel) (hz:more.length≤20000) (hs:∀ c,c∈more→c.sz≤1048576∧c.Aux.length≤3) (hP:P.length≤100000) (hA:A.length≤100000):
    ∃ P' A',iter (z3k fuel more) fuel (0,[],C,V,E,Q,P,A)=some (.inl (baseL P.length more more.length,C,V,E,Q,P',A'))∧P'.length=P.length+(rowK 3 0 more).length∧A'.length≤A.length+more.length:=by
  have hle:=fun i hi=>zbp (t:=3) (m:=0) (cs:=more) (fun c hc=>(hs c hc).2) i hi
  obtain⟨o,h1,P',A',rfl,h2,h3⟩:=z1f (body:=z3k fuel more) (fun i st=>∃ P' A',st=((i:Int),baseL P.length more i,C,V,E,Q,P',A')∧P'.length=P.length+(rowK 3 0 (more.take i)).length∧A'.length≤A.length+i) more.length
    (fun o=>∃ P' A',o=.inl (baseL P.length more more.length,C,V,E,Q,P',A')∧P'.length=P.length+(rowK 3 0 more).length∧A'.length≤A.length+more.length) (by
    rintro i st hi ⟨P',A',rfl,hP',hA'⟩
    obtain⟨c,hc⟩:=z4O hi
    obtain⟨c1,c2⟩:=hs c (List.mem_of_getElem? hc)
    have:=hle i (by omega)
    obtain⟨P2,A2,e1,e2,e3⟩:=zfy (L:=⟨A',P',C,V,E,Q⟩) (t:=3) (m:=0) (i:=i) hf c1 c2 (by dsimp only;omega) (by dsimp only;omega)
    dsimp only at e1 e2 e3
    refine .inl ⟨(w64 (i+1),baseL P.length more (i+1),C,V,E,Q,P2,A2),?_,P2,A2,by rw [za (by omega) (by omega)];rfl,by rw [e2,hP',zbo hc,List.length_append];omega,by omega⟩
    unfold z3k
    dsimp only
    rw [if_pos (by simpa using hi),z9 hc,Option.bind_some,e1,Option.bind_some]
    dsimp only
    rw [if_pos (by unfold baseL;simp;omega),zhq,hP',zcv (t:=3) (m:=0) (t':=1) (m':=0) i (by omega)]) (by
    rintro st ⟨P',A',rfl,hP',hA'⟩
    rw [List.take_length] at hP'
    refine .inr ⟨_,?_,P',A',rfl,hP',hA'⟩
    unfold z3k
    rw [if_neg (by simp)]) (fuel:=fuel) (i:=0) (s:=(0,[],C,V,E,Q,P,A)) (Nat.zero_le _) (by omega) ⟨P,A,rfl,by simp [rowK],by omega⟩
  exact⟨P',A',h1,h2,h3⟩

theorem zmV {fuel:Nat}{g:D.Grid}{m n:Nat}{s:D.Shard}{z1:Int}{z2:List (List Int)}(hf:18446744073709551616≤fuel) (hm:g.Shards[m]? = some s) (hz:s.Vars.length≤400) (hn:n≤1000000):
    iter (z3i fuel g (z1,(m:Int),z2)) fuel ((n:Int),0,[])=some (.inl (((n+s.Vars.length:Nat):Int),(List.range s.Vars.length).map fun i=>((n+i:Nat):Int))):=by
  obtain⟨o,h1,h2⟩:=z1f (body:=z3i fuel g (z1,(m:Int),z2)) (fun i st=>st=(((n+i:Nat):Int),(i:Int),(List.range i).map fun j=>((n+j:Nat):Int))) s.Vars.length (fun o=>o=.inl (((n+s.Vars.length:Nat):Int),(List.range s.Vars.length).map fun i=>((n+i:Nat):Int))) (by
    rintro i st hi rfl
    refine .inl ⟨(w64 (((n+i:Nat):Int)+1),w64 (i+1),((List.range i).map fun j=>((n+j:Nat):Int))++[((n+i:Nat):Int)]),?_,?_⟩
    · unfold z3i
      dsimp only
      rw [z9 hm,Option.bind_some,if_pos (by simpa using hi),if_pos (by simp;omega)]
    · rw [za (by omega) (by omega),za (by omega) (by omega),List.range_succ,List.map_append]
      rfl) (by
    rintro st rfl
    refine .inr ⟨_,?_,rfl⟩
    unfold z3i
    dsimp only
    rw [z9 hm,Option.bind_some,if_neg (by simp)]) (fuel:=fuel) (i:=0) (s:=((n:Int),0,[])) (Nat.zero_le _) (by omega) rfl
  rw [h1,h2]
end Go.E


namespace Go.E
open Go.RowKit Go.Proofs
set_option linter.unusedSimpArgs false
set_option linter.unusedVariables false


structure Small (g:D.Grid):Prop where
  n:g.Shards.length≤4
  s:∀ s,s∈g.Shards→s.Cells.length≤400∧s.Vars.length≤400∧s.Redexes.length≤400∧(∀ c,c∈s.Cells→c.sz≤1048576∧c.Aux.length≤3∧shCellN c=true)∧∀ v,v∈s.Vars→shVarN v=true
theorem zfM {g:D.Grid}(hs:g.sz≤1048576) (hp:piecesN g=true):Small g:=by
  unfold piecesN at hp
  rw [Bool.and_eq_true,decide_eq_true_eq] at hp
  refine⟨hp.1.2,fun s hm=>?_⟩
  have h1:=List.all_eq_true.1 hp.2 s hm
  unfold shardN at h1
  rw [Bool.and_eq_true,Bool.and_eq_true,decide_eq_true_eq] at h1
  obtain⟨⟨a1,a2,a3⟩,a4,a5⟩:=h1
  have z:=(zao ((zbD hs).2 s hm)).2.2.2
  exact⟨a1,a2,a3,fun c hc=>⟨z c hc,zgx (List.all_eq_true.1 a4 c hc),List.all_eq_true.1 a4 c hc⟩,fun v hv=>List.all_eq_true.1 a5 v hv⟩
def moreOk (more:List D.ShardCell):Prop:=more.length≤20000∧∀ c,c∈more→c.sz≤1048576∧c.Aux.length≤3
structure Items (g:D.Grid) (more:List D.ShardCell) (L:D.l27Links) (at_:List Int):Prop where
  ports:L.ports.length=(portK g.Shards++rowK 3 0 more).length
  cell:∀ (m i:Nat) s c,g.Shards[m]? = some s→s.Cells[i]? = some c→∃ row,L.cells[m]? = some row∧row[i]? = some (((portK (g.Shards.take m)).length+(rowK 1 m (s.Cells.take i)).length:Nat):Int)
  var:∀ (m i:Nat) s,g.Shards[m]? = some s→i<s.Vars.length→∃ row,L.vars[m]? = some row∧row[i]? = some (((portK g.Shards).length+(rowK 3 0 more).length+(varK (g.Shards.take m)).length+i:Nat):Int)
  ends:L.ends=List.replicate (allK g more).length []
  pairs:L.pairs=[]
  more:∀ (i:Nat) c,more[i]? = some c→at_[i]? = some (((portK g.Shards).length+(rowK 3 0 (more.take i)).length:Nat):Int)
theorem zbP {g:D.Grid}(hS:Small g):∀ m,m≤g.Shards.length→(portK (g.Shards.take m)).length≤1+1600*m
  | 0,_=>by simp [portK]
  | m+1,hm=>by
    obtain⟨s,hs⟩:=z4O (xs:=g.Shards) (i:=m) (by omega)
    obtain⟨a1,a2,a3,a4,a5⟩:=hS.s s (List.mem_of_getElem? hs)
    rw [zft hs,List.length_append]
    have:=zbP hS m (by omega)
    have h2:=zbp (t:=1) (m:=m) (cs:=s.Cells) (fun c hc=>(a4 c hc).2.1) s.Cells.length (Nat.le_refl _)
    rw [List.take_length] at h2
    omega
theorem zhu {g:D.Grid}(hS:Small g):∀ m,m≤g.Shards.length→(varK (g.Shards.take m)).length≤400*m
  | 0,_=>by simp [varK]
  | m+1,hm=>by
    obtain⟨s,hs⟩:=z4O (xs:=g.Shards) (i:=m) (by omega)
    obtain⟨a1,a2,a3,a4,a5⟩:=hS.s s (List.mem_of_getElem? hs)
    rw [zgg hs,List.length_append]
    have:=zhu hS m (by omega)
    unfold varR
    simp only [List.length_map,List.length_range]
    omega
theorem zhY {fuel:Nat}{g:D.Grid}(hf:18446744073709551616≤fuel) (hS:Small g):∃ (C:List (List Int)) (P:List D.Port) (A:List D.Agent),iter (z3m fuel g) fuel (0,[],[],[],[],[⟨0,0⟩],[⟨1,0,0,[],List.replicate (1:Int).toNat ⟨0,0⟩⟩])=some (.inl (C,[],[],[],P,A))∧C.length=g.Shards.length∧(∀ (j:Nat) s,g.Shards[j]? = some s→C[j]? = some (baseL (portK (g.Shards.take j)).length s.Cells s.Cells.length))∧P.length=(portK g.Shards).length∧A.length≤2000:=by
  have hn:=hS.n
  obtain⟨o,h1,C,P,A,rfl,h2,h3,h4,h5⟩:=z1f (body:=z3m fuel g) (fun m st=>∃ (C:List (List Int)) (P:List D.Port) (A:List D.Agent),st=((m:Int),C,[],[],[],P,A)∧C.length=m∧(∀ (j:Nat) s,j<m→g.Shards[j]? = some s→C[j]? = some (baseL (portK (g.Shards.take j)).length s.Cells s.Cells.length))∧P.length=(portK (g.Shards.take m)).length∧A.length≤1+400*m) g.Shards.length
    (fun o=>∃ (C:List (List Int)) (P:List D.Port) (A:List D.Agent),o=.inl (C,[],[],[],P,A)∧C.length=g.Shards.length∧(∀ (j:Nat) s,g.Shards[j]? = some s→C[j]? = some (baseL (portK (g.Shards.take j)).length s.Cells s.Cells.length))∧P.length=(portK g.Shards).length∧A.length≤2000) (by
    rintro m st hm ⟨C,P,A,rfl,hC,hr,hP,hA⟩
    obtain⟨s,hs⟩:=z4O hm
    obtain⟨a1,a2,a3,a4,a5⟩:=hS.s s (List.mem_of_getElem? hs)
    have hpl:=zbP hS m (by omega)
    obtain⟨P',A',e1,e2,e3⟩:=zob (z:=(C,[],[],[],P,A)) (C:=C) (V:=[]) (E:=[]) (Q:=[]) (P:=P) (A:=A) hf hs a1 (fun c hc=>⟨(a4 c hc).1,(a4 c hc).2.1⟩) (by omega) (by omega)
    refine .inl ⟨(w64 (m+1),C++[baseL P.length s.Cells s.Cells.length],[],[],[],P',A'),?_,_,P',A',by rw [za (by omega) (by omega)];rfl,by simp [hC],?_,?_,by omega⟩
    · unfold z3m
      dsimp only
      rw [if_pos (by simpa using hm),e1,Option.bind_some]
      rw [z8]
      unfold z8w
      dsimp only
      rw [if_pos (by simp;omega)]
    · intro j s' hj hs'
      by_cases hjm:j<m
      · rw [List.getElem?_append_left (by omega)]
        exact hr j s' hjm hs'
      · obtain rfl:j=m:=by omega
        rw [hs] at hs'
        cases hs'
        rw [List.getElem?_append_right (by omega),hC,Nat.sub_self,hP]
        rfl
    · rw [e2,hP,zft hs,List.length_append]) (by
    rintro st ⟨C,P,A,rfl,hC,hr,hP,hA⟩
    rw [List.take_length] at hP
    refine .inr ⟨_,?_,C,P,A,rfl,hC,fun j s hs=>hr j s (List.getElem?_eq_some_iff.1 hs).1 hs,hP,by omega⟩
    unfold z3m
    rw [if_neg (by simp)]) (fuel:=fuel) (i:=0) (s:=(0,[],[],[],[],[⟨0,0⟩],[⟨1,0,0,[],List.replicate (1:Int).toNat ⟨0,0⟩⟩])) (Nat.zero_le _) (by omega) ⟨_,_,_,rfl,rfl,fun j s hj _=>absurd hj (Nat.not_lt_zero _),by simp [portK],by simp⟩
  exact⟨C,P,A,h1,h2,h3,h4,h5⟩
theorem zj5 {fuel N:Nat}{g:D.Grid}(hf:18446744073709551616≤fuel) (hS:Small g) (hN:N≤500000):∃ V:List (List Int),iter (z3j fuel g) fuel ((N:Int),0,[])=some (.inl (((N+(varK g.Shards).length:Nat):Int),V))∧V.length=g.Shards.length∧∀ (j:Nat) s,g.Shards[j]? = some s→V[j]? = some ((List.range s.Vars.length).map fun i=>((N+(varK (g.Shards.take j)).length+i:Nat):Int)):=by
  have hn:=hS.n
  obtain⟨o,f1,V,rfl,f2,f3⟩:=z1f (body:=z3j fuel g) (fun m st=>∃ V:List (List Int),st=(((N+(varK (g.Shards.take m)).length:Nat):Int),(m:Int),V)∧V.length=m∧∀ (j:Nat) s,j<m→g.Shards[j]? = some s→V[j]? = some ((List.range s.Vars.length).map fun i=>((N+(varK (g.Shards.take j)).length+i:Nat):Int))) g.Shards.length
    (fun o=>∃ V:List (List Int),o=.inl (((N+(varK g.Shards).length:Nat):Int),V)∧V.length=g.Shards.length∧∀ (j:Nat) s,g.Shards[j]? = some s→V[j]? = some ((List.range s.Vars.length).map fun i=>((N+(varK (g.Shards.take j)).length+i:Nat):Int))) (by
    rintro m st hm ⟨V,rfl,hV,hr⟩
    obtain⟨s,hs⟩:=z4O hm
    obtain⟨a1,a2,a3,a4,a5⟩:=hS.s s (List.mem_of_getElem? hs)
    have hvl:=zhu hS m (by omega)
    have e1:=zmV (z1:=((N+(varK (g.Shards.take m)).length:Nat):Int)) (z2:=V) (n:=N+(varK (g.Shards.take m)).length) hf hs a2 (by omega)
    refine .inl ⟨(((N+(varK (g.Shards.take m)).length+s.Vars.length:Nat):Int),w64 (m+1),V++[(List.range s.Vars.length).map fun i=>((N+(varK (g.Shards.take m)).length+i:Nat):Int)]),?_,V++[(List.range s.Vars.length).map fun i=>((N+(varK (g.Shards.take m)).length+i:Nat):Int)],?_,by simp [hV],?_⟩
    · unfold z3j
      dsimp only
      rw [if_pos (by simpa using hm),e1,Option.bind_some]
      rw [z8]
      unfold z8x
      dsimp only
      rw [if_pos (by simp;omega)]
    · rw [za (by omega) (by omega),zgg hs,List.length_append]
      unfold varR
      simp only [List.length_map,List.length_range,Nat.add_assoc]
      rfl
    · intro j s' hj hs'
      by_cases hjm:j<m
      · rw [List.getElem?_append_left (by omega)]
        exact hr j s' hjm hs'
      · obtain rfl:j=m:=by omega
        rw [hs] at hs'
        cases hs'
        rw [List.getElem?_append_right (by omega),hV,Nat.sub_self]
        rfl) (by
    rintro st ⟨V,rfl,hV,hr⟩
    rw [List.take_length]
    refine .inr ⟨_,?_,V,rfl,hV,fun j s hs=>hr j s (List.getElem?_eq_some_iff.1 hs).1 hs⟩
    unfold z3j
    rw [if_neg (by simp)]) (fuel:=fuel) (i:=0) (s:=((N:Int),0,[])) (Nat.zero_le _) (by omega) ⟨[],by simp [varK],rfl,fun j s hj _=>absurd hj (Nat.not_lt_zero _)⟩
  exact⟨V,f1,f2,f3⟩
theorem zmP {fuel:Nat}{g:D.Grid}{more:List D.ShardCell}(hf:18446744073709551616≤fuel) (hS:Small g) (hM:moreOk more):∃ L at_,z7c fuel g more=some (L,at_)∧Items g more L at_:=by
  have hn:=hS.n
  unfold z7c
  rw [if_pos (by simp)]
  obtain⟨C,P,A,h1,h2,h3,h4,h5⟩:=zhY hf hS
  rw [h1,Option.bind_some]
  rw [z8]
  unfold z8A
  dsimp only
  have hpl:=zbP hS g.Shards.length (Nat.le_refl _)
  rw [List.take_length] at hpl
  obtain⟨P',A',e1,e2,e3⟩:=znq (more:=more) (C:=C) (V:=[]) (E:=[]) (Q:=[]) (P:=P) (A:=A) hf hM.1 hM.2 (by omega) (by omega)
  rw [e1,Option.bind_some]
  rw [z8]
  unfold z8z
  dsimp only
  have hmore:=zbp (t:=3) (m:=0) (cs:=more) (fun c hc=>(hM.2 c hc).2) more.length (Nat.le_refl _)
  rw [List.take_length] at hmore
  have hM1:=hM.1
  have hPl:P'.length=(portK g.Shards).length+(rowK 3 0 more).length:=by rw [e2,h4]
  obtain⟨V,f1,f2,f3⟩:=zj5 (N:=P'.length) hf hS (by omega)
  rw [f1,Option.bind_some]
  rw [z8]
  unfold z8y
  dsimp only
  have hvl:=zhu hS g.Shards.length (Nat.le_refl _)
  rw [List.take_length] at hvl
  rw [if_pos (by simp;omega)]
  refine⟨_,_,rfl,?_,?_,?_,?_,rfl,?_⟩
  · dsimp only;rw [hPl,List.length_append]
  · intro m i s c hs hc
    have hi:=(List.getElem?_eq_some_iff.1 hc).1
    refine⟨_,h3 m s hs,?_⟩
    rw [zmQ hi,zcv (t:=1) (m:=0) (t':=1) (m':=m) i (by omega)]
  · intro m i s hs hi
    refine⟨_,f3 m s hs,?_⟩
    rw [List.getElem?_map,List.getElem?_range hi,hPl]
    rfl
  · dsimp only
    congr 1
    unfold allK
    rw [List.length_append,List.length_append,← hPl]
    omega
  · intro i c hc
    have hi:=(List.getElem?_eq_some_iff.1 hc).1
    rw [zmQ hi,h4,zcv (t:=1) (m:=0) (t':=3) (m':=0) i (by omega)]
end Go.E


