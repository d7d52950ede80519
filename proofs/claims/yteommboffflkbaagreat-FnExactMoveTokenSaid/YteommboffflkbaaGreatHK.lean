/- Detectors: both sides' whole test. Conditions: the detector's own size. -/
import Derived.Test.YteommboffflkbaaGreatSizesD
import Derived.Test.YteommboffflkbaaGreatClusSum
import Derived.Test.YteommboffflkbaaGreatHN
namespace Go.E
open Go.RowKit Go.Proofs
set_option linter.unusedSimpArgs false
set_option linter.unusedVariables false

def sumN (xs:List Int):Nat:=sumL Int.toNat xs
def honN (c:D.Qa):Bool:=(c.Qf.all fun ch=>decide (markN ch=0)) && decide (((sumN c.QK:Nat):Int) - ((sumN c.QZ:Nat):Int)=((goN c:Nat):Int))
def detN (d:D.Qq):Bool:=clusN d.Qa && (honN d.Qa && (decide (0≤d.QB∧d.QB≤(d.Qa.Qe.Qg.length:Int) - 1) && (decide (-4000000000≤d.QL∧d.QL≤4000000000) && (decide (d.Qs.length=d.Qa.Qe.Qg.length) && decide (0≤d.QG∧d.QG≤1000000000)))))

section
variable {fuel:Nat}{c:D.Qa}
structure Nums (c:D.Qa):Prop where
 sl:c.QK.length=c.Qe.Qg.length
 gl:c.QZ.length=c.Qe.Qg.length
 n:c.Qe.Qg.length≤4
 s:∀ x,x∈c.QK→0≤x∧x≤1000000000
 g:∀ x,x∈c.QZ→0≤x∧x≤1000000000
theorem ziw (hs:c.sz≤1048576) (h:clusN c=true):Nums c:=by
 obtain⟨hS,_⟩:=zfe hs h
 unfold clusN clusPN at h
 simp only [Bool.and_eq_true,decide_eq_true_eq] at h
 have h1:=h.1.2.2.1
 have h2:=h.1.2.2.2.1
 unfold numN at h1 h2
 simp only [Bool.and_eq_true,decide_eq_true_eq,List.all_eq_true] at h1 h2
 exact⟨h1.1,h2.1,hS.n,h1.2,h2.2⟩
theorem zez {xs:List Int}(h:∀ x,x∈xs→0≤x∧x≤1000000000) (i:Nat):sumL Int.toNat (xs.take i)≤1000000000*xs.length:=by
 have h1:=ziG (f:=Int.toNat) (b:=1000000000) (xs:=xs.take i) fun x hx=>by
  have:=h x (List.mem_of_mem_take hx)
  omega
 rw [List.length_take] at h1
 have:min i xs.length≤xs.length:=Nat.min_le_right _ _
 have:=Nat.mul_le_mul_left 1000000000 this
 omega
theorem ziH {xs:List Int}(hf:18446744073709551616≤fuel) (hl:xs.length≤4) (h:∀ x,x∈xs→0≤x∧x≤1000000000):zah fuel xs=some ((sumN xs:Nat):Int):=by
 unfold zah
 have h1:=sumLoop (xs:=xs) (body:=z97 fuel xs) (mk:=fun i s=>(s,i)) (out:=fun s=>s) (f:=Int.toNat) (c0:=0) (fuel:=fuel) (by omega) hf (fun i x hx=>by
  have hil:=(List.getElem?_eq_some_iff.1 hx).1
  have hb:=zez h i
  have d:=h x (List.mem_of_getElem? hx)
  have e:(x.toNat:Int)=x:=Int.toNat_of_nonneg d.1
  unfold z97
  dsimp only
  rw [if_pos (by simpa using hil),z9 hx,Option.bind_some,e,za (n:=_+x) (by omega) (by omega)]) (fun s=>by
  unfold z97
  rw [if_neg (by simp)])
 try dsimp only at h1
 rw [h1,Option.bind_some,z8,Int.zero_add]
 rfl
theorem znm (hf:18446744073709551616≤fuel) (hN:Nums c):iter (z2P fuel c) fuel (0,0)=some (.inl (((sumN c.QK:Nat):Int) - ((sumN c.QZ:Nat):Int))):=by
 have h1:=hN.sl
 have h2:=hN.gl
 have h3:=hN.n
 obtain⟨o,e1,e2⟩:=z1g (body:=z2P fuel c) (fun i st=>st=(((sumL Int.toNat (c.QK.take i):Nat):Int) - ((sumL Int.toNat (c.QZ.take i):Nat):Int),(i:Int))) c.QK.length (fun o=>o=.inl (((sumN c.QK:Nat):Int) - ((sumN c.QZ:Nat):Int))) (by
  rintro i st hi rfl
  obtain⟨x,hx⟩:=z42 hi
  obtain⟨y,hy⟩:=z42 (xs:=c.QZ) (i:=i) (by omega)
  have b1:=zez hN.s i
  have b2:=zez hN.g i
  have b3:=hN.s x (List.mem_of_getElem? hx)
  have b4:=hN.g y (List.mem_of_getElem? hy)
  have t1:=zb5 (f:=Int.toNat) hx
  have t2:=zb5 (f:=Int.toNat) hy
  refine .inl ⟨_,?_,rfl⟩
  unfold z2P z7b
  dsimp only
  rw [if_pos (by simpa using hi),z9 hx,Option.bind_some,z9 hy,Option.bind_some,Option.bind_some,za (n:=x - y) (by omega) (by omega),za (n:=_+(x - y)) (by omega) (by omega),za (n:=(i:Int)+1) (by omega) (by omega),t1,t2]
  refine congrArg some (congrArg Rd.next (Prod.ext ?_ rfl))
  dsimp only
  omega) (by
  rintro st rfl
  refine .inr ⟨_,by unfold z2P;rw [if_neg (by simp)],?_⟩
  rw [List.take_length]
  unfold sumN
  rw [show c.QZ.take c.QK.length=c.QZ from List.take_of_length_le (by omega)]) (fuel:=fuel) (i:=0) (s:=(0,0)) (by omega) (by omega) (by simp [sumL])
 rw [e1,e2]
theorem zob (hf:18446744073709551616≤fuel) (hC:Chans c) (hN:Nums c):z6P fuel c=some (honN c):=by
 have hcn:=hC.n
 unfold z6P
 rw [znm hf hN,Option.bind_some,z8]
 unfold z8w honN
 have h:=allLoop (xs:=c.Qf) (body:=z4j fuel c) (p:=fun _ ch=>decide (markN ch=0)) (t:=()) (v:=false) (fuel:=fuel) (by unfold maxLen;omega) hf (fun i ch hi hx=>by
  have hch:=hC.l ch (List.mem_of_getElem? hx)
  unfold z4j
  rw [if_pos (by simpa using hi),z9 hx,Option.bind_some,zg6 hf (by omega),Option.bind_some]
  by_cases hm:markN ch=0
  ·rw [if_neg (by simp [hm]),if_pos (by simp [hm])]
  ·rw [if_pos (by simp;omega),if_neg (by simp [hm])]) (by
  unfold z4j
  rw [if_neg (by simp)])
 rw [z7i (p:=fun ch:List D.Qi=>decide (markN ch=0))] at h
 rw [h,Option.bind_some]
 cases c.Qf.all fun ch=>decide (markN ch=0) with
 | false=>rfl
 | true=>
  rw [if_pos rfl,z8]
  unfold z8v
  rw [zpo hf hC,Option.bind_some,beqD,Bool.true_and]
theorem zgL {p:List D.Qi→Bool}{f:List D.Qi→Option Bool}{xs:List (List D.Qi)}(hf:18446744073709551616≤fuel) (hl:xs.length≤maxLen) (h:∀ n,n∈xs→f n=some (p n)):
  zg fuel xs f=some (xs.any p):=by
 unfold zg zA
 obtain⟨r,h1,h2⟩:=askIndex (xs:=xs) (p:=p) (body:=zf fuel xs f) (j:=zW fuel) (t:=()) hl hf rfl (fun i x hi hx=>by
  simp only [zf,z9 hx,h x (List.mem_of_getElem? hx),lt_t (show(i:Int)<xs.length by omega),if_true,Option.bind_some]) (by simp [zf])
 rw [h1,Option.bind_some,h2]
theorem zoc (hf:18446744073709551616≤fuel) (hC:Chans c) (hN:Nums c):z2x fuel c=some (honN c):=by
 have hcn:=hC.n
 have h1:=hN.sl
 have h2:=hN.gl
 have h3:=hN.n
 have b1:=zez hN.s c.QK.length
 have b2:=zez hN.g c.QZ.length
 rw [List.take_length] at b1 b2
 unfold z2x z31 honN
 rw [zgL (p:=fun ch=>!decide (markN ch=0)) hf (by unfold maxLen;omega) (fun ch hch=>by
  have hl:=hC.l ch hch
  unfold z2f
  rw [zg7 hf (by omega),Option.bind_some]
  by_cases hm:markN ch=0
  ·simp [hm]
  ·rw [decide_eq_true (by omega),decide_eq_false hm];rfl),zb2,Option.bind_some,Option.bind_some]
 cases c.Qf.all fun ch=>decide (markN ch=0) with
 | false=>rfl
 | true=>
  rw [if_pos (by rfl),ziH hf (by omega) hN.s,ziH hf (by omega) hN.g,zpp hf hC,Option.bind_some,Option.bind_some,Option.bind_some,za (n:=((sumN c.QK:Nat):Int) - ((sumN c.QZ:Nat):Int)) (by unfold sumN;omega) (by unfold sumN;omega),beqD,Bool.true_and]
theorem zoV {d:D.Qq}(hf:18446744073709551616≤fuel) (hs:d.Qa.sz≤1048576):z9C fuel d=some (detN d):=by
 have ge:(⟨(⟨d.Qa.Qe.Qg,(⟨d.Qa.Qe.Qo.Qb,d.Qa.Qe.Qo.Qj,d.Qa.Qe.Qo.Qk⟩:D.Qc)⟩:D.Qe),d.Qa.Qf,d.Qa.Qt,d.Qa.QK,d.Qa.QZ⟩:D.Qa)=d.Qa:=rfl
 unfold z9C detN
 rw [ge,znp hf hs,Option.bind_some]
 cases h:clusN d.Qa with
 | false=>rfl
 | true=>
  obtain⟨hS,hC,hk,hl⟩:=zfe hs h
  have hN:=ziw hs h
  have h1:=hN.sl
  have hn:=hS.n
  rw [if_neg (by simp),zob hf hC hN,Option.bind_some,Bool.true_and]
  unfold z7v
  cases honN d.Qa with
  | false=>rfl
  | true=>
   rw [if_neg (by simp),za (by omega) (by omega),z6M,z6M,z6M,Option.bind_some,Option.bind_some,Option.bind_some,h1,Bool.true_and,beqD]
   cases decide (0≤d.QB∧d.QB≤(d.Qa.Qe.Qg.length:Int) - 1) with
   | false=>rfl
   | true=>
    cases decide (-4000000000≤d.QL∧d.QL≤4000000000) with
    | false=>rfl
    | true=>
     by_cases he:d.Qs.length=d.Qa.Qe.Qg.length
     ·rw [if_pos rfl,if_pos rfl,if_pos (by simp [he]),decide_eq_true he];rfl
     ·rw [if_pos rfl,if_pos rfl,if_neg (by simp;omega),decide_eq_false he];rfl
theorem zoW {d:D.Qq}(hf:18446744073709551616≤fuel) (hs:d.Qa.sz≤1048576):z40 fuel d=some (detN d):=by
 have ge:(⟨(⟨d.Qa.Qe.Qg,(⟨d.Qa.Qe.Qo.Qb,d.Qa.Qe.Qo.Qj,d.Qa.Qe.Qo.Qk⟩:D.Qc)⟩:D.Qe),d.Qa.Qf,d.Qa.Qt,d.Qa.QK,d.Qa.QZ⟩:D.Qa)=d.Qa:=rfl
 unfold z40 detN
 rw [ge,znr hf hs,Option.bind_some]
 cases h:clusN d.Qa with
 | false=>rfl
 | true=>
  obtain⟨hS,hC,hk,hl⟩:=zfe hs h
  have hN:=ziw hs h
  have hn:=hS.n
  rw [if_neg (by simp),zoc hf hC hN,Option.bind_some,Bool.true_and]
  unfold z2v z16 z24
  cases honN d.Qa with
  | false=>rfl
  | true=>
   dsimp only
   rw [if_neg (by simp),Option.bind_some,za (by omega) (by omega),zaH hf (by simp),zaH hf (by simp),Option.bind_some,Option.bind_some,Bool.true_and,beqD]
   simp only [List.all_cons,List.all_nil,Bool.and_true]
   cases decide (0≤d.QB∧d.QB≤(d.Qa.Qe.Qg.length:Int) - 1) with
   | false=>rfl
   | true=>
    by_cases hc1:-4000000000≤d.QL
    ·by_cases hc2:d.QL≤4000000000
     ·rw [if_pos rfl,if_pos (by simp;omega),decide_eq_true hc2,decide_eq_true (show -4000000000≤d.QL∧d.QL≤4000000000 from⟨hc1,hc2⟩),Option.bind_some,if_pos rfl]
      by_cases he:d.Qs.length=d.Qa.Qe.Qg.length
      ·rw [if_pos (by simp [he]),decide_eq_true he];rfl
      ·rw [if_neg (by simp;omega),decide_eq_false he];rfl
     ·rw [if_pos rfl,if_pos (by simp;omega),decide_eq_false hc2,decide_eq_false (show ¬(-4000000000≤d.QL∧d.QL≤4000000000) from fun h=>hc2 h.2)];rfl
    ·rw [if_pos rfl,if_neg (by simp;omega),decide_eq_false (show ¬(-4000000000≤d.QL∧d.QL≤4000000000) from fun h=>hc1 h.1)];rfl
end
end Go.E


namespace Go.E
open Go.RowKit Go.Proofs
set_option linter.unusedSimpArgs false
set_option linter.unusedVariables false

section
variable {fuel:Nat}
theorem ze5 {xs:List Int}(hl:xs.length≤1048576):z2Y fuel xs=some xs:=by unfold z2Y;rw [if_pos (decide_eq_true (by simp only [List.length_nil];omega))];rfl
theorem zbn {xs:List Int}(hl:xs.length≤1048576):zj fuel xs=some xs:=by unfold zj;rw [if_pos (decide_eq_true (by simp only [List.length_nil];omega))];rfl
theorem zff {xs:List D.Qc}(hl:xs.length≤1048576):zk fuel xs=some xs:=by unfold zk;rw [if_pos (decide_eq_true (by simp only [List.length_nil];omega))];rfl
theorem zjH {xs:List D.Qp}(hl:xs.length≤1048576):zu fuel xs=some xs:=by unfold zu;rw [if_pos (decide_eq_true (by simp only [List.length_nil];omega))];rfl
theorem zgM {xs:List D.Qn}(hl:xs.length≤1048576):zm fuel xs=some xs:=by unfold zm;rw [if_pos (decide_eq_true (by simp only [List.length_nil];omega))];rfl
theorem zgN {xs:List D.Qi}(hl:xs.length≤1048576):zM fuel xs=some xs:=by unfold zM;rw [if_pos (decide_eq_true (by simp only [List.length_nil];omega))];rfl
theorem ziB {c:D.Qd}(h:c.sz≤1048576):c.Data.length≤1048576∧c.QY.length≤1048576:=by
 unfold D.Qd.sz at h
 omega
theorem ziM {c:D.Qd}(h:c.sz≤1048576):z4e fuel c=some c:=by
 obtain⟨h1,h2⟩:=ziB h
 unfold z4e
 rw [ze5 h1,Option.bind_some,if_pos (decide_eq_true (by simp only [List.length_nil];omega))]
 rfl
theorem zcG {α:Type}{xs:List α}:xs.map (fun x=>x)=xs:=by simp
theorem zk7 {s:D.Qv}(hf:18446744073709551616≤fuel) (h:s.sz≤1048576):z5c fuel s=some s:=by
 obtain⟨h1,h2,h3,h4⟩:=zaN h
 unfold z5c
 rw [if_pos (decide_eq_true (by simp only [List.length_nil];omega)),if_pos (decide_eq_true (by simp only [List.length_nil];omega))]
 unfold z5b
 have hL:=mapLoop (xs:=s.Cells) (body:=z36 fuel s) (g:=fun x=>x) h1 hf (fun i x t hx ht=>by
  have hi:=(List.getElem?_eq_some_iff.1 hx).1
  unfold z36
  dsimp only
  rw [if_pos (decide_eq_true (by omega)),z9 hx,Option.bind_some,ziM (h4 x (List.mem_of_getElem? hx)),Option.bind_some,if_pos (decide_eq_true (by simp only [List.length_cons,List.length_nil];omega))]) (fun t=>by
  unfold z36
  rw [if_neg (by simp)])
 rw [zcG] at hL
 dsimp only
 rw [hL,Option.bind_some,z8]
 rfl
theorem znU {g:D.Qe}(hf:18446744073709551616≤fuel) (h:g.sz≤1048576):z65 fuel g=some g:=by
 obtain⟨h1,h2⟩:=zc8 h
 unfold z65
 have hL:=mapLoop (xs:=g.Qg) (body:=z3H fuel g) (g:=fun x=>x) h1 hf (fun i x t hx ht=>by
  have hi:=(List.getElem?_eq_some_iff.1 hx).1
  unfold z3H
  dsimp only
  rw [if_pos (decide_eq_true (by omega)),z9 hx,Option.bind_some,zk7 hf (h2 x (List.mem_of_getElem? hx)),Option.bind_some,if_pos (decide_eq_true (by simp only [List.length_cons,List.length_nil];omega))]) (fun t=>by
  unfold z3H
  rw [if_neg (by simp)])
 rw [zcG] at hL
 rw [hL,Option.bind_some,z8]
 rfl
theorem zk9 {cs:List (List D.Qi)}(hf:18446744073709551616≤fuel) (hl:cs.length≤1048576) (hc:∀ ch,ch∈cs→ch.length≤1048576∧∀ p,p∈ch→p.Qz.sz≤1048576):z35 fuel cs=some cs:=by
 unfold z35
 have hL:=mapLoop (xs:=cs) (body:=z26 fuel cs) (g:=fun x=>x) hl hf (fun i ch t hx ht=>by
  have hi:=(List.getElem?_eq_some_iff.1 hx).1
  obtain⟨c1,c2⟩:=hc ch (List.mem_of_getElem? hx)
  unfold z26
  dsimp only
  rw [if_pos (decide_eq_true (by omega))]
  have hM:=mapLoop (xs:=ch) (body:=z25 fuel cs ((i:Int),t)) (g:=fun x=>x) c1 hf (fun k p u hp hu=>by
   have hk:=(List.getElem?_eq_some_iff.1 hp).1
   unfold z25
   dsimp only
   rw [z9 hx,Option.bind_some,if_pos (decide_eq_true (by omega)),Option.bind_some,z9 hp,Option.bind_some,show(⟨p.Qz.Qj,p.Qz.QO,p.Qz.Value,p.Qz.Data,p.Qz.QY⟩:D.Qd)=p.Qz from rfl,ziM (c2 p (List.mem_of_getElem? hp)),Option.bind_some,if_pos (decide_eq_true (by simp only [List.length_cons,List.length_nil];omega))]) (fun u=>by
   unfold z25
   dsimp only
   rw [z9 hx,Option.bind_some,if_neg (by simp)])
  rw [zcG] at hM
  rw [hM,Option.bind_some,z8]
  unfold z64
  dsimp only
  rw [if_pos (decide_eq_true (by simp only [List.length_cons,List.length_nil];omega))]) (fun t=>by
  unfold z26
  rw [if_neg (by simp)])
 rw [zcG] at hL
 rw [hL,Option.bind_some,z8]
 rfl
theorem zk8 {cs:List (List Int)}(hf:18446744073709551616≤fuel) (hl:cs.length≤1048576) (hc:∀ x,x∈cs→x.length≤1048576):z56 fuel cs=some cs:=by
 unfold z56
 have hL:=mapLoop (xs:=cs) (body:=z34 fuel cs) (g:=fun x=>x) hl hf (fun i x t hx ht=>by
  have hi:=(List.getElem?_eq_some_iff.1 hx).1
  unfold z34
  dsimp only
  rw [if_pos (decide_eq_true (by omega)),z9 hx,Option.bind_some,ze5 (hc x (List.mem_of_getElem? hx)),Option.bind_some,if_pos (decide_eq_true (by simp only [List.length_cons,List.length_nil];omega))]) (fun t=>by
  unfold z34
  rw [if_neg (by simp)])
 rw [zcG] at hL
 rw [hL,Option.bind_some,z8]
 rfl
theorem znV {c:D.Qa}(hf:18446744073709551616≤fuel) (h:c.sz≤1048576):z8O fuel c=some c:=by
 obtain⟨z1,z2,z3,z4,z5,z6,z7⟩:=zcM h
 unfold z8O
 rw [show(⟨c.Qe.Qg,(⟨c.Qe.Qo.Qb,c.Qe.Qo.Qj,c.Qe.Qo.Qk⟩:D.Qc)⟩:D.Qe)=c.Qe from rfl,znU hf z1,Option.bind_some,zk9 hf z2 z3,Option.bind_some,zk8 hf z4 z5,Option.bind_some,ze5 z6,Option.bind_some,ze5 z7,Option.bind_some]


theorem zjF {s:D.Qv}(hf:18446744073709551616≤fuel) (h:s.sz≤1048576):z77 fuel s=some s:=by
 obtain⟨h1,h2,h3,h4⟩:=zaN h
 unfold z77
 rw [zjH h2,Option.bind_some,zgM h3,Option.bind_some]
 unfold z6L
 have hL:=mapLoop (xs:=s.Cells) (body:=z4G fuel s) (g:=fun x=>x) h1 hf (fun i x t hx ht=>by
  have hi:=(List.getElem?_eq_some_iff.1 hx).1
  obtain⟨c1,c2⟩:=ziB (h4 x (List.mem_of_getElem? hx))
  unfold z4G
  dsimp only
  rw [if_pos (decide_eq_true (by omega)),z9 hx,Option.bind_some,zbn c1,Option.bind_some,zff c2,Option.bind_some,if_pos (decide_eq_true (by simp only [List.length_cons,List.length_nil];omega))]) (fun t=>by
  unfold z4G
  rw [if_neg (by simp)])
 rw [zcG] at hL
 dsimp only
 rw [hL,Option.bind_some,z8]
 rfl
theorem znn {g:D.Qe}(hf:18446744073709551616≤fuel) (h:g.sz≤1048576):z7L fuel g=some g:=by
 obtain⟨h1,h2⟩:=zc8 h
 unfold z7L
 have hL:=mapLoop (xs:=g.Qg) (body:=z5A fuel g) (g:=fun x=>x) h1 hf (fun i x t hx ht=>by
  have hi:=(List.getElem?_eq_some_iff.1 hx).1
  unfold z5A
  dsimp only
  rw [if_pos (decide_eq_true (by omega)),z9 hx,Option.bind_some,zjF hf (h2 x (List.mem_of_getElem? hx)),Option.bind_some,if_pos (decide_eq_true (by simp only [List.length_cons,List.length_nil];omega))]) (fun t=>by
  unfold z5A
  rw [if_neg (by simp)])
 rw [zcG] at hL
 rw [hL,Option.bind_some,z8]
 rfl
theorem zhW {xs:List D.Qi}(hf:18446744073709551616≤fuel) (hl:xs.length≤1048576) (hp:∀ p,p∈xs→p.Qz.sz≤1048576):z5z fuel xs=some xs:=by
 unfold z5z
 rw [zgN hl,Option.bind_some]
 obtain⟨o,h1,h2⟩:=z1g (body:=z3f fuel xs) (fun i st=>st.1=(i:Int)∧st.2.length=xs.length∧(∀ j,j<i→st.2[j]? = xs[j]?.map fun x=>(true,x))∧∀ j,i≤j→st.2[j]? = xs[j]?.map fun x=>(false,x)) xs.length (fun o=>o=.inl (xs.map fun x=>(true,x))) (by
  rintro i ⟨a,s⟩ hi ⟨rfl,e1,e2,e3⟩
  dsimp only at e1 e2 e3
  obtain⟨x,hx⟩:=z42 hi
  have hs:s[i]? = some (false,x):=by rw [e3 i (Nat.le_refl _),hx];rfl
  obtain⟨c1,c2⟩:=ziB (hp x (List.mem_of_getElem? hx))
  refine .inl ⟨(w64 (i+1),s.set i (true,x)),?_,by dsimp only;rw [za (by omega) (by omega)];rfl,by simpa using e1,fun j hj=>?_,fun j hj=>?_⟩
  ·unfold z3f
   dsimp only
   rw [if_pos (decide_eq_true (by omega)),z9 hs,Option.bind_some,zbn c1,Option.bind_some,Option.bind_some,zff c2,Option.bind_some,Option.bind_some,if_neg (by simp)]
   unfold z5y
   dsimp only
   rw [Int.toNat_natCast]
  ·by_cases h:i=j
   ·subst h
    rw [List.getElem?_set_self (by omega),hx];rfl
   ·rw [List.getElem?_set_ne h,e2 j (by omega)]
  ·rw [List.getElem?_set_ne (by omega),e3 j (by omega)]) (by
  rintro⟨a,s⟩ ⟨rfl,e1,e2,e3⟩
  dsimp only at e1 e2 e3
  refine .inr ⟨s,by unfold z3f;rw [if_neg (by simp)],?_⟩
  have:s=xs.map fun x=>(true,x):=List.ext_getElem? fun j=>by
   rw [List.getElem?_map]
   by_cases h:j<xs.length
   ·exact e2 j h
   ·rw [List.getElem?_eq_none (by omega),List.getElem?_eq_none (by omega)];rfl
  rw [this]) (fuel:=fuel) (i:=0) (s:=(0,xs.map fun x=>(false,x))) (by omega) (by omega) ⟨rfl,by simp,fun j hj=>by omega,fun j _=>by simp⟩
 rw [h1,h2,Option.bind_some,z8]
 unfold z7K
 rw [if_pos (by simp),List.map_map]
 simp [Function.comp_def]
theorem zjG {cs:List (List D.Qi)}(hf:18446744073709551616≤fuel) (hl:cs.length≤1048576) (hc:∀ ch,ch∈cs→ch.length≤1048576∧∀ p,p∈ch→p.Qz.sz≤1048576):z4J fuel cs=some cs:=by
 unfold z4J
 refine z78 hl hf (fun _=>rfl) ?_ ?_
 ·intro i y out hy d
  have hi:=(List.getElem?_eq_some_iff.1 hy).1
  obtain⟨c1,c2⟩:=hc y (List.mem_of_getElem? hy)
  simp only [z4Q,z9 hy,Option.bind_some,lt_t (show(i:Int)<cs.length by omega),if_true,zhW hf c1 c2]
  rw [if_pos (by simp;omega)]
  simp
 ·intro out
  simp [z4Q]
theorem ziA {cs:List (List Int)}(hf:18446744073709551616≤fuel) (hl:cs.length≤1048576) (hc:∀ x,x∈cs→x.length≤1048576):z6u fuel cs=some cs:=by
 unfold z6u
 refine z78 hl hf (fun _=>rfl) ?_ ?_
 ·intro i y out hy d
  have hi:=(List.getElem?_eq_some_iff.1 hy).1
  simp only [z5Y,z9 hy,Option.bind_some,lt_t (show(i:Int)<cs.length by omega),if_true,zbn (hc y (List.mem_of_getElem? hy))]
  rw [if_pos (by simp;omega)]
  simp
 ·intro out
  simp [z5Y]
theorem zno {c:D.Qa}(hf:18446744073709551616≤fuel) (h:c.sz≤1048576):z5B fuel c=some c:=by
 obtain⟨z1,z2,z3,z4,z5,z6,z7⟩:=zcM h
 unfold z5B
 rw [znn hf z1,Option.bind_some,zjG hf z2 z3,Option.bind_some,ziA hf z4 z5,Option.bind_some,zbn z6,Option.bind_some,zbn z7,Option.bind_some]
end


end Go.E


namespace Go.E
open Go.RowKit Go.Proofs
set_option linter.unusedVariables false
set_option linter.unusedSimpArgs false
set_option maxHeartbeats 2000000
set_option maxRecDepth 100000

theorem zoh:Enters Tryz.prog 93:=⟨_,_,Tryz.func93,rfl,by kernel_rfl⟩
def z8N (fuel:Nat) (x0:D.Qq):Option (Bool):=(if(!x0.Qx)=true then((idx x0.Qa.Qe.Qg x0.QB).bind fun d=>some ((d.Qu.length:Int) == 0)) else some false)

theorem zfx {W w:World}(hE:Ext W w){M:Addr}{H:List Value}{x0:D.Qq}(Y:ty62.ro W H x0) (o:At W M H){fuel:Nat}{r:Bool}(hm:z8N fuel x0=some r):
  Calls Tryz.prog 93 ⟨[.pointer (some M)]⟩ w (Ret fun v w8=>v=.bool r∧St w w8 []):=by
 obtain⟨A1,k2,A4,k5,A7,r0,Z,t0,a0,u0,b0,v0,O,h3,h6,g0,i0,j0,k0⟩:=z6N Y;subst O;refine into Tryz.func93 25 _ ?_;unfold z8N at hm;have hS:=St.start w;refine sq<|rg<|rr 1 ?_;refine rn<|sq<|dn 0 mixed 23 [([],8388607),([0],8388606),([1],8388605),([2],8388603),([3],8388599),([4],8388591),([5],8388575),([6,5],8388511),([7,5],8388447),([8,5],8388319),([9,5],8388063),([10,5],8387551),([5],8388575),([12,5],8384479),([13,5],8380383),([14,5],8372191),([11,15,5],8353759),([16,5],8323039),([17,5],8257503),([18,5],8126431),([19,5],7864287),([5,20],7339999),([21,5,0,1,2,3,4,5,6,7,8,9,10,11,12,13,14,15,16,17,18,19,20,21],6291455)] hS.ext (fun d=>?_);have h:=hS.step (Ext.draw _);refine dr 20 d [0,1,2] ?_;refine dl d 3 (At.ext (hE.trans hS.ext) o) 13 ?_;refine dr 17 d [4,5] ?_;refine db 8 hm (fun hm=>?_) (fun hm=>?_)
 ·refine dr 9 d [6,7,8,9,10,12,13,14] ?_;refine dw [2,8,13,17] ?_;refine dl d 11 (At.ext (hE.trans hS.ext) o) 0 ?_;refine dl d 15 (At.ext (hE.trans hS.ext) o) 8 ?_;obtain⟨D0,G,hm⟩:=bS hm;refine dx (hE.trans hS.ext) d 16 h3 G (fun C0 X q y=>?_);obtain⟨d0,y0,e0,A0,f0,B0,S,o0,p0,q0⟩:=zR y;subst S;refine dr 5 d [17] ?_;refine dl d 18 (At.ext (hE.trans hS.ext) q) 2 ?_;refine dr 0 d [19,20,21,22] ?_;refine dw [2] ?_;refine dd d ?_;refine rt ?_;cases hm;exact⟨_,.cons (.tmp rfl) .nil,rfl,h⟩
 ·refine dr 0 d [6,7,8,9,10,11,12,13,14,15,16,17,18,19,20,21,22] ?_;refine dw [2] ?_;refine dd d ?_;refine rt ?_;cases hm;exact⟨_,.cons (.tmp rfl) .nil,rfl,h⟩

theorem zog:Enters Tryz.prog 94:=⟨_,_,Tryz.func94,rfl,by kernel_rfl⟩
def z2w (fuel:Nat) (x0:D.Qq):Option (Bool):=(if(!x0.Qx)=true then((idx x0.Qa.Qe.Qg x0.QB).bind fun d=>some ((d.Qu.length:Int) == 0)) else some false)

theorem zbi {W w:World}(hE:Ext W w){M:Addr}{H:List Value}{x0:D.Qq}(Y:ty62.ro W H x0) (o:At W M H){fuel:Nat}{r:Bool}(hm:z2w fuel x0=some r):
  Calls Tryz.prog 94 ⟨[.pointer (some M)]⟩ w (Ret fun v w8=>v=.bool r∧St w w8 []):=by
 obtain⟨A1,k2,A4,k5,A7,r0,Z,t0,a0,u0,b0,v0,O,h3,h6,g0,i0,j0,k0⟩:=z6N Y;subst O;refine into Tryz.func94 25 _ ?_;unfold z2w at hm;have hS:=St.start w;refine sq<|rg<|rr 1 ?_;refine rn<|sq<|dn 0 mixed 23 [([],8388607),([0],8388606),([1],8388605),([2],8388603),([3],8388599),([4],8388591),([5],8388575),([6,5],8388511),([7,5],8388447),([8,5],8388319),([9,5],8388063),([10,5],8387551),([5],8388575),([12,5],8384479),([13,5],8380383),([14,5],8372191),([11,15,5],8353759),([16,5],8323039),([17,5],8257503),([18,5],8126431),([19,5],7864287),([5,20],7339999),([21,5,0,1,2,3,4,5,6,7,8,9,10,11,12,13,14,15,16,17,18,19,20,21],6291455)] hS.ext (fun d=>?_);have h:=hS.step (Ext.draw _);refine dr 20 d [0,1,2] ?_;refine dl d 3 (At.ext (hE.trans hS.ext) o) 13 ?_;refine dr 17 d [4,5] ?_;refine db 8 hm (fun hm=>?_) (fun hm=>?_)
 ·refine dr 9 d [6,7,8,9,10,12,13,14] ?_;refine dw [2,8,13,17] ?_;refine dl d 11 (At.ext (hE.trans hS.ext) o) 0 ?_;refine dl d 15 (At.ext (hE.trans hS.ext) o) 8 ?_;obtain⟨D0,G,hm⟩:=bS hm;refine dx (hE.trans hS.ext) d 16 h3 G (fun C0 X q y=>?_);obtain⟨d0,y0,e0,A0,f0,B0,S,o0,p0,q0⟩:=zR y;subst S;refine dr 5 d [17] ?_;refine dl d 18 (At.ext (hE.trans hS.ext) q) 2 ?_;refine dr 0 d [19,20,21,22] ?_;refine dw [2] ?_;refine dd d ?_;refine rt ?_;cases hm;exact⟨_,.cons (.tmp rfl) .nil,rfl,h⟩
 ·refine dr 0 d [6,7,8,9,10,11,12,13,14,15,16,17,18,19,20,21,22] ?_;refine dw [2] ?_;refine dd d ?_;refine rt ?_;cases hm;exact⟨_,.cons (.tmp rfl) .nil,rfl,h⟩

end Go.E


