/- ReadBack: the tied card FnExactReadBackCardSaid (program and reference agree), from the walk and the plain law; the lemmas that it rests on stand ahead of it, each with its own conditions. Conditions of the claim: the listed variables read as the program's text lays them (the card ties them). -/
import Derived.Test.YtngggnjnenfgbaaGreatDoorMarksO
import Derived.Test.YtngggnjnenfgbaaGreatDoorFB
import Derived.Test.YtngggnjnenfgbaaGreatDoorRows
import Derived.Test.YtngggnjnenfgbaaGreatDoorTie
import Derived.Test.YtngggnjnenfgbaaGreatDoorCards
import Derived.SevenTiedAt
import Derived.LaidMore
import Derived.Stop.LaidErr
import Derived.Stop.Joined
import Derived.MakeChecks
import Derived.Lib.LaidTab
import Derived.WalkKit
import Derived.ProofKit
import Derived.OpenShut
import Derived.ShutString
import Derived.ChangeOld
import Derived.Below
import Derived.Carry
namespace Go.E
open Go.RowKit Go.Proofs
set_option linter.unusedSimpArgs false
set_option linter.unusedVariables false

mutual
def wt:D.Core→Nat
  | ⟨_,_,d,ks⟩=>d.length+wtS ks
def wtS:List D.Core→Nat
  | []=>0
  | c::cs=>2+wt c+wtS cs
end
theorem zbG {c:D.Core}:wt c=c.Data.length+wtS c.Kids:=by cases c;simp [wt]
theorem z84:∀ {xs ys:List D.Core},wtS (xs++ys)=wtS xs+wtS ys
  | [],ys=>by simp [wtS]
  | x::xs,ys=>by
    have:=z84 (xs:=xs) (ys:=ys)
    simp only [List.cons_append,wtS,this]
    omega
theorem z82 {xs:List D.Core}{i:Nat}{x:D.Core}(h:xs[i]? = some x):wtS (xs.take (i+1))=wtS (xs.take i)+(2+wt x):=by
  rw [List.take_add_one,h,z84]
  simp [wtS]
theorem zde {xs:List D.Core}{i:Nat}:wtS (xs.take i)≤wtS xs:=by
  have:=z84 (xs:=xs.take i) (ys:=xs.drop i)
  rw [List.take_append_drop] at this
  omega
theorem z9h {xs:List D.Core}{i:Nat}{x:D.Core}(h:xs[i]? = some x):wtS (xs.take i)+(2+wt x)≤wtS xs:=by
  rw [← z82 h]
  exact zde
theorem z83:∀ {xs:List D.Core},xs.length≤wtS xs
  | []=>Nat.zero_le _
  | x::xs=>by
    have:=z83 (xs:=xs)
    simp only [List.length_cons,wtS]
    omega
theorem zbA:∀ {xs:List Int},z4Y xs=xs.length
  | []=>rfl
  | x::xs=>by
    have:=zbA (xs:=xs)
    unfold z4Y at this ⊢
    simp only [sumL,List.length_cons,this]
    unfold z4v
    omega

theorem z9Q {fuel:Nat}(hf:18446744073709551616≤fuel):∀ (d:Nat) (xs:List D.Core),wtS xs<d→wtS xs≤1048576→z2u fuel d xs xs=some true
  | 0,xs,h,_=>by omega
  | d+1,xs,h,hs=>by
    have hm:maxLen=9223372036854775807:=rfl
    have hlen:=z83 (xs:=xs)
    show z2c fuel (z2u fuel d) xs xs=some true
    unfold z2c
    rw [if_neg (by simp)]
    refine z6a (n:=xs.length) (t:=()) (by omega) hf rfl ?_ ?_
    · intro i hi
      obtain⟨x,hx⟩:=z3p hi
      have hw:=z9h hx
      have hw2:=zbG (c:=x)
      have ih:=z9Q hf d x.Kids (by omega) (by omega)
      unfold z3U z3m
      rw [if_pos (decide_eq_true (by omega)),z21 hx,Option.bind_some,Option.bind_some,if_neg (by simp),if_neg (by simp),z5O hf (by omega),Option.bind_some,if_neg (by simp),ih,Option.bind_some,if_neg (by simp),Option.bind_some,if_neg (by simp)]
    · unfold z3U
      rw [if_neg (by simp)]
theorem z9y {fuel:Nat}{c:D.Core}(hf:18446744073709551616≤fuel) (hs:wt c≤1048576):z3V fuel c c=some true:=by
  have hw:=zbG (c:=c)
  have ih:=z9Q hf fuel c.Kids (by omega) (by omega)
  unfold z3V z3m z5r
  rw [if_neg (by simp),if_neg (by simp),z5O hf (by omega),Option.bind_some,if_neg (by simp),ih,Option.bind_some,if_neg (by simp)]


def MkOk (fuel:Nat) (W:Nat) (y:D.Core) (k:Int):Prop:=y.Kind=k∧y.Value=k+1∧∃ n m:Nat,n+m=W∧z1v fuel y.Data (k+2)=some (k+2+(n:Int))∧∀ d',m<d'→z16 fuel d' y.Kids (k+2+(n:Int))=some (k+2+(n:Int)+(m:Int))
theorem zbd {fuel:Nat}{xs ys:List D.Core}{k:Int}(hf:18446744073709551616≤fuel) (hl:ys.length=xs.length) (h0:0≤k) (h1:k+(wtS xs:Nat)≤2147483648)
    (hy:∀ (j:Nat) (x:D.Core),xs[j]? = some x→∃ y,ys[j]? = some y∧MkOk fuel (wt x) y (k+(wtS (xs.take j):Nat))):∀ d,wtS xs<d→z16 fuel d ys k=some (k+(wtS xs:Nat)):=by
  intro d hd
  obtain⟨d,rfl⟩:∃ d',d=d'+1:=⟨d - 1,by omega⟩
  have hlen:=z83 (xs:=xs)
  show z1E fuel (z16 fuel d) ys k=_
  unfold z1E
  obtain⟨o,e1,e2⟩:=z1A (body:=z2b fuel (z16 fuel d) ys) (fun i s=>s.1=k+(wtS (xs.take i):Nat)∧s.2=(i:Int)) xs.length (fun o=>o=.inl (k+(wtS xs:Nat))) (by
    rintro i ⟨kk,j⟩ hi ⟨g1,g2⟩
    dsimp only at g1 g2
    subst g1;subst g2
    obtain⟨x,hx⟩:=z3p hi
    obtain⟨y,hyi,m1,m2,n,m,hnm,m3,m4⟩:=hy i x hx
    have hw:=z9h hx
    have hw3:=z82 hx
    refine .inl ⟨(k+(wtS (xs.take (i+1)):Nat),w64 ((i:Int)+1)),?_,rfl,by dsimp only;rw [z8 (by omega) (by omega)];rfl⟩
    unfold z2b
    dsimp only
    rw [if_pos (decide_eq_true (by omega)),z21 hyi,Option.bind_some,if_neg (by simp [m1]),Option.bind_some,z8 (n:=k+(wtS (xs.take i):Nat)+1) (by omega) (by omega),if_neg (by simp [m2]),Option.bind_some,z8 (n:=k+(wtS (xs.take i):Nat)+1+1) (by omega) (by omega)]
    have e2':k+(wtS (xs.take i):Nat)+1+1=k+(wtS (xs.take i):Nat)+2:=by omega
    rw [e2',m3,Option.bind_some,if_neg (by simp;omega),Option.bind_some,m4 d (by omega),Option.bind_some,if_neg (by simp;omega),hw3]
    have:k+(wtS (xs.take i):Nat)+2+(n:Int)+(m:Int)=k+((wtS (xs.take i)+(2+wt x):Nat):Int):=by omega
    rw [this]) (by
    rintro⟨kk,j⟩ ⟨g1,g2⟩
    dsimp only at g1 g2
    subst g1;subst g2
    refine .inr ⟨_,?_,rfl⟩
    unfold z2b
    dsimp only
    rw [if_neg (by simp [hl]),List.take_length]) (fuel:=fuel) (i:=0) (s:=(k,0)) (Nat.zero_le _) (by omega) ⟨by simp [wtS],rfl⟩
  rw [e1,e2,Option.bind_some]
  rfl

theorem z7Y {fuel:Nat}(hf:18446744073709551616≤fuel):∀ (d:Nat) (xs:List D.Core) (k:Int),wtS xs<d→0≤k→k+(wtS xs:Nat)≤2147483648→wtS xs≤1048576→
    ∃ ys,z1m fuel d xs k=some (k+(wtS xs:Nat),ys)∧ys.length=xs.length∧∀ (j:Nat) (x:D.Core),xs[j]? = some x→∃ y,ys[j]? = some y∧MkOk fuel (wt x) y (k+(wtS (xs.take j):Nat))
  | 0,xs,_,h,_,_,_=>by omega
  | d+1,xs,k,h,h0,h1,hs=>by
    have hlen:=z83 (xs:=xs)
    show ∃ ys,z1D fuel (z1m fuel d) xs k=_∧_
    unfold z1D
    obtain⟨o,e1,ys,e2,e3,e4⟩:=z1A (body:=z2a fuel xs (z1m fuel d)) (fun i s=>s.1=k+(wtS (xs.take i):Nat)∧s.2.1=(i:Int)∧s.2.2.length=xs.length∧(∀ (j:Nat) (x:D.Core),j<i→xs[j]? = some x→∃ y,s.2.2[j]? = some y∧MkOk fuel (wt x) y (k+(wtS (xs.take j):Nat)))∧∀ j:Nat,i≤j→s.2.2[j]? = xs[j]?) xs.length
      (fun o=>∃ ys,o=.inl (k+(wtS xs:Nat),ys)∧ys.length=xs.length∧∀ (j:Nat) (x:D.Core),xs[j]? = some x→∃ y,ys[j]? = some y∧MkOk fuel (wt x) y (k+(wtS (xs.take j):Nat))) (by
      rintro i ⟨kk,j,l⟩ hi ⟨g1,g2,g3,g4,g5⟩
      dsimp only at g1 g2 g3 g4 g5
      subst g1;subst g2
      obtain⟨x,hx⟩:=z3p hi
      have hli:l[i]? = some x:=by rw [g5 i (Nat.le_refl _),hx]
      have hw:=z9h hx
      have hw2:=zbG (c:=x)
      have hw3:=z82 hx
      have hct:=zbA (xs:=x.Data)
      have hmk:=z54 (xs:=x.Data) (k:=k+(wtS (xs.take i):Nat)+2) hf (by omega) (by omega) (by omega)
      have hhd:=z64 (xs:=x.Data) (k:=k+(wtS (xs.take i):Nat)+2) hf (by omega) (by omega) (by omega)
      rw [hct] at hmk hhd
      obtain⟨zs,z1,z2,z3⟩:=z7Y hf d x.Kids (k+(wtS (xs.take i):Nat)+2+(x.Data.length:Int)) (by omega) (by omega) (by omega) (by omega)
      have hz:=zbd hf z2 (by omega) (by omega) z3
      have e2':k+(wtS (xs.take i):Nat)+1+1=k+(wtS (xs.take i):Nat)+2:=by omega
      have hsum:k+(wtS (xs.take i):Nat)+2+(x.Data.length:Int)+(wtS x.Kids:Nat)=k+(wtS (xs.take (i+1)):Nat):=by rw [hw3];omega
      refine .inl ⟨(k+(wtS (xs.take (i+1)):Nat),w64 ((i:Int)+1),l.set i ⟨k+(wtS (xs.take i):Nat),k+(wtS (xs.take i):Nat)+1,z4G fuel x.Data (k+(wtS (xs.take i):Nat)+2),zs⟩),?_,rfl,by dsimp only;rw [z8 (by omega) (by omega)];rfl,by dsimp only;rw [List.length_set];exact g3,?_,?_⟩
      · unfold z2a
        dsimp only
        rw [if_pos (decide_eq_true (by omega)),z21 hli,Option.bind_some,z8 (n:=k+(wtS (xs.take i):Nat)+1) (by omega) (by omega),z8 (n:=k+(wtS (xs.take i):Nat)+1+1) (by omega) (by omega),e2',hmk,Option.bind_some]
        dsimp only
        rw [z1,Option.bind_some,hsum]
        rfl
      · intro j' x' hj hx'
        dsimp only
        rcases Nat.lt_or_ge j' i with h | h
        · rw [List.getElem?_set_ne (by omega)]
          exact g4 j' x' h hx'
        · obtain rfl:j'=i:=by omega
          rw [hx] at hx'
          cases hx'
          refine⟨_,List.getElem?_set_self (by omega),rfl,rfl,x.Data.length,wtS x.Kids,hw2.symm,hhd,hz⟩
      · intro j' hj
        dsimp only
        rw [List.getElem?_set_ne (by omega)]
        exact g5 j' (by omega)) (by
      rintro⟨kk,j,l⟩ ⟨g1,g2,g3,g4,g5⟩
      dsimp only at g1 g2 g3 g4 g5
      subst g1;subst g2
      refine .inr ⟨(k+(wtS xs:Nat),l),?_,l,rfl,g3,fun j x hx=>g4 j x (List.getElem?_eq_some_iff.1 hx).1 hx⟩
      unfold z2a
      dsimp only
      rw [if_neg (by simp),List.take_length]) (fuel:=fuel) (i:=0) (s:=(k,0,xs)) (Nat.zero_le _) (by omega) ⟨by simp [wtS],rfl,rfl,fun j x h=>by omega,fun _ _=>rfl⟩
    refine⟨ys,?_,e3,e4⟩
    rw [e1,e2,Option.bind_some]
    rfl

theorem zb8 {fuel:Nat}{c:D.Core}(hf:18446744073709551616≤fuel) (hs:wt c≤1048576):
    ∃ (d:List Int) (ks:List D.Core),z3J fuel c 1=some ((1:Int)+((wt c:Nat):Int),d,ks)∧∀ kd v,z32 fuel ⟨kd,v,d,ks⟩ 1=some ((1:Int)+((wt c:Nat):Int)):=by
  have hw:=zbG (c:=c)
  have hct:=zbA (xs:=c.Data)
  have hmk:=z54 (xs:=c.Data) (k:=1) hf (by omega) (by omega) (by omega)
  have hhd:=z64 (xs:=c.Data) (k:=1) hf (by omega) (by omega) (by omega)
  rw [hct] at hmk hhd
  obtain⟨zs,z1,z2,z3⟩:=z7Y hf fuel c.Kids (1+(c.Data.length:Int)) (by omega) (by omega) (by omega) (by omega)
  have hz:=zbd hf z2 (by omega) (by omega) z3 fuel (by omega)
  have hsum:1+(c.Data.length:Int)+(wtS c.Kids:Nat)=1+(wt c:Nat):=by omega
  refine⟨z4G fuel c.Data 1,zs,?_,fun kd v=>?_⟩
  · unfold z3J z4O
    rw [hmk,Option.bind_some]
    dsimp only
    rw [z1,Option.bind_some,hsum]
  · unfold z32 z4P
    dsimp only
    rw [hhd,Option.bind_some,if_neg (by simp;omega),hz,Option.bind_some,hsum,if_neg (by simp;omega)]
end Go.E


namespace Go.E
open Go.RowKit Go.Proofs
set_option linter.unusedSimpArgs false
set_option linter.unusedVariables false

theorem z87 {l:List D.Agent}:∀ (k:Nat) (z:Z) (p:D.Port) (ss:SS){z' p' ss'},walkM l k z p ss=.inr (z',p',ss')→z'.org=z.org
  | 0,_,_,_,_,_,_,h=>by cases h
  | k+1,z,p,ss,z',p',ss',h=>by
    unfold walkM at h
    split at h
    · cases h
    · split at h
      · cases h;rfl
      · split at h
        · cases h
        · split at h
          · split at h
            · cases h
            · exact(z87 k (entZ _ p z) _ _ h).trans rfl
          · split at h
            · cases h
            · split at h
              · cases h
              · exact(z87 k (entZ _ p z) _ _ h).trans rfl
theorem zai {l:List D.Agent}{a:D.Agent}{p:D.Port}{ss:SS}{bs:BS}{kd v:Int}{d slots:List Int}(ha:a.Data.length≤4) (h:shapeM l a p ss bs=some (kd,v,d,slots)):d.length≤4:=by
  unfold shapeM at h
  split at h
  · split at h
    · cases h;simp
    · split at h
      · cases hv:varM l p.Agent ss bs 0 with
        | none=>rw [hv] at h;cases h
        | some k=>rw [hv] at h;cases h;simp
      · cases h
  split at h
  · split at h<;>cases h;simp
  split at h
  · cases h;simp
  split at h
  · split at h<;>cases h;simp
  split at h
  · split at h<;>cases h;simp
  split at h
  · split at h<;>cases h;simp
  split at h
  · split at h<;>cases h;exact ha
  split at h
  · split at h<;>cases h;exact ha
  split at h
  · cases h;simp
  · cases h


def Grows (f:Z→D.Port→Int ⊕ (D.Core × Z)):Prop:=∀ z p c z',f z p=.inr (c,z')→z.org.length<z'.org.length∧wt c+2≤6*(z'.org.length - z.org.length)
theorem z7z {f:Z→D.Port→Int ⊕ (D.Core × Z)}(hf:Grows f){a:D.Agent}:∀ (sl:List Int) (z:Z) (cs:List D.Core){cs' z'},kidsM f a sl z cs=.inr (cs',z')→z.org.length≤z'.org.length∧wtS cs'≤wtS cs+6*(z'.org.length - z.org.length)
  | [],z,cs,cs',z',h=>by cases h;exact⟨Nat.le_refl _,by omega⟩
  | s::sl,z,cs,cs',z',h=>by
    unfold kidsM at h
    split at h
    · cases h
    · rename_i q hq
      split at h
      · cases h
      · rename_i c z1 hr
        have h1:=hf z q c z1 hr
        have h2:=z7z hf sl z1 (cs++[c]) h
        rw [z84] at h2
        simp only [wtS] at h2
        omega
theorem z8O {l:List D.Agent}(hl:∀ i a,idx l i=some a→a.Data.length≤4){k:Nat}{M:SS→BS→Z→D.Port→Int ⊕ (D.Core × Z)}(hM:∀ ss bs,Grows (M ss bs)) (ss:SS) (bs:BS):Grows (stepM l k M ss bs):=by
  intro z p c z' h
  unfold stepM at h
  split at h
  · cases h
  · rename_i z1 p1 s1 hw
    have ho:=z87 _ _ _ _ hw
    split at h
    · cases h
    · rename_i a ha
      split at h
      · cases h
      · rename_i kd v d slots hsh
        have hd:=zai (hl _ _ ha) hsh
        split at h
        · cases h
        · split at h
          · split at h
            · cases h
            · split at h
              · cases h
              · rename_i x hx
                split at h
                · cases h
                · rename_i cs z2 hk
                  cases h
                  have:=z7z (hM _ _) _ _ _ hk
                  simp only [List.length_append,List.length_cons,List.length_nil,wtS,wt,ho] at this ⊢
                  omega
          · split at h
            · cases h
            · rename_i cs z2 hk
              cases h
              have:=z7z (hM _ _) _ _ _ hk
              simp only [List.length_append,List.length_cons,List.length_nil,wtS,wt,ho] at this ⊢
              omega
theorem z8X {l:List D.Agent}(hl:∀ i a,idx l i=some a→a.Data.length≤4):∀ (k:Nat) (ss:SS) (bs:BS),Grows (readM l k ss bs)
  | 0,ss,bs=>z8O hl (fun _ _ _ _ _ _ h=>by cases h) ss bs
  | k+1,ss,bs=>z8O hl (z8X hl k) ss bs

theorem z8i {fuel:Nat}{x:D.Net}(hf:18446744073709551616≤fuel) (_hw:D.Net.wf x) (hs:x.sz≤1048576):∃ r,z3C fuel x=some r∧z34 fuel x=some r∧wt r.1≤1048576:=by
  obtain⟨z1,z2,z3⟩:=zcV hs
  have hI:=zbM hs hf
  have h0:wt (⟨0,0,[],[]⟩:D.Core)≤1048576:=by simp [wt,wtS]
  unfold z3C z34 z2v
  rw [zbS hf z1 z3,Option.bind_some]
  cases hn:netN x with
  | false=>
    rw [hn,if_neg (by simp)] at hI
    rw [hI,Option.bind_some,if_pos (by simp)]
    exact⟨_,rfl,rfl,h0⟩
  | true=>
    have hS:=zbL hn hf
    rw [hn,if_pos rfl] at hI
    rw [if_neg (by simp)]
    cases hT:topM x with
    | inl c=>
      rw [hT] at hI hS
      obtain⟨h1,co,w',h2,h3⟩:=hS
      obtain⟨_,r,g2⟩:=hI
      rw [h2,g2,Option.bind_some,Option.bind_some,h3,if_pos (by simpa using h1)]
      exact⟨_,rfl,rfl,h0⟩
    | inr y=>
      obtain⟨co,z⟩:=y
      have hb:wt co≤1048576:=by
        unfold topM at hT
        split at hT
        · cases hT
        · have hg:=z8X (fun i a ha=>(z4f (z4X hn ha)).2.2.2.2.2.2.2.2.2.1) 80 ss0 [] zero _ co z hT
          have ho:=hS
          rw [show topM x=.inr (co,z) by unfold topM;split<;>simp_all] at ho
          have:=ho.1.org
          omega
      rw [hT] at hI hS
      obtain⟨h1,L,h2,h3⟩:=hS
      obtain⟨_,L',g2,g3⟩:=hI
      have hc:(imgS x z L).code=0:=rfl
      rw [h3,g3,Option.bind_some,Option.bind_some,hc,if_neg (by simp)]
      refine⟨_,rfl,rfl,?_⟩
      cases co
      exact hb
end Go.E


namespace Go.E
open Go.RowKit Go.Proofs
set_option linter.unusedSimpArgs false
set_option linter.unusedVariables false

theorem lawReadBack {x0:D.Net}(h0:D.Net.wf x0):∃ fuel,z2i fuel x0=some true:=by
  obtain⟨fuel,hf⟩:∃ n:Nat,18446744073709551616≤n:=⟨_,Nat.le_refl _⟩
  refine⟨fuel,?_⟩
  unfold z2i
  obtain⟨r0,e0,s0⟩:=zag (l:=(1048576:Int)) hf h0 (by decide) (by omega)
  rw [e0,Option.bind_some]
  rcases s0 with s0 | ⟨s0,t0⟩
  · rw [if_pos (by simp [s0])]
  rw [if_neg (by simp [s0])]
  have z0:D.Net.sz x0≤1048576:=by omega
  obtain⟨r,a0,a1,b0⟩:=z8i hf h0 z0
  have c0:=zcO (x:=x0)
  have e1:=zaf hf z0
  have e2:=z9y hf b0
  have e3:=z93 (x:=x0) (k:=1) hf z0 (by omega) (by omega)
  obtain⟨d,ks,e4,e5⟩:=zb8 hf b0
  have e6:=e5 r.1.Kind r.1.Value
  have e7:=zaq hf z0
  rw [e1,Option.bind_some,a0,Option.bind_some,Option.bind_some,a1,Option.bind_some,e2,Option.bind_some,if_neg (by simp)]
  unfold z1c
  rw [if_neg (by simp),e1,Option.bind_some,e7,Option.bind_some,if_neg (by simp),e3,Option.bind_some,if_neg (by simp;omega),e2,Option.bind_some,if_neg (by simp)]
  unfold zR
  rw [if_neg (by simp),e4,Option.bind_some]
  dsimp only
  rw [e6,Option.bind_some,if_neg (by simp;omega),if_neg (by simp),e1,Option.bind_some,a1,Option.bind_some,e2,Option.bind_some,if_neg (by simp)]
  unfold z1b
  dsimp only
  rw [if_neg (by simp),e6,Option.bind_some,if_neg (by simp;omega),if_neg (by simp)]
end Go.E


namespace Go.Proofs.YtngggnjnenfgbaaGreatDoor.lawReadBack
open Go.ChangeShapes Go.WideShapes Go.ChangeAt Go.RowKit Go.E
set_option linter.unusedVariables false

theorem own:ownKnob Tryz.prog.godebug=none:=by kernel_rfl
theorem door_met (os:Os) (args:Array Value):laidMetH Tryz.prog Rows.fnExactReadBackRow.laid ((World.doorLaid Tryz.prog 24 os).forCall (fun _ _=>0) ⟨#[],args,[]⟩).memory:=
  laidMetH_of_parts3 (fuel:=12) (laidMet_of_run' 12 (by kernel_rfl) (by kernel_rfl)) (by kernel_rfl) (by kernel_rfl)
theorem tab_met {W:World}(h:laidMetH Tryz.prog Rows.fnExactReadBackRow.laid W):Tab W:=by
  rw [MakeChecks.laidMetH_plain _ _ _ (by kernel_rfl)] at h
  have h2:laidMet Tryz.prog [("internal/strconv.uint64pow10",Rows.laid_internal_strconv_uint64pow10)] W:=h.tail.tail
  rw [show(Rows.laid_internal_strconv_uint64pow10:DataW Unit)=Lib.tabData .u64 Lib.pow10Tab by kernel_rfl] at h2
  exact Lib.tabIs_of_head (g:=0) (t:=172) (e:=165) (n:=20) (by kernel_rfl) (by kernel_rfl) Tryz.underlying172 Tryz.underlying165 (by kernel_rfl) (by kernel_rfl) h2
theorem laidOut:laidOutB Tryz.prog=true:=by kernel_rfl

set_option maxRecDepth 100000 in
theorem lifted (os:Os) (started:os.Started) (H:Type) (enc:TypeId × Value→H):
    ReturnsInHanded {} Tryz.checked os 5 .any (fun w args=>(Rows.fnExactReadBackSpec.pre enc Tryz.prog Tryz.f5 [] false w args∧laidMetH Tryz.prog Rows.fnExactReadBackRow.laid w)∧sizedMet enc Tryz.prog Tryz.f5 (OpenSpec.ofChange Rows.fnExactReadBackSpec) false w args) (Rows.fnExactReadBackSpec.post enc Tryz.prog Tryz.f5 false true false false):=by
  refine returnsInHanded_of_change_and (C:=Tryz.checked) (X:=fun w _=>laidMetH Tryz.prog Rows.fnExactReadBackRow.laid w) (fun _ _ _ hh h=>h.of_heap hh) own started (by kernel_rfl) Tryz.func5
    (ChangeSpec.witness_shaped (enc:=enc) (C:=Tryz.checked) (os:=os) (X:=fun w _=>laidMetH Tryz.prog Rows.fnExactReadBackRow.laid w) false (World.doorLaid Tryz.prog 24 os) #[.agg #[.slice none 0 0]] 12 rfl (World.shaped_of_RefB (by kernel_rfl) (by kernel_rfl)) (by kernel_rfl) (by kernel_rfl) (by kernel_rfl) (door_met os _)) ?_
  intro W base args ds gs before hval0 hW _ _ hL _
  have hval:∀ (j:Nat) t v,Tryz.f5.params[j]? = some t→args[j]? = some v→Value.okWide Tryz.prog W .any base t v:=hval0
  have hW':=hW
  obtain⟨p,q,hA0,hV,rfl,hfz,hnd⟩:=hW
  have hA:DataW.TrodAll enc Tryz.prog W 0 (fun _=>true) true Tryz.f5.params.toList args.toList ds p:=hA0
  rw [Tryz.params5] at hA hval
  obtain⟨v0,vs0,d0,ds0,p0,q0,hargs,rfl,rfl,h0,r0⟩:=trodAll_cons hA
  obtain⟨rfl,rfl,rfl⟩:=trodAll_nil r0
  obtain rfl:args = #[v0]:=by cases args;simp_all
  obtain⟨rfl,rfl⟩:=trodVars_none hV
  have k0:=h0
  have lt0:∀ x∈p0,x.block<W.heap.size:=by obtain⟨m,hm⟩:=k0;exact DataW.trod_lt m _ _ _ hm
  obtain⟨c0,x0,rfl,g0,w0⟩:=zay Tryz.underlying24 zd4 (hval 0 24 v0 rfl rfl) h0
  clear hA0 hval0
  obtain⟨fuel,hm⟩:=lawReadBack (x0:=x0) w0
  refine(laws_FnExactReadBack_ok (W:=Base.of W) (Ext.refl _) (tab_met hL) g0 hm).mono ?_
  intro e W' hq
  obtain⟨v,rfl,rfl,hS⟩:=Ret.out hq
  have bel:Below W.heap.size W W':=hS.ext.below
  exact⟨_,rfl,_,_,_,[],_,[],hW',trodAll_mk1 (shut_bool Tryz.underlying4 _),(trodAll_cons_mk (Below.trod laidOut (by kernel_rfl) (of_decide_eq_true (by kernel_rfl)) k0 bel lt0) trodAll_mk0),rfl,bel.frame _,fun h=>by cases h⟩

set_option maxRecDepth 100000 in
theorem j1:(Rows.fnExactReadBackRow.wf (OpenSpec.ofChange Rows.fnExactReadBackSpec))=true:=by kernel_rfl
set_option maxRecDepth 100000 in
theorem j2:(laidOutB Tryz.prog)=true:=by kernel_rfl
set_option maxRecDepth 100000 in
theorem j3:(mapsRowed Tryz.prog)=true:=by kernel_rfl
set_option maxRecDepth 100000 in
theorem j4:(Tryz.f5.params.all (Tryz.prog.readableRec ·))=true:=by kernel_rfl
set_option maxRecDepth 100000 in
theorem j5:(namedTie Tryz.prog Rows.fnExactReadBackRow.named Rows.fnExactReadBackSpec.vars)=true:=by kernel_rfl
set_option maxRecDepth 100000 in
theorem j6:((Rows.fnExactReadBackRow.stops == []))=true:=by kernel_rfl
set_option maxRecDepth 100000 in
theorem j7:((Tryz.prog.stops == []))=true:=by kernel_rfl
set_option maxRecDepth 100000 in
theorem j8:((Rows.fnExactReadBackRow.knobs == []))=true:=by kernel_rfl
set_option maxRecDepth 100000 in
theorem j9:((Tryz.prog.stopKnobs == []))=true:=by kernel_rfl
set_option maxRecDepth 100000 in
theorem j10:((Rows.fnExactReadBackRow.inPlace == Tryz.prog.inPlace 5))=true:=by kernel_rfl
set_option maxRecDepth 100000 in
theorem j11:((Rows.fnExactReadBackRow.unfollowed == Tryz.prog.unfollowed 5))=true:=by kernel_rfl
set_option maxRecDepth 100000 in
theorem j12:((Rows.fnExactReadBackRow.recurses == Tryz.prog.recurses 5))=true:=by kernel_rfl
set_option maxRecDepth 100000 in
theorem j13:((Rows.fnExactReadBackRow.named == Tryz.prog.varsNamed 5))=true:=by kernel_rfl
set_option maxRecDepth 100000 in
theorem j14:((Rows.fnExactReadBackRow.maps == (Tryz.f5.params.toList++Rows.fnExactReadBackSpec.plain.varTypes Tryz.prog).any (Tryz.prog.mapsRec ·)))=true:=by kernel_rfl
set_option maxRecDepth 100000 in
theorem j15:((Rows.fnExactReadBackRow.ifaces == (Tryz.f5.params.toList++Rows.fnExactReadBackSpec.plain.varTypes Tryz.prog).any (Tryz.prog.ifacesRec ·)))=true:=by kernel_rfl
set_option maxRecDepth 100000 in
theorem j16:((Rows.fnExactReadBackRow.mapsOut == Tryz.prog.mapsAmong Tryz.f5.resultTypes.toList))=true:=by kernel_rfl
set_option maxRecDepth 100000 in
theorem j17:((Rows.fnExactReadBackRow.loops == (Tryz.f5.params.toList++Rows.fnExactReadBackSpec.plain.varTypes Tryz.prog).any (Tryz.prog.loopsFrom ·)))=true:=by kernel_rfl
set_option maxRecDepth 100000 in
theorem j18:((Rows.fnExactReadBackRow.wideKeys == (Tryz.f5.params.toList++Rows.fnExactReadBackSpec.plain.varTypes Tryz.prog++Tryz.f5.resultTypes.toList).any (Tryz.prog.wideKeysFrom ·)))=true:=by kernel_rfl
set_option maxRecDepth 100000 in
theorem j19:(Rows.fnExactReadBackSpec.vars.all (Tryz.prog.varReadable ·))=true:=by kernel_rfl
set_option maxRecDepth 100000 in
theorem j20:(Tryz.f5.resultTypes.all (fun t=>Tryz.prog.readableRec t && decide (t<Tryz.prog.types.size)))=true:=by kernel_rfl
set_option maxRecDepth 100000 in
theorem j21:((Rows.fnExactReadBackRow.ifacesOut == Tryz.f5.resultTypes.toList.any (Tryz.prog.ifacesRec ·)))=true:=by kernel_rfl
set_option maxRecDepth 100000 in
theorem j22:((Rows.fnExactReadBackRow.loopsOut == Tryz.f5.resultTypes.toList.any (Tryz.prog.loopsFrom ·)))=true:=by kernel_rfl
set_option maxRecDepth 100000 in
theorem j23:((Rows.fnExactReadBackRow.plainKeys == Tryz.prog.plainKeys))=true:=by kernel_rfl
set_option maxRecDepth 100000 in
theorem j24:(Rows.fnExactReadBackRow.shortTexts.isNone)=true:=by kernel_rfl
set_option maxRecDepth 100000 in
theorem j25:(Tryz.prog.stopsHeard)=true:=by kernel_rfl
set_option maxRecDepth 100000 in
theorem j26:(Tryz.prog.mayEnter)=true:=by kernel_rfl
set_option maxRecDepth 100000 in
theorem j27:((Rows.fnExactReadBackRow.lifted == Tryz.prog.liftsFinal))=true:=by kernel_rfl
set_option maxRecDepth 100000 in
theorem j28:((Tryz.prog.make == some Rows.fnExactReadBackRow.make))=true:=by kernel_rfl
set_option maxRecDepth 100000 in
theorem j29:((Rows.fnExactReadBackRow.kinds == (if Rows.fnExactReadBackRow.domain.isEmpty then [] else Tryz.f5.params.toList.map fun t=>match Tryz.prog.underlying t with | some (.int k)=>some k | _=>none)))=true:=by kernel_rfl
set_option maxRecDepth 100000 in
theorem j30:((Rows.fnExactReadBackRow.pinned == Rows.fnExactReadBackRow.pinnedBy))=true:=by kernel_rfl
set_option maxRecDepth 100000 in
theorem j31:((Rows.fnExactReadBackRow.veiled == (Tryz.f5.params.toList++Rows.fnExactReadBackSpec.plain.varTypes Tryz.prog++Tryz.f5.resultTypes.toList).any (Tryz.prog.veiledRec ·)))=true:=by kernel_rfl
set_option maxRecDepth 100000 in
theorem j32:(Rows.fnExactReadBackRow.veiledFits Tryz.prog Tryz.f5.params.toList (Tryz.f5.params.toList++Rows.fnExactReadBackSpec.plain.varTypes Tryz.prog++Tryz.f5.resultTypes.toList))=true:=by kernel_rfl
set_option maxRecDepth 100000 in
theorem closed:joinedFacts Tryz.prog 5 Tryz.f5 Rows.fnExactReadBackSpec Rows.fnExactReadBackRow=true:=by
  unfold joinedFacts
  simp only [Bool.and_eq_true]
  exact⟨⟨⟨⟨⟨⟨⟨⟨⟨⟨⟨⟨⟨⟨⟨⟨⟨⟨⟨⟨⟨⟨⟨⟨⟨⟨⟨⟨⟨⟨⟨j1,j2⟩,j3⟩,j4⟩,j5⟩,j6⟩,j7⟩,j8⟩,j9⟩,j10⟩,j11⟩,j12⟩,j13⟩,j14⟩,j15⟩,j16⟩,j17⟩,j18⟩,j19⟩,j20⟩,j21⟩,j22⟩,j23⟩,j24⟩,j25⟩,j26⟩,j27⟩,j28⟩,j29⟩,j30⟩,j31⟩,j32⟩
set_option maxRecDepth 100000 in
theorem wraps:Tryz.f5.isWrapper Tryz.prog Rows.fnExactReadBackRow.wrapper Rows.fnExactReadBackRow.mainSum:=by
  unfold Func.isWrapper;first | (rw [if_pos (by decide +kernel)];kernel_rfl) | (rw [if_neg (by decide +kernel)];exact⟨rfl,rfl⟩)
theorem instd:Tryz.f5.isInstance Tryz.prog Rows.fnExactReadBackRow.origin Rows.fnExactReadBackRow.targs:=of_decide_eq_true (by kernel_rfl)

set_option maxRecDepth 100000 in
theorem over:Rows.fnExactReadBackRow.holds Tryz.pinned (OpenSpec.ofChange Rows.fnExactReadBackSpec):=
  OpenClaim.holds_of_wide 5 Tryz.f5 rfl rfl rfl rfl rfl rfl rfl ⟨rfl,rfl,rfl,rfl,rfl⟩ rfl rfl rfl rfl rfl (by kernel_rfl) Tryz.func5 closed instd wraps
    (fun os started H enc _=>lifted os started H enc)

set_option maxRecDepth 100000 in
theorem proved:Rows.FnExactReadBackCardSaid:=
  Claim7.holds_tied_plain_at .later [] [.data,.data,.data] true (true,"dc161d386cc6954d56ed14786d5d9191bd1e1af4332ce236ec48314a7c8af4b6") false
    over (fun _ h=>by cases h) (by kernel_rfl) (fun _ h=>by cases h) fnExactReadBack_row_tie rfl ⟨rfl,rfl⟩ (by kernel_rfl) rfl
    (fun f fn hf hfn=>by
      obtain rfl:f=5:=Option.some.inj ((show Tryz.prog.funcNamed "loop.example/g01074/laws.FnExactReadBack" = some 5 by kernel_rfl).symm.trans hf) |>.symm
      obtain rfl:fn=Tryz.f5:=(Option.some.inj (Tryz.func5.symm.trans hfn)).symm
      exact⟨by kernel_rfl,fun j t ht=>by
        rw [Tryz.params5] at ht
        have hm:t∈[24]:=by simpa using Array.mem_of_getElem? ht
        have hall:([24].all fun u=>!Tryz.prog.wantsStandIn u)=true:=by kernel_rfl
        exact(show Tryz.prog.wantsStandIn t=false by simpa using List.all_eq_true.1 hall t hm)⟩)
    (by kernel_rfl)
#print axioms proved
end Go.Proofs.YtngggnjnenfgbaaGreatDoor.lawReadBack

