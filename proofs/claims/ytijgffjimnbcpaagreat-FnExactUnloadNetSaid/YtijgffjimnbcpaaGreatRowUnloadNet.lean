/- UnloadNet: the statement FnExactUnloadNetSaid (program and reference agree), from the walk and the plain law; the lemmas that it rests on stand ahead of it, each with its own conditions. Conditions of the claim: none. -/
import Derived.Test.YtijgffjimnbcpaaGreatOkMemoryc
import Derived.Test.YtijgffjimnbcpaaGreatSzDefs
import Derived.Test.YtijgffjimnbcpaaGreatFN
import Derived.Test.YtijgffjimnbcpaaGreatSizesU
import Derived.Test.YtijgffjimnbcpaaGreatRows
import Derived.WalkKit
import Derived.ProofKit
import Derived.OpenShut
import Derived.ShutString
import Derived.ChangeOld
import Derived.Below
import Derived.Carry
namespace Go.E
open Go.RowKit Go.Proofs
set_option linter.unusedSimpArgs false
set_option linter.unusedVariables false

theorem zao {α:Type}{f g:α→Bool}:∀ {xs:List α},(∀ x,x∈xs→f x=g x)→xs.all f=xs.all g
  | [],_=>rfl
  | x::xs,h=>by rw [List.all_cons,List.all_cons,h x List.mem_cons_self,zao fun y hy=>h y (List.mem_cons_of_mem _ hy)]
theorem z9Z {α:Type}{f g:α→Bool}:∀ {xs:List α},xs.all (fun x=>f x && g x)=(xs.all f && xs.all g)
  | []=>rfl
  | x::xs=>by
    rw [List.all_cons,List.all_cons,List.all_cons,z9Z (xs:=xs)]
    cases f x<;>cases g x<;>cases xs.all f<;>rfl
theorem z8v {n i x:Nat}(h:(List.range n)[i]? = some x):x=i∧i<n:=by
  obtain⟨h1,h2⟩:=List.getElem?_eq_some_iff.1 h
  rw [List.getElem_range] at h2
  rw [List.length_range] at h1
  exact⟨h2.symm,h1⟩

def occS (m:D.Memory) (t:List Int) (i:Nat):Bool:=(m.Cells[i]?).any fun c=>
  if agentKind c.Kind=true then(t[i]?).getD 0 == 1 else if c.Kind=13 then(t[i]?).getD 0 == w64 (2 - (c.Words.length:Int)) else true
def occI (m:D.Memory) (t:List Int) (i:Nat):Bool:=(m.Cells[i]?).any fun c=>(t[i]?).getD 0 == if c.Kind=0 then 0 else if c.Kind=13∧c.Words.length=0 then 2 else 1
def resS (m:D.Memory) (i:Nat):Bool:=(m.Cells[i]?).any fun c=>!(c.Kind == 13) || (resN m (m.Cells.length+1) ⟨2,i⟩).isSome

theorem za1 {m:D.Memory}{i:Nat}{c:D.Cell}(hc:m.Cells[i]? = some c) (h:c.Kind=13):wordN m ⟨2,i⟩=true:=by
  unfold wordN
  dsimp only
  rw [show(i:Int).toNat=i by omega,hc]
  simp [h]
theorem z8r {m:D.Memory}{t:List Int}{fuel:Nat}(hf:18446744073709551616≤fuel) (hn:m.Cells.length≤1048576) (ht:t.length=m.Cells.length) (hW:∀ w,w∈wordsN m→wordN m w=true):
    iter (z21 fuel m t) fuel 0=some (if(List.range m.Cells.length).all (fun i=>occS m t i && resS m i)=true then .inl () else .inr false):=by
  have hm:maxLen=9223372036854775807:=rfl
  exact(foldLoop (xs:=List.range m.Cells.length) (body:=z21 fuel m t) (mk:=fun i (_:Unit)=>i) (out:=id) (g:=fun s _=>s) (p:=fun i=>occS m t i && resS m i) (v:=false) (s0:=())
    (J:=fun _ _=>True) (by rw [List.length_range];omega) hf trivial
    (fun i s x hx hp hj=>trivial)
    (fun i s x hi hx hj=>by
      obtain⟨rfl,hi⟩:=z8v hx
      obtain⟨c,hc⟩:=z4Y hi
      obtain⟨v,hv⟩:=z4Y (ht ▸ hi:x<t.length)
      unfold z21 z1e z2C occS resS
      rw [if_pos (decide_eq_true (by omega)),zO hc,Option.bind_some,z2U,Option.bind_some,hc,hv,zO hv]
      simp only [Option.any_some,Option.getD_some,Option.bind_some]
      by_cases ha:agentKind c.Kind=true
      · have h:¬ c.Kind=13:=by unfold agentKind at ha;simp at ha;omega
        simp only [if_pos ha]
        by_cases h1:v=1<;>simp [h1,h]
      · simp only [if_neg ha]
        by_cases h:c.Kind=13
        · obtain⟨r,h1,h2,_⟩:=z6X hf hn hW (za1 hc h)
          rw [if_pos (by simp [h]),h1,Option.bind_some,if_pos h,h2]
          by_cases h3:v=w64 (2 - (c.Words.length:Int))
          · cases (resN m (m.Cells.length+1) ⟨2,(x:Int)⟩).isSome<;>simp [h3,h]
          · simp [h3]
        · simp [h])
    (fun s _=>by unfold z21;rw [List.length_range,if_neg (by simp)])).1
theorem z8A {m:D.Memory}{fuel:Nat}(hf:18446744073709551616≤fuel) (hn:m.Cells.length≤1048576) (hW:∀ w,w∈wordsN m→wordN m w=true):
    iter (zK fuel m) fuel 0=some (if(List.range m.Cells.length).all (resS m)=true then .inl () else .inr false):=by
  have hm:maxLen=9223372036854775807:=rfl
  exact(foldLoop (xs:=List.range m.Cells.length) (body:=zK fuel m) (mk:=fun i (_:Unit)=>i) (out:=id) (g:=fun s _=>s) (p:=resS m) (v:=false) (s0:=())
    (J:=fun _ _=>True) (by rw [List.length_range];omega) hf trivial
    (fun i s x hx hp hj=>trivial)
    (fun i s x hi hx hj=>by
      obtain⟨rfl,hi⟩:=z8v hx
      obtain⟨c,hc⟩:=z4Y hi
      unfold zK z14 zc resS
      rw [if_pos (decide_eq_true (by omega)),zO hc,Option.bind_some,Option.bind_some,hc]
      simp only [Option.any_some]
      by_cases h:c.Kind=13
      · obtain⟨r,h1,h2,_⟩:=z6Y hf hn hW (za1 hc h)
        rw [if_pos (by simp [h]),h1,Option.bind_some,h2]
        cases (resN m (m.Cells.length+1) ⟨2,(x:Int)⟩).isSome<;>simp [h]
      · simp [h])
    (fun s _=>by unfold zK;rw [List.length_range,if_neg (by simp)])).1
theorem z8B {m:D.Memory}{t:List Int}{fuel:Nat}(hf:18446744073709551616≤fuel) (hn:m.Cells.length≤1048576) (ht:t.length=m.Cells.length):
    iter (zk fuel m t) fuel 0=some (if(List.range m.Cells.length).all (occI m t)=true then .inl () else .inr false):=by
  have hm:maxLen=9223372036854775807:=rfl
  exact(foldLoop (xs:=List.range m.Cells.length) (body:=zk fuel m t) (mk:=fun i (_:Unit)=>i) (out:=id) (g:=fun s _=>s) (p:=occI m t) (v:=false) (s0:=())
    (J:=fun _ _=>True) (by rw [List.length_range];omega) hf trivial
    (fun i s x hx hp hj=>trivial)
    (fun i s x hi hx hj=>by
      obtain⟨rfl,hi⟩:=z8v hx
      obtain⟨c,hc⟩:=z4Y hi
      obtain⟨v,hv⟩:=z4Y (ht ▸ hi:x<t.length)
      unfold zk zE zD zF zw zc occI
      rw [if_pos (decide_eq_true (by omega)),zO hc,Option.bind_some,Option.bind_some,hc,hv,zO hv]
      simp only [Option.any_some,Option.getD_some,Option.bind_some]
      by_cases h0:c.Kind=0
      · by_cases h1:v=0<;>simp [h0,h1]
      · by_cases h:c.Kind=13
        · by_cases hw:c.Words.length=0
          · by_cases h1:v=2<;>simp [h,hw,h1]
          · by_cases h1:v=1<;>simp [h,hw,h1]
        · by_cases h1:v=1<;>simp [h0,h,h1])
    (fun s _=>by unfold zk;rw [List.length_range,if_neg (by simp)])).1
theorem zcz {m:D.Memory}{t:List Int}(hc:m.Cells.all cellN=true) (ht:cntOk m t):(List.range m.Cells.length).all (occS m t)=(List.range m.Cells.length).all (occI m t):=by
  refine zao fun i hi=>?_
  obtain⟨c,hci⟩:=z4Y (List.mem_range.1 hi)
  have hcell:=List.all_eq_true.1 hc c (List.mem_of_getElem? hci)
  unfold occS occI
  rw [hci]
  simp only [Option.any_some]
  unfold cellN at hcell
  by_cases h0:c.Kind=0
  · rw [if_neg (by unfold agentKind;simp [h0]),if_neg (by omega),if_pos h0,ht.2 i c hci h0];rfl
  · rw [if_neg h0] at hcell
    rw [if_neg h0]
    by_cases o:c.Kind=13
    · rw [if_pos o] at hcell
      have hl:c.Words.length<2:=by simp at hcell;omega
      rw [if_neg (by unfold agentKind;simp [o]),if_pos o]
      by_cases hw:c.Words.length=0
      · rw [if_pos ⟨o,hw⟩,hw];rfl
      · rw [if_neg (fun h=>hw h.2),show c.Words.length=1 by omega];rfl
    · rw [if_neg o] at hcell
      have ha:agentKind c.Kind=true:=by simp at hcell;exact hcell.1
      rw [if_pos ha,if_neg (fun h=>o h.1)]
theorem z7J {m:D.Memory}{xs ys:List D.Word}{t:List Int}{fuel:Nat}(hf:18446744073709551616≤fuel) (hl:(xs++ys).length≤maxLen) (hW:(xs++ys).all (wordN m)=true) (ht:cntOk m t):
    iter (zn fuel ys xs) fuel (0,t)=some (.inl ((xs++ys).foldl putW t)):=by
  have hm:maxLen=9223372036854775807:=rfl
  have h:=(foldLoop (xs:=xs++ys) (body:=zn fuel ys xs) (mk:=fun i s=>(i,s)) (out:=id) (g:=putW) (p:=fun _=>true) (v:=false) (s0:=t)
    (J:=fun i s=>cntOk m s) hl hf ht
    (fun i s x hx hp hj=>zbn (List.all_eq_true.1 hW x (List.mem_of_getElem? hx)) hj)
    (fun i s x hi hx hj=>by
      obtain⟨h0,h1,_⟩:=z9G (List.all_eq_true.1 hW x (List.mem_of_getElem? hx))
      unfold zn
      dsimp only
      rw [if_pos (decide_eq_true (by omega)),zO hx,Option.bind_some,z6T h0 (by rw [hj.1];exact h1),Option.bind_some,if_pos (decide_eq_true ⟨h0,by rw [hj.1];exact h1⟩)]
      rfl)
    (fun s _=>by unfold zn;dsimp only;rw [if_neg (by simp)];rfl)).1
  rw [h,if_pos (by simp)];rfl
theorem z7K {m:D.Memory}{t:List Int}{fuel:Nat}(hf:18446744073709551616≤fuel) (hl:m.Redexes.length≤maxLen) (hR:m.Redexes.all (redexN m)=true) (ht:cntOk m t):
    iter (zm fuel m) fuel (0,t)=some (.inl (m.Redexes.foldl putR t)):=by
  have hm:maxLen=9223372036854775807:=rfl
  have h:=(foldLoop (xs:=m.Redexes) (body:=zm fuel m) (mk:=fun i s=>(i,s)) (out:=id) (g:=putR) (p:=fun _=>true) (v:=false) (s0:=t)
    (J:=fun i s=>cntOk m s) hl hf ht
    (fun i s x hx hp hj=>zbo (List.all_eq_true.1 hR x (List.mem_of_getElem? hx)) hj)
    (fun i s x hi hx hj=>by
      obtain⟨_,ha,hb⟩:=z6p (List.all_eq_true.1 hR x (List.mem_of_getElem? hx))
      obtain⟨a0,a1,_⟩:=z2x ha
      obtain⟨b0,b1,_⟩:=z2x hb
      unfold zm
      dsimp only
      have l1:x.A.toNat<s.length:=by rw [hj.1];omega
      have l2:x.B.toNat<(s.set x.A.toNat (w64 ((s[x.A.toNat]?).getD 0+1))).length:=by rw [List.length_set,hj.1];omega
      rw [if_pos (decide_eq_true (by omega)),zO hx,Option.bind_some,z6T a0 l1,Option.bind_some,if_pos (decide_eq_true ⟨a0,l1⟩),z6T b0 l2,Option.bind_some,if_pos (decide_eq_true ⟨b0,l2⟩)]
      rfl)
    (fun s _=>by unfold zm;dsimp only;rw [if_neg (by simp)];rfl)).1
  rw [h,if_pos (by simp)];rfl


def tallyN (m:D.Memory) (x1:List D.Word):List Int:=m.Redexes.foldl putR ((wordsN m++x1).foldl putW (zerosN m))
def okN (m:D.Memory) (x1:List D.Word):Bool:=
  decide (1≤m.Cells.length∧m.Cells.length≤1500) && (decide (m.Redexes.length≤m.Cells.length) && (m.Cells.all cellN && ((wordsN m++x1).all (wordN m) && (m.Redexes.all (redexN m) &&
  ((List.range m.Cells.length).all (occI m (tallyN m x1)) && (chainN m (freeN m) m.Free && (List.range m.Cells.length).all (resS m)))))))

theorem zat {m:D.Memory}{x1:List D.Word}{fuel:Nat}(hf:18446744073709551616≤fuel) (hs:m.sz≤1048576) (h1:x1.length≤1048576):z1n fuel m x1=some (okN m x1):=by
  have hm:maxLen=9223372036854775807:=rfl
  have hn:m.Cells.length≤1048576:=by unfold D.Memory.sz szL at hs;omega
  have hr:m.Redexes.length≤1048576:=by unfold D.Memory.sz szL at hs;omega
  have hw:=z8T hs
  have hl:(wordsN m++x1).length≤maxLen:=by rw [List.length_append];omega
  have hj:∀ t,zp fuel m x1 t=some (!t && (m.Cells.all cellN && ((wordsN m++x1).all (wordN m) && (m.Redexes.all (redexN m) &&
      ((List.range m.Cells.length).all (occI m (tallyN m x1)) && (chainN m (freeN m) m.Free && (List.range m.Cells.length).all (resS m))))))):=by
    intro t
    cases t with
    | true=>rfl
    | false=>
      unfold zp
      rw [if_neg Bool.false_ne_true,z8N (p:=fun c=>!cellN c) hf (by omega) (fun c hc=>by
        unfold z1w
        rw [zcm hf (z5T (f:=D.Cell.sz) (xs:=m.Cells) (n:=1048576) (by unfold D.Memory.sz at hs;omega) hc)];rfl),z6U,Option.bind_some]
      cases hC:m.Cells.all cellN with
      | false=>rfl
      | true=>
        rw [if_neg (by simp),z84 hf hs,Option.bind_some,if_pos (decide_eq_true (by omega)),z8L (p:=fun w=>!wordN m w) hf hl (fun w _=>by unfold z1v;rw [zb6];rfl),z6U,Option.bind_some]
        cases hW:(wordsN m++x1).all (wordN m) with
        | false=>rfl
        | true=>
          rw [if_neg (by simp),z8M (p:=fun w=>!redexN m w) hf (by omega) (fun w _=>by unfold z1u;rw [zaD];rfl),z6U,Option.bind_some]
          cases hR:m.Redexes.all (redexN m) with
          | false=>rfl
          | true=>
            have hWs:∀ w,w∈wordsN m→wordN m w=true:=fun w hw=>List.all_eq_true.1 hW w (List.mem_append_left _ hw)
            have t1:=(z62 (m:=m) (xs:=wordsN m) (ys:=x1) (t:=zerosN m) hf hn hl z8g).2 hW
            have t2:cntOk m (tallyN m x1):=(z63 (m:=m) (xs:=m.Redexes) hf hn (by omega) t1).2 hR
            have ho:zV fuel m x1=some ((List.range m.Cells.length).all (occI m (tallyN m x1))):=by
              unfold zV
              rw [if_pos (decide_eq_true (by omega)),z84 hf hs,Option.bind_some,if_pos (decide_eq_true (by omega)),show List.replicate (m.Cells.length:Int).toNat (0:Int)=zerosN m from rfl,z7J hf hl hW z8g,Option.bind_some]
              show z1a fuel m ((wordsN m++x1).foldl putW (zerosN m))=_
              unfold z1a
              rw [z7K hf (by omega) hR t1,Option.bind_some]
              show z19 fuel m (tallyN m x1)=_
              unfold z19
              rw [z8B hf hn t2.1,Option.bind_some]
              cases (List.range m.Cells.length).all (occI m (tallyN m x1))<;>rfl
            unfold zJ
            rw [if_neg (by simp),ho,Option.bind_some,z8Q hf hn]
            cases (List.range m.Cells.length).all (occI m (tallyN m x1)) with
            | false=>rfl
            | true=>
              rw [if_neg (by simp),Option.bind_some]
              unfold z15
              cases chainN m (freeN m) m.Free with
              | false=>rfl
              | true=>
                rw [if_neg (by simp),z8A hf hn hWs,Option.bind_some]
                cases (List.range m.Cells.length).all (resS m)<;>rfl
  unfold z1n okN
  rw [hj,hj]
  by_cases a1:m.Cells.length<1
  · rw [if_pos (decide_eq_true (by omega)),decide_eq_false (show ¬ (1≤m.Cells.length∧m.Cells.length≤1500) by omega)];rfl
  · by_cases a2:m.Cells.length>1500
    · rw [if_neg (by simp;omega),if_pos (decide_eq_true (by omega)),decide_eq_false (show ¬ (1≤m.Cells.length∧m.Cells.length≤1500) by omega)];rfl
    · rw [if_neg (by simp;omega),if_neg (by simp;omega),decide_eq_true (show 1≤m.Cells.length∧m.Cells.length≤1500 by omega),Bool.true_and]
      by_cases a3:m.Redexes.length≤m.Cells.length
      · rw [decide_eq_true a3,decide_eq_false (by omega)];rfl
      · rw [decide_eq_false a3,decide_eq_true (by omega)];rfl

theorem zas {m:D.Memory}{x1:List D.Word}{fuel:Nat}(hf:18446744073709551616≤fuel) (hs:m.sz≤1048576) (h1:x1.length≤1048576):z4e fuel m x1 m.Redexes=some (okN m x1):=by
  have hm:maxLen=9223372036854775807:=rfl
  have hn:m.Cells.length≤1048576:=by unfold D.Memory.sz szL at hs;omega
  have hr:m.Redexes.length≤1048576:=by unfold D.Memory.sz szL at hs;omega
  have hw:=z8T hs
  have hl:(wordsN m++x1).length≤maxLen:=by rw [List.length_append];omega
  have hj:∀ t,z20 fuel m x1 m.Redexes t=some (!t && (m.Cells.all cellN && ((wordsN m++x1).all (wordN m) && (m.Redexes.all (redexN m) &&
      ((List.range m.Cells.length).all (occI m (tallyN m x1)) && (chainN m (freeN m) m.Free && (List.range m.Cells.length).all (resS m))))))):=by
    intro t
    cases t with
    | true=>rfl
    | false=>
      unfold z20
      rw [if_neg Bool.false_ne_true,zaW hf hs,Option.bind_some]

      have hA:(m.Cells.all fun c=>cellN c && (if c.Kind=0 then decide (-1≤c.Value∧c.Value≤(m.Cells.length:Int) - 1) else true))=
          (m.Cells.all cellN && m.Cells.all fun c=>if c.Kind=0 then decide (-1≤c.Value∧c.Value≤(m.Cells.length:Int) - 1) else true):=z9Z
      rw [hA]
      cases hC:m.Cells.all cellN with
      | false=>rfl
      | true=>
        have hV:chainN m (freeN m) m.Free=true→(m.Cells.all fun c=>if c.Kind=0 then decide (-1≤c.Value∧c.Value≤(m.Cells.length:Int) - 1) else true)=true:=fun h=>
          List.all_eq_true.2 fun c hc=>by
            obtain⟨i,hi⟩:=List.getElem?_of_mem hc
            by_cases h0:c.Kind=0
            · rw [if_pos h0];exact decide_eq_true (zaK h hi h0)
            · rw [if_neg h0]
        cases hF:(m.Cells.all fun c=>if c.Kind=0 then decide (-1≤c.Value∧c.Value≤(m.Cells.length:Int) - 1) else true) with
        | false=>
          have hch:chainN m (freeN m) m.Free=false:=by
            cases h:chainN m (freeN m) m.Free with
            | false=>rfl
            | true=>rw [hV h] at hF;cases hF
          rw [hch]
          simp [aft]
        | true=>
          rw [Bool.true_and,if_pos rfl]
          show z3Z fuel m x1 m.Redexes (zerosN m)=_
          unfold z3Z
          obtain⟨g1,g2⟩:=z62 (m:=m) (xs:=wordsN m) (ys:=x1) (t:=zerosN m) hf hn hl z8g
          rw [z83 hf hs,Option.bind_some,if_pos (decide_eq_true (by omega)),g1,Option.bind_some]
          cases hW:(wordsN m++x1).all (wordN m) with
          | false=>rfl
          | true=>
            have hWs:∀ w,w∈wordsN m→wordN m w=true:=fun w hw=>List.all_eq_true.1 hW w (List.mem_append_left _ hw)
            have t1:=g2 hW
            obtain⟨g3,g4⟩:=z63 (m:=m) (xs:=m.Redexes) hf hn (by omega) t1
            rw [if_pos rfl]
            show z3Y fuel m m.Redexes ((wordsN m++x1).foldl putW (zerosN m))=_
            unfold z3Y
            rw [g3,Option.bind_some]
            cases hR:m.Redexes.all (redexN m) with
            | false=>rfl
            | true=>
              have t2:cntOk m (tallyN m x1):=g4 hR
              rw [if_pos rfl]
              show z3X fuel m (tallyN m x1)=_
              unfold z3X
              rw [z8r hf hn t2.1 hWs,Option.bind_some,z9Z,zcz (t:=tallyN m x1) hC t2]
              cases (List.range m.Cells.length).all (occI m (tallyN m x1)) with
              | false=>rfl
              | true=>
                cases (List.range m.Cells.length).all (resS m) with
                | false=>simp [aft]
                | true=>
                  show z3W fuel m ()=_
                  unfold z3W
                  rw [z8P hf hn,Option.bind_some]
                  simp
  unfold z4e okN
  rw [z39,Option.bind_some,hj,hj]
  by_cases a1:1≤m.Cells.length∧m.Cells.length≤1500
  · rw [if_neg (by simp;omega),decide_eq_true a1,Bool.true_and]
    by_cases a3:m.Redexes.length≤m.Cells.length
    · rw [decide_eq_true a3,decide_eq_false (by omega)];rfl
    · rw [decide_eq_false a3,decide_eq_true (by omega)];rfl
  · rw [if_pos (by simp;omega),decide_eq_false a1];rfl

theorem zdp {m:D.Memory}{fuel:Nat}(hf:18446744073709551616≤fuel) (hs:m.sz≤1048576):z4X fuel m=some (okN m []):=by
  unfold z4X
  rw [zas hf hs (by simp)];rfl
theorem zdq {m:D.Memory}{fuel:Nat}(hf:18446744073709551616≤fuel) (hs:m.sz≤1048576):z2u fuel m=some (okN m []):=by
  unfold z2u
  rw [zat hf hs (by simp)];rfl
end Go.E


namespace Go.E
open Go.RowKit Go.Proofs
set_option linter.unusedSimpArgs false
set_option linter.unusedVariables false

theorem z5V {m:D.Memory}{x1:List D.Word}(h:okN m x1=true):m.Cells.all cellN=true∧(∀ w,w∈wordsN m→wordN m w=true)∧(List.range m.Cells.length).all (resS m)=true:=by
  unfold okN at h
  rw [Bool.and_eq_true,Bool.and_eq_true,Bool.and_eq_true,Bool.and_eq_true,Bool.and_eq_true,Bool.and_eq_true,Bool.and_eq_true] at h
  obtain⟨_,_,h1,h2,_,_,_,h3⟩:=h
  exact⟨h1,fun w hw=>List.all_eq_true.1 h2 w (List.mem_append_left _ hw),h3⟩
theorem z7x {m:D.Memory}{x1:List D.Word}(ho:okN m x1=true){w:D.Word}(hw:wordN m w=true):∃ r,resN m (m.Cells.length+1) w=some r:=by
  obtain⟨_,hW,hR⟩:=z5V ho
  rw [← Option.isSome_iff_exists]
  obtain⟨h0,c,h1,_,h3⟩:=z5a hw
  rcases h3 with⟨h3,_⟩ | ⟨h3,h4⟩
  · have:stopN m w=true:=by unfold stopN;rw [h3];rfl
    unfold resN
    rw [if_pos this];rfl
  · have:=List.all_eq_true.1 hR w.At.toNat (List.mem_range.2 (List.getElem?_eq_some_iff.1 h1).1)
    unfold resS at this
    rw [h1] at this
    simp only [Option.any_some,h4,beq_self_eq_true,Bool.not_true,Bool.false_or] at this
    rw [show((w.At.toNat:Nat):Int)=w.At by omega] at this
    obtain⟨tg,at_⟩:=w
    dsimp only at h3 this
    rw [h3]
    exact this

def resW (m:D.Memory) (w:D.Word):D.Word:=(resN m (m.Cells.length+1) w).getD w
theorem zbk {m:D.Memory}{x1:List D.Word}{fuel:Nat}(hf:18446744073709551616≤fuel) (hn:m.Cells.length≤1048576) (ho:okN m x1=true){w:D.Word}(hw:wordN m w=true):z1A fuel m w=some (resW m w,true):=by
  obtain⟨r,hr⟩:=z7x ho hw
  obtain⟨a,a1,_,a2⟩:=z6X hf hn (z5V ho).2.1 hw
  rw [a1,a2 r hr]
  unfold resW
  rw [hr];rfl
theorem zbm {m:D.Memory}{x1:List D.Word}{fuel:Nat}(hf:18446744073709551616≤fuel) (hn:m.Cells.length≤1048576) (ho:okN m x1=true){w:D.Word}(hw:wordN m w=true):zU fuel m w=some (resW m w,true):=by
  obtain⟨r,hr⟩:=z7x ho hw
  obtain⟨a,a1,_,a2⟩:=z6Y hf hn (z5V ho).2.1 hw
  rw [a1,a2 r hr]
  unfold resW
  rw [hr];rfl
end Go.E


namespace Go.E
open Go.RowKit Go.Proofs
set_option linter.unusedSimpArgs false
set_option linter.unusedVariables false


end Go.E


namespace Go.E
open Go.RowKit Go.Proofs
set_option linter.unusedSimpArgs false
set_option linter.unusedVariables false


def portAt (n:D.Net) (p:D.Port):Option D.Port:=(idx n.Agents p.Agent).bind fun a=>idx a.Ports p.Slot
def hasN (l:List D.Agent) (p:D.Port):Bool:=decide (0≤p.Agent∧0≤p.Slot) && (l[p.Agent.toNat]?).any fun a=>decide (p.Slot<(a.Ports.length:Int))
theorem za8 {α:Type}{xs:List α}{i:Int}(h:0≤i):idx xs i=xs[i.toNat]?:=by unfold idx;rw [if_pos h]
theorem zdg {l:List D.Agent}{p:D.Port}(h:hasN l p=true):0≤p.Agent∧0≤p.Slot∧∃ a q,l[p.Agent.toNat]? = some a∧idx l p.Agent=some a∧a.Ports[p.Slot.toNat]? = some q∧idx a.Ports p.Slot=some q∧p.Agent<l.length∧p.Slot<a.Ports.length:=by
  unfold hasN at h
  simp only [Bool.and_eq_true,decide_eq_true_eq] at h
  obtain⟨⟨h1,h2⟩,h3⟩:=h
  cases ha:l[p.Agent.toNat]? with
  | none=>rw [ha] at h3;simp at h3
  | some a=>
    rw [ha] at h3
    simp only [Option.any_some,decide_eq_true_eq] at h3
    obtain⟨q,hq⟩:=z4Y (xs:=a.Ports) (i:=p.Slot.toNat) (by omega)
    have:=(List.getElem?_eq_some_iff.1 ha).1
    exact⟨h1,h2,a,q,rfl,by rw [za8 h1,ha],hq,by rw [za8 h2,hq],by omega,h3⟩
theorem z7Q {l:List D.Agent}{p:D.Port}:hasN l p=true↔0≤p.Agent∧0≤p.Slot∧∃ a,l[p.Agent.toNat]? = some a∧p.Slot<a.Ports.length:=by
  constructor
  · intro h
    obtain⟨h1,h2,a,q,h3,_,_,_,_,h4⟩:=zdg h
    exact⟨h1,h2,a,h3,h4⟩
  · rintro⟨h1,h2,a,h3,h4⟩
    unfold hasN
    rw [h3]
    simp [h1,h2,h4]
end Go.E


namespace Go.E
open Go.RowKit Go.Proofs
set_option linter.unusedSimpArgs false
set_option linter.unusedVariables false


def shp (a:D.Agent):Int × Int × Int × List Int × Nat:=(a.Kind,a.Level,a.Value,a.Data,a.Ports.length)
def setPort (n:D.Net) (p q:D.Port):Option D.Net:=(idx n.Agents p.Agent).bind fun x=>if decide (0≤p.Slot∧p.Slot.toNat<x.Ports.length)=true then some ⟨n.Agents.set p.Agent.toNat ⟨x.Kind,x.Level,x.Value,x.Data,x.Ports.set p.Slot.toNat q⟩⟩ else none
def linkN (n:D.Net) (p q:D.Port):Option D.Net:=(setPort n p q).bind fun m=>setPort m q p

theorem zdv {l l':List D.Agent}(h:l'.map shp=l.map shp){i:Nat}{a:D.Agent}(ha:l[i]? = some a):∃ b,l'[i]? = some b∧shp b=shp a:=by
  have:=congrArg (fun x=>x[i]?) h
  simp only [List.getElem?_map,ha,Option.map_some] at this
  cases hb:l'[i]? with
  | none=>rw [hb] at this;cases this
  | some b=>rw [hb] at this;exact⟨b,rfl,by simpa using this⟩
theorem z6L {l l':List D.Agent}(h:l'.map shp=l.map shp) (p:D.Port):hasN l' p=hasN l p:=by
  have key:∀ {l l':List D.Agent},l'.map shp=l.map shp→hasN l p=true→hasN l' p=true:=fun {l l'} h hh=>by
    obtain⟨h1,h2,a,h3,h4⟩:=z7Q.1 hh
    obtain⟨b,h5,h6⟩:=zdv h h3
    refine z7Q.2 ⟨h1,h2,b,h5,?_⟩
    have:b.Ports.length=a.Ports.length:=congrArg (fun x=>x.2.2.2.2) h6
    omega
  rw [Bool.eq_iff_iff]
  exact⟨key h.symm,key h⟩
theorem z8q {α β:Type}{f:β→Nat}{g:α→β}:∀ {xs:List α},sumL f (xs.map g)=sumL (fun x=>f (g x)) xs
  | []=>rfl
  | x::xs=>by simp only [List.map_cons,sumL,z8q (xs:=xs)]
theorem zdi {l l':List D.Agent}(h:l'.map shp=l.map shp) (f:Int × Int × Int × List Int × Nat→Nat):sumL (fun a=>f (shp a)) l'=sumL (fun a=>f (shp a)) l:=by
  have:=congrArg (sumL f) h
  rwa [z8q,z8q] at this
theorem z8b {n:D.Net}{p q:D.Port}(hp:hasN n.Agents p=true):∃ m,setPort n p q=some m∧m.Agents.map shp=n.Agents.map shp∧∀ r,portAt m r=if r=p then some q else portAt n r:=by
  obtain⟨h1,h2,a,o,h3,h4,h5,h6,h7,h8⟩:=zdg hp
  refine⟨_,by unfold setPort;rw [h4,Option.bind_some,if_pos (decide_eq_true ⟨h2,by omega⟩)],?_,fun r=>?_⟩
  · dsimp only
    rw [List.map_set]
    apply List.ext_getElem?
    intro j
    rw [List.getElem?_set]
    split
    · rename_i hj
      subst hj
      have:p.Agent.toNat<n.Agents.length:=(List.getElem?_eq_some_iff.1 h3).1
      rw [if_pos (by simpa using this),List.getElem?_map,h3]
      simp [shp]
    · rfl
  · unfold portAt
    dsimp only
    have hl:p.Agent.toNat<n.Agents.length:=(List.getElem?_eq_some_iff.1 h3).1
    by_cases ha:r.Agent=p.Agent
    · have hi:idx (n.Agents.set p.Agent.toNat ⟨a.Kind,a.Level,a.Value,a.Data,a.Ports.set p.Slot.toNat q⟩) r.Agent=some ⟨a.Kind,a.Level,a.Value,a.Data,a.Ports.set p.Slot.toNat q⟩:=by
        rw [ha,za8 h1,List.getElem?_set_self hl]
      rw [hi,Option.bind_some]
      by_cases hs:r.Slot=p.Slot
      · rw [if_pos (by obtain⟨x,y⟩:=r;obtain⟨z,w⟩:=p;simp_all),hs,za8 h2]
        show(a.Ports.set p.Slot.toNat q)[p.Slot.toNat]? = _
        rw [List.getElem?_set_self (by omega)]
      · rw [if_neg (by rintro rfl;exact hs rfl),ha,h4,Option.bind_some]
        show idx (a.Ports.set p.Slot.toNat q) r.Slot=_
        unfold idx
        by_cases h0:0≤r.Slot
        · rw [if_pos h0,if_pos h0,List.getElem?_set_ne (by omega)]
        · rw [if_neg h0,if_neg h0]
    · rw [if_neg (by rintro rfl;exact ha rfl)]
      have hi:idx (n.Agents.set p.Agent.toNat ⟨a.Kind,a.Level,a.Value,a.Data,a.Ports.set p.Slot.toNat q⟩) r.Agent=idx n.Agents r.Agent:=by
        unfold idx
        by_cases h0:0≤r.Agent
        · rw [if_pos h0,if_pos h0,List.getElem?_set_ne (by omega)]
        · rw [if_neg h0,if_neg h0]
      rw [hi]
theorem z8x {n:D.Net}{p q:D.Port}(hp:hasN n.Agents p=true) (hq:hasN n.Agents q=true):∃ m,linkN n p q=some m∧m.Agents.map shp=n.Agents.map shp∧∀ r,portAt m r=if r=q then some p else if r=p then some q else portAt n r:=by
  obtain⟨m1,a1,a2,a3⟩:=z8b (q:=q) hp
  obtain⟨m2,b1,b2,b3⟩:=z8b (n:=m1) (p:=q) (q:=p) (by rw [z6L a2];exact hq)
  exact⟨m2,by unfold linkN;rw [a1,Option.bind_some,b1],b2.trans a2,fun r=>by rw [b3,a3]⟩
end Go.E


namespace Go.E
open Go.RowKit Go.Proofs
set_option linter.unusedSimpArgs false
set_option linter.unusedVariables false

theorem z8w {n:D.Net}{p q:D.Port}{fuel:Nat}:z29 fuel n p q=linkN n p q:=by
  unfold z29 linkN setPort
  cases idx n.Agents p.Agent with
  | none=>rfl
  | some a=>
    simp only [Option.bind_some]
    split
    · simp only [Option.bind_some]
    · rfl
theorem z7H {n:D.Net}{p q:D.Port}{fuel:Nat}:z3u fuel n p q=linkN n p q:=z8w (fuel:=fuel)
end Go.E


namespace Go.E
open Go.RowKit Go.Proofs
set_option linter.unusedSimpArgs false
set_option linter.unusedVariables false


theorem za7 {S1 τ1 ρ1 S2 τ2 ρ2:Type}{b1:S1→Option (Rd S1 τ1 ρ1)}{b2:S2→Option (Rd S2 τ2 ρ2)}(J:Nat→S1→S2→Prop) (n:Nat) (Q:τ1 ⊕ ρ1→τ2 ⊕ ρ2→Prop)
    (step:∀ i s1 s2,i<n→J i s1 s2→∃ s1' s2',b1 s1=some (.next s1')∧b2 s2=some (.next s2')∧J (i+1) s1' s2')
    (last:∀ s1 s2,J n s1 s2→∃ t1 t2,b1 s1=some (.brk t1)∧b2 s2=some (.brk t2)∧Q (.inl t1) (.inl t2)):
    ∀ {f1 f2 i s1 s2},i≤n→n - i<f1→n - i<f2→J i s1 s2→∃ o1 o2,iter b1 f1 s1=some o1∧iter b2 f2 s2=some o2∧Q o1 o2
  | 0,_,i,_,_,hi,hf,_,_=>by omega
  | _+1,0,i,_,_,hi,_,hf,_=>by omega
  | f1+1,f2+1,i,s1,s2,hi,hf,hf2,hJ=>by
    rcases Nat.lt_or_ge i n with h | h
    · obtain⟨t1,t2,e1,e2,h2⟩:=step i s1 s2 h hJ
      obtain⟨o1,o2,h3,h4,h5⟩:=za7 J n Q step last (f1:=f1) (f2:=f2) (i:=i+1) h (by omega) (by omega) h2
      exact⟨o1,o2,by simp only [iter,e1];exact h3,by simp only [iter,e2];exact h4,h5⟩
    · obtain rfl:i=n:=by omega
      obtain⟨t1,t2,e1,e2,h2⟩:=last s1 s2 hJ
      exact⟨_,_,by simp only [iter,e1],by simp only [iter,e2],h2⟩

def newA (c:D.Cell):D.Agent:=⟨c.Kind,c.Level,c.Value,c.Data,List.replicate (c.Words.length+1) ⟨0,0⟩⟩
def rootA:D.Agent:=⟨1,0,0,[],[⟨0,0⟩]⟩
def agsN (cs:List D.Cell):List D.Agent:=rootA::(cs.filter fun c=>agentKind c.Kind).map newA

def atN (m:D.Memory) (i:Nat):Nat:=(agsN (m.Cells.take i)).length
theorem z7c {m:D.Memory}{i:Nat}{c:D.Cell}(h:m.Cells[i]? = some c):agsN (m.Cells.take (i+1))=if agentKind c.Kind=true then agsN (m.Cells.take i)++[newA c] else agsN (m.Cells.take i):=by
  unfold agsN
  rw [List.take_add_one,h]
  cases hk:agentKind c.Kind<;>simp [hk,List.filter_append]
theorem zcn {cs:List D.Cell}:(agsN cs).length≤cs.length+1:=by
  unfold agsN
  simp only [List.length_cons,List.length_map]
  have:=List.length_filter_le (fun c:D.Cell=>agentKind c.Kind) cs
  omega
theorem zdx {m:D.Memory}{i:Nat}{c:D.Cell}(h:m.Cells[i]? = some c) (hk:agentKind c.Kind=true):(agsN m.Cells)[atN m i]? = some (newA c):=by
  have e:m.Cells=m.Cells.take (i+1)++m.Cells.drop (i+1):=(List.take_append_drop _ _).symm
  have h1:agsN m.Cells=agsN (m.Cells.take (i+1))++((m.Cells.drop (i+1)).filter fun c=>agentKind c.Kind).map newA:=by
    conv=>lhs;rw [e]
    unfold agsN
    rw [List.filter_append,List.map_append,List.cons_append]
  rw [h1,z7c h,if_pos hk,List.append_assoc,List.getElem?_append_right (by unfold atN;omega)]
  unfold atN
  simp

section
variable {fuel:Nat}{m:D.Memory}
theorem zcv {xs:List Int}(hl:xs.length≤1048576):z4D fuel xs=some xs:=by unfold z4D;rw [if_pos (decide_eq_true (by simp only [List.length_nil];omega))];rfl
theorem zaT {xs:List Int}(hl:xs.length≤1048576):z11 fuel xs=some xs:=by unfold z11;rw [if_pos (decide_eq_true (by simp only [List.length_nil];omega))];rfl
theorem zap {n:D.Net}{k l v:Int}{d:List Int}{p:Nat}(hf:18446744073709551616≤fuel) (hd:d.length≤1048576) (hp:p≤1048577) (hn:n.Agents.length≤1048576):
    ∃ j,z30 fuel n k l v d (p:Int)=some (j,⟨n.Agents++[⟨k,l,v,d,List.replicate p ⟨0,0⟩⟩]⟩):=by
  unfold z30
  rw [zcv hd,Option.bind_some]
  obtain⟨o,h1,h2⟩:=z2f (body:=z3h fuel) (fun i s=>s.1=((p - i:Nat):Int)∧s.2=List.replicate i (⟨0,0⟩:D.Port)) p (fun o=>o=.inl (List.replicate p (⟨0,0⟩:D.Port))) (by
    rintro i ⟨a,s⟩ hi ⟨g1,g2⟩
    dsimp only at g1 g2
    subst g1;subst g2
    refine .inl ⟨(((p - (i+1):Nat):Int),List.replicate i (⟨0,0⟩:D.Port)++[⟨0,0⟩]),?_,rfl,by rw [← List.replicate_succ']⟩
    unfold z3h
    dsimp only
    rw [if_pos (decide_eq_true (by omega)),if_pos (decide_eq_true (by simp only [List.length_replicate,List.length_cons,List.length_nil];omega)),zh (by omega) (by omega),show((p - i:Nat):Int) - 1=((p - (i+1):Nat):Int) by omega]) (by
    rintro⟨a,s⟩ ⟨g1,g2⟩
    dsimp only at g1 g2
    subst g1;subst g2
    refine .inr ⟨_,?_,rfl⟩
    unfold z3h
    rw [if_neg (by simp)]) (fuel:=fuel) (i:=0) (s:=((p:Int),[])) (by omega) (by omega) ⟨rfl,rfl⟩
  rw [h1,h2,Option.bind_some,z3]
  unfold z4Z
  rw [if_pos (decide_eq_true (by simp only [List.length_cons,List.length_nil];omega))]
  exact⟨_,rfl⟩

theorem zcB (hf:18446744073709551616≤fuel) (hs:∀ c,c∈m.Cells→c.Data.length≤1048576∧c.Words.length≤1048576) (hn:m.Cells.length≤1500):
    iter (z1z fuel m) fuel (0,[],[rootA],[])=some (.inl (List.replicate m.Cells.length ⟨-1,0⟩,agsN m.Cells,(List.range m.Cells.length).map fun i=>((atN m i:Nat):Int))):=by
  obtain⟨o,h1,h2⟩:=z2f (body:=z1z fuel m) (fun i s=>s=((i:Int),List.replicate i (⟨-1,0⟩:D.Port),agsN (m.Cells.take i),(List.range i).map fun i=>((atN m i:Nat):Int))) m.Cells.length
    (fun o=>o=.inl (List.replicate m.Cells.length ⟨-1,0⟩,agsN m.Cells,(List.range m.Cells.length).map fun i=>((atN m i:Nat):Int))) (by
    rintro i s hi rfl
    obtain⟨c,hc⟩:=z4Y hi
    obtain⟨z1,z2⟩:=hs c (List.mem_of_getElem? hc)
    have hl:=zcn (cs:=m.Cells.take i)
    have h:(m.Cells.take i).length≤m.Cells.length:=by rw [List.length_take];exact Nat.min_le_right _ _
    refine .inl ⟨_,?_,rfl⟩
    unfold z1z
    dsimp only
    rw [if_pos (decide_eq_true (by omega)),zO hc,Option.bind_some,if_pos (decide_eq_true (by simp only [List.length_map,List.length_range,List.length_cons,List.length_nil];omega)),if_pos (decide_eq_true (by simp only [List.length_replicate,List.length_cons,List.length_nil];omega)),z2U,Option.bind_some]
    have e1:List.replicate i (⟨-1,0⟩:D.Port)++[⟨-1,0⟩]=List.replicate (i+1) ⟨-1,0⟩:=by rw [← List.replicate_succ']
    have e2:((List.range i).map fun i=>((atN m i:Nat):Int))++[((agsN (m.Cells.take i)).length:Int)]=(List.range (i+1)).map fun i=>((atN m i:Nat):Int):=by rw [List.range_succ,List.map_append];rfl
    have e3:w64 ((i:Int)+1)=((i+1:Nat):Int):=by rw [zh (by omega) (by omega)];rfl
    rw [z7c hc]
    cases hk:agentKind c.Kind with
    | true=>
      obtain⟨j,hj⟩:=zap (n:=⟨agsN (m.Cells.take i)⟩) (k:=c.Kind) (l:=c.Level) (v:=c.Value) (p:=c.Words.length+1) hf z1 (by omega) (by dsimp only;omega)
      rw [if_pos rfl,if_pos rfl,zh (by omega) (by omega),show((c.Words.length:Int)+1)=((c.Words.length+1:Nat):Int) by omega,hj,Option.bind_some]
      unfold z1r
      dsimp only
      rw [e1,e2,e3]
      rfl
    | false=>
      rw [if_neg (by simp),if_neg (by simp)]
      unfold z1r
      dsimp only
      rw [e1,e2,e3]) (by
    rintro s rfl
    refine .inr ⟨_,by unfold z1z;rw [if_neg (by simp)],?_⟩
    rw [List.take_length]) (fuel:=fuel) (i:=0) (s:=(0,[],[rootA],[])) (by omega) (by omega) (by rfl)
  rw [h1,h2]

def ToOk (m:D.Memory) (i:Nat) (to:List (Int × Int)):Prop:=∀ (j:Nat) (c:D.Cell),j<i→m.Cells[j]? = some c→agentKind c.Kind=true→mget to (j:Int)=some ((atN m j:Nat):Int)
theorem zcC (hf:18446744073709551616≤fuel) (hs:∀ c,c∈m.Cells→c.Data.length≤1048576∧c.Words.length≤1048576) (hn:m.Cells.length≤1500):
    ∃ to,iter (zM fuel m) fuel (0,[],[rootA])=some (.inl (to,agsN m.Cells))∧ToOk m m.Cells.length to:=by
  obtain⟨o,h1,to,h2,h3⟩:=z2f (body:=zM fuel m) (fun i s=>∃ to,s=((i:Int),to,agsN (m.Cells.take i))∧ToOk m i to) m.Cells.length
    (fun o=>∃ to,o=.inl (to,agsN m.Cells)∧ToOk m m.Cells.length to) (by
    rintro i s hi ⟨to,rfl,ht⟩
    obtain⟨c,hc⟩:=z4Y hi
    obtain⟨z1,z2⟩:=hs c (List.mem_of_getElem? hc)
    have hl:=zcn (cs:=m.Cells.take i)
    have y:(m.Cells.take i).length≤m.Cells.length:=by rw [List.length_take];exact Nat.min_le_right _ _
    have e3:w64 ((i:Int)+1)=((i+1:Nat):Int):=by rw [zh (by omega) (by omega)];rfl
    cases hk:agentKind c.Kind with
    | true=>
      refine .inl ⟨(((i+1:Nat):Int),mput to (i:Int) ((agsN (m.Cells.take i)).length:Int),agsN (m.Cells.take i)++[newA c]),?_,_,by rw [z7c hc,if_pos hk],fun j d hj hd h=>?_⟩
      · unfold zM
        dsimp only
        have ew:w64 ((c.Words.length:Int)+1)=((c.Words.length+1:Nat):Int):=by rw [zh (by omega) (by omega)];rfl
        rw [if_pos (decide_eq_true (by omega)),zO hc,Option.bind_some,z2V,hk,Option.bind_some,if_pos rfl,zaT z1,Option.bind_some,ew,if_pos (decide_eq_true (by omega)),if_pos (decide_eq_true (by simp only [List.length_cons,List.length_nil];omega))]
        unfold z1V zX
        dsimp only
        rw [e3,Int.toNat_natCast]
        rfl
      · rw [z7D]
        by_cases hij:(i:Int)=(j:Int)
        · rw [if_pos hij,show i=j by omega];rfl
        · rw [if_neg hij];exact ht j d (by omega) hd h
    | false=>
      refine .inl ⟨(((i+1:Nat):Int),to,agsN (m.Cells.take i)),?_,_,by rw [z7c hc,if_neg (by simp [hk])],fun j d hj hd h=>?_⟩
      · unfold zM
        dsimp only
        rw [if_pos (decide_eq_true (by omega)),zO hc,Option.bind_some,z2V,hk,Option.bind_some,if_neg (by simp)]
        unfold zX
        dsimp only
        rw [e3]
      · by_cases hij:i=j
        · subst hij;rw [hc] at hd;cases hd;rw [hk] at h;cases h
        · exact ht j d (by omega) hd h) (by
    rintro s ⟨to,rfl,ht⟩
    refine .inr ⟨_,by unfold zM;rw [if_neg (by simp)],to,by rw [List.take_length],ht⟩) (fuel:=fuel) (i:=0) (s:=(0,[],[rootA])) (by omega) (by omega) ⟨[],rfl,fun j c hj=>by omega⟩
  exact⟨to,by rw [h1,h2],h3⟩

theorem z9b (hW:∀ w,w∈wordsN m→wordN m w=true):∀ (k:Nat) (w r:D.Word),wordN m w=true→resN m k w=some r→wordN m r=true
  | 0,w,r,_,h=>by cases h
  | k+1,w,r,hw,h=>by
    unfold resN at h
    by_cases hst:stopN m w=true
    · rw [if_pos hst] at h;cases h;exact hw
    · rw [if_neg hst] at h
      refine z9b hW k (nextN m w) r ?_ h
      obtain⟨h0,c,h1,h2,h3⟩:=z5a hw
      unfold nextN
      rw [h1]
      cases hws:c.Words with
      | nil=>exact absurd (by unfold stopN;rw [h1];simp [hws]) hst
      | cons v vs=>
        show wordN m (c.Words.headD ⟨0,0⟩)=true
        rw [hws]
        exact hW v (z79 h1 (by rw [hws];exact List.mem_cons_self))
theorem zbj {x1:List D.Word}(ho:okN m x1=true){w:D.Word}(hw:wordN m w=true):wordN m (resW m w)=true:=by
  obtain⟨r,hr⟩:=z7x ho hw
  have:=z9b (z5V ho).2.1 _ w r hw hr
  unfold resW
  rw [hr];exact this
end
end Go.E


namespace Go.E
open Go.RowKit Go.Proofs
set_option linter.unusedSimpArgs false
set_option linter.unusedVariables false

structure Sim (m:D.Memory) (half:List D.Port) (ags:List D.Agent) (op:List (Int × D.Port)):Prop where
  l:half.length=m.Cells.length
  h:∀ j:Nat,j<m.Cells.length→half[j]? = some ((mget op (j:Int)).getD ⟨-1,0⟩)
  p:∀ (j:Nat) p,mget op (j:Int)=some p→hasN (agsN m.Cells) p=true
  s:ags.map shp=(agsN m.Cells).map shp
abbrev atL (m:D.Memory):List Int:=(List.range m.Cells.length).map fun i=>((atN m i:Nat):Int)
section
variable {fuel:Nat}{m:D.Memory}
theorem z9C {j:Nat}(h:j<m.Cells.length):idx (atL m) (j:Int)=some ((atN m j:Nat):Int):=zO (by
  rw [List.getElem?_map,List.getElem?_range h];rfl)
theorem za9 {j k:Nat}{c:D.Cell}(h:m.Cells[j]? = some c) (hk:agentKind c.Kind=true) (hl:k≤c.Words.length):hasN (agsN m.Cells) ⟨((atN m j:Nat):Int),(k:Int)⟩=true:=by
  refine z7Q.2 ⟨by simp,by simp,newA c,?_,?_⟩
  · show(agsN m.Cells)[((atN m j:Nat):Int).toNat]? = _
    rw [Int.toNat_natCast];exact zdx h hk
  · show(k:Int)<((newA c).Ports.length:Int)
    unfold newA
    simp only [List.length_replicate]
    omega
theorem zcE:hasN (agsN m.Cells) ⟨0,0⟩=true:=z7Q.2 ⟨by simp,by simp,rootA,rfl,by show(0:Int)<1;omega⟩
theorem z95 {x1:List D.Word}(hf:18446744073709551616≤fuel) (ho:okN m x1=true) (hn:m.Cells.length≤1500){to:List (Int × Int)}(hto:ToOk m m.Cells.length to){half:List D.Port}{ags:List D.Agent}{op:List (Int × D.Port)}(hS:Sim m half ags op)
    {a slot:Int}{w:D.Word}(hw:wordN m w=true) (hme:hasN (agsN m.Cells) ⟨a,slot⟩=true):
    ∃ half' ags' op',Sim m half' ags' op'∧(∀ (t:(List D.Port) × (List D.Agent) × (List Int)) (ws:List D.Word) (z k:Int),t.2.2=atL m→idx ws k=some w→decide (k<(ws.length:Int))=true→
      zf fuel m t (ws,a,z) (k,slot,half,ags)=some (.next (w64 (k+1),w64 (slot+1),half',ags')))∧
      zv fuel ⟨a,slot⟩ w m ⟨ags⟩ to op=some (⟨ags'⟩,to,op'):=by
  have hv:=zbj ho hw
  have r1:=zbk (fuel:=fuel) hf (by omega) ho hw
  have r2:=zbm (fuel:=fuel) hf (by omega) ho hw
  generalize resW m w=v at hv r1 r2
  obtain⟨h0,c,h1,h2,h3⟩:=z5a hv
  have hj:=(List.getElem?_eq_some_iff.1 h1).1
  have ev:v.At=(v.At.toNat:Int):=by omega
  have hme':hasN ags ⟨a,slot⟩=true:=by rw [z6L hS.s];exact hme
  rcases h3 with⟨t1,t2⟩ | ⟨t1,t2⟩
  · have ht:hasN ags ⟨((atN m v.At.toNat:Nat):Int),0⟩=true:=by rw [z6L hS.s];exact za9 (k:=0) h1 t2 (by omega)
    obtain⟨n2,l1,l2,_⟩:=z8x (n:=⟨ags⟩) hme' ht
    refine⟨half,n2.Agents,op,⟨hS.l,hS.h,hS.p,l2.trans hS.s⟩,fun t ws z k ht hi hk=>?_,?_⟩
    · unfold zf
      dsimp only
      rw [if_pos hk,hi,Option.bind_some,r1,Option.bind_some,if_pos (by simp [t1]),ht,ev,z9C hj,Option.bind_some]
      unfold z2v
      rw [Option.bind_some,z7H,l1,Option.bind_some]
      rfl
    · unfold zv
      rw [r2,Option.bind_some,if_pos (by simp [t1])]
      dsimp only
      rw [ev,hto v.At.toNat c hj h1 t2,Option.getD_some,z8w,l1,Option.bind_some]
  · have hh:=hS.h v.At.toNat hj
    rw [← ev] at hh
    have ih:idx half v.At=some ((mget op v.At).getD ⟨-1,0⟩):=by rw [ev];exact zO (by rw [← ev];exact hh)
    have hp:=hS.p v.At.toNat
    rw [← ev] at hp
    cases hg:mget op v.At with
    | none=>
      rw [hg] at ih
      refine⟨half.set v.At.toNat ⟨a,slot⟩,ags,mput op v.At ⟨a,slot⟩,⟨by rw [List.length_set];exact hS.l,fun j hj2=>?_,fun j p hp2=>?_,hS.s⟩,fun t ws z k ht hi hk=>?_,?_⟩
      · rw [z7D]
        by_cases he:v.At=(j:Int)
        · rw [if_pos he,show v.At.toNat=j by omega,List.getElem?_set_self (by rw [hS.l];exact hj2)];rfl
        · rw [if_neg he,List.getElem?_set_ne (by omega)];exact hS.h j hj2
      · rw [z7D] at hp2
        by_cases he:v.At=(j:Int)
        · rw [if_pos he] at hp2;cases hp2;exact hme
        · rw [if_neg he] at hp2;exact hS.p j p hp2
      · unfold zf
        dsimp only
        rw [if_pos hk,hi,Option.bind_some,r1,Option.bind_some,if_neg (by simp [t1]),ih,Option.bind_some,Option.getD_none,if_neg (by simp),if_pos (decide_eq_true ⟨h0,by rw [hS.l];exact hj⟩)]
        rfl
      · unfold zv
        rw [r2,Option.bind_some,if_neg (by simp [t1]),if_neg (by simp [hg])]
    | some p=>
      rw [hg] at ih
      have hp1:=hp p hg
      have hp2:hasN ags p=true:=by rw [z6L hS.s];exact hp1
      obtain⟨n2,l1,l2,_⟩:=z8x (n:=⟨ags⟩) hme' hp2
      refine⟨half,n2.Agents,op,⟨hS.l,hS.h,hS.p,l2.trans hS.s⟩,fun t ws z k ht hi hk=>?_,?_⟩
      · unfold zf
        dsimp only
        rw [if_pos hk,hi,Option.bind_some,r1,Option.bind_some,if_neg (by simp [t1]),ih,Option.bind_some,Option.getD_some,if_pos (decide_eq_true (z7Q.1 hp1).1),Option.bind_some,z7H,l1,Option.bind_some]
        rfl
      · unfold zv
        rw [r2,Option.bind_some,if_neg (by simp [t1]),if_pos (by simp [hg]),hg,Option.getD_some,z8w,l1,Option.bind_some]


theorem zar {x1:List D.Word}(hf:18446744073709551616≤fuel) (ho:okN m x1=true) (hn:m.Cells.length≤1500){to:List (Int × Int)}(hto:ToOk m m.Cells.length to){half:List D.Port}{ags:List D.Agent}{op:List (Int × D.Port)}(hS:Sim m half ags op)
    {i:Nat}{c:D.Cell}(hc:m.Cells[i]? = some c) (hk:agentKind c.Kind=true) (hl:c.Words.length≤1048576) (t:(List D.Port) × (List D.Agent) × (List Int)) (ht:t.2.2=atL m) (h:Int × (List D.Agent) × (List (Int × Int)) × (List (Int × D.Port))) (o:h.1=(i:Int)):
    ∃ half' ags' op',Sim m half' ags' op'∧iter (zf fuel m t (c.Words,((atN m i:Nat):Int),1)) fuel (0,1,half,ags)=some (.inl (half',ags'))∧iter (zZ fuel m h c) fuel (0,ags,to,op)=some (.inl (ags',to,op')):=by
  obtain⟨o1,o2,a1,a2,half',ags',op',h9,rfl,rfl⟩:=za7 (b1:=zf fuel m t (c.Words,((atN m i:Nat):Int),1)) (b2:=zZ fuel m h c)
    (fun k s1 s2=>∃ half ags op,s1=((k:Int),((k+1:Nat):Int),half,ags)∧s2=((k:Int),ags,to,op)∧Sim m half ags op) c.Words.length (fun o1 o2=>∃ half ags op,Sim m half ags op∧o1=.inl (half,ags)∧o2=.inl (ags,to,op)) (by
    rintro k s1 s2 y ⟨half,ags,op,rfl,rfl,hS⟩
    obtain⟨w,hw⟩:=z4Y y
    have hww:=(z5V ho).2.1 w (z79 hc (List.mem_of_getElem? hw))
    obtain⟨half',ags',op',g1,g2,g3⟩:=z95 hf ho hn hto hS (a:=((atN m i:Nat):Int)) (slot:=((k+1:Nat):Int)) hww (za9 hc hk (by omega))
    have e1:w64 ((k:Int)+1)=((k+1:Nat):Int):=by rw [zh (by omega) (by omega)];rfl
    have e2:w64 (((k+1:Nat):Int)+1)=((k+1+1:Nat):Int):=by rw [zh (by omega) (by omega)];rfl
    refine⟨_,_,g2 t c.Words 1 (k:Int) ht (zO hw) (decide_eq_true (by omega)),?_,half',ags',op',by rw [e1,e2],rfl,g1⟩
    unfold zZ
    dsimp only
    rw [if_pos (decide_eq_true (by omega)),zO hw,Option.bind_some,o,hto i c (List.getElem?_eq_some_iff.1 hc).1 hc hk,Option.getD_some,e1,g3,Option.bind_some]) (by
    rintro s1 s2 ⟨half,ags,op,rfl,rfl,hS⟩
    refine⟨_,_,?_,?_,half,ags,op,hS,rfl,rfl⟩
    · unfold zf;rw [if_neg (by simp)]
    · unfold zZ;rw [if_neg (by simp)]) (f1:=fuel) (f2:=fuel) (i:=0) (s1:=(0,1,half,ags)) (s2:=(0,ags,to,op)) (by omega) (by omega) (by omega) ⟨half,ags,op,rfl,rfl,hS⟩
  exact⟨half',ags',op',h9,a1,a2⟩
theorem zaX {x1:List D.Word}(hf:18446744073709551616≤fuel) (ho:okN m x1=true) (hn:m.Cells.length≤1500) (hs:∀ c,c∈m.Cells→c.Data.length≤1048576∧c.Words.length≤1048576){to:List (Int × Int)}(hto:ToOk m m.Cells.length to){half:List D.Port}{ags:List D.Agent}{op:List (Int × D.Port)}(hS:Sim m half ags op)
    (t:(List D.Port) × (List D.Agent) × (List Int)) (ht:t.2.2=atL m){f1 f2:Nat}(hf1:1500<f1) (hf2:1500<f2):
    ∃ half' ags' op',Sim m half' ags' op'∧iter (zi fuel m t) f1 (0,half,ags)=some (.inl ags')∧iter (zL fuel m) f2 (0,ags,to,op)=some (.inl (ags',to)):=by
  obtain⟨o1,o2,a1,a2,half',ags',op',h9,rfl,rfl⟩:=za7 (b1:=zi fuel m t) (b2:=zL fuel m)
    (fun i s1 s2=>∃ half ags op,s1=((i:Int),half,ags)∧s2=((i:Int),ags,to,op)∧Sim m half ags op) m.Cells.length (fun o1 o2=>∃ half ags op,Sim m half ags op∧o1=.inl ags∧o2=.inl (ags,to)) (by
    rintro i s1 s2 hi ⟨half,ags,op,rfl,rfl,hS⟩
    obtain⟨c,hc⟩:=z4Y hi
    have e1:w64 ((i:Int)+1)=((i+1:Nat):Int):=by rw [zh (by omega) (by omega)];rfl
    cases hk:agentKind c.Kind with
    | false=>
      refine⟨_,_,?_,?_,half,ags,op,rfl,rfl,hS⟩
      · unfold zi z1c
        dsimp only
        rw [if_pos (decide_eq_true (by omega)),if_pos (decide_eq_true (by omega)),zO hc,Option.bind_some,ht,z9C hi,Option.bind_some,if_pos (decide_eq_true (by omega)),Option.bind_some,z2U,hk,Option.bind_some]
        unfold z1b
        rw [if_pos (by rfl)]
        unfold z1d
        dsimp only
        rw [e1]
      · unfold zL
        dsimp only
        rw [if_pos (decide_eq_true (by omega)),zO hc,Option.bind_some,z2V,hk,Option.bind_some,if_neg (by simp)]
        unfold zY
        dsimp only
        rw [e1]
    | true=>
      obtain⟨half',ags',op',g1,g2,g3⟩:=zar hf ho hn hto hS hc hk (hs c (List.mem_of_getElem? hc)).2 t ht ((i:Int),ags,to,op) rfl
      refine⟨_,_,?_,?_,half',ags',op',rfl,rfl,g1⟩
      · unfold zi z1c
        dsimp only
        rw [if_pos (decide_eq_true (by omega)),if_pos (decide_eq_true (by omega)),zO hc,Option.bind_some,ht,z9C hi,Option.bind_some,if_pos (decide_eq_true (by omega)),Option.bind_some,z2U,hk,Option.bind_some]
        unfold z1b
        rw [if_neg (by simp)]
        dsimp only
        rw [g2,Option.bind_some,z3]
        unfold z2Z z1d
        dsimp only
        rw [e1]
      · unfold zL
        dsimp only
        rw [if_pos (decide_eq_true (by omega)),zO hc,Option.bind_some,z2V,hk,Option.bind_some,if_pos rfl,g3,Option.bind_some,z3]
        unfold z36 zY
        dsimp only
        rw [e1]) (by
    rintro s1 s2 ⟨half,ags,op,rfl,rfl,hS⟩
    refine⟨_,_,?_,?_,half,ags,op,hS,rfl,rfl⟩
    · unfold zi;rw [if_neg (by simp)]
    · unfold zL;rw [if_neg (by simp)]) (f1:=f1) (f2:=f2) (i:=0) (s1:=(0,half,ags)) (s2:=(0,ags,to,op)) (by omega) (by omega) (by omega) ⟨half,ags,op,rfl,rfl,hS⟩
  exact⟨half',ags',op',h9,a1,a2⟩
theorem zaE {x1:List D.Word}(hf:18446744073709551616≤fuel) (ho:okN m x1=true){to:List (Int × Int)}(hto:ToOk m m.Cells.length to){ags:List D.Agent}(hA:ags.map shp=(agsN m.Cells).map shp)
    (t:(List D.Port) × (List D.Agent) × (List Int)) (ht:t.2.2=atL m) (t2:(List D.Agent) × (List (Int × Int))) (ht2:t2.2=to) (hr:m.Redexes.length≤1048576):
    ∃ ags',ags'.map shp=(agsN m.Cells).map shp∧iter (z1y fuel m t) fuel (0,ags)=some (.inl ags')∧iter (z10 fuel m t2) fuel (0,ags)=some (.inl ags'):=by
  have hR:m.Redexes.all (redexN m)=true:=by
    unfold okN at ho
    simp only [Bool.and_eq_true] at ho
    exact ho.2.2.2.2.1
  obtain⟨o1,o2,a1,a2,ags',h9,rfl,rfl⟩:=za7 (b1:=z1y fuel m t) (b2:=z10 fuel m t2)
    (fun i s1 s2=>∃ ags,s1=((i:Int),ags)∧s2=((i:Int),ags)∧ags.map shp=(agsN m.Cells).map shp) m.Redexes.length (fun o1 o2=>∃ ags,ags.map shp=(agsN m.Cells).map shp∧o1=.inl ags∧o2=.inl ags) (by
    rintro i s1 s2 hi ⟨ags,rfl,rfl,hA⟩
    obtain⟨p,hp⟩:=z4Y hi
    have e1:w64 ((i:Int)+1)=((i+1:Nat):Int):=by rw [zh (by omega) (by omega)];rfl
    obtain⟨_,pa,pb⟩:=z6p (List.all_eq_true.1 hR p (List.mem_of_getElem? hp))
    obtain⟨x0,x1,c,x2,_,x3,_⟩:=z2x pa
    obtain⟨y0,y1,d,y2,_,y3,_⟩:=z2x pb
    have ea:p.A=(p.A.toNat:Int):=by omega
    have eb:p.B=(p.B.toNat:Int):=by omega
    have ha:hasN ags ⟨((atN m p.A.toNat:Nat):Int),0⟩=true:=by rw [z6L hA];exact za9 (k:=0) x2 x3 (by omega)
    have hb:hasN ags ⟨((atN m p.B.toNat:Nat):Int),0⟩=true:=by rw [z6L hA];exact za9 (k:=0) y2 y3 (by omega)
    obtain⟨n2,l1,l2,_⟩:=z8x (n:=⟨ags⟩) ha hb
    have ia:idx (atL m) p.A=some ((atN m p.A.toNat:Nat):Int):=by rw [ea];exact z9C x1
    have ib:idx (atL m) p.B=some ((atN m p.B.toNat:Nat):Int):=by rw [eb];exact z9C y1
    have ga:mget to p.A=some ((atN m p.A.toNat:Nat):Int):=by rw [ea];exact hto _ c x1 x2 x3
    have gb:mget to p.B=some ((atN m p.B.toNat:Nat):Int):=by rw [eb];exact hto _ d y1 y2 y3
    refine⟨_,_,?_,?_,n2.Agents,rfl,rfl,l2.trans hA⟩
    · unfold z1y z2v
      dsimp only
      rw [if_pos (decide_eq_true (by omega)),zO hp,Option.bind_some,ht,ia,Option.bind_some,Option.bind_some,ib,Option.bind_some,Option.bind_some,Option.bind_some,z7H,l1,Option.bind_some,e1]
    · unfold z10
      dsimp only
      rw [if_pos (decide_eq_true (by omega)),zO hp,Option.bind_some,ht2,ga,gb,Option.getD_some,Option.getD_some,z8w,l1,Option.bind_some,e1]) (by
    rintro s1 s2 ⟨ags,rfl,rfl,hA⟩
    refine⟨_,_,?_,?_,ags,hA,rfl,rfl⟩
    · unfold z1y;rw [if_neg (by simp)]
    · unfold z10;rw [if_neg (by simp)]) (f1:=fuel) (f2:=fuel) (i:=0) (s1:=(0,ags)) (s2:=(0,ags)) (by omega) (by omega) (by omega) ⟨ags,rfl,rfl,hA⟩
  exact⟨ags',h9,a1,a2⟩
theorem z9H {x1:List D.Word}(hf:18446744073709551616≤fuel) (ho:okN m x1=true) (hs:∀ c,c∈m.Cells→c.Data.length≤1048576∧c.Words.length≤1048576) (hr:m.Redexes.length≤1048576):
    ∃ ags,ags.map shp=(agsN m.Cells).map shp∧z3g fuel m=some ⟨ags⟩∧z1S fuel m=some ⟨ags⟩:=by
  have hn:1≤m.Cells.length∧m.Cells.length≤1500:=by
    unfold okN at ho
    simp only [Bool.and_eq_true,decide_eq_true_eq] at ho
    exact ho.1
  obtain⟨to,i1,hto⟩:=zcC (m:=m) hf hs hn.2
  have i2:=zcB (m:=m) hf hs hn.2
  have hS:Sim m (List.replicate m.Cells.length ⟨-1,0⟩) (agsN m.Cells) []:=⟨by simp,fun j hj=>by rw [List.getElem?_replicate,if_pos hj];rfl,(by intro j p hp;simp [mget] at hp),rfl⟩
  have hw:wordN m m.Root=true:=(z5V ho).2.1 _ (by unfold wordsN;exact List.mem_cons_self)
  obtain⟨half,ags,op,g1,g2,g3⟩:=z95 hf ho hn.2 hto hS (a:=0) (slot:=0) hw zcE
  obtain⟨f,rfl⟩:∃ f,fuel=f+2:=⟨fuel - 2,by omega⟩
  generalize ht:((List.replicate m.Cells.length (⟨-1,0⟩:D.Port)),agsN m.Cells,atL m)=t at *
  have ht2:t.2.2=atL m:=by rw [← ht]
  have hroot:iter (zf (f+2) m t ([m.Root],0,0)) (f+2) (0,0,List.replicate m.Cells.length ⟨-1,0⟩,agsN m.Cells)=some (.inl (half,ags)):=by
    have hlast:∀ z,zf (f+2) m t ([m.Root],0,0) (1,z,half,ags)=some (.brk (half,ags)):=fun z=>by unfold zf;rw [if_neg (by simp)]
    have h1:=g2 t [m.Root] 0 0 ht2 rfl rfl
    have e:w64 ((0:Int)+1)=1:=by rw [zh (by omega) (by omega)];rfl
    rw [e] at h1
    simp only [iter,h1,hlast]
  obtain⟨half',ags',op',k1,k2,k3⟩:=zaX (f1:=f+1) (f2:=f+2) hf ho hn.2 hs hto g1 t ht2 (by omega) (by omega)
  have hfirst:zi (f+2) m t (-1,List.replicate m.Cells.length ⟨-1,0⟩,agsN m.Cells)=some (.next (0,half,ags)):=by
    unfold zi
    dsimp only
    rw [if_pos (decide_eq_true (by omega)),if_neg (by simp)]
    unfold z1c
    rw [if_neg (by simp)]
    unfold z1b
    rw [if_neg (by simp)]
    dsimp only
    rw [hroot,Option.bind_some,z3]
    unfold z2Z z1d
    dsimp only
    rw [show w64 ((-1:Int)+1)=0 from by rw [zh (by omega) (by omega)];rfl]
  have hall:iter (zi (f+2) m t) (f+2) (-1,List.replicate m.Cells.length ⟨-1,0⟩,agsN m.Cells)=some (.inl ags'):=by
    rw [← k2]
    show iter (zi (f+2) m t) (f+1+1) _=_
    conv=>lhs;rw [iter]
    rw [hfirst]
  obtain⟨ags2,q1,q2,q3⟩:=zaE hf ho hto k1.s t ht2 (ags',to) rfl hr
  refine⟨ags2,q1,?_,?_⟩
  · unfold z3g
    obtain⟨j,hj⟩:=zap (fuel:=f+2) (n:=⟨[]⟩) (k:=1) (l:=0) (v:=0) (d:=[]) (p:=1) hf (by simp) (by omega) (by simp)
    have hj':z30 (f+2) ⟨[]⟩ 1 0 0 [] 1=some (j,⟨[rootA]⟩):=hj
    rw [hj',Option.bind_some]
    dsimp only
    rw [i2,Option.bind_some,z3]
    unfold z4v
    rw [show t.1=List.replicate m.Cells.length ⟨-1,0⟩ from by rw [← ht],show t.2.1=agsN m.Cells from by rw [← ht],hall,Option.bind_some,z3]
    unfold z4u
    rw [q2,Option.bind_some,z3]
    rfl
  · unfold z1S
    rw [if_pos (by decide)]
    have e0:([(⟨1,0,0,[],(List.replicate (1:Int).toNat (⟨(0:Int),(0:Int)⟩:D.Port))⟩:D.Agent)]:List D.Agent)=[rootA]:=rfl
    rw [e0,i1,Option.bind_some,z3]
    unfold z38 z4L
    rw [Option.bind_some]
    dsimp only
    rw [g3,Option.bind_some]
    dsimp only
    rw [k3,Option.bind_some,z3]
    unfold z37
    dsimp only
    rw [q3,Option.bind_some,z3]
    rfl
end
end Go.E


namespace Go.E
open Go.RowKit Go.Proofs
set_option linter.unusedSimpArgs false
set_option linter.unusedVariables false

theorem zdc {k v:Int}{d:List Int}(h:contentN k v d=true):d.length≤4:=by
  unfold contentN at h
  split at h
  · simp only [decide_eq_true_eq] at h;omega
  · split at h
    · simp only [decide_eq_true_eq] at h;omega
    · split at h
      · simp only [Bool.and_eq_true,decide_eq_true_eq] at h;omega
      · split at h
        · simp only [decide_eq_true_eq] at h;omega
        · split at h
          · simp only [Bool.and_eq_true,decide_eq_true_eq] at h;omega
          · split at h
            · simp only [Bool.and_eq_true,decide_eq_true_eq] at h;omega
            · split at h
              · simp only [decide_eq_true_eq] at h;omega
              · simp only [decide_eq_true_eq] at h;omega
theorem zdw {k f:Int}:portsN k f≤4:=by
  unfold portsN
  split
  · split<;>omega
  · split
    · omega
    · split
      · omega
      · split
        · omega
        · split<;>omega
theorem zaY {c:D.Cell}(h:cellN c=true) (hk:agentKind c.Kind=true):c.Data.length≤4∧c.Words.length≤3:=by
  unfold agentKind at hk
  simp only [decide_eq_true_eq] at hk
  unfold cellN at h
  rw [if_neg (by omega),if_neg (by omega)] at h
  unfold agentN at h
  simp only [Bool.and_eq_true,decide_eq_true_eq] at h
  have h1:=h.2.1
  have h2:=zdw (k:=c.Kind) (f:=if c.Kind=9 then((c.Words.length+1:Nat):Int) - 1 else 0)
  rw [h1] at h2
  exact⟨zdc h.2.2.2,by omega⟩
theorem zbv {m:D.Memory}(h:m.sz≤1048576):(∀ c,c∈m.Cells→c.Data.length≤1048576∧c.Words.length≤1048576)∧m.Redexes.length≤1048576:=by
  unfold D.Memory.sz szL at h
  refine⟨fun c hc=>?_,by omega⟩
  have:=z8p (f:=D.Cell.sz) hc
  have h9:c.sz=c.Data.length+(c.Words.length+0):=rfl
  omega
theorem zde {α:Type}{f:α→Nat}{b:Nat}:∀ {xs:List α},(∀ x,x∈xs→f x≤b)→sumL f xs≤b*xs.length
  | [],_=>by simp [sumL]
  | x::xs,h=>by
    have h1:=h x (by simp)
    have h2:=zde (b:=b) (xs:=xs) fun y hy=>h y (by simp [hy])
    simp only [sumL,List.length_cons,Nat.mul_add]
    omega
theorem zbs {m:D.Memory}{ags:List D.Agent}(ho:okN m []=true) (hs:ags.map shp=(agsN m.Cells).map shp) (hl:ags.length≤600):(⟨ags⟩:D.Net).sz≤1048576:=by
  have e:=zdi hs fun x=>x.2.2.2.1.length+(x.2.2.2.2+0)
  have e2:sumL D.Agent.sz ags=sumL D.Agent.sz (agsN m.Cells):=e
  have hlen:ags.length=(agsN m.Cells).length:=by simpa using congrArg List.length hs
  have h1:sumL D.Agent.sz (agsN m.Cells)≤8*(agsN m.Cells).length:=zde fun a ha=>by
    unfold agsN at ha
    rcases List.mem_cons.1 ha with rfl | ha
    · decide
    · obtain⟨c,hc,rfl⟩:=List.mem_map.1 ha
      obtain⟨hc1,hc2⟩:=List.mem_filter.1 hc
      have:=zaY (List.all_eq_true.1 (z5V ho).1 c hc1) hc2
      unfold newA D.Agent.sz
      simp only [List.length_replicate]
      omega
  unfold D.Net.sz szL
  dsimp only
  omega
theorem z7W {fuel:Nat}{x:D.Memory}(hf:18446744073709551616≤fuel) (_hw:D.Memory.wf x) (hs:x.sz≤1048576):∃ r,z3j fuel x=some r∧z2e fuel x=some r∧r.1.sz≤1048576:=by
  have z0:(⟨[]⟩:D.Net).sz≤1048576:=by decide
  obtain⟨z1,z2⟩:=zbv hs
  unfold z3j z2e
  rw [zdp hf hs,zdq hf hs,Option.bind_some,Option.bind_some]
  cases ho:okN x [] with
  | false=>exact⟨_,rfl,rfl,z0⟩
  | true=>
    obtain⟨ags,h1,h2,h3⟩:=z9H hf ho z1 z2
    simp only [Bool.not_true,Bool.false_eq_true,if_false]
    rw [h2,h3]
    simp only [Option.bind_some]
    by_cases hl:(ags.length:Int)>600
    · rw [if_pos (decide_eq_true hl)];exact⟨_,rfl,rfl,z0⟩
    · rw [if_neg (by simpa using hl)];exact⟨_,rfl,rfl,zbs ho h1 (by omega)⟩
theorem lawUnloadNet {x0:D.Memory}(h0:D.Memory.wf x0):∃ fuel,z1U fuel x0=some true:=by
  obtain⟨fuel,hf⟩:∃ n:Nat,18446744073709551616≤n:=⟨_,Nat.le_refl _⟩
  refine⟨fuel,?_⟩
  unfold z1U
  obtain⟨r0,e0,s0⟩:=z8n (l:=(1048576:Int)) hf h0 (by decide) (by omega)
  rw [e0,Option.bind_some]
  rcases s0 with s0 | ⟨s0,t0⟩
  · rw [if_pos (by simp [s0])]
  rw [if_neg (by simp [s0])]
  have z0:D.Memory.sz x0≤1048576:=by omega
  obtain⟨r,a0,a1,b0⟩:=z7W hf h0 z0
  have m0:=fun {β:Type}(g:_→Option β)=>z6f (g:=g) a0
  have m1:=fun {β:Type}(g:_→Option β)=>z6f (g:=g) a1
  have m2:=fun {β:Type}(g:_→Option β)=>z6f (g:=g) (z8k hf z0)
  have m3:=fun {β:Type}(g:_→Option β)=>z6f (g:=g) (z8D hf z0)
  have m4:=fun {β:Type}(g:_→Option β) (k:Int) (h0:0≤k) (h1:k+(ctMemory x0:Nat)≤2147483648)=>z6f (g:=g) (z7E hf z0 h0 h1)
  have c0:=z9X (x:=x0)
  have m5:=fun {β:Type}(g:_→Option β)=>z6f (g:=g) (zaM hf b0)
  have m6:=fun {β:Type}(g:_→Option β) (k:Int) (h0:0≤k) (h1:k+(ctNet r.1:Nat)≤2147483648)=>z6f (g:=g) (z9h hf b0 h0 h1)
  have m7:=fun {β:Type}(g:_→Option β) (k:Int) (h0:0≤k) (h1:k+(ctNet r.1:Nat)≤2147483648)=>z6f (g:=g) (z9k hf b0 h0 h1)
  have d0:=zdb (x:=r.1)
  simp (disch:=omega) only [↓reduceIte,↓m0,↓m1,↓m2,↓m3,↓m4,↓m5,↓m6,↓m7,lt_f,Bool.not_true,Bool.false_eq_true,bne_self_eq_false,z6z]
  simp (disch:=omega) only [↓reduceIte,↓z13,↓m0,↓m1,↓m2,↓m3,↓m4,↓m5,↓m6,↓m7,lt_f,Bool.not_true,Bool.false_eq_true,bne_self_eq_false,z6z]
  simp (disch:=omega) only [↓reduceIte,↓zH,↓m0,↓m1,↓m2,↓m3,↓m4,↓m5,↓m6,↓m7,lt_f,Bool.not_true,Bool.false_eq_true,bne_self_eq_false,z6z]
  simp (disch:=omega) only [↓reduceIte,↓z12,↓m0,↓m1,↓m2,↓m3,↓m4,↓m5,↓m6,↓m7,lt_f,Bool.not_true,Bool.false_eq_true,bne_self_eq_false,z6z]

end Go.E


namespace Go.Proofs.YtijgffjimnbcpaaGreat.lawUnloadNet
open Go.ChangeShapes Go.WideShapes Go.ChangeAt Go.RowKit Go.E
set_option linter.unusedVariables false

theorem own:ownKnob Tryz.prog.godebug=none:=by kernel_rfl
theorem laidOut:laidOutB Tryz.prog=true:=by kernel_rfl

set_option maxRecDepth 100000 in
theorem lifted (os:Os) (started:os.Started) (H:Type) (enc:TypeId × Value→H):
    ReturnsInHanded {} Tryz.checked os 4 .any (Rows.fnExactUnloadNetSpec.pre6 enc Tryz.prog Tryz.f4 Rows.fnExactUnloadNetRow.domain false) (Rows.fnExactUnloadNetSpec.post enc Tryz.prog Tryz.f4 false true false false):=by
  refine returnsInHanded_of_change (C:=Tryz.checked) own started (by kernel_rfl) Tryz.func4
    (ChangeSpec.witness6 (enc:=enc) (C:=Tryz.checked) false ⟨#[],#[.agg #[.slice none 0 0,.int .i64 0,.int .i64 0,.int .i64 0,.slice none 0 0]],[]⟩ 12 (by kernel_rfl) (by kernel_rfl) (by kernel_rfl) (by kernel_rfl)) ?_
  intro W base args ds gs before hval0 hW hcnd _
  have hval:∀ (j:Nat) t v,Tryz.f4.params[j]? = some t→args[j]? = some v→Value.okWide Tryz.prog W .any base t v:=hval0
  have hW':=hW
  obtain⟨p,q,hA0,hV,rfl,hfz,hnd⟩:=hW
  have hA:DataW.TrodAll enc Tryz.prog W 0 (fun _=>true) true Tryz.f4.params.toList args.toList ds p:=hA0
  rw [Tryz.params4] at hA hval
  obtain⟨v0,vs0,d0,ds0,p0,q0,hargs,rfl,rfl,h0,r0⟩:=trodAll_cons hA
  obtain⟨rfl,rfl,rfl⟩:=trodAll_nil r0
  obtain rfl:args = #[v0]:=by cases args;simp_all
  obtain⟨rfl,rfl⟩:=trodVars_none hV
  have k0:=h0
  have lt0:∀ x∈p0,x.block<W.heap.size:=by obtain⟨m,hm⟩:=k0;exact DataW.trod_lt m _ _ _ hm
  obtain⟨c0,x0,rfl,g0,w0⟩:=zaZ Tryz.underlying27 zdm (hval 0 27 v0 rfl rfl) h0
  clear hA0 hval0
  obtain⟨fuel,hm⟩:=lawUnloadNet (x0:=x0) w0
  refine(laws_FnExactUnloadNet_ok (Ext.refl _) g0 hm).mono ?_
  intro e W' hq
  obtain⟨v,rfl,rfl,hS⟩:=Ret.out hq
  have bel:Below W.heap.size W W':=hS.ext
  exact⟨_,rfl,_,_,_,[],_,[],hW',trodAll_mk1 (shut_bool Tryz.underlying4 _),(trodAll_cons_mk (Below.trod laidOut (by kernel_rfl) (of_decide_eq_true (by kernel_rfl)) k0 bel lt0) trodAll_mk0),rfl,bel.frame _,fun h=>by cases h⟩

set_option maxRecDepth 100000 in
theorem j1:(Rows.fnExactUnloadNetRow.wf (OpenSpec.ofChange Rows.fnExactUnloadNetSpec))=true:=by kernel_rfl
set_option maxRecDepth 100000 in
theorem j2:(laidOutB Tryz.prog)=true:=by kernel_rfl
set_option maxRecDepth 100000 in
theorem j3:(mapsRowed Tryz.prog)=true:=by kernel_rfl
set_option maxRecDepth 100000 in
theorem j4:(Tryz.f4.params.all (Tryz.prog.readableRec ·))=true:=by kernel_rfl
set_option maxRecDepth 100000 in
theorem j5:(namedTie Tryz.prog Rows.fnExactUnloadNetRow.named Rows.fnExactUnloadNetSpec.vars)=true:=by kernel_rfl
set_option maxRecDepth 100000 in
theorem j6:((Rows.fnExactUnloadNetRow.stops == []))=true:=by kernel_rfl
set_option maxRecDepth 100000 in
theorem j7:((Tryz.prog.stops == []))=true:=by kernel_rfl
set_option maxRecDepth 100000 in
theorem j8:((Rows.fnExactUnloadNetRow.knobs == []))=true:=by kernel_rfl
set_option maxRecDepth 100000 in
theorem j9:((Tryz.prog.stopKnobs == []))=true:=by kernel_rfl
set_option maxRecDepth 100000 in
theorem j10:((Rows.fnExactUnloadNetRow.inPlace == Tryz.prog.inPlace 4))=true:=by kernel_rfl
set_option maxRecDepth 100000 in
theorem j11:((Rows.fnExactUnloadNetRow.unfollowed == Tryz.prog.unfollowed 4))=true:=by kernel_rfl
set_option maxRecDepth 100000 in
theorem j12:((Rows.fnExactUnloadNetRow.recurses == Tryz.prog.recurses 4))=true:=by kernel_rfl
set_option maxRecDepth 100000 in
theorem j13:((Rows.fnExactUnloadNetRow.named == Tryz.prog.varsNamed 4))=true:=by kernel_rfl
set_option maxRecDepth 100000 in
theorem j14:((Rows.fnExactUnloadNetRow.maps == (Tryz.f4.params.toList++Rows.fnExactUnloadNetSpec.plain.varTypes Tryz.prog).any (Tryz.prog.mapsRec ·)))=true:=by kernel_rfl
set_option maxRecDepth 100000 in
theorem j15:((Rows.fnExactUnloadNetRow.ifaces == (Tryz.f4.params.toList++Rows.fnExactUnloadNetSpec.plain.varTypes Tryz.prog).any (Tryz.prog.ifacesRec ·)))=true:=by kernel_rfl
set_option maxRecDepth 100000 in
theorem j16:((Rows.fnExactUnloadNetRow.mapsOut == Tryz.prog.mapsAmong Tryz.f4.resultTypes.toList))=true:=by kernel_rfl
set_option maxRecDepth 100000 in
theorem j17:((Rows.fnExactUnloadNetRow.loops == (Tryz.f4.params.toList++Rows.fnExactUnloadNetSpec.plain.varTypes Tryz.prog).any (Tryz.prog.loopsFrom ·)))=true:=by kernel_rfl
set_option maxRecDepth 100000 in
theorem j18:((Rows.fnExactUnloadNetRow.wideKeys == (Tryz.f4.params.toList++Rows.fnExactUnloadNetSpec.plain.varTypes Tryz.prog++Tryz.f4.resultTypes.toList).any (Tryz.prog.wideKeysFrom ·)))=true:=by kernel_rfl
set_option maxRecDepth 100000 in
theorem j19:(Rows.fnExactUnloadNetSpec.vars.all (Tryz.prog.varReadable ·))=true:=by kernel_rfl
set_option maxRecDepth 100000 in
theorem j20:(Tryz.f4.resultTypes.all (fun t=>Tryz.prog.readableRec t && decide (t<Tryz.prog.types.size)))=true:=by kernel_rfl
set_option maxRecDepth 100000 in
theorem j21:((Rows.fnExactUnloadNetRow.ifacesOut == Tryz.f4.resultTypes.toList.any (Tryz.prog.ifacesRec ·)))=true:=by kernel_rfl
set_option maxRecDepth 100000 in
theorem j22:((Rows.fnExactUnloadNetRow.loopsOut == Tryz.f4.resultTypes.toList.any (Tryz.prog.loopsFrom ·)))=true:=by kernel_rfl
set_option maxRecDepth 100000 in
theorem j23:((Rows.fnExactUnloadNetRow.plainKeys == Tryz.prog.plainKeys))=true:=by kernel_rfl
set_option maxRecDepth 100000 in
theorem j24:(Rows.fnExactUnloadNetRow.shortTexts.isNone)=true:=by kernel_rfl
set_option maxRecDepth 100000 in
theorem j25:(Tryz.prog.stopsHeard)=true:=by kernel_rfl
set_option maxRecDepth 100000 in
theorem j26:(Tryz.prog.mayEnter)=true:=by kernel_rfl
set_option maxRecDepth 100000 in
theorem j27:((Rows.fnExactUnloadNetRow.lifted == Tryz.prog.liftsFinal))=true:=by kernel_rfl
set_option maxRecDepth 100000 in
theorem j28:((Tryz.prog.make == some Rows.fnExactUnloadNetRow.make))=true:=by kernel_rfl
set_option maxRecDepth 100000 in
theorem j29:((Rows.fnExactUnloadNetRow.kinds == (if Rows.fnExactUnloadNetRow.domain.isEmpty then [] else Tryz.f4.params.toList.map fun t=>match Tryz.prog.underlying t with | some (.int k)=>some k | _=>none)))=true:=by kernel_rfl
set_option maxRecDepth 100000 in
theorem j30:((Rows.fnExactUnloadNetRow.pinned == Rows.fnExactUnloadNetRow.pinnedBy))=true:=by kernel_rfl
set_option maxRecDepth 100000 in
theorem j31:((Rows.fnExactUnloadNetRow.veiled == (Tryz.f4.params.toList++Rows.fnExactUnloadNetSpec.plain.varTypes Tryz.prog++Tryz.f4.resultTypes.toList).any (Tryz.prog.veiledRec ·)))=true:=by kernel_rfl
set_option maxRecDepth 100000 in
theorem j32:(Rows.fnExactUnloadNetRow.veiledFits Tryz.prog Tryz.f4.params.toList (Tryz.f4.params.toList++Rows.fnExactUnloadNetSpec.plain.varTypes Tryz.prog++Tryz.f4.resultTypes.toList))=true:=by kernel_rfl
set_option maxRecDepth 100000 in
theorem closed:joinedFacts Tryz.prog 4 Tryz.f4 Rows.fnExactUnloadNetSpec Rows.fnExactUnloadNetRow=true:=by
  unfold joinedFacts
  simp only [Bool.and_eq_true]
  exact⟨⟨⟨⟨⟨⟨⟨⟨⟨⟨⟨⟨⟨⟨⟨⟨⟨⟨⟨⟨⟨⟨⟨⟨⟨⟨⟨⟨⟨⟨⟨j1,j2⟩,j3⟩,j4⟩,j5⟩,j6⟩,j7⟩,j8⟩,j9⟩,j10⟩,j11⟩,j12⟩,j13⟩,j14⟩,j15⟩,j16⟩,j17⟩,j18⟩,j19⟩,j20⟩,j21⟩,j22⟩,j23⟩,j24⟩,j25⟩,j26⟩,j27⟩,j28⟩,j29⟩,j30⟩,j31⟩,j32⟩
set_option maxRecDepth 100000 in
theorem wraps:Tryz.f4.isWrapper Tryz.prog Rows.fnExactUnloadNetRow.wrapper Rows.fnExactUnloadNetRow.mainSum:=by
  unfold Func.isWrapper;first | (rw [if_pos (by decide +kernel)];kernel_rfl) | (rw [if_neg (by decide +kernel)];exact⟨rfl,rfl⟩)
theorem instd:Tryz.f4.isInstance Tryz.prog Rows.fnExactUnloadNetRow.origin Rows.fnExactUnloadNetRow.targs:=of_decide_eq_true (by kernel_rfl)

set_option maxRecDepth 100000 in
theorem over:Rows.fnExactUnloadNetRow.holds Tryz.pinned (OpenSpec.ofChange Rows.fnExactUnloadNetSpec):=
  OpenClaim.holds_of_wide 4 Tryz.f4 rfl rfl rfl rfl rfl rfl rfl ⟨rfl,rfl,rfl,rfl,rfl⟩ rfl rfl rfl rfl rfl (by kernel_rfl) Tryz.func4 closed instd wraps
    (fun os started H enc _=>lifted os started H enc)

theorem proved:Rows.FnExactUnloadNetSaid:=over
#print axioms proved
end Go.Proofs.YtijgffjimnbcpaaGreat.lawUnloadNet

