/- CellsToStep: the statement FnExactCellsToStepSaid (program and reference agree), from the walk and the plain law; the lemmas that it rests on stand ahead of it, each with its own conditions. Conditions of the claim: none. -/
import Derived.Test.YtijgffjimnbcpaaGreatOkMemorye
import Derived.Test.YtijgffjimnbcpaaGreatHSb
import Derived.Test.YtijgffjimnbcpaaGreatMixed
import Derived.Test.YtijgffjimnbcpaaGreatFA
import Derived.Test.YtijgffjimnbcpaaGreatFN
import Derived.Test.YtijgffjimnbcpaaGreatFV
import Derived.Test.YtijgffjimnbcpaaGreatFVb
import Derived.Test.YtijgffjimnbcpaaGreatHS
import Derived.Test.YtijgffjimnbcpaaGreatRows
import Derived.WalkKit
import Derived.ProofKit
import Derived.OpenShut
import Derived.ShutString
import Derived.ChangeOld
import Derived.Below
import Derived.Carry
namespace Go.E
open Go.RowKit Go.Proofs
set_option linter.unusedSimpArgs false
set_option linter.unusedVariables false

def consN (k:Int):Bool:=k == 3 || k == 7 || k == 8 || k == 10 || k == 11
theorem zfi {fuel:Nat}{k:Int}:z3K fuel k=some (consN k):=by
  unfold z3K z25 z26 z27 z28 consN
  by_cases h3:k=3
  · simp [h3]
  by_cases h7:k=7
  · simp [h7]
  by_cases h8:k=8
  · simp [h8]
  by_cases d:k=10
  · simp [d]
  by_cases h:k=11<;>simp [h3,h7,h8,d,h]
theorem zc8 {fuel:Nat}{k:Int}:z3U fuel k=some (consN k):=by
  unfold z3U consN
  by_cases h3:k=3
  · simp [h3]
  by_cases h7:k=7
  · simp [h7]
  by_cases h8:k=8
  · simp [h8]
  by_cases d:k=10
  · simp [d]
  by_cases h:k=11<;>simp [h3,h7,h8,d,h]
def dupN (f k l:Int):Bool:=decide (0≤f∧f≤8) && (allowN k l && (k == 6 || k == 12 || (levelN k && decide (l>f))))
theorem zgq {fuel:Nat}{f k l:Int}:z3M fuel f k l=some (dupN f k l):=by
  unfold z3M z2a z29 dupN
  simp only [z2p,z7Y,zaj,Option.bind_some]
  by_cases hf:0≤f∧f≤8
  · simp only [decide_eq_true hf]
    cases allowN k l with
    | false=>rfl
    | true=>
      by_cases h6:k=6
      · simp [h6]
      by_cases d:k=12
      · simp [d]
      cases levelN k<;>simp [h6,d]
  · simp only [decide_eq_false hf];rfl
theorem zcT {fuel:Nat}{f k l:Int}:z3V fuel f k l=some (dupN f k l):=by
  have hL:z2r fuel f=some (decide (0≤f∧f≤8)):=by
    unfold z2r
    by_cases h1:0≤f
    · rw [if_pos (decide_eq_true (by omega))];simp [h1]
    · rw [if_neg (by simp;omega)];simp [h1]
  unfold z3V z2m dupN
  simp only [hL,z8W,z8P,Option.bind_some]
  by_cases hf:0≤f∧f≤8
  · simp only [decide_eq_true hf]
    cases allowN k l with
    | false=>rfl
    | true=>
      by_cases h6:k=6
      · simp [h6]
      by_cases d:k=12
      · simp [d]
      cases levelN k<;>simp [h6,d]
  · simp only [decide_eq_false hf];rfl

def ruleN (a la b lb:Int):Int:=
  if a=5 then 4 else if a=4 then(if b=4∧la=lb then 2 else if dupN la b lb=true then 3 else 0) else
  if a=2 then(if b=3∧la=lb then 1 else 0) else if a=6 then(if b=7∨b=8 then 5 else if b=11 then 6 else 0) else
  if a=9 then(if b=10 then 6 else 0) else if a=12 then(if consN b=true then 7 else 0) else 0
theorem zbt {fuel:Nat}{a la b lb:Int}:z3j fuel a la b lb=some (ruleN a la b lb):=by
  unfold z3j z2B z2A z2z ruleN
  simp only [zcT,zc8,Option.bind_some]
  by_cases h5:a=5
  · simp [h5]
  by_cases h4:a=4
  · subst h4
    by_cases hb:b=4<;>by_cases hl:la=lb<;>cases dupN la b lb<;>simp [hb,hl]
  by_cases h2:a=2
  · subst h2
    by_cases hb:b=3<;>by_cases hl:la=lb<;>simp [hb,hl]
  by_cases h6:a=6
  · subst h6
    by_cases hb:b=7
    · simp [hb]
    by_cases hc:b=8
    · simp [hc]
    by_cases hd:b=11<;>simp [hb,hc,hd]
  by_cases h9:a=9
  · subst h9
    by_cases hb:b=10<;>simp [hb]
  by_cases d:a=12
  · subst d
    cases consN b<;>simp
  simp [h5,h4,h2,h6,h9,d]
theorem zbs {fuel:Nat}{a la b lb:Int}:z2q fuel a la b lb=some (ruleN a la b lb):=by
  rw [← zbt (fuel:=fuel)]
  unfold z2q z3j z3A z3z z3y z2B z2A z2z
  simp only [zcT,zc8,zgq,zfi,Option.bind_some]
theorem zcG {a la b lb:Int}(hb:b=10):ruleN a la b lb=6↔a=9:=by
  subst hb
  constructor
  · intro h
    unfold ruleN at h
    by_cases h9:a=9
    · exact h9
    · by_cases h5:a=5
      · simp [h5] at h
      by_cases h4:a=4
      · subst h4
        simp at h
        split at h<;>simp at h
      by_cases h2:a=2
      · simp [h2] at h
      by_cases h6:a=6
      · simp [h6] at h
      by_cases d:a=12
      · subst d
        simp [consN] at h
      simp [h5,h4,h2,h6,h9,d] at h
  · rintro rfl;unfold ruleN;simp
theorem zfw {la b lb:Int}:ruleN 10 la b lb=0:=by unfold ruleN;simp


def classN (a b:D.Agent):Int:=
  if(a.Kind=9∧b.Kind=10∧a.Value≥(b.Data.length:Int))∨(a.Kind=10∧b.Kind=9∧b.Value≥(a.Data.length:Int)) then 8 else
  if ruleN a.Kind a.Level b.Kind b.Level=0 then(if ruleN b.Kind b.Level a.Kind a.Level=0 then 8 else ruleN b.Kind b.Level a.Kind a.Level) else ruleN a.Kind a.Level b.Kind b.Level
theorem zdv {fuel:Nat}{a b:D.Agent}(ha:allowN a.Kind a.Level=true) (hb:allowN b.Kind b.Level=true) (h1:a.Kind≠1) (h2:b.Kind≠1):z4B fuel a b=some (classN a b):=by
  have hP:z4a fuel a.Kind a.Level b.Kind b.Level=some (if ruleN a.Kind a.Level b.Kind b.Level=0 then(if ruleN b.Kind b.Level a.Kind a.Level=0 then 8 else ruleN b.Kind b.Level a.Kind a.Level) else ruleN a.Kind a.Level b.Kind b.Level):=by
    unfold z4a z4g z2F
    simp only [z7Y,ha,hb,zbs,Option.bind_some]
    by_cases r1:ruleN a.Kind a.Level b.Kind b.Level=0
    · by_cases r2:ruleN b.Kind b.Level a.Kind a.Level=0<;>simp [r1,r2,h1,h2]
    · simp [r1,h1,h2]
  unfold z4B z1U z1T classN
  rw [hP]
  by_cases a9:a.Kind=9
  · by_cases h:b.Kind=10
    · by_cases hv:a.Value≥(b.Data.length:Int)<;>simp [a9,h,hv]
    · simp [a9,h]
  · by_cases d:a.Kind=10
    · by_cases b9:b.Kind=9
      · by_cases hv:b.Value≥(a.Data.length:Int)<;>simp [d,b9,hv]
      · simp [d,b9]
    · simp [a9,d]

def firstN (a b:D.Agent):Int:=if ruleN a.Kind a.Level b.Kind b.Level=0 then(if ruleN b.Kind b.Level a.Kind a.Level=0 then 0 else 2) else 1
theorem zdr {fuel:Nat}{a b:D.Agent}(ha:allowN a.Kind a.Level=true) (hb:allowN b.Kind b.Level=true) (h1:a.Kind≠1) (h2:b.Kind≠1):z3a fuel a.Kind a.Level b.Kind b.Level=some (firstN a b):=by
  unfold z3a z4g firstN
  simp only [z7Y,ha,hb,zbs,Option.bind_some]
  by_cases r1:ruleN a.Kind a.Level b.Kind b.Level=0
  · by_cases r2:ruleN b.Kind b.Level a.Kind a.Level=0<;>simp [r1,r2,h1,h2]
  · simp [r1,h1,h2]
theorem zdx {fuel:Nat}{a b:D.Agent}(ha:allowN a.Kind a.Level=true) (hb:allowN b.Kind b.Level=true) (h1:a.Kind≠1) (h2:b.Kind≠1):
    ∃ s:Bool,z1t fuel ⟨[a,b]⟩ ⟨0,1⟩=some (classN a b,s)∧(classN a b≠8→s=decide (firstN a b=2)):=by
  have hP:z3d fuel a.Kind a.Level b.Kind b.Level=some (if ruleN a.Kind a.Level b.Kind b.Level≠0 then(ruleN a.Kind a.Level b.Kind b.Level,1) else if ruleN b.Kind b.Level a.Kind a.Level≠0 then(ruleN b.Kind b.Level a.Kind a.Level,2) else(8,0)):=by
    unfold z3d z20
    simp only [z8W,ha,hb,zbt,Option.bind_some]
    by_cases r1:ruleN a.Kind a.Level b.Kind b.Level=0
    · by_cases r2:ruleN b.Kind b.Level a.Kind a.Level=0<;>simp [r1,r2,h1,h2]
    · simp [r1,h1,h2]
  unfold z1t
  rw [show idx [a,b] 0=some a from rfl,Option.bind_some,show idx [a,b] 1=some b from rfl,Option.bind_some]
  unfold z3g
  dsimp only
  have h6a:=@zcG a.Kind a.Level b.Kind b.Level
  have h6b:=@zcG b.Kind b.Level a.Kind a.Level
  by_cases r1:ruleN a.Kind a.Level b.Kind b.Level=0
  · have o:¬ (a.Kind=9∧b.Kind=10∧a.Value≥(b.Data.length:Int)):=fun h=>by
      have:=(h6a h.2.1).2 h.1
      omega
    by_cases r2:ruleN b.Kind b.Level a.Kind a.Level=0
    · have hQ:z3d fuel a.Kind a.Level b.Kind b.Level=some (8,0):=by rw [hP];simp [r1,r2]
      have d:¬ (a.Kind=10∧b.Kind=9∧b.Value≥(a.Data.length:Int)):=fun h=>by
        have:=(h6b h.1).2 h.2.1
        omega
      have hc:classN a b=8:=by
        unfold classN
        rw [if_neg (fun h=>h.elim o d),if_pos r1,if_pos r2]
      rw [hQ,Option.bind_some,hc]
      exact⟨_,rfl,fun h=>absurd rfl h⟩
    · have hQ:z3d fuel a.Kind a.Level b.Kind b.Level=some (ruleN b.Kind b.Level a.Kind a.Level,2):=by rw [hP];simp [r1,r2]
      rw [hQ,Option.bind_some]
      have hF:decide (firstN a b=2)=true:=by unfold firstN;rw [if_pos r1,if_neg r2];rfl
      generalize hg:ruleN b.Kind b.Level a.Kind a.Level=g at *
      have hc:classN a b=if a.Kind=10∧b.Kind=9∧b.Value≥(a.Data.length:Int) then 8 else g:=by
        unfold classN
        by_cases d:a.Kind=10∧b.Kind=9∧b.Value≥(a.Data.length:Int)
        · rw [if_pos (.inr d),if_pos d]
        · rw [if_neg (fun h=>h.elim o d),if_pos r1,hg,if_neg r2,if_neg d]
      rw [hc]
      unfold z1n z17
      dsimp only
      by_cases u:a.Kind=10
      · by_cases b9:b.Kind=9
        · have h7:=(h6b u).2 b9
          by_cases hv:b.Value≥(a.Data.length:Int)<;>simp [hF,h7,u,b9,hv]
        · have h7:¬ g=6:=fun h=>b9 ((h6b u).1 h)
          simp [hF,h7,b9]
      · by_cases h7:g=6<;>simp [hF,h7,u]
  · have d:¬ (a.Kind=10∧b.Kind=9∧b.Value≥(a.Data.length:Int)):=fun h=>r1 (by rw [h.1];exact zfw)
    have hQ:z3d fuel a.Kind a.Level b.Kind b.Level=some (ruleN a.Kind a.Level b.Kind b.Level,1):=by rw [hP];simp [r1]
    rw [hQ,Option.bind_some]
    have hF:decide (firstN a b=2)=false:=by unfold firstN;rw [if_neg r1];rfl
    generalize hg:ruleN a.Kind a.Level b.Kind b.Level=g at *
    have hc:classN a b=if a.Kind=9∧b.Kind=10∧a.Value≥(b.Data.length:Int) then 8 else g:=by
      unfold classN
      by_cases o:a.Kind=9∧b.Kind=10∧a.Value≥(b.Data.length:Int)
      · rw [if_pos (.inl o),if_pos o]
      · rw [if_neg (fun h=>h.elim o d),hg,if_neg r1,if_neg o]
    rw [hc]
    unfold z1n z17
    dsimp only
    by_cases y:b.Kind=10
    · by_cases a9:a.Kind=9
      · have h7:=(h6a y).2 a9
        by_cases hv:a.Value≥(b.Data.length:Int)<;>simp [hF,h7,y,a9,hv]
      · have h7:¬ g=6:=fun h=>a9 ((h6a y).1 h)
        simp [hF,h7,a9]
    · by_cases h7:g=6<;>simp [hF,h7,y]
theorem zdw {a b a' b':D.Agent}(h1:a.Kind=a'.Kind∧a.Level=a'.Level∧a.Value=a'.Value∧a.Data=a'.Data) (h2:b.Kind=b'.Kind∧b.Level=b'.Level∧b.Value=b'.Value∧b.Data=b'.Data):classN a b=classN a' b':=by
  unfold classN
  rw [h1.1,h1.2.1,h1.2.2.1,h1.2.2.2,h2.1,h2.2.1,h2.2.2.1,h2.2.2.2]
theorem zcX {m:D.Memory}{i:Int}(hc:m.Cells.all cellN=true) (h:agentAt m i=true):∃ c,idx m.Cells i=some c∧c∈m.Cells∧allowN c.Kind c.Level=true∧c.Kind≠1∧contentN c.Kind c.Value c.Data=true:=by
  obtain⟨_,_,c,h1,h2,h3,h4⟩:=z42 h
  have hm:=List.mem_of_getElem? h1
  have:=List.all_eq_true.1 hc c hm
  have hk:2≤c.Kind∧c.Kind≤12:=by unfold agentKind at h3;simpa using h3
  unfold cellN at this
  rw [if_neg h4,if_neg (by omega),h3,Bool.true_and] at this
  unfold agentN at this
  rw [Bool.and_eq_true,Bool.and_eq_true] at this
  exact⟨c,h2,hm,this.2.1,by omega,this.2.2⟩
theorem zaf {a la b lb:Int}(h:ruleN a la b lb=7):a=12:=by
  unfold ruleN at h
  by_cases d:a=12
  · exact d
  exfalso
  by_cases h5:a=5
  · simp [h5] at h
  by_cases h4:a=4
  · subst h4
    simp at h
    split at h
    · simp at h
    · split at h<;>simp at h
  by_cases h2:a=2
  · subst h2
    simp at h
    split at h<;>simp at h
  by_cases h6:a=6
  · subst h6
    simp at h
    split at h
    · simp at h
    · split at h<;>simp at h
  by_cases h9:a=9
  · subst h9
    simp at h
    split at h<;>simp at h
  simp [h5,h4,h2,h6,h9,d] at h
theorem zcw {a b:D.Agent}(h:classN a b=7):if firstN a b=2 then b.Kind=12 else a.Kind=12:=by
  unfold classN at h
  unfold firstN
  split at h
  · exact absurd h (by decide)
  · split at h
    · rename_i r1
      rw [if_pos r1]
      split at h
      · exact absurd h (by decide)
      · rename_i r2
        rw [if_neg r2,if_pos rfl]
        exact zaf h
    · rename_i r1
      rw [if_neg r1,if_neg (by decide)]
      exact zaf h
end Go.E


namespace Go.E
open Go.RowKit Go.Proofs
set_option linter.unusedSimpArgs false
set_option linter.unusedVariables false

def bookN (b:List D.Net):Bool:=decide (b.length≤24) && b.all netN
theorem zfm {fuel:Nat}{b:List D.Net}(hf:18446744073709551616≤fuel) (hs:szL D.Net.sz b≤1048576):z5d fuel b=some (bookN b):=by
  have hm:maxLen=9223372036854775807:=rfl
  have hl:b.length≤1048576:=by unfold szL at hs;omega
  unfold z5d bookN
  by_cases d:b.length≤24
  · rw [if_neg (by simp;omega),decide_eq_true d,Bool.true_and]
    have h:=allLoop (xs:=b) (body:=z3w fuel b) (p:=fun _ n=>netN n) (t:=()) (v:=false) (fuel:=fuel) (by omega) hf (fun i x hi hx=>by
      have z:=z5N hs (List.mem_of_getElem? hx)
      obtain⟨z1,z2,z3⟩:=z90 z
      unfold z3w
      rw [if_pos (by simpa using hi),zL hx,Option.bind_some,zfH hf z1 z3,Option.bind_some]
      cases netN x<;>simp) (by unfold z3w;rw [if_neg (by simp)])
    rw [zgN] at h
    rw [h]
    cases b.all netN<;>simp [aft,z6e]
  · rw [if_pos (by simp;omega),decide_eq_false d,Bool.false_and]
theorem zc7 {fuel:Nat}{p:D.Net→Bool}{f:D.Net→Option Bool}{xs:List D.Net}(hf:18446744073709551616≤fuel) (hl:xs.length≤maxLen) (h:∀ n,n∈xs→f n=some (p n)):
    zk fuel xs f=some (xs.any p):=by
  unfold zk zM
  obtain⟨r,h1,h2⟩:=askIndex (xs:=xs) (p:=p) (body:=zj fuel xs f) (j:=z16 fuel) (t:=()) hl hf rfl (fun i x hi hx=>by
    simp only [zj,zL hx,h x (List.mem_of_getElem? hx),lt_t (show(i:Int)<xs.length by omega),if_true,Option.bind_some]) (by simp [zj])
  rw [h1,Option.bind_some,h2]
theorem zfn {fuel:Nat}{b:List D.Net}(hf:18446744073709551616≤fuel) (hs:szL D.Net.sz b≤1048576):z1P fuel b=some (bookN b):=by
  have hm:maxLen=9223372036854775807:=rfl
  have hl:b.length≤1048576:=by unfold szL at hs;omega
  unfold z1P bookN
  by_cases d:b.length≤24
  · rw [if_pos (by simp;omega),decide_eq_true d,Bool.true_and,zc7 (p:=fun n=>!netN n) hf (by omega) (fun n hn=>by
      have z:=z5N hs hn
      obtain⟨z1,z2,z3⟩:=z90 z
      unfold z1X
      rw [zfJ hf z1 z2 z3,Option.bind_some]),Option.bind_some,z88]
    simp
  · rw [if_neg (by simp;omega),decide_eq_false d,Bool.false_and]
theorem z9M {n:D.Net}(hn:netN n=true){a:D.Agent}(ha:a∈n.Agents):allowN a.Kind a.Level=true:=by
  unfold netN agentsN at hn
  rw [Bool.and_eq_true,Bool.and_eq_true] at hn
  obtain⟨i,hi⟩:=List.getElem?_of_mem ha
  have h2:=(z9j (xs:=n.Agents) (p:=fun i a=>agN a && ((a.Kind == 1) == (i == 0)))).1 hn.1.2 _ _ hi
  rw [Bool.and_eq_true] at h2
  have h3:=h2.1
  unfold agN agentN at h3
  rw [Bool.and_eq_true,Bool.and_eq_true,Bool.and_eq_true] at h3
  exact h3.2.2.1
theorem z9h {k l:Int}(h:allowN k l=true):0≤l∧l≤8:=by
  unfold allowN at h
  simp only [Bool.and_eq_true,Bool.or_eq_true,decide_eq_true_eq] at h
  omega

def highN (t:D.Net):Int:=t.Agents.foldl (fun s a=>if s>a.Level then s else a.Level) 0
theorem z9S:∀ (xs:List D.Agent) (s l:Int),xs.foldl (fun s a=>if s>a.Level then s else a.Level) s+l≤8↔s+l≤8∧∀ a,a∈xs→a.Level+l≤8
  | [],s,l=>by simp
  | a::xs,s,l=>by
    simp only [List.foldl_cons,List.mem_cons,forall_eq_or_imp]
    rw [z9S xs]
    by_cases h:s>a.Level
    · rw [if_pos h]
      constructor
      · rintro⟨h1,h2⟩;exact⟨h1,by omega,h2⟩
      · rintro⟨h1,h2,h3⟩;exact⟨h1,h3⟩
    · rw [if_neg h]
      constructor
      · rintro⟨h1,h2⟩;exact⟨by omega,h1,h2⟩
      · rintro⟨h1,h2,h3⟩;exact⟨h2,h3⟩
theorem ze2:∀ (xs:List D.Agent) (s:Int),s≤xs.foldl (fun s a=>if s>a.Level then s else a.Level) s
  | [],s=>by simp
  | a::xs,s=>by
    rw [List.foldl_cons]
    have:=ze2 xs (if s>a.Level then s else a.Level)
    have h2:s≤if s>a.Level then s else a.Level:=by split<;>omega
    omega
theorem zgH {t:D.Net}(hn:netN t=true):0≤highN t∧highN t≤8:=by
  refine⟨ze2 _ _,?_⟩
  have:=(z9S t.Agents 0 0).2 ⟨by omega,fun a ha=>by have:=z9h (z9M hn ha);omega⟩
  unfold highN
  omega
def upOk (l:Int) (a:D.Agent):Bool:=!levelN a.Kind || decide (a.Level+l≤8)
theorem zgG {t:D.Net}{l:Int}(hn:netN t=true) (h0:0≤l) (h8:l≤8):t.Agents.all (upOk l)=decide (highN t+l≤8):=by
  have h:=z9S t.Agents 0 l
  by_cases ha:∀ a,a∈t.Agents→a.Level+l≤8
  · have h9:highN t+l≤8:=h.2 ⟨by omega,ha⟩
    rw [decide_eq_true h9,List.all_eq_true.2 fun a hm=>by
      unfold upOk
      rw [decide_eq_true (ha a hm),Bool.or_true]]
  · have h9:¬ highN t+l≤8:=fun h1=>ha (h.1 h1).2
    rw [decide_eq_false h9]
    obtain⟨a,hm,hl⟩:∃ a,a∈t.Agents∧¬ a.Level+l≤8:=by
      apply Classical.byContradiction
      intro hc
      exact ha fun a hm=>Classical.byContradiction fun h1=>hc ⟨a,hm,h1⟩
    rw [List.all_eq_false]
    refine⟨a,hm,?_⟩
    have h1:=z9M hn hm
    unfold allowN at h1
    simp only [Bool.and_eq_true,Bool.or_eq_true,decide_eq_true_eq] at h1
    unfold upOk
    have h2:levelN a.Kind=true:=by
      rcases h1.2 with h3 | h3
      · omega
      · exact h3.1
    rw [h2,decide_eq_false hl]
    simp
theorem ze1 {t:D.Net}{fuel:Nat}(hf:18446744073709551616≤fuel) (hl:t.Agents.length≤1048576):z3v fuel t=some (highN t):=by
  have hm:maxLen=9223372036854775807:=rfl
  unfold z3v
  have h:=foldLoop (xs:=t.Agents) (body:=z23 fuel t) (mk:=fun i s=>(s,i)) (out:=fun s=>s) (g:=fun s a=>if s>a.Level then s else a.Level) (p:=fun _=>true) (J:=fun _ _=>True) (v:=(0:Int)) (s0:=0) (fuel:=fuel) (by omega) hf trivial (fun _ _ _ _ _ _=>trivial) (fun i s x hi hx _=>by
    unfold z23 z6v
    dsimp only
    rw [if_pos (by simpa using hi),zL hx,Option.bind_some,if_pos rfl]
    by_cases hc:s>x.Level
    · rw [if_pos (decide_eq_true hc),Option.bind_some,if_pos hc]
    · rw [if_neg (by simpa using hc),Option.bind_some,if_neg hc]) (fun s _=>by unfold z23;rw [if_neg (by simp)])
  rw [h.1,List.all_eq_true.2 (fun _ _=>rfl),if_pos rfl]
  simp [aft,z56,highN]
theorem zbm {t:D.Net}{l:Int}{fuel:Nat}(hf:18446744073709551616≤fuel) (hs:t.sz≤1048576) (hn:netN t=true) (h0:0≤l) (h8:l≤8):∃ n,z5v fuel t l=some (n,decide (highN t+l≤8)):=by
  have hm:maxLen=9223372036854775807:=rfl
  have hl:=(z90 hs).1
  rw [← zgG hn h0 h8]
  unfold z5v
  rw [zgr hf hs,Option.bind_some]
  obtain⟨o,h1,h2⟩:=z2C (body:=z3R fuel l t) (fun i s=>s.1=(i:Int)∧s.2.length=t.Agents.length∧(∀ j,i≤j→s.2[j]? = t.Agents[j]?)∧(t.Agents.take i).all (upOk l)=true) t.Agents.length
    (fun o=>(∃ xs,o=.inl xs∧t.Agents.all (upOk l)=true)∨(∃ n,o=.inr (n,false)∧t.Agents.all (upOk l)=false)) (by
    rintro i ⟨a,s⟩ hi ⟨g1,g2,g3,g4⟩
    dsimp only at g1 g2 g3
    subst g1
    obtain⟨x,hx⟩:=z5H hi
    have ha:=z9h (z9M hn (List.mem_of_getElem? hx))
    have hsx:s[i]? = some x:=by rw [g3 i (Nat.le_refl _),hx]
    have hup:upOk l x=true→(t.Agents.take (i+1)).all (upOk l)=true:=fun h=>by
      rw [List.take_add_one,hx]
      simp [g4,h]
    unfold z3R z3Q
    dsimp only
    rw [if_pos (by simpa using hi),zL hsx,Option.bind_some,z8P,Option.bind_some]
    rw [zo (n:=x.Level+l) (by omega) (by omega)]
    cases hv:levelN x.Kind with
    | false=>
      refine .inl ⟨(w64 (i+1),s),if_pos rfl,?_,g2,fun j hj=>g3 j (by omega),hup (by unfold upOk;rw [hv];rfl)⟩
      dsimp only
      rw [zo (by omega) (by omega)];simp
    | true=>
      rw [if_neg (by simp)]
      by_cases h:x.Level+l>8
      · refine .inr (.inl ⟨_,if_pos (decide_eq_true h),.inr ⟨_,rfl,?_⟩⟩)
        rw [List.all_eq_false]
        exact⟨x,List.mem_of_getElem? hx,by unfold upOk;rw [hv];simp;omega⟩
      · refine .inl ⟨_,if_neg (by simpa using h),?_,by simpa using g2,fun j hj=>?_,hup (by unfold upOk;rw [hv];simp;omega)⟩
        · dsimp only
          rw [zo (by omega) (by omega)];simp
        · dsimp only
          rw [List.getElem?_set_ne (by omega)]
          exact g3 j (by omega)) (by
    rintro⟨a,s⟩ ⟨g1,g2,g3,g4⟩
    dsimp only at g1 g2
    subst g1
    rw [List.take_length] at g4
    refine .inr ⟨_,by unfold z3R;rw [if_neg (by simp)],.inl ⟨_,rfl,g4⟩⟩) (fuel:=fuel) (i:=0) (s:=(0,t.Agents)) (Nat.zero_le _) (by omega) ⟨rfl,rfl,fun _ _=>rfl,rfl⟩
  rw [h1,Option.bind_some]
  rcases h2 with⟨xs,rfl,h3⟩ | ⟨n,rfl,h3⟩
  · rw [h3];exact⟨_,rfl⟩
  · rw [h3];exact⟨_,rfl⟩

def varI (w:D.Wire):Nat:=if w.A.Slot>0∧w.B.Slot>0 then 1 else 0
def inP (n:D.Net) (p:D.Port):List D.Wire:=match portAt n p with
  | some q=>if befN p q=true∧p.Slot>0∧q.Slot>0 then [⟨p,q⟩] else []
  | none=>[]
theorem zgF {n:D.Net}{p:D.Port}:(inP n p).length=sumL varI (wireAt n p):=by
  unfold inP wireAt
  cases portAt n p with
  | none=>rfl
  | some q=>
    dsimp only
    by_cases hb:befN p q=true
    · rw [if_pos hb]
      simp only [sumL,varI,Nat.add_zero]
      by_cases h1:p.Slot>0∧q.Slot>0
      · rw [if_pos ⟨hb,h1⟩,if_pos h1];rfl
      · rw [if_neg (fun h=>h1 h.2),if_neg h1];rfl
    · rw [if_neg hb,if_neg (fun h=>hb h.1)];rfl
theorem ze0 {n:D.Net}{p:D.Port}:(inP n p).length≤1:=by
  unfold inP
  cases portAt n p with
  | none=>exact Nat.zero_le _
  | some q=>dsimp only;split<;>simp
theorem zcD {α β:Type}{g:α→List β}:∀ (xs:List α) (k:Nat),((xs.zipIdx k).flatMap fun x=>g x.1)=xs.flatMap g
  | [],k=>rfl
  | x::xs,k=>by rw [List.zipIdx_cons,List.flatMap_cons,List.flatMap_cons,zcD xs]
theorem zcP {α β:Type}{g:α→List β}:∀ (xs:List α),(xs.flatMap g).length=sumL (fun x=>(g x).length) xs
  | []=>rfl
  | x::xs=>by rw [List.flatMap_cons,List.length_append,zcP xs];rfl
def innerN (t:D.Net):Nat:=sumL varI (wiresL t)
theorem zak {t:D.Net}:((portsL t).flatMap (inP t)).length=innerN t:=by
  unfold innerN wiresL
  rw [z8Y,zcP]
  exact zbj fun p _=>zgF
theorem zcM {t:D.Net}(hs:t.sz≤1048576):innerN t≤1048576:=by
  obtain⟨z1,z2,z3⟩:=z90 hs
  have:=z7X (g:=inP t) (fun p=>ze0) (portsL t)
  rw [z7U,zak] at this
  omega
theorem zdn {x:D.Net}{fuel:Nat}(hf:18446744073709551616≤fuel) (hs:x.sz≤1048576):z5b fuel x false=some ((innerN x:Nat):Int):=by
  obtain⟨z1,z2,z3⟩:=z90 hs
  have hm:maxLen=9223372036854775807:=rfl
  have hbd:=zcM hs
  unfold innerN at hbd ⊢
  have hw1:(wiresL x).length≤1048576:=by
    have:=z7X (g:=wireAt x) (fun p=>zar) (portsL x)
    rw [z7U] at this
    exact Nat.le_trans this z2
  unfold z5b
  have h:=sumLoop (xs:=wiresL x) (body:=z3t fuel false (wiresL x)) (mk:=fun i c=>(c,i)) (out:=fun c=>c) (f:=varI) (c0:=0) hw1 hf (fun i w hw=>by
    have hil:=(List.getElem?_eq_some_iff.1 hw).1
    have hle:=zbh (f:=varI) (xs:=wiresL x) i
    have hc0:0≤(0:Int)+(sumL varI ((wiresL x).take i):Nat)∧(0:Int)+(sumL varI ((wiresL x).take i):Nat)≤1048576:=by omega
    generalize ((0:Int)+(sumL varI ((wiresL x).take i):Nat))=c at *
    unfold z3t
    simp only [zL hw,Option.bind_some]
    rw [if_pos (by simpa using hil)]
    unfold z1H z3s varI
    by_cases h1:w.B.Slot>0
    · by_cases h2:w.A.Slot>0
      · simp [h1,h2,zo (show -9223372036854775808≤c+1 by omega) (by omega)]
      · by_cases h3:w.A.Agent=0
        · simp [h1,h2,h3]
        · simp [h1,h2,h3]
    · simp [h1]) (fun c=>by unfold z3t;rw [if_neg (by simp)])
  rw [zd0 hf z1 z2,Option.bind_some,h]
  simp [aft,z6d]
theorem zfz {n:D.Net}{p:D.Port}(h:p∈portsL n):hasN n.Agents p=true:=by
  obtain⟨i,a,k,h1,h2,rfl⟩:=z8r.1 h
  exact zgK.2 ⟨by simp [prt],by simp [prt],a,by simpa [prt] using h1,by simpa [prt] using h2⟩
theorem zdo {x:D.Net}{fuel:Nat}(hf:18446744073709551616≤fuel) (hs:x.sz≤1048576):∃ ws,z3S fuel x=some ws∧ws.length=innerN x:=by
  obtain⟨z1,z2,z3⟩:=z90 hs
  have hm:maxLen=9223372036854775807:=rfl
  have hpl:(portsL x).length≤1048576:=by rw [z7U];exact z2
  unfold z3S
  have h:=zipLoop (xs:=portsL x) (body:=z2j fuel x (portsL x)) (mk:=fun i s=>(s,i)) (out:=fun s=>s) (g:=fun _ p=>inP x p) (s0:=[]) hpl hf (fun i p hp=>by
    have hil:=(List.getElem?_eq_some_iff.1 hp).1
    have hph:=zfz (List.mem_of_getElem? hp)
    obtain⟨q,hq⟩:=zfL hph
    have hlen:(((portsL x).take i).zipIdx.flatMap fun y=>inP x y.1).length≤1048576:=by
      have:=z7X (g:=fun y:D.Port × Nat=>inP x y.1) (fun y=>ze0) ((portsL x).take i).zipIdx
      rw [List.length_zipIdx,List.length_take] at this
      omega
    simp only [List.nil_append]
    generalize (((portsL x).take i).zipIdx.flatMap fun y=>inP x y.1)=s at hlen ⊢
    unfold z2j z1B z2i
    dsimp only
    rw [if_pos (by simpa using hil),zL hp,Option.bind_some,z9H,hq,Option.bind_some,zcy,Option.bind_some]
    unfold inP
    rw [hq]
    dsimp only
    cases hb:befN p q with
    | false=>simp
    | true=>
      by_cases h1:p.Slot>0
      · by_cases h2:q.Slot>0
        · rw [if_pos rfl,if_pos (decide_eq_true h1),if_pos (decide_eq_true h2),if_pos (by simp only [decide_eq_true_eq,List.length_cons,List.length_nil];omega),if_pos ⟨rfl,h1,h2⟩]
        · simp [h1,h2]
      · simp [h1]) (by unfold z2j;rw [if_neg (by simp)])
  rw [netPorts hf z1 z2,Option.bind_some,h,Option.bind_some]
  refine⟨_,rfl,?_⟩
  rw [List.nil_append,zcD (g:=inP x),zak]
end Go.E


namespace Go.E
open Go.RowKit Go.Proofs
set_option linter.unusedSimpArgs false
set_option linter.unusedVariables false

theorem z9o {fuel:Nat}{x:D.Word}(hf:18446744073709551616≤fuel) (hs:0≤1048576):z4S fuel x=some x:=by
  skip
  unfold z4S
  rfl

theorem z9T {fuel:Nat}{x:D.Word}(hf:18446744073709551616≤fuel) (hs:0≤1048576):z4Y fuel x x=some true:=by
  skip
  simp [z4Y,z2U]

theorem zcj {fuel:Nat}{x:D.Pair}(hf:18446744073709551616≤fuel) (hs:0≤1048576):z5V fuel x=some x:=by
  skip
  unfold z5V
  rfl

theorem zct {fuel:Nat}{x:D.Pair}(hf:18446744073709551616≤fuel) (hs:0≤1048576):z60 fuel x x=some true:=by
  skip
  simp [z60,z2U]

theorem z8g {fuel:Nat}{x:(List Int)}{l:Int}(hf:18446744073709551616≤fuel) (hw:WfL I64 x) (h0:0≤l) (h1:l≤1048576):SzOk (x.length) l (z3O fuel x l):=by
  unfold z3O
  generalize hz:w64 (l - (x.length:Int))=z
  exact SzOk.sub2 h0 h1 hw.1 (m:=0) rfl hz fun g0 g1=>SzOk.same g0

theorem z8f {fuel:Nat}{x:(List Int)}(hf:18446744073709551616≤fuel) (hs:x.length≤1048576):z3N fuel x=some x:=by
  have hl:=hs
  unfold z3N
  refine z6J hl hf (fun _=>rfl) ?_ ?_
  · intro i y out hy d
    have hi:=(List.getElem?_eq_some_iff.1 hy).1
    have hsy:0≤1048576:=Nat.zero_le _
    simp only [z4m,zL hy,Option.bind_some,lt_t (show(i:Int)<x.length by omega),if_true]
    rw [if_pos (by simp;omega)]
    simp
  · intro out
    simp [z4m]

theorem z8y {fuel:Nat}{x:(List Int)}(hf:18446744073709551616≤fuel) (hs:x.length≤1048576):z3P fuel x x=some true:=by
  have hl:=hs
  unfold z3P
  rw [if_neg (by simp)]
  refine z6g (n:=x.length) (t:=()) (by unfold maxLen;omega) hf rfl ?_ ?_
  · intro i hi
    obtain⟨y,hy⟩:=z5H hi
    have hsy:0≤1048576:=Nat.zero_le _
    simp [z4p,zL hy,hi,z2U]
  · simp [z4p]

theorem zcs {fuel:Nat}{x:D.Port}(hf:18446744073709551616≤fuel) (hs:0≤1048576):z5Z fuel x x=some true:=by
  skip
  simp [z5Z,z2U]

theorem zci {fuel:Nat}{x:D.Port}(hf:18446744073709551616≤fuel) (hs:0≤1048576):z5U fuel x=some x:=by
  skip
  unfold z5U
  rfl

theorem zbe {fuel:Nat}{x:(List D.Pair)}{l:Int}(hf:18446744073709551616≤fuel) (hw:WfL D.Pair.wf x) (h0:0≤l) (h1:l≤1048576):SzOk (x.length) l (z5n fuel x l):=by
  unfold z5n
  generalize hz:w64 (l - (x.length:Int))=z
  exact SzOk.sub2 h0 h1 hw.1 (m:=0) rfl hz fun g0 g1=>SzOk.same g0

theorem zb8 {fuel:Nat}{x:(List D.Pair)}(hf:18446744073709551616≤fuel) (hs:x.length≤1048576):z5h fuel x=some x:=by
  have hl:=hs
  unfold z5h
  refine z6J hl hf (fun _=>rfl) ?_ ?_
  · intro i y out hy d
    have hi:=(List.getElem?_eq_some_iff.1 hy).1
    have hsy:0≤1048576:=Nat.zero_le _
    simp only [z4U,zL hy,Option.bind_some,lt_t (show(i:Int)<x.length by omega),if_true,zcj hf hsy]
    rw [if_pos (by simp;omega)]
    simp
  · intro out
    simp [z4U]

theorem zbH {fuel:Nat}{x:(List D.Pair)}(hf:18446744073709551616≤fuel) (hs:x.length≤1048576):z5s fuel x x=some true:=by
  have hl:=hs
  unfold z5s
  rw [if_neg (by simp)]
  refine z6g (n:=x.length) (t:=()) (by unfold maxLen;omega) hf rfl ?_ ?_
  · intro i hi
    obtain⟨y,hy⟩:=z5H hi
    have hsy:0≤1048576:=Nat.zero_le _
    simp [z50,zL hy,hi,z2U,zct hf hsy]
  · simp [z50]

theorem zbc {fuel:Nat}{x:(List D.Word)}{l:Int}(hf:18446744073709551616≤fuel) (hw:WfL D.Word.wf x) (h0:0≤l) (h1:l≤1048576):SzOk (x.length) l (z5k fuel x l):=by
  unfold z5k
  generalize hz:w64 (l - (x.length:Int))=z
  exact SzOk.sub2 h0 h1 hw.1 (m:=0) rfl hz fun g0 g1=>SzOk.same g0

theorem zb6 {fuel:Nat}{x:(List D.Word)}(hf:18446744073709551616≤fuel) (hs:x.length≤1048576):z5f fuel x=some x:=by
  have hl:=hs
  unfold z5f
  refine z6J hl hf (fun _=>rfl) ?_ ?_
  · intro i y out hy d
    have hi:=(List.getElem?_eq_some_iff.1 hy).1
    have hsy:0≤1048576:=Nat.zero_le _
    simp only [z4R,zL hy,Option.bind_some,lt_t (show(i:Int)<x.length by omega),if_true,z9o hf hsy]
    rw [if_pos (by simp;omega)]
    simp
  · intro out
    simp [z4R]

theorem zbF {fuel:Nat}{x:(List D.Word)}(hf:18446744073709551616≤fuel) (hs:x.length≤1048576):z5q fuel x x=some true:=by
  have hl:=hs
  unfold z5q
  rw [if_neg (by simp)]
  refine z6g (n:=x.length) (t:=()) (by unfold maxLen;omega) hf rfl ?_ ?_
  · intro i hi
    obtain⟨y,hy⟩:=z5H hi
    have hsy:0≤1048576:=Nat.zero_le _
    simp [z4X,zL hy,hi,z2U,z9T hf hsy]
  · simp [z4X]

theorem zbG {fuel:Nat}{x:(List D.Port)}(hf:18446744073709551616≤fuel) (hs:x.length≤1048576):z5r fuel x x=some true:=by
  have hl:=hs
  unfold z5r
  rw [if_neg (by simp)]
  refine z6g (n:=x.length) (t:=()) (by unfold maxLen;omega) hf rfl ?_ ?_
  · intro i hi
    obtain⟨y,hy⟩:=z5H hi
    have hsy:0≤1048576:=Nat.zero_le _
    simp [z4Z,zL hy,hi,z2U,zcs hf hsy]
  · simp [z4Z]

theorem zbd {fuel:Nat}{x:(List D.Port)}{l:Int}(hf:18446744073709551616≤fuel) (hw:WfL D.Port.wf x) (h0:0≤l) (h1:l≤1048576):SzOk (x.length) l (z5m fuel x l):=by
  unfold z5m
  generalize hz:w64 (l - (x.length:Int))=z
  exact SzOk.sub2 h0 h1 hw.1 (m:=0) rfl hz fun g0 g1=>SzOk.same g0

theorem zb7 {fuel:Nat}{x:(List D.Port)}(hf:18446744073709551616≤fuel) (hs:x.length≤1048576):z5g fuel x=some x:=by
  have hl:=hs
  unfold z5g
  refine z6J hl hf (fun _=>rfl) ?_ ?_
  · intro i y out hy d
    have hi:=(List.getElem?_eq_some_iff.1 hy).1
    have hsy:0≤1048576:=Nat.zero_le _
    simp only [z4T,zL hy,Option.bind_some,lt_t (show(i:Int)<x.length by omega),if_true,zci hf hsy]
    rw [if_pos (by simp;omega)]
    simp
  · intro out
    simp [z4T]

theorem zcn {fuel:Nat}{x:D.Cell}{l:Int}(hf:18446744073709551616≤fuel) (hw:D.Cell.wf x) (h0:0≤l) (h1:l≤1048576):SzOk (D.Cell.sz x) l (z5Y fuel x l):=by
  obtain⟨w0,w1,w2,w3,w4,_⟩:=hw
  unfold z5Y D.Cell.sz
  refine SzOk.bind (z8g hf w3 h0 (by omega)) rfl fun r1 g1a g1b=>?_
  refine SzOk.bind (zbc hf w4 g1a (by omega)) rfl fun r2 g2a g2b=>?_
  exact SzOk.same g2a

theorem zck {fuel:Nat}{x:D.Cell}(hf:18446744073709551616≤fuel) (hs:D.Cell.sz x≤1048576):z5W fuel x=some x:=by
  unfold D.Cell.sz at hs
  unfold z5W
  simp only [z8f hf (show x.Data.length≤1048576 by omega),zb6 hf (show x.Words.length≤1048576 by omega),Option.bind_some]

theorem zcu {fuel:Nat}{x:D.Cell}(hf:18446744073709551616≤fuel) (hs:D.Cell.sz x≤1048576):z62 fuel x x=some true:=by
  unfold D.Cell.sz at hs
  simp [z62,z2U,z8y hf (show x.Data.length≤1048576 by omega),zbF hf (show x.Words.length≤1048576 by omega)]

theorem zbK {fuel:Nat}{x:D.Agent}(hf:18446744073709551616≤fuel) (hs:D.Agent.sz x≤1048576):z5u fuel x x=some true:=by
  unfold D.Agent.sz at hs
  simp [z5u,z2U,z8y hf (show x.Data.length≤1048576 by omega),zbG hf (show x.Ports.length≤1048576 by omega)]

theorem zbg {fuel:Nat}{x:D.Agent}{l:Int}(hf:18446744073709551616≤fuel) (hw:D.Agent.wf x) (h0:0≤l) (h1:l≤1048576):SzOk (D.Agent.sz x) l (z5p fuel x l):=by
  obtain⟨w0,w1,w2,w3,w4,_⟩:=hw
  unfold z5p D.Agent.sz
  refine SzOk.bind (z8g hf w3 h0 (by omega)) rfl fun r1 g1a g1b=>?_
  refine SzOk.bind (zbd hf w4 g1a (by omega)) rfl fun r2 g2a g2b=>?_
  exact SzOk.same g2a

theorem zba {fuel:Nat}{x:D.Agent}(hf:18446744073709551616≤fuel) (hs:D.Agent.sz x≤1048576):z5j fuel x=some x:=by
  unfold D.Agent.sz at hs
  unfold z5j
  simp only [z8f hf (show x.Data.length≤1048576 by omega),zb7 hf (show x.Ports.length≤1048576 by omega),Option.bind_some]

theorem zbf {fuel:Nat}{x:(List D.Cell)}{l:Int}(hf:18446744073709551616≤fuel) (hw:WfL D.Cell.wf x) (h0:0≤l) (h1:l≤1048576):SzOk (szL D.Cell.sz x) l (z5o fuel x l):=by
  unfold z5o
  generalize hz:w64 (l - (x.length:Int))=z
  refine SzOk.sub2 h0 h1 hw.1 (m:=sumL D.Cell.sz x) rfl hz fun g0 g1=>?_
  refine SzOk.loop hw.1 hf g0 (by omega) (fun _=>rfl) ?_ ?_
  · intro i y l hy h0 h1
    have hi:=(List.getElem?_eq_some_iff.1 hy).1
    have hwy:=hw.2 y (List.mem_of_getElem? hy)
    obtain⟨r,h2,h3⟩:=zcn hf hwy h0 h1
    simp only [z4W,zL hy,Option.bind_some,lt_t (show(i:Int)<x.length by omega),if_true,h2]
    by_cases hlt:r<0
    · exact .inl (by simp only [lt_t hlt,if_true])
    · exact .inr ⟨r,by simp only [lt_f hlt,if_false],h3.resolve_left hlt⟩
  · intro l
    simp [z4W]

theorem zb9 {fuel:Nat}{x:(List D.Cell)}(hf:18446744073709551616≤fuel) (hs:szL D.Cell.sz x≤1048576):z5i fuel x=some x:=by
  have hl:=z8H hs
  unfold z5i
  refine z6J hl hf (fun _=>rfl) ?_ ?_
  · intro i y out hy d
    have hi:=(List.getElem?_eq_some_iff.1 hy).1
    have hsy:D.Cell.sz y≤1048576:=z5N hs (List.mem_of_getElem? hy)
    simp only [z4V,zL hy,Option.bind_some,lt_t (show(i:Int)<x.length by omega),if_true,zck hf hsy]
    rw [if_pos (by simp;omega)]
    simp
  · intro out
    simp [z4V]

theorem zbJ {fuel:Nat}{x:(List D.Cell)}(hf:18446744073709551616≤fuel) (hs:szL D.Cell.sz x≤1048576):z5t fuel x x=some true:=by
  have hl:=z8H hs
  unfold z5t
  rw [if_neg (by simp)]
  refine z6g (n:=x.length) (t:=()) (by unfold maxLen;omega) hf rfl ?_ ?_
  · intro i hi
    obtain⟨y,hy⟩:=z5H hi
    have hsy:D.Cell.sz y≤1048576:=z5N hs (List.mem_of_getElem? hy)
    simp [z51,zL hy,hi,z2U,zcu hf hsy]
  · simp [z51]

theorem zaK {fuel:Nat}{x:(List D.Agent)}(hf:18446744073709551616≤fuel) (hs:szL D.Agent.sz x≤1048576):z4H fuel x x=some true:=by
  have hl:=z8H hs
  unfold z4H
  rw [if_neg (by simp)]
  refine z6g (n:=x.length) (t:=()) (by unfold maxLen;omega) hf rfl ?_ ?_
  · intro i hi
    obtain⟨y,hy⟩:=z5H hi
    have hsy:D.Agent.sz y≤1048576:=z5N hs (List.mem_of_getElem? hy)
    simp [z4q,zL hy,hi,z2U,zbK hf hsy]
  · simp [z4q]

theorem zav {fuel:Nat}{x:(List D.Agent)}{l:Int}(hf:18446744073709551616≤fuel) (hw:WfL D.Agent.wf x) (h0:0≤l) (h1:l≤1048576):SzOk (szL D.Agent.sz x) l (z4F fuel x l):=by
  unfold z4F
  generalize hz:w64 (l - (x.length:Int))=z
  refine SzOk.sub2 h0 h1 hw.1 (m:=sumL D.Agent.sz x) rfl hz fun g0 g1=>?_
  refine SzOk.loop hw.1 hf g0 (by omega) (fun _=>rfl) ?_ ?_
  · intro i y l hy h0 h1
    have hi:=(List.getElem?_eq_some_iff.1 hy).1
    have hwy:=hw.2 y (List.mem_of_getElem? hy)
    obtain⟨r,h2,h3⟩:=zbg hf hwy h0 h1
    simp only [z4o,zL hy,Option.bind_some,lt_t (show(i:Int)<x.length by omega),if_true,h2]
    by_cases hlt:r<0
    · exact .inl (by simp only [lt_t hlt,if_true])
    · exact .inr ⟨r,by simp only [lt_f hlt,if_false],h3.resolve_left hlt⟩
  · intro l
    simp [z4o]

theorem zat {fuel:Nat}{x:(List D.Agent)}(hf:18446744073709551616≤fuel) (hs:szL D.Agent.sz x≤1048576):z4D fuel x=some x:=by
  have hl:=z8H hs
  unfold z4D
  refine z6J hl hf (fun _=>rfl) ?_ ?_
  · intro i y out hy d
    have hi:=(List.getElem?_eq_some_iff.1 hy).1
    have hsy:D.Agent.sz y≤1048576:=z5N hs (List.mem_of_getElem? hy)
    simp only [z4n,zL hy,Option.bind_some,lt_t (show(i:Int)<x.length by omega),if_true,zba hf hsy]
    rw [if_pos (by simp;omega)]
    simp
  · intro out
    simp [z4n]

theorem zau {fuel:Nat}{x:D.Memory}{l:Int}(hf:18446744073709551616≤fuel) (hw:D.Memory.wf x) (h0:0≤l) (h1:l≤1048576):SzOk (D.Memory.sz x) l (z4E fuel x l):=by
  obtain⟨w0,w1,w2,w3,_⟩:=hw
  unfold z4E D.Memory.sz
  refine SzOk.bind (zbf hf w0 h0 (by omega)) rfl fun r1 g1a g1b=>?_
  refine SzOk.bind (zbe hf w3 g1a (by omega)) rfl fun r2 g2a g2b=>?_
  exact SzOk.same g2a

theorem z8e {fuel:Nat}{x:D.Memory}(hf:18446744073709551616≤fuel) (hs:D.Memory.sz x≤1048576):z2G fuel x=some x:=by
  unfold D.Memory.sz at hs
  unfold z2G
  simp only [zb9 hf (show szL D.Cell.sz x.Cells≤1048576 by omega),z9o hf (show 0≤1048576 by exact Nat.zero_le _),zb8 hf (show x.Redexes.length≤1048576 by omega),Option.bind_some]

theorem z8x {fuel:Nat}{x:D.Memory}(hf:18446744073709551616≤fuel) (hs:D.Memory.sz x≤1048576):z4G fuel x x=some true:=by
  unfold D.Memory.sz at hs
  simp [z4G,z2U,zbJ hf (show szL D.Cell.sz x.Cells≤1048576 by omega),z9T hf (show 0≤1048576 by exact Nat.zero_le _),zbH hf (show x.Redexes.length≤1048576 by omega)]

theorem zds {fuel:Nat}{x:D.Net}(hf:18446744073709551616≤fuel) (hs:D.Net.sz x≤1048576):z6o fuel x x=some true:=by
  unfold D.Net.sz at hs
  simp [z6o,z2U,zaK hf (show szL D.Agent.sz x.Agents≤1048576 by omega)]

theorem zdh {fuel:Nat}{x:D.Net}{l:Int}(hf:18446744073709551616≤fuel) (hw:D.Net.wf x) (h0:0≤l) (h1:l≤1048576):SzOk (D.Net.sz x) l (z6n fuel x l):=by
  obtain⟨w0,_⟩:=hw
  unfold z6n D.Net.sz
  refine SzOk.bind (zav hf w0 h0 (by omega)) rfl fun r1 g1a g1b=>?_
  exact SzOk.same g1a

theorem zdg {fuel:Nat}{x:D.Net}(hf:18446744073709551616≤fuel) (hs:D.Net.sz x≤1048576):z6m fuel x=some x:=by
  unfold D.Net.sz at hs
  unfold z6m
  simp only [zat hf (show szL D.Agent.sz x.Agents≤1048576 by omega),Option.bind_some]

theorem zcm {fuel:Nat}{x:(List D.Net)}{l:Int}(hf:18446744073709551616≤fuel) (hw:WfL D.Net.wf x) (h0:0≤l) (h1:l≤1048576):SzOk (szL D.Net.sz x) l (z5X fuel x l):=by
  unfold z5X
  generalize hz:w64 (l - (x.length:Int))=z
  refine SzOk.sub2 h0 h1 hw.1 (m:=sumL D.Net.sz x) rfl hz fun g0 g1=>?_
  refine SzOk.loop hw.1 hf g0 (by omega) (fun _=>rfl) ?_ ?_
  · intro i y l hy h0 h1
    have hi:=(List.getElem?_eq_some_iff.1 hy).1
    have hwy:=hw.2 y (List.mem_of_getElem? hy)
    obtain⟨r,h2,h3⟩:=zdh hf hwy h0 h1
    simp only [z5A,zL hy,Option.bind_some,lt_t (show(i:Int)<x.length by omega),if_true,h2]
    by_cases hlt:r<0
    · exact .inl (by simp only [lt_t hlt,if_true])
    · exact .inr ⟨r,by simp only [lt_f hlt,if_false],h3.resolve_left hlt⟩
  · intro l
    simp [z5A]

theorem z9p {fuel:Nat}{x:(List D.Net)}(hf:18446744073709551616≤fuel) (hs:szL D.Net.sz x≤1048576):z3Y fuel x=some x:=by
  have hl:=z8H hs
  unfold z3Y
  refine z6J hl hf (fun _=>rfl) ?_ ?_
  · intro i y out hy d
    have hi:=(List.getElem?_eq_some_iff.1 hy).1
    have hsy:D.Net.sz y≤1048576:=z5N hs (List.mem_of_getElem? hy)
    simp only [z5z,zL hy,Option.bind_some,lt_t (show(i:Int)<x.length by omega),if_true,zdg hf hsy]
    rw [if_pos (by simp;omega)]
    simp
  · intro out
    simp [z5z]

theorem z9U {fuel:Nat}{x:(List D.Net)}(hf:18446744073709551616≤fuel) (hs:szL D.Net.sz x≤1048576):z61 fuel x x=some true:=by
  have hl:=z8H hs
  unfold z61
  rw [if_neg (by simp)]
  refine z6g (n:=x.length) (t:=()) (by unfold maxLen;omega) hf rfl ?_ ?_
  · intro i hi
    obtain⟨y,hy⟩:=z5H hi
    have hsy:D.Net.sz y≤1048576:=z5N hs (List.mem_of_getElem? hy)
    simp [z5B,zL hy,hi,z2U,zds hf hsy]
  · simp [z5B]

theorem z6L:Opens Tryz.prog 2 tInt I64:=Opens.int Tryz.underlying2 (by kernel_rfl)
theorem zdX:Opens Tryz.prog 80 ty80 (WfL I64):=Opens.sl Tryz.underlying80 (by kernel_rfl) z6L
set_option maxRecDepth 100000 in
theorem zfA:Opens Tryz.prog 240 zd6 D.Port.wf:=Opens.struct (f:=fun c:D.Port=>(c.Agent,c.Slot,())) Tryz.underlying240 (by kernel_rfl) (OpensF.cons z6L rfl rfl (OpensF.cons z6L rfl rfl OpensF.nil)) (fun⟨a0,a1,_⟩=>⟨⟨a0,a1⟩,rfl⟩)
theorem zfC:Opens Tryz.prog 158 zb2 (WfL D.Port.wf):=Opens.sl Tryz.underlying158 (by kernel_rfl) zfA
set_option maxRecDepth 100000 in
theorem zfB:Opens Tryz.prog 160 zce D.Agent.wf:=Opens.struct (f:=fun c:D.Agent=>(c.Kind,c.Level,c.Value,c.Data,c.Ports,())) Tryz.underlying160 (by kernel_rfl) (OpensF.cons z6L rfl rfl (OpensF.cons z6L rfl rfl (OpensF.cons z6L rfl rfl (OpensF.cons zdX rfl rfl (OpensF.cons zfC rfl rfl OpensF.nil))))) (fun⟨a0,a1,a2,a3,a4,_⟩=>⟨⟨a0,a1,a2,a3,a4⟩,rfl⟩)
theorem zgx:Opens Tryz.prog 47 ty47 (WfL D.Agent.wf):=Opens.sl Tryz.underlying47 (by kernel_rfl) zfB
set_option maxRecDepth 100000 in
theorem zgw:Opens Tryz.prog 49 ty49 D.Net.wf:=Opens.struct (f:=fun c:D.Net=>(c.Agents,())) Tryz.underlying49 (by kernel_rfl) (OpensF.cons zgx rfl rfl OpensF.nil) (fun⟨a0,_⟩=>⟨⟨a0⟩,rfl⟩)
theorem zgv:Opens Tryz.prog 60 ty60 (WfL D.Net.wf):=Opens.sl Tryz.underlying60 (by kernel_rfl) zgw
set_option maxRecDepth 100000 in
theorem zdY:Opens Tryz.prog 24 ty24 D.Word.wf:=Opens.struct (f:=fun c:D.Word=>(c.Tag,c.At,())) Tryz.underlying24 (by kernel_rfl) (OpensF.cons z6L rfl rfl (OpensF.cons z6L rfl rfl OpensF.nil)) (fun⟨a0,a1,_⟩=>⟨⟨a0,a1⟩,rfl⟩)
theorem zfF:Opens Tryz.prog 119 zb5 (WfL D.Word.wf):=Opens.sl Tryz.underlying119 (by kernel_rfl) zdY
set_option maxRecDepth 100000 in
theorem zfE:Opens Tryz.prog 121 zch D.Cell.wf:=Opens.struct (f:=fun c:D.Cell=>(c.Kind,c.Level,c.Value,c.Data,c.Words,())) Tryz.underlying121 (by kernel_rfl) (OpensF.cons z6L rfl rfl (OpensF.cons z6L rfl rfl (OpensF.cons z6L rfl rfl (OpensF.cons zdX rfl rfl (OpensF.cons zfF rfl rfl OpensF.nil))))) (fun⟨a0,a1,a2,a3,a4,_⟩=>⟨⟨a0,a1,a2,a3,a4⟩,rfl⟩)
theorem zgA:Opens Tryz.prog 22 ty22 (WfL D.Cell.wf):=Opens.sl Tryz.underlying22 (by kernel_rfl) zfE
set_option maxRecDepth 100000 in
theorem zfD:Opens Tryz.prog 129 zde D.Pair.wf:=Opens.struct (f:=fun c:D.Pair=>(c.A,c.B,())) Tryz.underlying129 (by kernel_rfl) (OpensF.cons z6L rfl rfl (OpensF.cons z6L rfl rfl OpensF.nil)) (fun⟨a0,a1,_⟩=>⟨⟨a0,a1⟩,rfl⟩)
theorem zgz:Opens Tryz.prog 25 ty25 (WfL D.Pair.wf):=Opens.sl Tryz.underlying25 (by kernel_rfl) zfD
set_option maxRecDepth 100000 in
theorem zgy:Opens Tryz.prog 27 ty27 D.Memory.wf:=Opens.struct (f:=fun c:D.Memory=>(c.Cells,c.Free,c.Root,c.Redexes,())) Tryz.underlying27 (by kernel_rfl) (OpensF.cons zgA rfl rfl (OpensF.cons z6L rfl rfl (OpensF.cons zdY rfl rfl (OpensF.cons zgz rfl rfl OpensF.nil)))) (fun⟨a0,a1,a2,a3,_⟩=>⟨⟨a0,a1,a2,a3⟩,rfl⟩)
end Go.E


namespace Go.E
open Go.RowKit Go.Proofs
set_option linter.unusedSimpArgs false
set_option linter.unusedVariables false

theorem zfh {x:D.Memory}{fuel:Nat}(hf:18446744073709551616≤fuel) (h:x.sz≤1048576):z3T fuel x=some x:=by
  have hl:x.Cells.length≤1048576:=by unfold D.Memory.sz szL at h;omega
  have hr:x.Redexes.length≤1048576:=by unfold D.Memory.sz szL at h;omega
  have hc:∀ c,c∈x.Cells→c.Data.length≤1048576∧c.Words.length≤1048576:=fun c hc=>by
    unfold D.Memory.sz szL at h
    have:=z7j (f:=D.Cell.sz) hc
    have h9:c.sz=c.Data.length+(c.Words.length+0):=rfl
    omega
  unfold z3T z3m zX
  rw [if_pos (by simp;omega),if_pos (by simp;omega),Option.bind_some]
  dsimp only
  rw [mapLoop (xs:=x.Cells) (g:=fun c=>c) hl hf (fun i a s ha hs=>by
    have hil:=(List.getElem?_eq_some_iff.1 ha).1
    obtain⟨z1,z2⟩:=hc a (List.mem_of_getElem? ha)
    unfold z3n zR zV
    dsimp only
    rw [if_pos (by simpa using hil),zL ha,Option.bind_some,if_pos (by simp;omega),Option.bind_some,if_pos (by simp;omega),Option.bind_some,if_pos (by simp;omega)]
    simp) (fun s=>by unfold z3n;rw [if_neg (by simp)])]
  simp [aft,z58]

theorem zbk {fuel:Nat}{b:List D.Net}{x:D.Memory}{p:D.Pair}{K i j:Int}{s:Bool}{X Y:D.Cell}{A B:D.Agent}(hf:18446744073709551616≤fuel)
    (hfst:z3o fuel x p=some (i,j)) (hi:idx x.Cells i=some X) (hj:idx x.Cells j=some Y) (hcl:z3p fuel x p=some K)
    (hnet:z13 fuel x p=some ⟨[A,B]⟩) (hco:z1t fuel ⟨[A,B]⟩ ⟨0,1⟩=some (K,s))
    (hord:K≠8→(s=true∧i=p.B∧j=p.A∧B.Value=X.Value∧B.Level=X.Level)∨(s=false∧i=p.A∧j=p.B∧A.Value=X.Value∧A.Level=X.Level))
    (hv:K=7→0≤X.Value) (hl:0≤X.Level∧X.Level≤8) (hwX:X.Words.length≤1048576) (hwY:Y.Words.length≤1048576) (hb:bookN b=true) (hbs:szL D.Net.sz b≤1048576):
    ∃ r:Int × Int,z3q fuel b x p=some r∧z1m fuel ⟨x,b⟩ p=some r:=by
  have hm:maxLen=9223372036854775807:=rfl
  unfold z3q z1m
  rw [hfst,Option.bind_some]
  dsimp only
  rw [hi,Option.bind_some,hj,Option.bind_some,hcl,Option.bind_some,hnet,Option.bind_some]
  unfold z3c
  dsimp only
  rw [hco,Option.bind_some]
  dsimp only
  by_cases h8:K=8
  · subst h8
    refine⟨(0,11),if_pos rfl,?_⟩
    have:∀ t,zm fuel ⟨⟨[A,B]⟩,b,()⟩ (8,s) t=some (0,0,0,11):=fun t=>if_pos rfl
    rw [this,this,ite_self,Option.bind_some]
    rfl
  have h8':(K == 8)=false:=by simpa using h8
  obtain⟨u,v,AX,e1,e2,e3,e4,e5⟩:∃ u v AX,(if s=true then zm fuel ⟨⟨[A,B]⟩,b,()⟩ (K,s) (1,0) else zm fuel ⟨⟨[A,B]⟩,b,()⟩ (K,s) (0,1))=zm fuel ⟨⟨[A,B]⟩,b,()⟩ (K,s) (u,v)∧idx [A,B] u=some AX∧AX.Value=X.Value∧AX.Level=X.Level∧z1R fuel x p=some (K,i,j):=by
    unfold z1R
    rw [hnet,Option.bind_some]
    dsimp only
    rw [hco,Option.bind_some]
    dsimp only
    rcases hord h8 with⟨rfl,rfl,rfl,g1,g2⟩ | ⟨rfl,rfl,rfl,g1,g2⟩
    · exact⟨1,0,B,if_pos rfl,rfl,g1,g2,if_pos rfl⟩
    · exact⟨0,1,A,if_neg (by simp),rfl,g1,g2,if_neg (by simp)⟩
  rw [e1]
  unfold zm
  dsimp only
  rw [e2,Option.bind_some,e3,e4]
  simp only [h8',Bool.false_eq_true,↓reduceIte]
  by_cases h7:K=7
  · subst h7
    have hX0:=hv rfl
    have q3:((7:Int) == 3)=false:=rfl
    have q4:((7:Int) == 4)=false:=rfl
    have q5:((7:Int) == 5)=false:=rfl
    have q6:((7:Int) == 6)=false:=rfl
    have q7:((7:Int) == 7)=true:=rfl
    simp only [q3,q4,q5,q6,q7,Bool.false_eq_true,↓reduceIte]
    by_cases hB:X.Value≥(b.length:Int)
    · refine⟨(0,3),if_pos (decide_eq_true hB),?_⟩
      rw [if_pos (decide_eq_true hB),Option.bind_some]
      rfl
    · rw [if_neg (by simpa using hB),if_neg (by simpa using hB)]
      obtain⟨t,ht⟩:=z5H (xs:=b) (i:=X.Value.toNat) (by omega)
      have hti:idx b X.Value=some t:=by unfold idx;rw [if_pos hX0,ht]
      have htm:=List.mem_of_getElem? ht
      have zt:=z5N hbs htm
      have hn:netN t=true:=by
        unfold bookN at hb
        rw [Bool.and_eq_true] at hb
        exact List.all_eq_true.1 hb.2 t htm
      obtain⟨n,hsh⟩:=zbm hf zt hn hl.1 hl.2
      have hh:=zgH hn
      obtain⟨ws,w1,w2⟩:=zdo (fuel:=fuel) hf zt
      have hz:=(z90 zt).1
      have hin:=zcM zt
      rw [hti,Option.bind_some,Option.bind_some,hsh,Option.bind_some,ze1 hf hz,Option.bind_some,zo (n:=highN t+X.Level) (by omega) (by omega)]
      unfold z1W
      dsimp only
      by_cases h9:highN t+X.Level>8
      · refine⟨(0,9),if_pos (decide_eq_true h9),?_⟩
        rw [decide_eq_false (by omega)]
        rfl
      · rw [if_neg (by simpa using h9),decide_eq_true (by omega),if_neg (by simp),Option.bind_some]
        dsimp only
        rw [if_neg (by simp),zdn hf zt,Option.bind_some,e5,Option.bind_some]
        dsimp only
        refine⟨_,rfl,?_⟩
        simp only [hj,hi,hti,w1,w2,q3,q4,q5,q6,q7,Option.bind_some,Bool.false_eq_true,↓reduceIte]
  · have h7':(K == 7)=false:=by simpa using h7
    simp only [h7',Bool.false_eq_true,↓reduceIte,Option.bind_some]
    have q0:((0:Int) != 0)=false:=rfl
    simp only [q0,Bool.false_eq_true,↓reduceIte,e5,Option.bind_some]
    rw [hj,Option.bind_some,hi,Option.bind_some]
    by_cases k3:K=3
    · subst k3;exact⟨_,rfl,rfl⟩
    by_cases k4:K=4
    · subst k4;exact⟨_,rfl,rfl⟩
    by_cases k5:K=5
    · subst k5;exact⟨_,rfl,rfl⟩
    by_cases k6:K=6
    · subst k6;exact⟨_,rfl,rfl⟩
    refine⟨(0,0),?_,?_⟩
    · rw [if_neg (by simpa using k3),if_neg (by simpa using k4),if_neg (by simpa using k5),if_neg (by simpa using k6)]
    · rw [if_neg (by simpa using k3),if_neg (by simpa using k4),if_neg (by simpa using k5),if_neg (by simpa using k6)]

theorem z9a {fuel:Nat}{b:List D.Net}{x:D.Memory}{k:Int}(hf:18446744073709551616≤fuel) (hbs:szL D.Net.sz b≤1048576) (hs:x.sz≤1048576):
    ∃ r:Int × Int,z3b fuel b x k=some r∧z3h fuel b x k=some r:=by
  have hm:maxLen=9223372036854775807:=rfl
  have hr:x.Redexes.length≤1048576:=by unfold D.Memory.sz szL at hs;omega
  unfold z3b z3h z5P z5C
  rw [zfm hf hbs,zfn hf hbs,Option.bind_some,Option.bind_some]
  cases hb:bookN b with
  | false=>
    refine⟨(0,1),rfl,?_⟩
    rfl
  | true=>
    rw [if_neg (by simp),if_neg (by simp),zgB hf hs,zgC hf hs,Option.bind_some,Option.bind_some]
    unfold z2H
    cases ho:okN x [] with
    | false=>exact⟨(0,1),rfl,rfl⟩
    | true=>
      unfold z2P
      rw [if_neg (by simp),if_neg (by simp),z2p,z5D (by omega),Option.bind_some]
      by_cases hk:0≤k∧k<x.Redexes.length
      · have hR:x.Redexes.all (redexN x)=true:=by
          unfold okN at ho
          rw [Bool.and_eq_true,Bool.and_eq_true,Bool.and_eq_true,Bool.and_eq_true,Bool.and_eq_true] at ho
          exact ho.2.2.2.2.1
        obtain⟨p,hp⟩:=z5H (xs:=x.Redexes) (i:=k.toNat) (by omega)
        have hpi:idx x.Redexes k=some p:=by unfold idx;rw [if_pos hk.1,hp]
        obtain⟨_,ha,hd⟩:=z83 (List.all_eq_true.1 hR p (List.mem_of_getElem? hp))
        obtain⟨c,c1,c2,c3,c4,c5⟩:=zcX (zcH ho).1 ha
        obtain⟨d,d1,d2,d3,d4,d5⟩:=zcX (zcH ho).1 hd
        have wc:c.Words.length≤1048576:=by
          have:=z5N (f:=D.Cell.sz) (xs:=x.Cells) (n:=1048576) (by unfold D.Memory.sz at hs;omega) c2
          unfold D.Cell.sz at this;omega
        have wd:d.Words.length≤1048576:=by
          have:=z5N (f:=D.Cell.sz) (xs:=x.Cells) (n:=1048576) (by unfold D.Memory.sz at hs;omega) d2
          unfold D.Cell.sz at this;omega
        obtain⟨pc,e1,_⟩:=z7m (c:=c) hf wc
        obtain⟨pd,e2,_⟩:=z7m (c:=d) hf wd
        have hS:z3p fuel x p=some (classN ⟨c.Kind,c.Level,c.Value,c.Data,pc⟩ ⟨d.Kind,d.Level,d.Value,d.Data,pd⟩):=by
          unfold z3p
          rw [c1,Option.bind_some,e1,Option.bind_some]
          unfold z4j
          rw [d1,Option.bind_some,e2,Option.bind_some]
          unfold z4i
          dsimp only
          rw [zdv c3 d3 c4 d4];rfl
        have hA:∀ {i:Int}{e:D.Cell},idx x.Cells i=some e→e.Words.length≤1048576→∃ ps,z1q fuel x i=some ⟨e.Kind,e.Level,e.Value,e.Data,ps⟩:=fun {i e} hi hw=>by
          unfold z1q
          rw [hi,Option.bind_some,zo (by omega) (by omega),if_pos (decide_eq_true (by omega))]
          exact⟨_,rfl⟩
        obtain⟨qc,f1⟩:=hA c1 wc
        obtain⟨qd,f2⟩:=hA d1 wd
        obtain⟨s,hI,hsw⟩:=zdx (fuel:=fuel) (a:=⟨c.Kind,c.Level,c.Value,c.Data,qc⟩) (b:=⟨d.Kind,d.Level,d.Value,d.Data,qd⟩) c3 d3 c4 d4
        rw [zdw (a:=⟨c.Kind,c.Level,c.Value,c.Data,pc⟩) (a':=⟨c.Kind,c.Level,c.Value,c.Data,qc⟩) (b:=⟨d.Kind,d.Level,d.Value,d.Data,pd⟩) (b':=⟨d.Kind,d.Level,d.Value,d.Data,qd⟩) ⟨rfl,rfl,rfl,rfl⟩ ⟨rfl,rfl,rfl,rfl⟩] at hS
        have hN:z13 fuel x p=some ⟨[⟨c.Kind,c.Level,c.Value,c.Data,qc⟩,⟨d.Kind,d.Level,d.Value,d.Data,qd⟩]⟩:=by
          unfold z13
          rw [f1,Option.bind_some,f2,Option.bind_some]
        have hF:=zdr (fuel:=fuel) (a:=⟨c.Kind,c.Level,c.Value,c.Data,qc⟩) (b:=⟨d.Kind,d.Level,d.Value,d.Data,qd⟩) c3 d3 c4 d4
        dsimp only at hF
        have h7:=zcw (a:=⟨c.Kind,c.Level,c.Value,c.Data,qc⟩) (b:=⟨d.Kind,d.Level,d.Value,d.Data,qd⟩)
        generalize firstN ⟨c.Kind,c.Level,c.Value,c.Data,qc⟩ ⟨d.Kind,d.Level,d.Value,d.Data,qd⟩=F at *
        generalize classN ⟨c.Kind,c.Level,c.Value,c.Data,qc⟩ ⟨d.Kind,d.Level,d.Value,d.Data,qd⟩=K at *
        have o:∀ {e:D.Cell},contentN e.Kind e.Value e.Data=true→e.Kind=12→0≤e.Value:=fun {e} he h=>by
          rw [h] at he
          unfold contentN at he
          simp at he
          omega
        have hfst:z3o fuel x p=some (if F=2 then(p.B,p.A) else(p.A,p.B)):=by
          unfold z3o
          rw [c1,Option.bind_some,d1,Option.bind_some,hF,Option.bind_some]
          by_cases h2:F=2
          · rw [if_pos (by simpa using h2),if_pos h2]
          · rw [if_neg (by simpa using h2),if_neg h2]
        obtain⟨r,s1,s2⟩:∃ r:Int × Int,z3q fuel b x p=some r∧z1m fuel ⟨x,b⟩ p=some r:=by
          by_cases h2:F=2
          · rw [if_pos h2] at hfst
            exact zbk hf hfst d1 c1 hS hN hI (fun h=>.inl ⟨by rw [hsw h,decide_eq_true h2],rfl,rfl,rfl,rfl⟩) (fun h=>by
              have:=h7 h
              rw [if_pos h2] at this
              exact o d5 this) (z9h d3) wd wc hb hbs
          · rw [if_neg h2] at hfst
            exact zbk hf hfst c1 d1 hS hN hI (fun h=>.inr ⟨by rw [hsw h,decide_eq_false h2],rfl,rfl,rfl,rfl⟩) (fun h=>by
              have:=h7 h
              rw [if_neg h2] at this
              exact o c5 this) (z9h c3) wc wd hb hbs
        refine⟨r,?_,?_⟩
        · rw [if_neg (by simp;omega),Option.bind_some,if_neg (by simp),hpi,Option.bind_some,s1];rfl
        · rw [if_pos (decide_eq_true hk.1),Option.bind_some,if_neg (by simp;omega),zfh hf hs,Option.bind_some,Option.bind_some]
          dsimp only [Option.elim]
          rw [if_neg (by simp),hpi,Option.bind_some]
          have ee:(⟨⟨x.Cells,x.Free,⟨x.Root.Tag,x.Root.At⟩,x.Redexes⟩,b⟩:D.machine)=⟨x,b⟩:=rfl
          rw [ee,s2];rfl
      · refine⟨(0,2),?_,?_⟩
        · rw [if_pos (by simp;omega),Option.bind_some,if_pos (by simp)]
        · by_cases h0:0≤k
          · rw [if_pos (decide_eq_true h0),Option.bind_some,if_pos (by simp;omega)];rfl
          · rw [if_neg (by simpa using h0),Option.bind_some,if_pos (by simp)];rfl

theorem lawCellsToStep {x0:(List D.Net)}{x1:D.Memory}{x2:Int}(h0:(WfL D.Net.wf) x0) (h1:D.Memory.wf x1) (h2:I64 x2):∃ fuel,z1L fuel x0 x1 x2=some true:=by
  obtain⟨fuel,hf⟩:∃ n:Nat,18446744073709551616≤n:=⟨_,Nat.le_refl _⟩
  refine⟨fuel,?_⟩
  unfold z1L
  obtain⟨r0,e0,s0⟩:=zcm (l:=(1048576:Int)) hf h0 (by decide) (by omega)
  rw [e0,Option.bind_some]
  rcases s0 with s0 | ⟨s0,t0⟩
  · rw [if_pos (by simp [s0])]
  rw [if_neg (by simp [s0])]
  obtain⟨r1,e1,s1⟩:=zau (l:=r0) hf h1 s0 (by omega)
  rw [e1,Option.bind_some]
  rcases s1 with s1 | ⟨s1,t1⟩
  · rw [if_pos (by simp [s1])]
  rw [if_neg (by simp [s1])]
  have z0:szL D.Net.sz x0≤1048576:=by omega
  have z1:D.Memory.sz x1≤1048576:=by omega
  have z2:0≤1048576:=by decide
  obtain⟨q,a0,a1⟩:=z9a (k:=x2) hf z0 z1
  simp only [Option.bind_some,a0,a1,z9p hf z0,z9U hf z0,z8e hf z1,z8x hf z1]
  simp [z14,z9p hf z0,z9U hf z0,z8e hf z1,z8x hf z1]
end Go.E


namespace Go.Proofs.YtijgffjimnbcpaaGreat.lawCellsToStep
open Go.ChangeShapes Go.WideShapes Go.ChangeAt Go.RowKit Go.E
set_option linter.unusedVariables false

theorem own:ownKnob Tryz.prog.godebug=none:=by kernel_rfl
theorem laidOut:laidOutB Tryz.prog=true:=by kernel_rfl

set_option maxRecDepth 100000 in
theorem lifted (os:Os) (started:os.Started) (H:Type) (enc:TypeId × Value→H):
    ReturnsInHanded {} Tryz.checked os 6 .any (Rows.fnExactCellsToStepSpec.pre6 enc Tryz.prog Tryz.f6 Rows.fnExactCellsToStepRow.domain false) (Rows.fnExactCellsToStepSpec.post enc Tryz.prog Tryz.f6 false true false false):=by
  refine returnsInHanded_of_change (C:=Tryz.checked) own started (by kernel_rfl) Tryz.func6
    (ChangeSpec.witness6 (enc:=enc) (C:=Tryz.checked) false ⟨#[],#[.slice none 0 0,.agg #[.slice none 0 0,.int .i64 0,.int .i64 0,.int .i64 0,.slice none 0 0],.int .i64 0],[]⟩ 12 (by kernel_rfl) (by kernel_rfl) (by kernel_rfl) (by kernel_rfl)) ?_
  intro W base args ds gs before hval0 hW hcnd _
  have hval:∀ (j:Nat) t v,Tryz.f6.params[j]? = some t→args[j]? = some v→Value.okWide Tryz.prog W .any base t v:=hval0
  have hW':=hW
  obtain⟨p,q,hA0,hV,rfl,hfz,hnd⟩:=hW
  have hA:DataW.TrodAll enc Tryz.prog W 0 (fun _=>true) true Tryz.f6.params.toList args.toList ds p:=hA0
  rw [Tryz.params6] at hA hval
  obtain⟨v0,vs0,d0,ds0,p0,q0,hargs,rfl,rfl,h0,r0⟩:=trodAll_cons hA
  obtain⟨v1,vs1,d1,ds1,p1,q1,rfl,rfl,rfl,h1,r1⟩:=trodAll_cons r0
  obtain⟨v2,vs2,d2,ds2,p2,q2,rfl,rfl,rfl,h2,r2⟩:=trodAll_cons r1
  obtain⟨rfl,rfl,rfl⟩:=trodAll_nil r2
  obtain rfl:args = #[v0,v1,v2]:=by cases args;simp_all
  obtain⟨rfl,rfl⟩:=trodVars_none hV
  have k0:=h0
  have lt0:∀ x∈p0,x.block<W.heap.size:=by obtain⟨m,hm⟩:=k0;exact DataW.trod_lt m _ _ _ hm
  have k1:=h1
  have lt1:∀ x∈p1,x.block<W.heap.size:=by obtain⟨m,hm⟩:=k1;exact DataW.trod_lt m _ _ _ hm
  have k2:=h2
  have lt2:∀ x∈p2,x.block<W.heap.size:=by obtain⟨m,hm⟩:=k2;exact DataW.trod_lt m _ _ _ hm
  obtain⟨A0,c0,x0,rfl,g0,w0⟩:=zfo Tryz.underlying60 zgv (hval 0 60 v0 rfl rfl) h0
  obtain⟨c1,x1,rfl,g1,w1⟩:=zdB Tryz.underlying27 zgy (hval 1 27 v1 rfl rfl) h1
  obtain⟨x2,rfl,w2⟩:=zgM Tryz.underlying2 (hval 2 2 v2 rfl rfl) h2
  clear hA0 hval0
  obtain⟨fuel,hm⟩:=lawCellsToStep (x0:=x0) (x1:=x1) (x2:=x2) w0 w1 w2
  refine(laws_FnExactCellsToStep_ok (Ext.refl _) g0 g1 hm).mono ?_
  intro e W' hq
  obtain⟨v,rfl,rfl,hS⟩:=Ret.out hq
  have bel:Below W.heap.size W W':=hS.ext
  exact⟨_,rfl,_,_,_,[],_,[],hW',trodAll_mk1 (shut_bool Tryz.underlying4 _),(trodAll_cons_mk (Below.trod laidOut (by kernel_rfl) (of_decide_eq_true (by kernel_rfl)) k0 bel lt0) (trodAll_cons_mk (Below.trod laidOut (by kernel_rfl) (of_decide_eq_true (by kernel_rfl)) k1 bel lt1) (trodAll_cons_mk (Below.trod laidOut (by kernel_rfl) (of_decide_eq_true (by kernel_rfl)) k2 bel lt2) trodAll_mk0))),rfl,bel.frame _,fun h=>by cases h⟩

set_option maxRecDepth 100000 in
theorem j1:(Rows.fnExactCellsToStepRow.wf (OpenSpec.ofChange Rows.fnExactCellsToStepSpec))=true:=by kernel_rfl
set_option maxRecDepth 100000 in
theorem j2:(laidOutB Tryz.prog)=true:=by kernel_rfl
set_option maxRecDepth 100000 in
theorem j3:(mapsRowed Tryz.prog)=true:=by kernel_rfl
set_option maxRecDepth 100000 in
theorem j4:(Tryz.f6.params.all (Tryz.prog.readableRec ·))=true:=by kernel_rfl
set_option maxRecDepth 100000 in
theorem j5:(namedTie Tryz.prog Rows.fnExactCellsToStepRow.named Rows.fnExactCellsToStepSpec.vars)=true:=by kernel_rfl
set_option maxRecDepth 100000 in
theorem j6:((Rows.fnExactCellsToStepRow.stops == []))=true:=by kernel_rfl
set_option maxRecDepth 100000 in
theorem j7:((Tryz.prog.stops == []))=true:=by kernel_rfl
set_option maxRecDepth 100000 in
theorem j8:((Rows.fnExactCellsToStepRow.knobs == []))=true:=by kernel_rfl
set_option maxRecDepth 100000 in
theorem j9:((Tryz.prog.stopKnobs == []))=true:=by kernel_rfl
set_option maxRecDepth 100000 in
theorem j10:((Rows.fnExactCellsToStepRow.inPlace == Tryz.prog.inPlace 6))=true:=by kernel_rfl
set_option maxRecDepth 100000 in
theorem j11:((Rows.fnExactCellsToStepRow.unfollowed == Tryz.prog.unfollowed 6))=true:=by kernel_rfl
set_option maxRecDepth 100000 in
theorem j12:((Rows.fnExactCellsToStepRow.recurses == Tryz.prog.recurses 6))=true:=by kernel_rfl
set_option maxRecDepth 100000 in
theorem j13:((Rows.fnExactCellsToStepRow.named == Tryz.prog.varsNamed 6))=true:=by kernel_rfl
set_option maxRecDepth 100000 in
theorem j14:((Rows.fnExactCellsToStepRow.maps == (Tryz.f6.params.toList++Rows.fnExactCellsToStepSpec.plain.varTypes Tryz.prog).any (Tryz.prog.mapsRec ·)))=true:=by kernel_rfl
set_option maxRecDepth 100000 in
theorem j15:((Rows.fnExactCellsToStepRow.ifaces == (Tryz.f6.params.toList++Rows.fnExactCellsToStepSpec.plain.varTypes Tryz.prog).any (Tryz.prog.ifacesRec ·)))=true:=by kernel_rfl
set_option maxRecDepth 100000 in
theorem j16:((Rows.fnExactCellsToStepRow.mapsOut == Tryz.prog.mapsAmong Tryz.f6.resultTypes.toList))=true:=by kernel_rfl
set_option maxRecDepth 100000 in
theorem j17:((Rows.fnExactCellsToStepRow.loops == (Tryz.f6.params.toList++Rows.fnExactCellsToStepSpec.plain.varTypes Tryz.prog).any (Tryz.prog.loopsFrom ·)))=true:=by kernel_rfl
set_option maxRecDepth 100000 in
theorem j18:((Rows.fnExactCellsToStepRow.wideKeys == (Tryz.f6.params.toList++Rows.fnExactCellsToStepSpec.plain.varTypes Tryz.prog++Tryz.f6.resultTypes.toList).any (Tryz.prog.wideKeysFrom ·)))=true:=by kernel_rfl
set_option maxRecDepth 100000 in
theorem j19:(Rows.fnExactCellsToStepSpec.vars.all (Tryz.prog.varReadable ·))=true:=by kernel_rfl
set_option maxRecDepth 100000 in
theorem j20:(Tryz.f6.resultTypes.all (fun t=>Tryz.prog.readableRec t && decide (t<Tryz.prog.types.size)))=true:=by kernel_rfl
set_option maxRecDepth 100000 in
theorem j21:((Rows.fnExactCellsToStepRow.ifacesOut == Tryz.f6.resultTypes.toList.any (Tryz.prog.ifacesRec ·)))=true:=by kernel_rfl
set_option maxRecDepth 100000 in
theorem j22:((Rows.fnExactCellsToStepRow.loopsOut == Tryz.f6.resultTypes.toList.any (Tryz.prog.loopsFrom ·)))=true:=by kernel_rfl
set_option maxRecDepth 100000 in
theorem j23:((Rows.fnExactCellsToStepRow.plainKeys == Tryz.prog.plainKeys))=true:=by kernel_rfl
set_option maxRecDepth 100000 in
theorem j24:(Rows.fnExactCellsToStepRow.shortTexts.isNone)=true:=by kernel_rfl
set_option maxRecDepth 100000 in
theorem j25:(Tryz.prog.stopsHeard)=true:=by kernel_rfl
set_option maxRecDepth 100000 in
theorem j26:(Tryz.prog.mayEnter)=true:=by kernel_rfl
set_option maxRecDepth 100000 in
theorem j27:((Rows.fnExactCellsToStepRow.lifted == Tryz.prog.liftsFinal))=true:=by kernel_rfl
set_option maxRecDepth 100000 in
theorem j28:((Tryz.prog.make == some Rows.fnExactCellsToStepRow.make))=true:=by kernel_rfl
set_option maxRecDepth 100000 in
theorem j29:((Rows.fnExactCellsToStepRow.kinds == (if Rows.fnExactCellsToStepRow.domain.isEmpty then [] else Tryz.f6.params.toList.map fun t=>match Tryz.prog.underlying t with | some (.int k)=>some k | _=>none)))=true:=by kernel_rfl
set_option maxRecDepth 100000 in
theorem j30:((Rows.fnExactCellsToStepRow.pinned == Rows.fnExactCellsToStepRow.pinnedBy))=true:=by kernel_rfl
set_option maxRecDepth 100000 in
theorem j31:((Rows.fnExactCellsToStepRow.veiled == (Tryz.f6.params.toList++Rows.fnExactCellsToStepSpec.plain.varTypes Tryz.prog++Tryz.f6.resultTypes.toList).any (Tryz.prog.veiledRec ·)))=true:=by kernel_rfl
set_option maxRecDepth 100000 in
theorem j32:(Rows.fnExactCellsToStepRow.veiledFits Tryz.prog Tryz.f6.params.toList (Tryz.f6.params.toList++Rows.fnExactCellsToStepSpec.plain.varTypes Tryz.prog++Tryz.f6.resultTypes.toList))=true:=by kernel_rfl
set_option maxRecDepth 100000 in
theorem closed:joinedFacts Tryz.prog 6 Tryz.f6 Rows.fnExactCellsToStepSpec Rows.fnExactCellsToStepRow=true:=by
  unfold joinedFacts
  simp only [Bool.and_eq_true]
  exact⟨⟨⟨⟨⟨⟨⟨⟨⟨⟨⟨⟨⟨⟨⟨⟨⟨⟨⟨⟨⟨⟨⟨⟨⟨⟨⟨⟨⟨⟨⟨j1,j2⟩,j3⟩,j4⟩,j5⟩,j6⟩,j7⟩,j8⟩,j9⟩,j10⟩,j11⟩,j12⟩,j13⟩,j14⟩,j15⟩,j16⟩,j17⟩,j18⟩,j19⟩,j20⟩,j21⟩,j22⟩,j23⟩,j24⟩,j25⟩,j26⟩,j27⟩,j28⟩,j29⟩,j30⟩,j31⟩,j32⟩
set_option maxRecDepth 100000 in
theorem wraps:Tryz.f6.isWrapper Tryz.prog Rows.fnExactCellsToStepRow.wrapper Rows.fnExactCellsToStepRow.mainSum:=by
  unfold Func.isWrapper;first | (rw [if_pos (by decide +kernel)];kernel_rfl) | (rw [if_neg (by decide +kernel)];exact⟨rfl,rfl⟩)
theorem instd:Tryz.f6.isInstance Tryz.prog Rows.fnExactCellsToStepRow.origin Rows.fnExactCellsToStepRow.targs:=of_decide_eq_true (by kernel_rfl)

set_option maxRecDepth 100000 in
theorem over:Rows.fnExactCellsToStepRow.holds Tryz.pinned (OpenSpec.ofChange Rows.fnExactCellsToStepSpec):=
  OpenClaim.holds_of_wide 6 Tryz.f6 rfl rfl rfl rfl rfl rfl rfl ⟨rfl,rfl,rfl,rfl,rfl⟩ rfl rfl rfl rfl rfl (by kernel_rfl) Tryz.func6 closed instd wraps
    (fun os started H enc _=>lifted os started H enc)

theorem proved:Rows.FnExactCellsToStepSaid:=over
#print axioms proved
end Go.Proofs.YtijgffjimnbcpaaGreat.lawCellsToStep

