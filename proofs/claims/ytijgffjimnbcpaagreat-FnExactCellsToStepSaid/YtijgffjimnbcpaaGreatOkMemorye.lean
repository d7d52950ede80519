/- Cells of a memory: the reference's and the program's tests of one cell agree. Conditions: the data within the law's bound. -/
import Derived.Test.YtijgffjimnbcpaaGreatRounds
import Derived.Test.YtijgffjimnbcpaaGreatFVb
import Derived.Test.YtijgffjimnbcpaaGreatMixed
namespace Go.E
open Go.RowKit Go.Proofs
set_option linter.unusedSimpArgs false
set_option linter.unusedVariables false
def agentKind (k:Int):Bool:=decide (2≤k∧k≤12)
theorem z6p {fuel:Nat}{c:D.Cell}:z19 fuel c=some (agentKind c.Kind):=by
  unfold z19 agentKind;rw [z2p];rfl
theorem z6V {fuel:Nat}{c:D.Cell}:zE fuel c=some (agentKind c.Kind):=by
  unfold zE agentKind
  by_cases h1:2≤c.Kind
  · rw [if_pos (decide_eq_true (by omega))];simp [h1]
  · rw [if_neg (by simp;omega)];simp [h1]


def cellN (c:D.Cell):Bool:=
  if c.Kind=0 then decide (c.Level=0∧c.Data.length=0∧c.Words.length=0) else
  if c.Kind=13 then decide (c.Level=0∧c.Value=0∧c.Data.length=0∧c.Words.length<2) else
  agentKind c.Kind && agentN c.Kind c.Level c.Value c.Data (c.Words.length+1)

theorem z7m {fuel:Nat}{c:D.Cell}(hf:18446744073709551616≤fuel) (hl:c.Words.length≤1048576):
    ∃ ps:List D.Port,z2D fuel c=some ⟨c.Kind,c.Level,c.Value,c.Data,ps⟩∧ps.length=c.Words.length+1:=by
  obtain⟨o,h2,h3⟩:=z2C (body:=z2Z fuel c) (fun i s=>s.1=(i:Int)∧s.2.length=i+1) c.Words.length (fun o=>∃ ps:List D.Port,o=.inl ps∧ps.length=c.Words.length+1) (by
    rintro i ⟨a,ps⟩ hi ⟨g1,g2⟩
    dsimp only at g1 g2
    subst g1
    refine .inl ⟨(w64 ((i:Int)+1),ps++[⟨0,0⟩]),?_,?_,?_⟩
    · unfold z2Z
      rw [if_pos (decide_eq_true (by omega)),if_pos (decide_eq_true (by simp;omega))]
    · dsimp only;rw [zo (by omega) (by omega)];simp
    · simp [g2]) (by
    rintro⟨a,ps⟩ ⟨g1,g2⟩
    dsimp only at g1 g2
    subst g1
    refine .inr ⟨_,?_,ps,rfl,g2⟩
    unfold z2Z
    rw [if_neg (by simp)]) (fuel:=fuel) (i:=0) (s:=(0,[⟨0,0⟩])) (Nat.zero_le _) (by omega) ⟨rfl,rfl⟩
  obtain⟨ps,rfl,h4⟩:=h3
  refine⟨ps,?_,h4⟩
  unfold z2D z4k
  rw [h2];rfl

theorem zfk {fuel:Nat}{c:D.Cell}(hf:18446744073709551616≤fuel) (hs:c.sz≤1048576):z4b fuel c=some (cellN c):=by
  have hm:maxLen=9223372036854775807:=rfl
  have hd:c.Data.length≤1048576:=by unfold D.Cell.sz at hs;omega
  have hw:c.Words.length≤1048576:=by unfold D.Cell.sz at hs;omega
  have hW:w64 ((c.Words.length:Int)+1)=((c.Words.length+1:Nat):Int):=by rw [zo (by omega) (by omega)];simp
  unfold z4b cellN
  rw [z6V,Option.bind_some]
  by_cases ha:2≤c.Kind∧c.Kind≤12
  · have h:agentKind c.Kind=true:=decide_eq_true ha
    rw [h,if_pos rfl,hW,if_pos (decide_eq_true (by omega)),zan hf (by dsimp only;omega) (by simp) (by simp;omega),if_neg (by omega),if_neg (by omega)]
    simp
  · have h:agentKind c.Kind=false:=decide_eq_false ha
    rw [h,if_neg Bool.false_ne_true]
    unfold zh zD
    simp only [Option.bind_some]
    by_cases d:c.Kind=13
    · rw [if_pos (by simpa using d),if_neg (show ¬ c.Kind=0 by omega),if_pos d]
      have e:decide ((c.Words.length:Int)≤1)=decide (c.Words.length<2):=by rw [decide_eq_decide];omega
      by_cases h1:c.Level=0<;>by_cases h2:c.Value=0<;>by_cases h3:c.Data.length=0<;>simp [h1,h2,h3,e]
    · rw [if_neg (by simpa using d)]
      by_cases h0:c.Kind=0
      · rw [if_pos (by simpa using h0),if_pos h0]
        by_cases h1:c.Level=0<;>by_cases h3:c.Data.length=0<;>by_cases h4:c.Words.length=0<;>simp [h1,h3,h4]
      · rw [if_neg (by simpa using h0),if_neg h0,if_neg d];rfl
theorem zfj {fuel:Nat}{c:D.Cell}{n:Nat}(hf:18446744073709551616≤fuel) (hs:c.sz≤1048576) (hn:n≤maxLen):
    z5c fuel c n=some (cellN c && (if c.Kind=0 then decide (-1≤c.Value∧c.Value≤(n:Int) - 1) else true)):=by
  have hm:maxLen=9223372036854775807:=rfl
  have hd:c.Data.length≤1048576:=by unfold D.Cell.sz at hs;omega
  have hw:c.Words.length≤1048576:=by unfold D.Cell.sz at hs;omega
  unfold z5c cellN
  rw [z5D hn]
  by_cases h0:c.Kind=0
  · rw [if_pos (by simpa using h0),if_pos h0,if_pos h0]
    simp only [z2p,Option.bind_some]
    by_cases h1:c.Level=0<;>by_cases h3:c.Data.length=0<;>by_cases h4:c.Words.length=0<;>simp [h1,h3,h4]
  · rw [if_neg (by simpa using h0),if_neg h0,if_neg h0,Bool.and_true]
    by_cases d:c.Kind=13
    · rw [if_pos (by simpa using d),if_pos d]
      by_cases h1:c.Level=0<;>by_cases h2:c.Value=0<;>by_cases h3:c.Data.length=0<;>simp [h1,h2,h3]
      omega
    · rw [if_neg (by simpa using d),if_neg d,z6p,Option.bind_some]
      by_cases ha:agentKind c.Kind=true
      · obtain⟨ps,h1,h2⟩:=z7m (c:=c) hf hw
        rw [if_pos ha,ha,h1,Option.bind_some,zam hf (by dsimp only;omega) (by dsimp only;omega) (by dsimp only;omega)]
        dsimp only [Option.bind_some]
        rw [h2];rfl
      · rw [if_neg ha,Bool.eq_false_iff.2 ha];rfl
end Go.E


namespace Go.E
open Go.RowKit Go.Proofs
set_option linter.unusedSimpArgs false
set_option linter.unusedVariables false


theorem foldLoop {α σ S τ ρ:Type}{xs:List α}{body:S→Option (Rd S τ ρ)}{mk:Int→σ→S}{out:σ→τ}{g:σ→α→σ}{p:α→Bool}{J:Nat→σ→Prop}{v:ρ}{s0:σ}{fuel:Nat}
    (hl:xs.length≤maxLen) (hf:18446744073709551616≤fuel) (hJ:J 0 s0)
    (keep:∀ (i:Nat) s x,xs[i]? = some x→p x=true→J i s→J (i+1) (g s x))
    (step:∀ (i:Nat) s x,i<xs.length→xs[i]? = some x→J i s→body (mk i s)=if p x=true then some (.next (mk (w64 (i+1)) (g s x))) else some (.ret v))
    (last:∀ s,J xs.length s→body (mk xs.length s)=some (.brk (out s))):
    iter body fuel (mk 0 s0)=some (if xs.all p=true then .inl (out (xs.foldl g s0)) else .inr v)∧(xs.all p=true→J xs.length (xs.foldl g s0)):=by
  have hm:maxLen=9223372036854775807:=rfl
  obtain⟨o,h2,h3⟩:=z2C (body:=body) (fun i s=>s=mk i ((xs.take i).foldl g s0)∧(xs.take i).all p=true∧J i ((xs.take i).foldl g s0)) xs.length
    (fun o=>o=(if xs.all p=true then .inl (out (xs.foldl g s0)) else .inr v)∧(xs.all p=true→J xs.length (xs.foldl g s0))) (by
    rintro i s hi ⟨rfl,ha,hj⟩
    obtain⟨x,hx⟩:=z5H hi
    have hs:=step i _ x hi hx hj
    cases hp:p x with
    | false=>
      rw [hp,if_neg (by simp)] at hs
      have:xs.all p=false:=by
        rw [List.all_eq_false];exact⟨x,List.mem_of_getElem? hx,by rw [hp];simp⟩
      exact .inr (.inl ⟨_,hs,by rw [this];rfl,fun h=>by rw [this] at h;cases h⟩)
    | true=>
      rw [hp,if_pos rfl] at hs
      refine .inl ⟨_,hs,?_,?_,?_⟩
      · rw [zo (by omega) (by omega),List.take_add_one,hx];simp
      · rw [List.take_add_one,hx];simp [ha,hp]
      · rw [List.take_add_one,hx];simpa using keep i _ x hx hp hj) (by
    rintro s ⟨rfl,ha,hj⟩
    rw [List.take_length] at ha hj
    refine .inr ⟨_,by rw [List.take_length];exact last _ hj,?_,fun _=>hj⟩
    rw [if_pos ha]) (fuel:=fuel) (i:=0) (s:=mk 0 s0) (Nat.zero_le _) (by omega) ⟨rfl,rfl,hJ⟩
  exact⟨by rw [h2,h3.1],h3.2⟩

def agentAt (m:D.Memory) (i:Int):Bool:=decide (0≤i) && (m.Cells[i.toNat]?).any fun c=>agentKind c.Kind
def wordN (m:D.Memory) (w:D.Word):Bool:=decide (0≤w.At) && (m.Cells[w.At.toNat]?).any fun c=>(w.Tag == 1 && agentKind c.Kind) || (w.Tag == 2 && c.Kind == 13)
def redexN (m:D.Memory) (p:D.Pair):Bool:=decide (p.A<p.B) && (agentAt m p.A && agentAt m p.B)
def cntAt (t:List Int) (i:Int):List Int:=t.set i.toNat (w64 ((t[i.toNat]?).getD 0+1))
def wordsN (m:D.Memory):List D.Word:=m.Root::m.Cells.flatMap fun c=>c.Words

theorem z7R {m:D.Memory}{i:Int}(h0:0≤i) (h1:i<m.Cells.length):∃ c,m.Cells[i.toNat]? = some c∧idx m.Cells i=some c:=by
  obtain⟨c,hc⟩:=z5H (xs:=m.Cells) (i:=i.toNat) (by omega)
  exact⟨c,hc,by unfold idx;rw [if_pos h0,hc]⟩
theorem z7V {fuel:Nat}{m:D.Memory}{i:Int}:zQ fuel m i=some (decide (0≤i∧i<m.Cells.length)):=by
  unfold zQ
  by_cases h1:0≤i
  · rw [if_pos (decide_eq_true (by omega))];simp [h1]
  · rw [if_neg (by simp;omega)];simp [h1]
theorem z9K {α:Type}{xs:List α}{i:Int}{p:α→Bool}(h:¬ (0≤i∧i<xs.length)):(decide (0≤i) && (xs[i.toNat]?).any p)=false:=by
  by_cases h0:0≤i
  · rw [List.getElem?_eq_none (by omega)];simp
  · simp [h0]
theorem zdE {fuel:Nat}{m:D.Memory}{w:D.Word}:z1u fuel m w=some (wordN m w):=by
  unfold z1u wordN
  rw [z7V,Option.bind_some]
  by_cases h:0≤w.At∧w.At<m.Cells.length
  · obtain⟨c,h1,h2⟩:=z7R h.1 h.2
    rw [if_neg (by simpa using h),h1,h2,Option.bind_some,z6V,Option.bind_some]
    simp only [zh,Option.bind_some,h.1,decide_true,Bool.true_and,Option.any_some]
    by_cases t1:w.Tag=1
    · cases agentKind c.Kind<;>simp [t1]
    · by_cases t2:w.Tag=2<;>simp [t1,t2]
  · rw [if_pos (by simp;omega),z9K h]
theorem zdD {fuel:Nat}{m:D.Memory}{w:D.Word}(hn:m.Cells.length≤maxLen):z59 fuel m w=some (wordN m w):=by
  unfold z59 wordN
  rw [z2p,Option.bind_some,z5D hn]
  by_cases h:0≤w.At∧w.At<m.Cells.length
  · obtain⟨c,h1,h2⟩:=z7R h.1 h.2
    rw [if_neg (by simp;omega),h1,h2,Option.bind_some,z6p,Option.bind_some]
    simp only [h.1,decide_true,Bool.true_and,Option.any_some]
    by_cases t1:w.Tag=1
    · cases agentKind c.Kind<;>simp [t1]
    · by_cases t2:w.Tag=2<;>simp [t1,t2]
  · rw [if_pos (by simp;omega),z9K h]
theorem zdk {fuel:Nat}{m:D.Memory}{p:D.Pair}:z1o fuel m p=some (redexN m p):=by
  unfold z1o redexN agentAt
  by_cases hl:p.A<p.B
  · rw [if_pos (decide_eq_true hl),z7V,Option.bind_some,z7V,Option.bind_some]
    by_cases ha:0≤p.A∧p.A<m.Cells.length
    · rw [if_pos (decide_eq_true ha)]
      by_cases hb:0≤p.B∧p.B<m.Cells.length
      · obtain⟨c,h1,h2⟩:=z7R ha.1 ha.2
        obtain⟨d,h3,h4⟩:=z7R hb.1 hb.2
        rw [if_pos (decide_eq_true hb),h1,h2,h3,h4,Option.bind_some,z6V,Option.bind_some,Option.bind_some,z6V]
        simp only [Option.any_some]
        cases agentKind c.Kind<;>simp [hl,ha.1,hb.1]
      · rw [if_neg (by simpa using hb),z9K hb];simp
    · rw [if_neg (by simpa using ha),z9K ha];simp
  · rw [if_neg (by simpa using hl)];simp [hl]
theorem zaP {fuel:Nat}{p:D.Cell→Bool}{f:D.Cell→Option Bool}{xs:List D.Cell}(hf:18446744073709551616≤fuel) (hl:xs.length≤maxLen) (h:∀ n,n∈xs→f n=some (p n)):
    zg fuel xs f=some (xs.any p):=by
  unfold zg zJ
  obtain⟨r,h1,h2⟩:=askIndex (xs:=xs) (p:=p) (body:=zc fuel xs f) (j:=z12 fuel) (t:=()) hl hf rfl (fun i x hi hx=>by
    simp only [zc,zL hx,h x (List.mem_of_getElem? hx),lt_t (show(i:Int)<xs.length by omega),if_true,Option.bind_some]) (by simp [zc])
  rw [h1,Option.bind_some,h2]
theorem zaM {fuel:Nat}{p:D.Word→Bool}{f:D.Word→Option Bool}{xs:List D.Word}(hf:18446744073709551616≤fuel) (hl:xs.length≤maxLen) (h:∀ n,n∈xs→f n=some (p n)):
    zd fuel xs f=some (xs.any p):=by
  unfold zd zF
  obtain⟨r,h1,h2⟩:=askIndex (xs:=xs) (p:=p) (body:=z9 fuel xs f) (j:=zZ fuel) (t:=()) hl hf rfl (fun i x hi hx=>by
    simp only [z9,zL hx,h x (List.mem_of_getElem? hx),lt_t (show(i:Int)<xs.length by omega),if_true,Option.bind_some]) (by simp [z9])
  rw [h1,Option.bind_some,h2]
theorem zaO {fuel:Nat}{p:D.Pair→Bool}{f:D.Pair→Option Bool}{xs:List D.Pair}(hf:18446744073709551616≤fuel) (hl:xs.length≤maxLen) (h:∀ n,n∈xs→f n=some (p n)):
    zf fuel xs f=some (xs.any p):=by
  unfold zf zH
  obtain⟨r,h1,h2⟩:=askIndex (xs:=xs) (p:=p) (body:=zb fuel xs f) (j:=z11 fuel) (t:=()) hl hf rfl (fun i x hi hx=>by
    simp only [zb,zL hx,h x (List.mem_of_getElem? hx),lt_t (show(i:Int)<xs.length by omega),if_true,Option.bind_some]) (by simp [zb])
  rw [h1,Option.bind_some,h2]


theorem zaU {m:D.Memory}(hs:m.sz≤1048576) (i:Nat):((m.Cells.take i).flatMap fun c=>c.Words).length≤1048576:=by
  have h:∀ xs:List D.Cell,(xs.flatMap fun c=>c.Words).length≤sumL D.Cell.sz xs:=by
    intro xs
    induction xs with
    | nil=>simp
    | cons x xs ih=>
        rw [List.flatMap_cons,List.length_append];unfold sumL;have:x.Words.length≤x.sz:=by unfold D.Cell.sz;omega
        omega
  have h2:sumL D.Cell.sz (m.Cells.take i)≤sumL D.Cell.sz m.Cells:=by
    have:=z6a (f:=D.Cell.sz) (xs:=m.Cells.take i) (ys:=m.Cells.drop i)
    rw [List.take_append_drop] at this;omega
  have h3:=h (m.Cells.take i)
  unfold D.Memory.sz szL at hs
  omega
theorem zaV {m:D.Memory}(hs:m.sz≤1048576):(wordsN m).length≤1048577:=by
  have:=zaU hs m.Cells.length
  rw [List.take_length] at this
  unfold wordsN
  rw [List.length_cons];omega
theorem zdq {cs:List D.Cell}:∀ {w:List D.Word},cs.foldl (fun s c=>s++c.Words) w=w++cs.flatMap fun c=>c.Words:=by
  induction cs with
  | nil=>intro w;simp
  | cons c cs ih=>intro w;rw [List.foldl_cons,ih,List.flatMap_cons,List.append_assoc]
theorem za3 {fuel:Nat}{m:D.Memory}(hf:18446744073709551616≤fuel) (hs:m.sz≤1048576):z4z fuel m=some (wordsN m):=by
  have hm:maxLen=9223372036854775807:=rfl
  have hn:m.Cells.length≤1048576:=by unfold D.Memory.sz szL at hs;omega
  have:=(foldLoop (xs:=m.Cells) (body:=z2V fuel m) (mk:=fun i s=>(i,s)) (out:=id) (g:=fun s c=>s++c.Words) (p:=fun _=>true) (v:=[]) (s0:=[m.Root]) (J:=fun i s=>s=m.Root::(m.Cells.take i).flatMap fun c=>c.Words) (by omega) hf rfl
    (fun i s x hx _ hj=>by subst hj;rw [List.take_add_one,hx];simp)
    (fun i s x hi hx hj=>by
      have h1:=zaU hs i
      have h2:x.Words.length≤1048576:=by
        have:=z5N (f:=D.Cell.sz) (xs:=m.Cells) (n:=1048576) (by unfold D.Memory.sz at hs;omega) (List.mem_of_getElem? hx)
        unfold D.Cell.sz at this;omega
      unfold z2V
      dsimp only
      rw [if_pos (decide_eq_true (by omega)),zL hx,Option.bind_some,if_pos (decide_eq_true (by rw [hj,List.length_cons];omega)),if_pos rfl])
    (fun s _=>by unfold z2V;dsimp only;rw [if_neg (by simp)];rfl)).1
  unfold z4z
  rw [this,zdq]
  simp [aft,z5Q,wordsN]
theorem za4 {fuel:Nat}{m:D.Memory}(hf:18446744073709551616≤fuel) (hs:m.sz≤1048576):z2N fuel m=some (wordsN m):=by
  rw [← za3 hf hs];rfl


theorem z8G {m:D.Memory}{w:D.Word}(h:wordN m w=true):0≤w.At∧∃ c,m.Cells[w.At.toNat]? = some c∧idx m.Cells w.At=some c∧((w.Tag=1∧agentKind c.Kind=true)∨(w.Tag=2∧c.Kind=13)):=by
  unfold wordN at h
  rw [Bool.and_eq_true,decide_eq_true_eq] at h
  obtain⟨h0,h1⟩:=h
  cases hc:m.Cells[w.At.toNat]? with
  | none=>rw [hc] at h1;cases h1
  | some c=>
    rw [hc] at h1
    refine⟨h0,c,rfl,by unfold idx;rw [if_pos h0,hc],?_⟩
    simpa using h1
def stopN (m:D.Memory) (w:D.Word):Bool:=w.Tag == 1 || (m.Cells[w.At.toNat]?).any fun c=>c.Words.isEmpty
def nextN (m:D.Memory) (w:D.Word):D.Word:=match m.Cells[w.At.toNat]? with
  | some c=>c.Words.headD ⟨0,0⟩
  | none=>⟨0,0⟩
def resN (m:D.Memory):Nat→D.Word→Option D.Word
  | 0,_=>none
  | k+1,w=>if stopN m w=true then some w else resN m k (nextN m w)
theorem zcE {m:D.Memory}{c:D.Cell}{i:Nat}{w:D.Word}(hc:m.Cells[i]? = some c) (hw:w∈c.Words):w∈wordsN m:=
  List.mem_cons_of_mem _ (List.mem_flatMap.2 ⟨c,List.mem_of_getElem? hc,hw⟩)

theorem zfx {m:D.Memory}{fl:Nat}(hn:m.Cells.length≤1048576) (hW:∀ w,w∈wordsN m→wordN m w=true):∀ (k:Nat) (w:D.Word) (fuel:Nat),wordN m w=true→k≤m.Cells.length+1→k<fuel→
    ∃ o,iter (z1z fl m) fuel ((k:Int) - 1,w.Tag,w.At)=some o∧(match resN m k w with | some r=>o=.inr (r,true) | none=>∃ t,o=.inl t):=by
  intro k
  induction k with
  | zero=>
    intro w fuel hw hk hfu
    cases fuel with
    | zero=>omega
    | succ fuel=>
      exact⟨.inl (w.Tag,w.At),by simp [iter,z1z],_,rfl⟩
  | succ k ih=>
    intro w fuel hw hk hfu
    cases fuel with
    | zero=>omega
    | succ fuel=>
      obtain⟨h0,c,h1,h2,h3⟩:=z8G hw
      have hb:z1z fl m (((k+1:Nat):Int) - 1,w.Tag,w.At)=if stopN m w=true then some (.ret (w,true)) else some (.next ((k:Int) - 1,(nextN m w).Tag,(nextN m w).At)):=by
        unfold z1z
        dsimp only
        rw [if_pos (decide_eq_true (by omega)),h2]
        unfold stopN nextN
        rw [h1]
        rcases h3 with⟨h3,h4⟩ | ⟨h3,h4⟩
        · rw [if_pos (by rw [h3];rfl),if_pos (by rw [h3];rfl)];rfl
        · rw [if_neg (by rw [h3];simp),Option.bind_some,h3]
          unfold z22
          dsimp only
          rw [h2]
          cases hws:c.Words with
          | nil=>simp [hws,← h3]
          | cons v vs=>
            rw [if_neg (by simp;omega),if_neg (by simp [hws]),Option.bind_some,hws,show idx (v::vs) 0=some v from rfl,Option.bind_some,zo (by omega) (by omega)]
            simp
      simp only [iter,hb,resN]
      by_cases hst:stopN m w=true
      · rw [if_pos hst,if_pos hst];exact⟨_,rfl,rfl⟩
      · rw [if_neg hst,if_neg hst]
        refine ih (nextN m w) fuel ?_ (by omega) (by omega)
        unfold nextN
        rw [h1]
        cases hws:c.Words with
        | nil=>exact absurd (by unfold stopN;rw [h1];simp [hws]) hst
        | cons v vs=>
          show wordN m (c.Words.headD ⟨0,0⟩)=true
          rw [hws]
          exact hW v (zcE h1 (by rw [hws];exact List.mem_cons_self))
theorem zfy {m:D.Memory}{fl:Nat}(hn:m.Cells.length≤1048576) (hW:∀ w,w∈wordsN m→wordN m w=true):∀ (k:Nat) (w:D.Word) (fuel:Nat) (i:Nat),wordN m w=true→i+k=m.Cells.length+1→k<fuel→
    ∃ o,iter (zK fl m) fuel ((i:Int),w.Tag,w.At)=some o∧(match resN m k w with | some r=>o=.inr (r,true) | none=>∃ t,o=.inl t):=by
  have hN:w64 ((m.Cells.length:Int)+1)=((m.Cells.length+1:Nat):Int):=by rw [zo (by omega) (by omega)];simp
  intro k
  induction k with
  | zero=>
    intro w fuel i hw hk hfu
    cases fuel with
    | zero=>omega
    | succ fuel=>
      have hb:zK fl m ((i:Int),w.Tag,w.At)=some (.brk ()):=by
        unfold zK
        dsimp only
        rw [hN,if_neg (by simp;omega)]
      simp only [iter,hb]
      exact⟨_,rfl,_,rfl⟩
  | succ k ih=>
    intro w fuel i hw hk hfu
    cases fuel with
    | zero=>omega
    | succ fuel=>
      obtain⟨h0,c,h1,h2,h3⟩:=z8G hw
      have hb:zK fl m ((i:Int),w.Tag,w.At)=if stopN m w=true then some (.ret (w,true)) else some (.next (((i+1:Nat):Int),(nextN m w).Tag,(nextN m w).At)):=by
        unfold zK
        dsimp only
        rw [hN,if_pos (decide_eq_true (by omega)),h2]
        unfold stopN nextN
        rw [h1]
        rcases h3 with⟨h3,h4⟩ | ⟨h3,h4⟩
        · rw [if_pos (by rw [h3];rfl),if_pos (by rw [h3];rfl)];rfl
        · rw [if_neg (by rw [h3];simp),Option.bind_some,h3]
          unfold z1p
          dsimp only
          rw [h2]
          cases hws:c.Words with
          | nil=>simp [hws,← h3]
          | cons v vs=>
            rw [if_neg (by simp;omega),if_neg (by simp [hws]),Option.bind_some,hws,show idx (v::vs) 0=some v from rfl,Option.bind_some,zo (by omega) (by omega)]
            simp
      simp only [iter,hb,resN]
      by_cases hst:stopN m w=true
      · rw [if_pos hst,if_pos hst];exact⟨_,rfl,rfl⟩
      · rw [if_neg hst,if_neg hst]
        refine ih (nextN m w) fuel (i+1) ?_ (by omega) (by omega)
        unfold nextN
        rw [h1]
        cases hws:c.Words with
        | nil=>exact absurd (by unfold stopN;rw [h1];simp [hws]) hst
        | cons v vs=>
          show wordN m (c.Words.headD ⟨0,0⟩)=true
          rw [hws]
          exact hW v (zcE h1 (by rw [hws];exact List.mem_cons_self))
theorem zbu {m:D.Memory}{fuel:Nat}{w:D.Word}(hf:18446744073709551616≤fuel) (hn:m.Cells.length≤1048576) (hW:∀ w,w∈wordsN m→wordN m w=true) (hw:wordN m w=true):
    ∃ x,z3u fuel m w=some x∧x.2=(resN m (m.Cells.length+1) w).isSome∧∀ r,resN m (m.Cells.length+1) w=some r→x=(r,true):=by
  obtain⟨o,h1,h2⟩:=zfx (fl:=fuel) hn hW (m.Cells.length+1) w fuel hw (Nat.le_refl _) (by omega)
  rw [show((m.Cells.length+1:Nat):Int) - 1=(m.Cells.length:Int) by omega] at h1
  unfold z3u
  rw [h1]
  cases hr:resN m (m.Cells.length+1) w with
  | some r=>rw [hr] at h2;subst h2;exact⟨_,rfl,rfl,fun r' h=>by cases h;rfl⟩
  | none=>rw [hr] at h2;obtain⟨t,rfl⟩:=h2;exact⟨_,rfl,rfl,fun r' h=>by cases h⟩
theorem zbv {m:D.Memory}{fuel:Nat}{w:D.Word}(hf:18446744073709551616≤fuel) (hn:m.Cells.length≤1048576) (hW:∀ w,w∈wordsN m→wordN m w=true) (hw:wordN m w=true):
    ∃ x,z1Q fuel m w=some x∧x.2=(resN m (m.Cells.length+1) w).isSome∧∀ r,resN m (m.Cells.length+1) w=some r→x=(r,true):=by
  obtain⟨o,h1,h2⟩:=zfy (fl:=fuel) hn hW (m.Cells.length+1) w fuel 0 hw (by omega) (by omega)
  rw [show((0:Nat):Int)=0 from rfl] at h1
  unfold z1Q
  rw [h1]
  cases hr:resN m (m.Cells.length+1) w with
  | some r=>rw [hr] at h2;subst h2;exact⟨_,rfl,rfl,fun r' h=>by cases h;rfl⟩
  | none=>rw [hr] at h2;obtain⟨t,rfl⟩:=h2;exact⟨_,rfl,rfl,fun r' h=>by cases h⟩


def chainN (m:D.Memory):Nat→Int→Bool
  | 0,a=>a == -1
  | k+1,a=>decide (0≤a) && (m.Cells[a.toNat]?).any fun c=>c.Kind == 0 && chainN m k c.Value
theorem zdy {m:D.Memory}{fl:Nat}(hn:m.Cells.length≤1048576):∀ (k:Nat) (a:Int) (fuel:Nat),k≤m.Cells.length→k<fuel→
    ((iter (zA fl m) fuel ((k:Int),a)).bind fun o=>aft o (z2X fl))=some (chainN m k a):=by
  have hm:maxLen=9223372036854775807:=rfl
  intro k
  induction k with
  | zero=>
    intro a fuel hk hfu
    cases fuel with
    | zero=>omega
    | succ fuel=>simp [iter,zA,aft,z2X,chainN]
  | succ k ih=>
    intro a fuel hk hfu
    cases fuel with
    | zero=>omega
    | succ fuel=>
      by_cases h:0≤a∧a<m.Cells.length
      · obtain⟨c,h1,h2⟩:=z7R h.1 h.2
        by_cases h0:c.Kind=0
        · have hb:zA fl m (((k+1:Nat):Int),a)=some (.next ((k:Int),c.Value)):=by
            unfold zA z1r
            dsimp only
            rw [if_pos (decide_eq_true (by omega)),z2p,z5D (by omega),Option.bind_some,if_neg (by simp;omega),h2,Option.bind_some,if_neg (by simp [h0]),Option.bind_some,zo (by omega) (by omega)]
            simp
          simp only [iter,hb,chainN,h1,h.1,decide_true,Bool.true_and,Option.any_some,h0,beq_self_eq_true]
          exact ih c.Value fuel (by omega) (by omega)
        · have hb:zA fl m (((k+1:Nat):Int),a)=some (.ret false):=by
            unfold zA z1r
            dsimp only
            rw [if_pos (decide_eq_true (by omega)),z2p,z5D (by omega),Option.bind_some,if_neg (by simp;omega),h2,Option.bind_some,if_pos (by simpa using h0)]
          simp only [iter,hb,chainN,h1,h.1,decide_true,Bool.true_and,Option.any_some]
          rw [show(c.Kind == 0)=false by simpa using h0];rfl
      · have hb:zA fl m (((k+1:Nat):Int),a)=some (.ret false):=by
          unfold zA z1r
          dsimp only
          rw [if_pos (decide_eq_true (by omega)),z2p,z5D (by omega),Option.bind_some,if_pos (by simp;omega)];rfl
        simp only [iter,hb,chainN,z9K h]
        rfl
theorem zdz {m:D.Memory}{fl:Nat}{t:Nat}(hn:m.Cells.length≤1048576) (ht:t≤m.Cells.length):∀ (k:Nat) (a:Int) (fuel:Nat) (i:Nat),i+k=t→k<fuel→
    ((iter (z8 fl m (t:Int)) fuel (a,(i:Int))).bind fun o=>aft o (z2o fl))=some (chainN m k a):=by
  have hm:maxLen=9223372036854775807:=rfl
  intro k
  induction k with
  | zero=>
    intro a fuel i hk hfu
    cases fuel with
    | zero=>omega
    | succ fuel=>
      have hb:z8 fl m (t:Int) (a,(i:Int))=some (.brk a):=by
        unfold z8
        dsimp only
        rw [if_neg (by simp;omega)]
      simp [iter,hb,aft,z2o,chainN]
  | succ k ih=>
    intro a fuel i hk hfu
    cases fuel with
    | zero=>omega
    | succ fuel=>
      by_cases h:0≤a∧a<m.Cells.length
      · obtain⟨c,h1,h2⟩:=z7R h.1 h.2
        by_cases h0:c.Kind=0
        · have hb:z8 fl m (t:Int) (a,(i:Int))=some (.next (c.Value,((i+1:Nat):Int))):=by
            unfold z8 zU zD
            dsimp only
            rw [if_pos (decide_eq_true (by omega)),z7V,Option.bind_some,if_neg (by simp;omega),h2,Option.bind_some,Option.bind_some,if_neg (by simp [h0]),Option.bind_some,zo (by omega) (by omega)]
            simp
          simp only [iter,hb,chainN,h1,h.1,decide_true,Bool.true_and,Option.any_some,h0,beq_self_eq_true]
          exact ih c.Value fuel (i+1) (by omega) (by omega)
        · have hb:z8 fl m (t:Int) (a,(i:Int))=some (.ret false):=by
            unfold z8 zU zD
            dsimp only
            rw [if_pos (decide_eq_true (by omega)),z7V,Option.bind_some,if_neg (by simp;omega),h2,Option.bind_some,Option.bind_some,if_pos (by simpa using h0)]
          simp only [iter,hb,chainN,h1,h.1,decide_true,Bool.true_and,Option.any_some]
          rw [show(c.Kind == 0)=false by simpa using h0];rfl
      · have hb:z8 fl m (t:Int) (a,(i:Int))=some (.ret false):=by
          unfold z8 zU
          dsimp only
          rw [if_pos (decide_eq_true (by omega)),z7V,Option.bind_some,if_pos (by simp;omega)];rfl
        simp only [iter,hb,chainN,z9K h]
        rfl
end Go.E


namespace Go.E
open Go.RowKit Go.Proofs
set_option linter.unusedSimpArgs false
set_option linter.unusedVariables false


def freeN (m:D.Memory):Nat:=m.Cells.countP fun c=>c.Kind == 0
theorem zbD {m:D.Memory}{i:Nat}{c:D.Cell}(hx:m.Cells[i]? = some c):(m.Cells.take (i+1)).countP (fun c=>c.Kind == 0)=(m.Cells.take i).countP (fun c=>c.Kind == 0)+if c.Kind=0 then 1 else 0:=by
  rw [List.take_add_one,hx,List.countP_append]
  by_cases h:c.Kind=0<;>simp [h]
theorem zaR {m:D.Memory}{fuel:Nat}(hf:18446744073709551616≤fuel) (hn:m.Cells.length≤1048576):z4A fuel m=some (chainN m (freeN m) m.Free):=by
  have hm:maxLen=9223372036854775807:=rfl
  obtain⟨h1,h2⟩:=foldLoop (xs:=m.Cells) (body:=z2Y fuel m) (mk:=fun i s=>(s,i)) (out:=id) (g:=fun s c=>if c.Kind=0 then w64 (s+1) else s) (p:=fun _=>true) (v:=false) (s0:=0)
    (J:=fun i s=>s=(((m.Cells.take i).countP fun c=>c.Kind == 0:Nat):Int)) (by omega) hf rfl
    (fun i s x hx _ hj=>by
      have hle:=List.countP_le_length (p:=fun c:D.Cell=>c.Kind == 0) (l:=m.Cells.take i)
      rw [List.length_take] at hle
      rw [zbD hx]
      by_cases h:x.Kind=0
      · rw [if_pos h,if_pos h,hj,zo (by omega) (by omega)];simp
      · rw [if_neg h,if_neg h,hj];simp)
    (fun i s x hi hx hj=>by
      unfold z2Y z2W
      dsimp only
      rw [if_pos (decide_eq_true (by omega)),zL hx,Option.bind_some,if_pos rfl]
      by_cases h:x.Kind=0<;>simp [h])
    (fun s _=>by unfold z2Y;dsimp only;rw [if_neg (by simp)];rfl)
  unfold z4A
  rw [if_pos (by simp)] at h1
  have h3:=h2 (by simp)
  rw [List.take_length] at h3
  rw [h1,h3]
  show((iter (zA fuel m) fuel (((freeN m:Nat):Int),m.Free)).bind fun o=>aft o (z2X fuel))=_
  have:=List.countP_le_length (p:=fun c:D.Cell=>c.Kind == 0) (l:=m.Cells)
  exact zdy hn (freeN m) m.Free fuel (by unfold freeN;omega) (by unfold freeN;omega)
theorem zaS {m:D.Memory}{fuel:Nat}(hf:18446744073709551616≤fuel) (hn:m.Cells.length≤1048576):z2k fuel m=some (chainN m (freeN m) m.Free):=by
  have hm:maxLen=9223372036854775807:=rfl
  obtain⟨h1,h2⟩:=foldLoop (xs:=m.Cells) (body:=z1w fuel m) (mk:=fun i s=>(s,i)) (out:=id) (g:=fun s c=>if c.Kind=0 then w64 (s+1) else s) (p:=fun _=>true) (v:=false) (s0:=0)
    (J:=fun i s=>s=(((m.Cells.take i).countP fun c=>c.Kind == 0:Nat):Int)) (by omega) hf rfl
    (fun i s x hx _ hj=>by
      have hle:=List.countP_le_length (p:=fun c:D.Cell=>c.Kind == 0) (l:=m.Cells.take i)
      rw [List.length_take] at hle
      rw [zbD hx]
      by_cases h:x.Kind=0
      · rw [if_pos h,if_pos h,hj,zo (by omega) (by omega)];simp
      · rw [if_neg h,if_neg h,hj];simp)
    (fun i s x hi hx hj=>by
      have hle:=List.countP_le_length (p:=fun c:D.Cell=>c.Kind == 0) (l:=m.Cells.take i)
      rw [List.length_take] at hle
      unfold z1w zD z6U
      dsimp only
      rw [if_pos (decide_eq_true (by omega)),zL hx,Option.bind_some,if_pos rfl]
      by_cases h:x.Kind=0
      · simp [h]
      · simp [h];rw [zo (by omega) (by omega)])
    (fun s _=>by unfold z1w;dsimp only;rw [if_neg (by simp)];rfl)
  unfold z2k
  rw [if_pos (by simp)] at h1
  have h3:=h2 (by simp)
  rw [List.take_length] at h3
  rw [h1,h3]
  have h4:=List.countP_le_length (p:=fun c:D.Cell=>c.Kind == 0) (l:=m.Cells)
  exact zdz (fl:=fuel) (t:=freeN m) hn h4 (freeN m) m.Free fuel 0 (by omega) (by unfold freeN;omega)

theorem zgs {m:D.Memory}:∀ {k:Nat}{a:Int},chainN m k a=true→-1≤a∧a≤(m.Cells.length:Int) - 1
  | 0,a,h=>by
      have:a = -1:=by simpa [chainN] using h
      omega
  | k+1,a,h=>by
    unfold chainN at h
    by_cases h2:0≤a∧a<m.Cells.length
    · omega
    · rw [z9K h2] at h;cases h
theorem z8F {m:D.Memory}{k:Nat}{a:Int}(h:chainN m (k+1) a=true):0≤a∧∃ c,m.Cells[a.toNat]? = some c∧c.Kind=0∧chainN m k c.Value=true:=by
  unfold chainN at h
  rw [Bool.and_eq_true,decide_eq_true_eq] at h
  obtain⟨h0,h1⟩:=h
  cases hc:m.Cells[a.toNat]? with
  | none=>rw [hc] at h1;cases h1
  | some c=>rw [hc] at h1;exact⟨h0,c,rfl,by simpa using h1⟩
theorem zc9 {m:D.Memory}:∀ {k k':Nat}{a:Int},chainN m k a=true→chainN m k' a=true→k=k'
  | 0,0,a,_,_=>rfl
  | 0,k'+1,a,h,h'=>by
      have:a = -1:=by simpa [chainN] using h
      have:=(z8F h').1
      omega
  | k+1,0,a,h,h'=>by
      have:a = -1:=by simpa [chainN] using h'
      have:=(z8F h).1
      omega
  | k+1,k'+1,a,h,h'=>by
    obtain⟨_,c,h1,_,h2⟩:=z8F h
    obtain⟨_,c',h1',_,h2'⟩:=z8F h'
    rw [h1] at h1'
    cases h1'
    rw [zc9 h2 h2']
def pathN (m:D.Memory):Nat→Int→List Nat
  | 0,_=>[]
  | k+1,a=>a.toNat::match m.Cells[a.toNat]? with
    | some c=>pathN m k c.Value
    | none=>[]
theorem zai {m:D.Memory}:∀ {k:Nat}{a:Int},chainN m k a=true→(pathN m k a).length=k∧(pathN m k a).Nodup∧
    ∀ i,i∈pathN m k a→(∃ c,m.Cells[i]? = some c∧c.Kind=0∧-1≤c.Value∧c.Value≤(m.Cells.length:Int) - 1)∧∃ k',k'≤k∧chainN m k' (i:Int)=true
  | 0,a,h=>⟨rfl,List.nodup_nil,fun i hi=>by cases hi⟩
  | k+1,a,h=>by
    obtain⟨h0,c,h1,h2,h3⟩:=z8F h
    obtain⟨g1,g2,g3⟩:=zai h3
    have hp:pathN m (k+1) a=a.toNat::pathN m k c.Value:=by simp only [pathN,h1]
    have ha:((a.toNat:Nat):Int)=a:=by omega
    rw [hp]
    refine⟨by simp [g1],List.nodup_cons.2 ⟨fun hi=>?_,g2⟩,fun i hi=>?_⟩
    · obtain⟨_,k',h4,h5⟩:=g3 _ hi
      rw [ha] at h5
      have:=zc9 h h5
      omega
    · rcases List.mem_cons.1 hi with rfl | hi
      · have:=zgs h3
        exact⟨⟨c,h1,h2,this.1,this.2⟩,k+1,Nat.le_refl _,by rw [ha];exact h⟩
      · obtain⟨h4,k',h5,h6⟩:=g3 _ hi
        exact⟨h4,k',by omega,h6⟩
theorem fits:∀ (L:List Nat),L.Nodup→∀ bs:List Bool,(∀ i,i∈L→bs[i]? = some true)→L.length≤bs.countP id
  | [],_,_,_=>Nat.zero_le _
  | i::L,hn,bs,h=>by
    obtain⟨h1,h2⟩:=List.nodup_cons.1 hn
    have hi:=h i List.mem_cons_self
    obtain⟨hlt,hb⟩:=List.getElem?_eq_some_iff.1 hi
    have h3:=fits L h2 (bs.set i false) (fun j hj=>by
      have hij:i≠j:=fun e=>h1 (by rw [e];exact hj)
      rw [List.getElem?_set_ne hij]
      exact h j (List.mem_cons_of_mem _ hj))
    rw [List.countP_set hlt,hb] at h3
    have h4:0<bs.countP id:=List.countP_pos_iff.2 ⟨true,List.mem_of_getElem? hi,rfl⟩
    rw [if_pos (show id true=true from rfl),if_neg (show ¬ id false=true by simp)] at h3
    rw [List.length_cons]
    omega
theorem zdp {m:D.Memory}(h:chainN m (freeN m) m.Free=true){i:Nat}{c:D.Cell}(hc:m.Cells[i]? = some c) (h0:c.Kind=0):-1≤c.Value∧c.Value≤(m.Cells.length:Int) - 1:=by
  obtain⟨g1,g2,g3⟩:=zai h
  by_cases hi:i∈pathN m (freeN m) m.Free
  · obtain⟨⟨d,h1,_,h2⟩,_⟩:=g3 i hi
    rw [hc] at h1
    cases h1
    exact h2
  · have:=fits (i::pathN m (freeN m) m.Free) (List.nodup_cons.2 ⟨hi,g2⟩) (m.Cells.map fun c=>c.Kind == 0) (fun j hj=>by
      rcases List.mem_cons.1 hj with rfl | hj
      · simp [hc,h0]
      · obtain⟨⟨d,h1,h2,_⟩,_⟩:=g3 j hj
        simp [h1,h2])
    rw [List.countP_map,List.length_cons,g1] at this
    have e:List.countP (id ∘ fun c:D.Cell=>c.Kind == 0) m.Cells=freeN m:=rfl
    omega
end Go.E


namespace Go.E
open Go.RowKit Go.Proofs
set_option linter.unusedSimpArgs false
set_option linter.unusedVariables false

def cntOk (m:D.Memory) (t:List Int):Prop:=t.length=m.Cells.length∧∀ (i:Nat) (c:D.Cell),m.Cells[i]? = some c→c.Kind=0→t[i]? = some 0
theorem zaQ {m:D.Memory}{t:List Int}{i:Int}{c:D.Cell}(h:cntOk m t) (hc:m.Cells[i.toNat]? = some c) (hk:c.Kind≠0):cntOk m (cntAt t i):=by
  refine⟨by unfold cntAt;rw [List.length_set];exact h.1,fun j d hd h0=>?_⟩
  unfold cntAt
  have hij:i.toNat≠j:=fun e=>by rw [e,hd] at hc;cases hc;exact hk h0
  rw [List.getElem?_set_ne hij]
  exact h.2 j d hd h0
theorem z8V {t:List Int}{i:Int}(h0:0≤i) (h1:i.toNat<t.length):idx t i=some ((t[i.toNat]?).getD 0):=by
  unfold idx
  rw [if_pos h0]
  obtain⟨v,hv⟩:=z5H h1
  rw [hv];rfl
theorem z42 {m:D.Memory}{i:Int}(h:agentAt m i=true):0≤i∧i.toNat<m.Cells.length∧∃ c,m.Cells[i.toNat]? = some c∧idx m.Cells i=some c∧agentKind c.Kind=true∧c.Kind≠0:=by
  unfold agentAt at h
  rw [Bool.and_eq_true,decide_eq_true_eq] at h
  obtain⟨h0,h1⟩:=h
  cases hc:m.Cells[i.toNat]? with
  | none=>rw [hc] at h1;cases h1
  | some c=>
    rw [hc] at h1
    have h2:agentKind c.Kind=true:=by simpa using h1
    refine⟨h0,(List.getElem?_eq_some_iff.1 hc).1,c,rfl,by unfold idx;rw [if_pos h0,hc],h2,?_⟩
    unfold agentKind at h2
    simp at h2;omega
theorem zcd {m:D.Memory}{w:D.Word}(h:wordN m w=true):0≤w.At∧w.At.toNat<m.Cells.length∧∃ c,m.Cells[w.At.toNat]? = some c∧c.Kind≠0:=by
  obtain⟨h0,c,h1,_,h2⟩:=z8G h
  refine⟨h0,(List.getElem?_eq_some_iff.1 h1).1,c,h1,?_⟩
  rcases h2 with⟨_,h2⟩ | ⟨_,h2⟩
  · unfold agentKind at h2;simp at h2;omega
  · omega

def putW (t:List Int) (w:D.Word):List Int:=cntAt t w.At
def putR (t:List Int) (p:D.Pair):List Int:=cntAt (cntAt t p.A) p.B
theorem zdU {m:D.Memory}{t:List Int}{w:D.Word}(hw:wordN m w=true) (h:cntOk m t):cntOk m (putW t w):=by
  obtain⟨_,_,c,h1,h2⟩:=zcd hw
  exact zaQ h h1 h2
theorem z83 {m:D.Memory}{p:D.Pair}(h:redexN m p=true):p.A<p.B∧agentAt m p.A=true∧agentAt m p.B=true:=by
  unfold redexN at h;simpa using h
theorem zdV {m:D.Memory}{t:List Int}{p:D.Pair}(hp:redexN m p=true) (h:cntOk m t):cntOk m (putR t p):=by
  obtain⟨_,ha,hb⟩:=z83 hp
  obtain⟨_,_,c,h1,_,_,h2⟩:=z42 ha
  obtain⟨_,_,d,h3,_,_,h4⟩:=z42 hb
  exact zaQ (zaQ h h1 h2) h3 h4


def zerosN (m:D.Memory):List Int:=List.replicate m.Cells.length 0
theorem zap {m:D.Memory}:cntOk m (zerosN m):=
  ⟨List.length_replicate,fun i c hc _=>by
    have:=(List.getElem?_eq_some_iff.1 hc).1
    unfold zerosN
    rw [List.getElem?_replicate,if_pos this]⟩


theorem zdA {m:D.Memory}{fuel:Nat}(hf:18446744073709551616≤fuel) (hs:m.sz≤1048576):
    iter (z2w fuel m) fuel (0,([]:List Int))=some (if(m.Cells.all fun c=>cellN c && (if c.Kind=0 then decide (-1≤c.Value∧c.Value≤(m.Cells.length:Int) - 1) else true))=true then .inl (zerosN m) else .inr false):=by
  have hm:maxLen=9223372036854775807:=rfl
  have hn:m.Cells.length≤1048576:=by unfold D.Memory.sz szL at hs;omega
  obtain⟨h1,h2⟩:=foldLoop (xs:=m.Cells) (body:=z2w fuel m) (mk:=fun i s=>(i,s)) (out:=id) (g:=fun s _=>s++[0]) (p:=fun c=>cellN c && (if c.Kind=0 then decide (-1≤c.Value∧c.Value≤(m.Cells.length:Int) - 1) else true)) (v:=false) (s0:=[])
    (J:=fun i s=>s=List.replicate i 0) (by omega) hf rfl
    (fun i s x hx _ hj=>by rw [hj,← List.replicate_succ'])
    (fun i s x hi hx hj=>by
      unfold z2w
      dsimp only
      rw [if_pos (decide_eq_true (by omega)),zL hx,Option.bind_some,zfj hf (z5N (f:=D.Cell.sz) (xs:=m.Cells) (n:=1048576) (by unfold D.Memory.sz at hs;omega) (List.mem_of_getElem? hx)) (by omega),Option.bind_some]
      have hl:s.length=i:=by rw [hj,List.length_replicate]
      generalize (cellN x && (if x.Kind=0 then decide (-1≤x.Value∧x.Value≤(m.Cells.length:Int) - 1) else true))=b
      cases b with
      | false=>rw [if_pos (show(!false)=true from rfl),if_neg Bool.false_ne_true]
      | true=>rw [if_neg (by simp),if_pos (decide_eq_true (by simp;omega)),if_pos (show true=true from rfl)])
    (fun s _=>by unfold z2w;dsimp only;rw [if_neg (by simp)];rfl)
  rw [h1]
  split
  · rename_i h
    rw [h2 h];rfl
  · rfl
theorem z7A {m:D.Memory}{xs ys:List D.Word}{t:List Int}{fuel:Nat}(hf:18446744073709551616≤fuel) (hn:m.Cells.length≤1048576) (hl:(xs++ys).length≤maxLen) (ht:cntOk m t):
    iter (z2v fuel m ys xs) fuel (0,t)=some (if(xs++ys).all (wordN m)=true then .inl ((xs++ys).foldl putW t) else .inr false)∧((xs++ys).all (wordN m)=true→cntOk m ((xs++ys).foldl putW t)):=by
  have hm:maxLen=9223372036854775807:=rfl
  exact foldLoop (xs:=xs++ys) (body:=z2v fuel m ys xs) (mk:=fun i s=>(i,s)) (out:=id) (g:=putW) (p:=wordN m) (v:=false) (s0:=t)
    (J:=fun i s=>cntOk m s) hl hf ht
    (fun i s x hx hp hj=>zdU hp hj)
    (fun i s x hi hx hj=>by
      unfold z2v
      dsimp only
      rw [if_pos (decide_eq_true (by omega)),zL hx,Option.bind_some,zdD (by omega),Option.bind_some]
      cases hp:wordN m x with
      | false=>rfl
      | true=>
        obtain⟨h0,h1,_⟩:=zcd hp
        rw [if_neg (by simp),Option.bind_some,z8V h0 (by rw [hj.1];exact h1),Option.bind_some,if_pos (decide_eq_true ⟨h0,by rw [hj.1];exact h1⟩)]
        rfl)
    (fun s _=>by unfold z2v;dsimp only;rw [if_neg (by simp)];rfl)
theorem z7B {m:D.Memory}{xs:List D.Pair}{t:List Int}{fuel:Nat}(hf:18446744073709551616≤fuel) (hn:m.Cells.length≤1048576) (hl:xs.length≤maxLen) (ht:cntOk m t):
    iter (z2u fuel m xs) fuel (0,t)=some (if xs.all (redexN m)=true then .inl (xs.foldl putR t) else .inr false)∧(xs.all (redexN m)=true→cntOk m (xs.foldl putR t)):=by
  have hm:maxLen=9223372036854775807:=rfl
  exact foldLoop (xs:=xs) (body:=z2u fuel m xs) (mk:=fun i s=>(i,s)) (out:=id) (g:=putR) (p:=redexN m) (v:=false) (s0:=t)
    (J:=fun i s=>cntOk m s) hl hf ht
    (fun i s x hx hp hj=>zdV hp hj)
    (fun i s x hi hx hj=>by
      unfold z2u z1G
      dsimp only
      rw [if_pos (decide_eq_true (by omega)),zL hx,Option.bind_some,z2p,z5D (by omega),Option.bind_some]
      unfold redexN
      by_cases hB:1≤x.B∧x.B≤(m.Cells.length:Int) - 1
      · rw [if_neg (by simp;omega),z2p,zo (by omega) (by omega),Option.bind_some]
        by_cases hA:0≤x.A∧x.A≤x.B - 1
        · obtain⟨c,h1,h2⟩:=z7R (m:=m) hA.1 (by omega)
          obtain⟨d,h3,h4⟩:=z7R (m:=m) (i:=x.B) (by omega) (by omega)
          have eA:agentAt m x.A=agentKind c.Kind:=by unfold agentAt;rw [h1];simp [hA.1]
          have eB:agentAt m x.B=agentKind d.Kind:=by unfold agentAt;rw [h3];simp;omega
          rw [if_neg (by simp;omega),h2,Option.bind_some,z6p,Option.bind_some,decide_eq_true (show x.A<x.B by omega),eA,eB,h4]
          cases ha:agentKind c.Kind with
          | false=>rfl
          | true=>
            rw [if_neg (by simp),Option.bind_some,z6p,Option.bind_some]
            cases hb:agentKind d.Kind with
            | false=>rfl
            | true=>
              have l1:x.A.toNat<s.length:=by rw [hj.1];omega
              have l2:x.B.toNat<(s.set x.A.toNat (w64 ((s[x.A.toNat]?).getD 0+1))).length:=by rw [List.length_set,hj.1];omega
              rw [if_neg (by simp),z8V hA.1 l1,Option.bind_some,if_pos (decide_eq_true ⟨hA.1,l1⟩),z8V (by omega) l2,Option.bind_some,if_pos (decide_eq_true ⟨by omega,l2⟩)]
              rfl
        · rw [if_pos (by simp;omega)]
          have:(decide (x.A<x.B) && (agentAt m x.A && agentAt m x.B))=false:=by
            cases hA2:agentAt m x.A with
            | false=>simp
            | true=>have:=(z42 hA2).1;simp;intro h;omega
          rw [this];rfl
      · rw [if_pos (by simp;omega)]
        have:(decide (x.A<x.B) && (agentAt m x.A && agentAt m x.B))=false:=by
          cases hA2:agentAt m x.A with
          | false=>simp
          | true=>
            cases hB2:agentAt m x.B with
            | false=>simp
            | true=>have:=(z42 hA2).1;have:=(z42 hB2).2.1;have:=(z42 hB2).1;simp;omega
        rw [this];rfl)
    (fun s _=>by unfold z2u;dsimp only;rw [if_neg (by simp)];rfl)
end Go.E


namespace Go.E
open Go.RowKit Go.Proofs
set_option linter.unusedSimpArgs false
set_option linter.unusedVariables false

theorem zcW {α:Type}{f g:α→Bool}:∀ {xs:List α},(∀ x,x∈xs→f x=g x)→xs.all f=xs.all g
  | [],_=>rfl
  | x::xs,h=>by rw [List.all_cons,List.all_cons,h x List.mem_cons_self,zcW fun y hy=>h y (List.mem_cons_of_mem _ hy)]
theorem zcz {α:Type}{f g:α→Bool}:∀ {xs:List α},xs.all (fun x=>f x && g x)=(xs.all f && xs.all g)
  | []=>rfl
  | x::xs=>by
    rw [List.all_cons,List.all_cons,List.all_cons,zcz (xs:=xs)]
    cases f x<;>cases g x<;>cases xs.all f<;>rfl
theorem zaC {n i x:Nat}(h:(List.range n)[i]? = some x):x=i∧i<n:=by
  obtain⟨h1,h2⟩:=List.getElem?_eq_some_iff.1 h
  rw [List.getElem_range] at h2
  rw [List.length_range] at h1
  exact⟨h2.symm,h1⟩

def occS (m:D.Memory) (t:List Int) (i:Nat):Bool:=(m.Cells[i]?).any fun c=>
  if agentKind c.Kind=true then(t[i]?).getD 0 == 1 else if c.Kind=13 then(t[i]?).getD 0 == w64 (2 - (c.Words.length:Int)) else true
def occI (m:D.Memory) (t:List Int) (i:Nat):Bool:=(m.Cells[i]?).any fun c=>(t[i]?).getD 0 == if c.Kind=0 then 0 else if c.Kind=13∧c.Words.length=0 then 2 else 1
def resS (m:D.Memory) (i:Nat):Bool:=(m.Cells[i]?).any fun c=>!(c.Kind == 13) || (resN m (m.Cells.length+1) ⟨2,i⟩).isSome

theorem zcF {m:D.Memory}{i:Nat}{c:D.Cell}(hc:m.Cells[i]? = some c) (h:c.Kind=13):wordN m ⟨2,i⟩=true:=by
  unfold wordN
  dsimp only
  rw [show(i:Int).toNat=i by omega,hc]
  simp [h]
theorem zaw {m:D.Memory}{t:List Int}{fuel:Nat}(hf:18446744073709551616≤fuel) (hn:m.Cells.length≤1048576) (ht:t.length=m.Cells.length) (hW:∀ w,w∈wordsN m→wordN m w=true):
    iter (z2t fuel m t) fuel 0=some (if(List.range m.Cells.length).all (fun i=>occS m t i && resS m i)=true then .inl () else .inr false):=by
  have hm:maxLen=9223372036854775807:=rfl
  exact(foldLoop (xs:=List.range m.Cells.length) (body:=z2t fuel m t) (mk:=fun i (_:Unit)=>i) (out:=id) (g:=fun s _=>s) (p:=fun i=>occS m t i && resS m i) (v:=false) (s0:=())
    (J:=fun _ _=>True) (by rw [List.length_range];omega) hf trivial
    (fun i s x hx hp hj=>trivial)
    (fun i s x hi hx hj=>by
      obtain⟨rfl,hi⟩:=zaC hx
      obtain⟨c,hc⟩:=z5H hi
      obtain⟨v,hv⟩:=z5H (ht ▸ hi:x<t.length)
      unfold z2t z1j z3r occS resS
      rw [if_pos (decide_eq_true (by omega)),zL hc,Option.bind_some,z6p,Option.bind_some,hc,hv,zL hv]
      simp only [Option.any_some,Option.getD_some,Option.bind_some]
      by_cases ha:agentKind c.Kind=true
      · have d:¬ c.Kind=13:=by unfold agentKind at ha;simp at ha;omega
        simp only [if_pos ha]
        by_cases h1:v=1<;>simp [h1,d]
      · simp only [if_neg ha]
        by_cases d:c.Kind=13
        · obtain⟨r,h1,h2,_⟩:=zbu hf hn hW (zcF hc d)
          rw [if_pos (by simp [d]),h1,Option.bind_some,if_pos d,h2]
          by_cases h3:v=w64 (2 - (c.Words.length:Int))
          · cases (resN m (m.Cells.length+1) ⟨2,(x:Int)⟩).isSome<;>simp [h3,d]
          · simp [h3]
        · simp [d])
    (fun s _=>by unfold z2t;rw [List.length_range,if_neg (by simp)])).1
theorem zaF {m:D.Memory}{fuel:Nat}(hf:18446744073709551616≤fuel) (hn:m.Cells.length≤1048576) (hW:∀ w,w∈wordsN m→wordN m w=true):
    iter (zT fuel m) fuel 0=some (if(List.range m.Cells.length).all (resS m)=true then .inl () else .inr false):=by
  have hm:maxLen=9223372036854775807:=rfl
  exact(foldLoop (xs:=List.range m.Cells.length) (body:=zT fuel m) (mk:=fun i (_:Unit)=>i) (out:=id) (g:=fun s _=>s) (p:=resS m) (v:=false) (s0:=())
    (J:=fun _ _=>True) (by rw [List.length_range];omega) hf trivial
    (fun i s x hx hp hj=>trivial)
    (fun i s x hi hx hj=>by
      obtain⟨rfl,hi⟩:=zaC hx
      obtain⟨c,hc⟩:=z5H hi
      unfold zT z1b zh resS
      rw [if_pos (decide_eq_true (by omega)),zL hc,Option.bind_some,Option.bind_some,hc]
      simp only [Option.any_some]
      by_cases d:c.Kind=13
      · obtain⟨r,h1,h2,_⟩:=zbv hf hn hW (zcF hc d)
        rw [if_pos (by simp [d]),h1,Option.bind_some,h2]
        cases (resN m (m.Cells.length+1) ⟨2,(x:Int)⟩).isSome<;>simp [d]
      · simp [d])
    (fun s _=>by unfold zT;rw [List.length_range,if_neg (by simp)])).1
theorem zaG {m:D.Memory}{t:List Int}{fuel:Nat}(hf:18446744073709551616≤fuel) (hn:m.Cells.length≤1048576) (ht:t.length=m.Cells.length):
    iter (zr fuel m t) fuel 0=some (if(List.range m.Cells.length).all (occI m t)=true then .inl () else .inr false):=by
  have hm:maxLen=9223372036854775807:=rfl
  exact(foldLoop (xs:=List.range m.Cells.length) (body:=zr fuel m t) (mk:=fun i (_:Unit)=>i) (out:=id) (g:=fun s _=>s) (p:=occI m t) (v:=false) (s0:=())
    (J:=fun _ _=>True) (by rw [List.length_range];omega) hf trivial
    (fun i s x hx hp hj=>trivial)
    (fun i s x hi hx hj=>by
      obtain⟨rfl,hi⟩:=zaC hx
      obtain⟨c,hc⟩:=z5H hi
      obtain⟨v,hv⟩:=z5H (ht ▸ hi:x<t.length)
      unfold zr zO zN zP zD zh occI
      rw [if_pos (decide_eq_true (by omega)),zL hc,Option.bind_some,Option.bind_some,hc,hv,zL hv]
      simp only [Option.any_some,Option.getD_some,Option.bind_some]
      by_cases h0:c.Kind=0
      · by_cases h1:v=0<;>simp [h0,h1]
      · by_cases d:c.Kind=13
        · by_cases hw:c.Words.length=0
          · by_cases h1:v=2<;>simp [d,hw,h1]
          · by_cases h1:v=1<;>simp [d,hw,h1]
        · by_cases h1:v=1<;>simp [h0,d,h1])
    (fun s _=>by unfold zr;rw [List.length_range,if_neg (by simp)])).1
theorem zfG {m:D.Memory}{t:List Int}(hc:m.Cells.all cellN=true) (ht:cntOk m t):(List.range m.Cells.length).all (occS m t)=(List.range m.Cells.length).all (occI m t):=by
  refine zcW fun i hi=>?_
  obtain⟨c,hci⟩:=z5H (List.mem_range.1 hi)
  have hcell:=List.all_eq_true.1 hc c (List.mem_of_getElem? hci)
  unfold occS occI
  rw [hci]
  simp only [Option.any_some]
  unfold cellN at hcell
  by_cases h0:c.Kind=0
  · rw [if_neg (by unfold agentKind;simp [h0]),if_neg (by omega),if_pos h0,ht.2 i c hci h0];rfl
  · rw [if_neg h0] at hcell
    rw [if_neg h0]
    by_cases d:c.Kind=13
    · rw [if_pos d] at hcell
      have hl:c.Words.length<2:=by simp at hcell;omega
      rw [if_neg (by unfold agentKind;simp [d]),if_pos d]
      by_cases hw:c.Words.length=0
      · rw [if_pos ⟨d,hw⟩,hw];rfl
      · rw [if_neg (fun h=>hw h.2),show c.Words.length=1 by omega];rfl
    · rw [if_neg d] at hcell
      have ha:agentKind c.Kind=true:=by simp at hcell;exact hcell.1
      rw [if_pos ha,if_neg (fun h=>d h.1)]
theorem z9N {m:D.Memory}{xs ys:List D.Word}{t:List Int}{fuel:Nat}(hf:18446744073709551616≤fuel) (hl:(xs++ys).length≤maxLen) (hW:(xs++ys).all (wordN m)=true) (ht:cntOk m t):
    iter (zv fuel ys xs) fuel (0,t)=some (.inl ((xs++ys).foldl putW t)):=by
  have hm:maxLen=9223372036854775807:=rfl
  have h:=(foldLoop (xs:=xs++ys) (body:=zv fuel ys xs) (mk:=fun i s=>(i,s)) (out:=id) (g:=putW) (p:=fun _=>true) (v:=false) (s0:=t)
    (J:=fun i s=>cntOk m s) hl hf ht
    (fun i s x hx hp hj=>zdU (List.all_eq_true.1 hW x (List.mem_of_getElem? hx)) hj)
    (fun i s x hi hx hj=>by
      obtain⟨h0,h1,_⟩:=zcd (List.all_eq_true.1 hW x (List.mem_of_getElem? hx))
      unfold zv
      dsimp only
      rw [if_pos (decide_eq_true (by omega)),zL hx,Option.bind_some,z8V h0 (by rw [hj.1];exact h1),Option.bind_some,if_pos (decide_eq_true ⟨h0,by rw [hj.1];exact h1⟩)]
      rfl)
    (fun s _=>by unfold zv;dsimp only;rw [if_neg (by simp)];rfl)).1
  rw [h,if_pos (by simp)];rfl
theorem z9O {m:D.Memory}{t:List Int}{fuel:Nat}(hf:18446744073709551616≤fuel) (hl:m.Redexes.length≤maxLen) (hR:m.Redexes.all (redexN m)=true) (ht:cntOk m t):
    iter (zu fuel m) fuel (0,t)=some (.inl (m.Redexes.foldl putR t)):=by
  have hm:maxLen=9223372036854775807:=rfl
  have h:=(foldLoop (xs:=m.Redexes) (body:=zu fuel m) (mk:=fun i s=>(i,s)) (out:=id) (g:=putR) (p:=fun _=>true) (v:=false) (s0:=t)
    (J:=fun i s=>cntOk m s) hl hf ht
    (fun i s x hx hp hj=>zdV (List.all_eq_true.1 hR x (List.mem_of_getElem? hx)) hj)
    (fun i s x hi hx hj=>by
      obtain⟨_,ha,hb⟩:=z83 (List.all_eq_true.1 hR x (List.mem_of_getElem? hx))
      obtain⟨a0,a1,_⟩:=z42 ha
      obtain⟨b0,b1,_⟩:=z42 hb
      unfold zu
      dsimp only
      have l1:x.A.toNat<s.length:=by rw [hj.1];omega
      have l2:x.B.toNat<(s.set x.A.toNat (w64 ((s[x.A.toNat]?).getD 0+1))).length:=by rw [List.length_set,hj.1];omega
      rw [if_pos (decide_eq_true (by omega)),zL hx,Option.bind_some,z8V a0 l1,Option.bind_some,if_pos (decide_eq_true ⟨a0,l1⟩),z8V b0 l2,Option.bind_some,if_pos (decide_eq_true ⟨b0,l2⟩)]
      rfl)
    (fun s _=>by unfold zu;dsimp only;rw [if_neg (by simp)];rfl)).1
  rw [h,if_pos (by simp)];rfl


def tallyN (m:D.Memory) (x1:List D.Word):List Int:=m.Redexes.foldl putR ((wordsN m++x1).foldl putW (zerosN m))
def okN (m:D.Memory) (x1:List D.Word):Bool:=
  decide (1≤m.Cells.length∧m.Cells.length≤1500) && (decide (m.Redexes.length≤m.Cells.length) && (m.Cells.all cellN && ((wordsN m++x1).all (wordN m) && (m.Redexes.all (redexN m) &&
  ((List.range m.Cells.length).all (occI m (tallyN m x1)) && (chainN m (freeN m) m.Free && (List.range m.Cells.length).all (resS m)))))))

theorem zd2 {m:D.Memory}{x1:List D.Word}{fuel:Nat}(hf:18446744073709551616≤fuel) (hs:m.sz≤1048576) (h1:x1.length≤1048576):z1v fuel m x1=some (okN m x1):=by
  have hm:maxLen=9223372036854775807:=rfl
  have hn:m.Cells.length≤1048576:=by unfold D.Memory.sz szL at hs;omega
  have hr:m.Redexes.length≤1048576:=by unfold D.Memory.sz szL at hs;omega
  have hw:=zaV hs
  have hl:(wordsN m++x1).length≤maxLen:=by rw [List.length_append];omega
  have hj:∀ t,zx fuel m x1 t=some (!t && (m.Cells.all cellN && ((wordsN m++x1).all (wordN m) && (m.Redexes.all (redexN m) &&
      ((List.range m.Cells.length).all (occI m (tallyN m x1)) && (chainN m (freeN m) m.Free && (List.range m.Cells.length).all (resS m))))))):=by
    intro t
    cases t with
    | true=>rfl
    | false=>
      unfold zx
      rw [if_neg Bool.false_ne_true,zaP (p:=fun c=>!cellN c) hf (by omega) (fun c hc=>by
        unfold z1F
        rw [zfk hf (z5N (f:=D.Cell.sz) (xs:=m.Cells) (n:=1048576) (by unfold D.Memory.sz at hs;omega) hc)];rfl),z88,Option.bind_some]
      cases hC:m.Cells.all cellN with
      | false=>rfl
      | true=>
        rw [if_neg (by simp),za4 hf hs,Option.bind_some,if_pos (decide_eq_true (by omega)),zaM (p:=fun w=>!wordN m w) hf hl (fun w _=>by unfold z1E;rw [zdE];rfl),z88,Option.bind_some]
        cases hW:(wordsN m++x1).all (wordN m) with
        | false=>rfl
        | true=>
          rw [if_neg (by simp),zaO (p:=fun w=>!redexN m w) hf (by omega) (fun w _=>by unfold z1D;rw [zdk];rfl),z88,Option.bind_some]
          cases hR:m.Redexes.all (redexN m) with
          | false=>rfl
          | true=>
            have hWs:∀ w,w∈wordsN m→wordN m w=true:=fun w hw=>List.all_eq_true.1 hW w (List.mem_append_left _ hw)
            have t1:=(z7A (m:=m) (xs:=wordsN m) (ys:=x1) (t:=zerosN m) hf hn hl zap).2 hW
            have t2:cntOk m (tallyN m x1):=(z7B (m:=m) (xs:=m.Redexes) hf hn (by omega) t1).2 hR
            have ho:z18 fuel m x1=some ((List.range m.Cells.length).all (occI m (tallyN m x1))):=by
              unfold z18
              rw [if_pos (decide_eq_true (by omega)),za4 hf hs,Option.bind_some,if_pos (decide_eq_true (by omega)),show List.replicate (m.Cells.length:Int).toNat (0:Int)=zerosN m from rfl,z9N hf hl hW zap,Option.bind_some]
              show z1h fuel m ((wordsN m++x1).foldl putW (zerosN m))=_
              unfold z1h
              rw [z9O hf (by omega) hR t1,Option.bind_some]
              show z1g fuel m (tallyN m x1)=_
              unfold z1g
              rw [zaG hf hn t2.1,Option.bind_some]
              cases (List.range m.Cells.length).all (occI m (tallyN m x1))<;>rfl
            unfold zS
            rw [if_neg (by simp),ho,Option.bind_some,zaS hf hn]
            cases (List.range m.Cells.length).all (occI m (tallyN m x1)) with
            | false=>rfl
            | true=>
              rw [if_neg (by simp),Option.bind_some]
              unfold z1c
              cases chainN m (freeN m) m.Free with
              | false=>rfl
              | true=>
                rw [if_neg (by simp),zaF hf hn hWs,Option.bind_some]
                cases (List.range m.Cells.length).all (resS m)<;>rfl
  unfold z1v okN
  rw [hj,hj]
  by_cases a1:m.Cells.length<1
  · rw [if_pos (decide_eq_true (by omega)),decide_eq_false (show ¬ (1≤m.Cells.length∧m.Cells.length≤1500) by omega)];rfl
  · by_cases a2:m.Cells.length>1500
    · rw [if_neg (by simp;omega),if_pos (decide_eq_true (by omega)),decide_eq_false (show ¬ (1≤m.Cells.length∧m.Cells.length≤1500) by omega)];rfl
    · rw [if_neg (by simp;omega),if_neg (by simp;omega),decide_eq_true (show 1≤m.Cells.length∧m.Cells.length≤1500 by omega),Bool.true_and]
      by_cases a3:m.Redexes.length≤m.Cells.length
      · rw [decide_eq_true a3,decide_eq_false (by omega)];rfl
      · rw [decide_eq_false a3,decide_eq_true (by omega)];rfl

theorem zd1 {m:D.Memory}{x1:List D.Word}{fuel:Nat}(hf:18446744073709551616≤fuel) (hs:m.sz≤1048576) (h1:x1.length≤1048576):z5a fuel m x1 m.Redexes=some (okN m x1):=by
  have hm:maxLen=9223372036854775807:=rfl
  have hn:m.Cells.length≤1048576:=by unfold D.Memory.sz szL at hs;omega
  have hr:m.Redexes.length≤1048576:=by unfold D.Memory.sz szL at hs;omega
  have hw:=zaV hs
  have hl:(wordsN m++x1).length≤maxLen:=by rw [List.length_append];omega
  have hj:∀ t,z2s fuel m x1 m.Redexes t=some (!t && (m.Cells.all cellN && ((wordsN m++x1).all (wordN m) && (m.Redexes.all (redexN m) &&
      ((List.range m.Cells.length).all (occI m (tallyN m x1)) && (chainN m (freeN m) m.Free && (List.range m.Cells.length).all (resS m))))))):=by
    intro t
    cases t with
    | true=>rfl
    | false=>
      unfold z2s
      rw [if_neg Bool.false_ne_true,zdA hf hs,Option.bind_some]

      have hA:(m.Cells.all fun c=>cellN c && (if c.Kind=0 then decide (-1≤c.Value∧c.Value≤(m.Cells.length:Int) - 1) else true))=
          (m.Cells.all cellN && m.Cells.all fun c=>if c.Kind=0 then decide (-1≤c.Value∧c.Value≤(m.Cells.length:Int) - 1) else true):=zcz
      rw [hA]
      cases hC:m.Cells.all cellN with
      | false=>rfl
      | true=>
        have hV:chainN m (freeN m) m.Free=true→(m.Cells.all fun c=>if c.Kind=0 then decide (-1≤c.Value∧c.Value≤(m.Cells.length:Int) - 1) else true)=true:=fun h=>
          List.all_eq_true.2 fun c hc=>by
            obtain⟨i,hi⟩:=List.getElem?_of_mem hc
            by_cases h0:c.Kind=0
            · rw [if_pos h0];exact decide_eq_true (zdp h hi h0)
            · rw [if_neg h0]
        cases hF:(m.Cells.all fun c=>if c.Kind=0 then decide (-1≤c.Value∧c.Value≤(m.Cells.length:Int) - 1) else true) with
        | false=>
          have hch:chainN m (freeN m) m.Free=false:=by
            cases h:chainN m (freeN m) m.Free with
            | false=>rfl
            | true=>rw [hV h] at hF;cases hF
          rw [hch]
          simp [aft]
        | true=>
          rw [Bool.true_and,if_pos rfl]
          show z4P fuel m x1 m.Redexes (zerosN m)=_
          unfold z4P
          obtain⟨g1,g2⟩:=z7A (m:=m) (xs:=wordsN m) (ys:=x1) (t:=zerosN m) hf hn hl zap
          rw [za3 hf hs,Option.bind_some,if_pos (decide_eq_true (by omega)),g1,Option.bind_some]
          cases hW:(wordsN m++x1).all (wordN m) with
          | false=>rfl
          | true=>
            have hWs:∀ w,w∈wordsN m→wordN m w=true:=fun w hw=>List.all_eq_true.1 hW w (List.mem_append_left _ hw)
            have t1:=g2 hW
            obtain⟨g3,g4⟩:=z7B (m:=m) (xs:=m.Redexes) hf hn (by omega) t1
            rw [if_pos rfl]
            show z4O fuel m m.Redexes ((wordsN m++x1).foldl putW (zerosN m))=_
            unfold z4O
            rw [g3,Option.bind_some]
            cases hR:m.Redexes.all (redexN m) with
            | false=>rfl
            | true=>
              have t2:cntOk m (tallyN m x1):=g4 hR
              rw [if_pos rfl]
              show z4N fuel m (tallyN m x1)=_
              unfold z4N
              rw [zaw hf hn t2.1 hWs,Option.bind_some,zcz,zfG (t:=tallyN m x1) hC t2]
              cases (List.range m.Cells.length).all (occI m (tallyN m x1)) with
              | false=>rfl
              | true=>
                cases (List.range m.Cells.length).all (resS m) with
                | false=>simp [aft]
                | true=>
                  show z4M fuel m ()=_
                  unfold z4M
                  rw [zaR hf hn,Option.bind_some]
                  simp
  unfold z5a okN
  rw [z2p,Option.bind_some,hj,hj]
  by_cases a1:1≤m.Cells.length∧m.Cells.length≤1500
  · rw [if_neg (by simp;omega),decide_eq_true a1,Bool.true_and]
    by_cases a3:m.Redexes.length≤m.Cells.length
    · rw [decide_eq_true a3,decide_eq_false (by omega)];rfl
    · rw [decide_eq_false a3,decide_eq_true (by omega)];rfl
  · rw [if_pos (by simp;omega),decide_eq_false a1];rfl

theorem zgB {m:D.Memory}{fuel:Nat}(hf:18446744073709551616≤fuel) (hs:m.sz≤1048576):z6j fuel m=some (okN m []):=by
  unfold z6j
  rw [zd1 hf hs (by simp)];rfl
theorem zgC {m:D.Memory}{fuel:Nat}(hf:18446744073709551616≤fuel) (hs:m.sz≤1048576):z3e fuel m=some (okN m []):=by
  unfold z3e
  rw [zd2 hf hs (by simp)];rfl
end Go.E


namespace Go.E
open Go.RowKit Go.Proofs
set_option linter.unusedSimpArgs false
set_option linter.unusedVariables false

theorem zcH {m:D.Memory}{x1:List D.Word}(h:okN m x1=true):m.Cells.all cellN=true∧(∀ w,w∈wordsN m→wordN m w=true)∧(List.range m.Cells.length).all (resS m)=true:=by
  unfold okN at h
  rw [Bool.and_eq_true,Bool.and_eq_true,Bool.and_eq_true,Bool.and_eq_true,Bool.and_eq_true,Bool.and_eq_true,Bool.and_eq_true] at h
  obtain⟨_,_,h1,h2,_,_,_,h3⟩:=h
  exact⟨h1,fun w hw=>List.all_eq_true.1 h2 w (List.mem_append_left _ hw),h3⟩
end Go.E


