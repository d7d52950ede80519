/- A memory: the reference's and the program's tests agree. Conditions: the data within the law's bound. -/
import Derived.Test.YtijgffjimnbcpaaGreatOkCell
namespace Go.E
open Go.RowKit Go.Proofs
set_option linter.unusedSimpArgs false
set_option linter.unusedVariables false


theorem foldLoop {α σ S τ ρ:Type}{xs:List α}{body:S→Option (Rd S τ ρ)}{mk:Int→σ→S}{out:σ→τ}{g:σ→α→σ}{p:α→Bool}{J:Nat→σ→Prop}{v:ρ}{s0:σ}{fuel:Nat}
    (hl:xs.length≤maxLen) (hf:18446744073709551616≤fuel) (hJ:J 0 s0)
    (keep:∀ (i:Nat) s x,xs[i]? = some x→p x=true→J i s→J (i+1) (g s x))
    (step:∀ (i:Nat) s x,i<xs.length→xs[i]? = some x→J i s→body (mk i s)=if p x=true then some (.next (mk (w64 (i+1)) (g s x))) else some (.ret v))
    (last:∀ s,J xs.length s→body (mk xs.length s)=some (.brk (out s))):
    iter body fuel (mk 0 s0)=some (if xs.all p=true then .inl (out (xs.foldl g s0)) else .inr v)∧(xs.all p=true→J xs.length (xs.foldl g s0)):=by
  have hm:maxLen=9223372036854775807:=rfl
  obtain⟨o,h2,h3⟩:=z16 (body:=body) (fun i s=>s=mk i ((xs.take i).foldl g s0)∧(xs.take i).all p=true∧J i ((xs.take i).foldl g s0)) xs.length
    (fun o=>o=(if xs.all p=true then .inl (out (xs.foldl g s0)) else .inr v)∧(xs.all p=true→J xs.length (xs.foldl g s0))) (by
    rintro i s hi ⟨rfl,ha,hj⟩
    obtain⟨x,hx⟩:=z4K hi
    have hs:=step i _ x hi hx hj
    cases hp:p x with
    | false=>
      rw [hp,if_neg (by simp)] at hs
      have:xs.all p=false:=by
        rw [List.all_eq_false];exact⟨x,List.mem_of_getElem? hx,by rw [hp];simp⟩
      exact .inr (.inl ⟨_,hs,by rw [this];rfl,fun h=>by rw [this] at h;cases h⟩)
    | true=>
      rw [hp,if_pos rfl] at hs
      refine .inl ⟨_,hs,?_,?_,?_⟩
      · rw [ze (by omega) (by omega),List.take_add_one,hx];simp
      · rw [List.take_add_one,hx];simp [ha,hp]
      · rw [List.take_add_one,hx];simpa using keep i _ x hx hp hj) (by
    rintro s ⟨rfl,ha,hj⟩
    rw [List.take_length] at ha hj
    refine .inr ⟨_,by rw [List.take_length];exact last _ hj,?_,fun _=>hj⟩
    rw [if_pos ha]) (fuel:=fuel) (i:=0) (s:=mk 0 s0) (Nat.zero_le _) (by omega) ⟨rfl,rfl,hJ⟩
  exact⟨by rw [h2,h3.1],h3.2⟩

def agentAt (m:D.Memory) (i:Int):Bool:=decide (0≤i) && (m.Cells[i.toNat]?).any fun c=>agentKind c.Kind
def wordN (m:D.Memory) (w:D.Word):Bool:=decide (0≤w.At) && (m.Cells[w.At.toNat]?).any fun c=>(w.Tag == 1 && agentKind c.Kind) || (w.Tag == 2 && c.Kind == 13)
def redexN (m:D.Memory) (p:D.Pair):Bool:=decide (p.A<p.B) && (agentAt m p.A && agentAt m p.B)
def cntAt (t:List Int) (i:Int):List Int:=t.set i.toNat (w64 ((t[i.toNat]?).getD 0+1))
def wordsN (m:D.Memory):List D.Word:=m.Root::m.Cells.flatMap fun c=>c.Words

theorem z5N {m:D.Memory}{i:Int}(h0:0≤i) (h1:i<m.Cells.length):∃ c,m.Cells[i.toNat]? = some c∧idx m.Cells i=some c:=by
  obtain⟨c,hc⟩:=z4K (xs:=m.Cells) (i:=i.toNat) (by omega)
  exact⟨c,hc,by unfold idx;rw [if_pos h0,hc]⟩
theorem z5V {fuel:Nat}{m:D.Memory}{i:Int}:zH fuel m i=some (decide (0≤i∧i<m.Cells.length)):=by
  unfold zH
  by_cases h1:0≤i
  · rw [if_pos (decide_eq_true (by omega))];simp [h1]
  · rw [if_neg (by simp;omega)];simp [h1]
theorem z7q {α:Type}{xs:List α}{i:Int}{p:α→Bool}(h:¬ (0≤i∧i<xs.length)):(decide (0≤i) && (xs[i.toNat]?).any p)=false:=by
  by_cases h0:0≤i
  · rw [List.getElem?_eq_none (by omega)];simp
  · simp [h0]
theorem zap {fuel:Nat}{m:D.Memory}{w:D.Word}:z1e fuel m w=some (wordN m w):=by
  unfold z1e wordN
  rw [z5V,Option.bind_some]
  by_cases h:0≤w.At∧w.At<m.Cells.length
  · obtain⟨c,h1,h2⟩:=z5N h.1 h.2
    rw [if_neg (by simpa using h),h1,h2,Option.bind_some,z5c,Option.bind_some]
    simp only [zd,Option.bind_some,h.1,decide_true,Bool.true_and,Option.any_some]
    by_cases t1:w.Tag=1
    · cases agentKind c.Kind<;>simp [t1]
    · by_cases t2:w.Tag=2<;>simp [t1,t2]
  · rw [if_pos (by simp;omega),z7q h]
theorem zao {fuel:Nat}{m:D.Memory}{w:D.Word}(hn:m.Cells.length≤maxLen):z43 fuel m w=some (wordN m w):=by
  unfold z43 wordN
  rw [z34,Option.bind_some,z5f hn]
  by_cases h:0≤w.At∧w.At<m.Cells.length
  · obtain⟨c,h1,h2⟩:=z5N h.1 h.2
    rw [if_neg (by simp;omega),h1,h2,Option.bind_some,z4H,Option.bind_some]
    simp only [h.1,decide_true,Bool.true_and,Option.any_some]
    by_cases t1:w.Tag=1
    · cases agentKind c.Kind<;>simp [t1]
    · by_cases t2:w.Tag=2<;>simp [t1,t2]
  · rw [if_pos (by simp;omega),z7q h]
theorem z9Y {fuel:Nat}{m:D.Memory}{p:D.Pair}:z19 fuel m p=some (redexN m p):=by
  unfold z19 redexN agentAt
  by_cases hl:p.A<p.B
  · rw [if_pos (decide_eq_true hl),z5V,Option.bind_some,z5V,Option.bind_some]
    by_cases ha:0≤p.A∧p.A<m.Cells.length
    · rw [if_pos (decide_eq_true ha)]
      by_cases hb:0≤p.B∧p.B<m.Cells.length
      · obtain⟨c,h1,h2⟩:=z5N ha.1 ha.2
        obtain⟨d,h3,h4⟩:=z5N hb.1 hb.2
        rw [if_pos (decide_eq_true hb),h1,h2,h3,h4,Option.bind_some,z5c,Option.bind_some,Option.bind_some,z5c]
        simp only [Option.any_some]
        cases agentKind c.Kind<;>simp [hl,ha.1,hb.1]
      · rw [if_neg (by simpa using hb),z7q hb];simp
    · rw [if_neg (by simpa using ha),z7q ha];simp
  · rw [if_neg (by simpa using hl)];simp [hl]
theorem z8t {fuel:Nat}{p:D.Cell→Bool}{f:D.Cell→Option Bool}{xs:List D.Cell}(hf:18446744073709551616≤fuel) (hl:xs.length≤maxLen) (h:∀ n,n∈xs→f n=some (p n)):
    zc fuel xs f=some (xs.any p):=by
  unfold zc zA
  obtain⟨r,h1,h2⟩:=askIndex (xs:=xs) (p:=p) (body:=z9 fuel xs f) (j:=zQ fuel) (t:=()) hl hf rfl (fun i x hi hx=>by
    simp only [z9,zS hx,h x (List.mem_of_getElem? hx),lt_t (show(i:Int)<xs.length by omega),if_true,Option.bind_some]) (by simp [z9])
  rw [h1,Option.bind_some,h2]
theorem z8r {fuel:Nat}{p:D.Word→Bool}{f:D.Word→Option Bool}{xs:List D.Word}(hf:18446744073709551616≤fuel) (hl:xs.length≤maxLen) (h:∀ n,n∈xs→f n=some (p n)):
    za fuel xs f=some (xs.any p):=by
  unfold za zx
  obtain⟨r,h1,h2⟩:=askIndex (xs:=xs) (p:=p) (body:=z7 fuel xs f) (j:=zO fuel) (t:=()) hl hf rfl (fun i x hi hx=>by
    simp only [z7,zS hx,h x (List.mem_of_getElem? hx),lt_t (show(i:Int)<xs.length by omega),if_true,Option.bind_some]) (by simp [z7])
  rw [h1,Option.bind_some,h2]
theorem z8s {fuel:Nat}{p:D.Pair→Bool}{f:D.Pair→Option Bool}{xs:List D.Pair}(hf:18446744073709551616≤fuel) (hl:xs.length≤maxLen) (h:∀ n,n∈xs→f n=some (p n)):
    zb fuel xs f=some (xs.any p):=by
  unfold zb zy
  obtain⟨r,h1,h2⟩:=askIndex (xs:=xs) (p:=p) (body:=z8 fuel xs f) (j:=zP fuel) (t:=()) hl hf rfl (fun i x hi hx=>by
    simp only [z8,zS hx,h x (List.mem_of_getElem? hx),lt_t (show(i:Int)<xs.length by omega),if_true,Option.bind_some]) (by simp [z8])
  rw [h1,Option.bind_some,h2]


theorem z8y {m:D.Memory}(hs:m.sz≤1048576) (i:Nat):((m.Cells.take i).flatMap fun c=>c.Words).length≤1048576:=by
  have h:∀ xs:List D.Cell,(xs.flatMap fun c=>c.Words).length≤sumL D.Cell.sz xs:=by
    intro xs
    induction xs with
    | nil=>simp
    | cons x xs ih=>
        rw [List.flatMap_cons,List.length_append];unfold sumL;have:x.Words.length≤x.sz:=by unfold D.Cell.sz;omega
        omega
  have h2:sumL D.Cell.sz (m.Cells.take i)≤sumL D.Cell.sz m.Cells:=by
    have:=z4z (f:=D.Cell.sz) (xs:=m.Cells.take i) (ys:=m.Cells.drop i)
    rw [List.take_append_drop] at this;omega
  have h3:=h (m.Cells.take i)
  unfold D.Memory.sz szL at hs
  omega
theorem z8z {m:D.Memory}(hs:m.sz≤1048576):(wordsN m).length≤1048577:=by
  have:=z8y hs m.Cells.length
  rw [List.take_length] at this
  unfold wordsN
  rw [List.length_cons];omega
theorem za5 {cs:List D.Cell}:∀ {w:List D.Word},cs.foldl (fun s c=>s++c.Words) w=w++cs.flatMap fun c=>c.Words:=by
  induction cs with
  | nil=>intro w;simp
  | cons c cs ih=>intro w;rw [List.foldl_cons,ih,List.flatMap_cons,List.append_assoc]
theorem z7Q {fuel:Nat}{m:D.Memory}(hf:18446744073709551616≤fuel) (hs:m.sz≤1048576):z3t fuel m=some (wordsN m):=by
  have hm:maxLen=9223372036854775807:=rfl
  have hn:m.Cells.length≤1048576:=by unfold D.Memory.sz szL at hs;omega
  have:=(foldLoop (xs:=m.Cells) (body:=z2k fuel m) (mk:=fun i s=>(i,s)) (out:=id) (g:=fun s c=>s++c.Words) (p:=fun _=>true) (v:=[]) (s0:=[m.Root]) (J:=fun i s=>s=m.Root::(m.Cells.take i).flatMap fun c=>c.Words) (by omega) hf rfl
    (fun i s x hx _ hj=>by subst hj;rw [List.take_add_one,hx];simp)
    (fun i s x hi hx hj=>by
      have h1:=z8y hs i
      have h2:x.Words.length≤1048576:=by
        have:=z61 (f:=D.Cell.sz) (xs:=m.Cells) (n:=1048576) (by unfold D.Memory.sz at hs;omega) (List.mem_of_getElem? hx)
        unfold D.Cell.sz at this;omega
      unfold z2k
      dsimp only
      rw [if_pos (decide_eq_true (by omega)),zS hx,Option.bind_some,if_pos (decide_eq_true (by rw [hj,List.length_cons];omega)),if_pos rfl])
    (fun s _=>by unfold z2k;dsimp only;rw [if_neg (by simp)];rfl)).1
  unfold z3t
  rw [this,za5]
  simp [aft,z4m,wordsN]
theorem z7R {fuel:Nat}{m:D.Memory}(hf:18446744073709551616≤fuel) (hs:m.sz≤1048576):z2d fuel m=some (wordsN m):=by
  rw [← z7Q hf hs];rfl


theorem z5P {m:D.Memory}{w:D.Word}(h:wordN m w=true):0≤w.At∧∃ c,m.Cells[w.At.toNat]? = some c∧idx m.Cells w.At=some c∧((w.Tag=1∧agentKind c.Kind=true)∨(w.Tag=2∧c.Kind=13)):=by
  unfold wordN at h
  rw [Bool.and_eq_true,decide_eq_true_eq] at h
  obtain⟨h0,h1⟩:=h
  cases hc:m.Cells[w.At.toNat]? with
  | none=>rw [hc] at h1;cases h1
  | some c=>
    rw [hc] at h1
    refine⟨h0,c,rfl,by unfold idx;rw [if_pos h0,hc],?_⟩
    simpa using h1
def stopN (m:D.Memory) (w:D.Word):Bool:=w.Tag == 1 || (m.Cells[w.At.toNat]?).any fun c=>c.Words.isEmpty
def nextN (m:D.Memory) (w:D.Word):D.Word:=match m.Cells[w.At.toNat]? with
  | some c=>c.Words.headD ⟨0,0⟩
  | none=>⟨0,0⟩
def resN (m:D.Memory):Nat→D.Word→Option D.Word
  | 0,_=>none
  | k+1,w=>if stopN m w=true then some w else resN m k (nextN m w)
theorem z6X {m:D.Memory}{c:D.Cell}{i:Nat}{w:D.Word}(hc:m.Cells[i]? = some c) (hw:w∈c.Words):w∈wordsN m:=
  List.mem_cons_of_mem _ (List.mem_flatMap.2 ⟨c,List.mem_of_getElem? hc,hw⟩)

theorem zbL {m:D.Memory}{fl:Nat}(hn:m.Cells.length≤1048576) (hW:∀ w,w∈wordsN m→wordN m w=true):∀ (k:Nat) (w:D.Word) (fuel:Nat),wordN m w=true→k≤m.Cells.length+1→k<fuel→
    ∃ o,iter (z1j fl m) fuel ((k:Int) - 1,w.Tag,w.At)=some o∧(match resN m k w with | some r=>o=.inr (r,true) | none=>∃ t,o=.inl t):=by
  intro k
  induction k with
  | zero=>
    intro w fuel hw hk hfu
    cases fuel with
    | zero=>omega
    | succ fuel=>
      exact⟨.inl (w.Tag,w.At),by simp [iter,z1j],_,rfl⟩
  | succ k ih=>
    intro w fuel hw hk hfu
    cases fuel with
    | zero=>omega
    | succ fuel=>
      obtain⟨h0,c,h1,h2,h3⟩:=z5P hw
      have hb:z1j fl m (((k+1:Nat):Int) - 1,w.Tag,w.At)=if stopN m w=true then some (.ret (w,true)) else some (.next ((k:Int) - 1,(nextN m w).Tag,(nextN m w).At)):=by
        unfold z1j
        dsimp only
        rw [if_pos (decide_eq_true (by omega)),h2]
        unfold stopN nextN
        rw [h1]
        rcases h3 with⟨h3,h4⟩ | ⟨h3,h4⟩
        · rw [if_pos (by rw [h3];rfl),if_pos (by rw [h3];rfl)];rfl
        · rw [if_neg (by rw [h3];simp),Option.bind_some,h3]
          unfold z1H
          dsimp only
          rw [h2]
          cases hws:c.Words with
          | nil=>simp [hws,← h3]
          | cons v vs=>
            rw [if_neg (by simp;omega),if_neg (by simp [hws]),Option.bind_some,hws,show idx (v::vs) 0=some v from rfl,Option.bind_some,ze (by omega) (by omega)]
            simp
      simp only [iter,hb,resN]
      by_cases hst:stopN m w=true
      · rw [if_pos hst,if_pos hst];exact⟨_,rfl,rfl⟩
      · rw [if_neg hst,if_neg hst]
        refine ih (nextN m w) fuel ?_ (by omega) (by omega)
        unfold nextN
        rw [h1]
        cases hws:c.Words with
        | nil=>exact absurd (by unfold stopN;rw [h1];simp [hws]) hst
        | cons v vs=>
          show wordN m (c.Words.headD ⟨0,0⟩)=true
          rw [hws]
          exact hW v (z6X h1 (by rw [hws];exact List.mem_cons_self))
theorem zbM {m:D.Memory}{fl:Nat}(hn:m.Cells.length≤1048576) (hW:∀ w,w∈wordsN m→wordN m w=true):∀ (k:Nat) (w:D.Word) (fuel:Nat) (i:Nat),wordN m w=true→i+k=m.Cells.length+1→k<fuel→
    ∃ o,iter (zB fl m) fuel ((i:Int),w.Tag,w.At)=some o∧(match resN m k w with | some r=>o=.inr (r,true) | none=>∃ t,o=.inl t):=by
  have hN:w64 ((m.Cells.length:Int)+1)=((m.Cells.length+1:Nat):Int):=by rw [ze (by omega) (by omega)];simp
  intro k
  induction k with
  | zero=>
    intro w fuel i hw hk hfu
    cases fuel with
    | zero=>omega
    | succ fuel=>
      have hb:zB fl m ((i:Int),w.Tag,w.At)=some (.brk ()):=by
        unfold zB
        dsimp only
        rw [hN,if_neg (by simp;omega)]
      simp only [iter,hb]
      exact⟨_,rfl,_,rfl⟩
  | succ k ih=>
    intro w fuel i hw hk hfu
    cases fuel with
    | zero=>omega
    | succ fuel=>
      obtain⟨h0,c,h1,h2,h3⟩:=z5P hw
      have hb:zB fl m ((i:Int),w.Tag,w.At)=if stopN m w=true then some (.ret (w,true)) else some (.next (((i+1:Nat):Int),(nextN m w).Tag,(nextN m w).At)):=by
        unfold zB
        dsimp only
        rw [hN,if_pos (decide_eq_true (by omega)),h2]
        unfold stopN nextN
        rw [h1]
        rcases h3 with⟨h3,h4⟩ | ⟨h3,h4⟩
        · rw [if_pos (by rw [h3];rfl),if_pos (by rw [h3];rfl)];rfl
        · rw [if_neg (by rw [h3];simp),Option.bind_some,h3]
          unfold z1a
          dsimp only
          rw [h2]
          cases hws:c.Words with
          | nil=>simp [hws,← h3]
          | cons v vs=>
            rw [if_neg (by simp;omega),if_neg (by simp [hws]),Option.bind_some,hws,show idx (v::vs) 0=some v from rfl,Option.bind_some,ze (by omega) (by omega)]
            simp
      simp only [iter,hb,resN]
      by_cases hst:stopN m w=true
      · rw [if_pos hst,if_pos hst];exact⟨_,rfl,rfl⟩
      · rw [if_neg hst,if_neg hst]
        refine ih (nextN m w) fuel (i+1) ?_ (by omega) (by omega)
        unfold nextN
        rw [h1]
        cases hws:c.Words with
        | nil=>exact absurd (by unfold stopN;rw [h1];simp [hws]) hst
        | cons v vs=>
          show wordN m (c.Words.headD ⟨0,0⟩)=true
          rw [hws]
          exact hW v (z6X h1 (by rw [hws];exact List.mem_cons_self))
theorem z8N {m:D.Memory}{fuel:Nat}{w:D.Word}(hf:18446744073709551616≤fuel) (hn:m.Cells.length≤1048576) (hW:∀ w,w∈wordsN m→wordN m w=true) (hw:wordN m w=true):
    ∃ x,z2H fuel m w=some x∧x.2=(resN m (m.Cells.length+1) w).isSome∧∀ r,resN m (m.Cells.length+1) w=some r→x=(r,true):=by
  obtain⟨o,h1,h2⟩:=zbL (fl:=fuel) hn hW (m.Cells.length+1) w fuel hw (Nat.le_refl _) (by omega)
  rw [show((m.Cells.length+1:Nat):Int) - 1=(m.Cells.length:Int) by omega] at h1
  unfold z2H
  rw [h1]
  cases hr:resN m (m.Cells.length+1) w with
  | some r=>rw [hr] at h2;subst h2;exact⟨_,rfl,rfl,fun r' h=>by cases h;rfl⟩
  | none=>rw [hr] at h2;obtain⟨t,rfl⟩:=h2;exact⟨_,rfl,rfl,fun r' h=>by cases h⟩
theorem z8O {m:D.Memory}{fuel:Nat}{w:D.Word}(hf:18446744073709551616≤fuel) (hn:m.Cells.length≤1048576) (hW:∀ w,w∈wordsN m→wordN m w=true) (hw:wordN m w=true):
    ∃ x,z1D fuel m w=some x∧x.2=(resN m (m.Cells.length+1) w).isSome∧∀ r,resN m (m.Cells.length+1) w=some r→x=(r,true):=by
  obtain⟨o,h1,h2⟩:=zbM (fl:=fuel) hn hW (m.Cells.length+1) w fuel 0 hw (by omega) (by omega)
  rw [show((0:Nat):Int)=0 from rfl] at h1
  unfold z1D
  rw [h1]
  cases hr:resN m (m.Cells.length+1) w with
  | some r=>rw [hr] at h2;subst h2;exact⟨_,rfl,rfl,fun r' h=>by cases h;rfl⟩
  | none=>rw [hr] at h2;obtain⟨t,rfl⟩:=h2;exact⟨_,rfl,rfl,fun r' h=>by cases h⟩


def chainN (m:D.Memory):Nat→Int→Bool
  | 0,a=>a == -1
  | k+1,a=>decide (0≤a) && (m.Cells[a.toNat]?).any fun c=>c.Kind == 0 && chainN m k c.Value
theorem zad {m:D.Memory}{fl:Nat}(hn:m.Cells.length≤1048576):∀ (k:Nat) (a:Int) (fuel:Nat),k≤m.Cells.length→k<fuel→
    ((iter (zr fl m) fuel ((k:Int),a)).bind fun o=>aft o (z2o fl))=some (chainN m k a):=by
  have hm:maxLen=9223372036854775807:=rfl
  intro k
  induction k with
  | zero=>
    intro a fuel hk hfu
    cases fuel with
    | zero=>omega
    | succ fuel=>simp [iter,zr,aft,z2o,chainN]
  | succ k ih=>
    intro a fuel hk hfu
    cases fuel with
    | zero=>omega
    | succ fuel=>
      by_cases h:0≤a∧a<m.Cells.length
      · obtain⟨c,h1,h2⟩:=z5N h.1 h.2
        by_cases h0:c.Kind=0
        · have hb:zr fl m (((k+1:Nat):Int),a)=some (.next ((k:Int),c.Value)):=by
            unfold zr z1b
            dsimp only
            rw [if_pos (decide_eq_true (by omega)),z34,z5f (by omega),Option.bind_some,if_neg (by simp;omega),h2,Option.bind_some,if_neg (by simp [h0]),Option.bind_some,ze (by omega) (by omega)]
            simp
          simp only [iter,hb,chainN,h1,h.1,decide_true,Bool.true_and,Option.any_some,h0,beq_self_eq_true]
          exact ih c.Value fuel (by omega) (by omega)
        · have hb:zr fl m (((k+1:Nat):Int),a)=some (.ret false):=by
            unfold zr z1b
            dsimp only
            rw [if_pos (decide_eq_true (by omega)),z34,z5f (by omega),Option.bind_some,if_neg (by simp;omega),h2,Option.bind_some,if_pos (by simpa using h0)]
          simp only [iter,hb,chainN,h1,h.1,decide_true,Bool.true_and,Option.any_some]
          rw [show(c.Kind == 0)=false by simpa using h0];rfl
      · have hb:zr fl m (((k+1:Nat):Int),a)=some (.ret false):=by
          unfold zr z1b
          dsimp only
          rw [if_pos (decide_eq_true (by omega)),z34,z5f (by omega),Option.bind_some,if_pos (by simp;omega)];rfl
        simp only [iter,hb,chainN,z7q h]
        rfl
theorem zae {m:D.Memory}{fl:Nat}{t:Nat}(hn:m.Cells.length≤1048576) (ht:t≤m.Cells.length):∀ (k:Nat) (a:Int) (fuel:Nat) (i:Nat),i+k=t→k<fuel→
    ((iter (z5 fl m (t:Int)) fuel (a,(i:Int))).bind fun o=>aft o (z1X fl))=some (chainN m k a):=by
  have hm:maxLen=9223372036854775807:=rfl
  intro k
  induction k with
  | zero=>
    intro a fuel i hk hfu
    cases fuel with
    | zero=>omega
    | succ fuel=>
      have hb:z5 fl m (t:Int) (a,(i:Int))=some (.brk a):=by
        unfold z5
        dsimp only
        rw [if_neg (by simp;omega)]
      simp [iter,hb,aft,z1X,chainN]
  | succ k ih=>
    intro a fuel i hk hfu
    cases fuel with
    | zero=>omega
    | succ fuel=>
      by_cases h:0≤a∧a<m.Cells.length
      · obtain⟨c,h1,h2⟩:=z5N h.1 h.2
        by_cases h0:c.Kind=0
        · have hb:z5 fl m (t:Int) (a,(i:Int))=some (.next (c.Value,((i+1:Nat):Int))):=by
            unfold z5 zL zf
            dsimp only
            rw [if_pos (decide_eq_true (by omega)),z5V,Option.bind_some,if_neg (by simp;omega),h2,Option.bind_some,Option.bind_some,if_neg (by simp [h0]),Option.bind_some,ze (by omega) (by omega)]
            simp
          simp only [iter,hb,chainN,h1,h.1,decide_true,Bool.true_and,Option.any_some,h0,beq_self_eq_true]
          exact ih c.Value fuel (i+1) (by omega) (by omega)
        · have hb:z5 fl m (t:Int) (a,(i:Int))=some (.ret false):=by
            unfold z5 zL zf
            dsimp only
            rw [if_pos (decide_eq_true (by omega)),z5V,Option.bind_some,if_neg (by simp;omega),h2,Option.bind_some,Option.bind_some,if_pos (by simpa using h0)]
          simp only [iter,hb,chainN,h1,h.1,decide_true,Bool.true_and,Option.any_some]
          rw [show(c.Kind == 0)=false by simpa using h0];rfl
      · have hb:z5 fl m (t:Int) (a,(i:Int))=some (.ret false):=by
          unfold z5 zL
          dsimp only
          rw [if_pos (decide_eq_true (by omega)),z5V,Option.bind_some,if_pos (by simp;omega)];rfl
        simp only [iter,hb,chainN,z7q h]
        rfl
end Go.E


namespace Go.E
open Go.RowKit Go.Proofs
set_option linter.unusedSimpArgs false
set_option linter.unusedVariables false


def freeN (m:D.Memory):Nat:=m.Cells.countP fun c=>c.Kind == 0
theorem z8X {m:D.Memory}{i:Nat}{c:D.Cell}(hx:m.Cells[i]? = some c):(m.Cells.take (i+1)).countP (fun c=>c.Kind == 0)=(m.Cells.take i).countP (fun c=>c.Kind == 0)+if c.Kind=0 then 1 else 0:=by
  rw [List.take_add_one,hx,List.countP_append]
  by_cases h:c.Kind=0<;>simp [h]
theorem z8v {m:D.Memory}{fuel:Nat}(hf:18446744073709551616≤fuel) (hn:m.Cells.length≤1048576):z3v fuel m=some (chainN m (freeN m) m.Free):=by
  have hm:maxLen=9223372036854775807:=rfl
  obtain⟨h1,h2⟩:=foldLoop (xs:=m.Cells) (body:=z2p fuel m) (mk:=fun i s=>(s,i)) (out:=id) (g:=fun s c=>if c.Kind=0 then w64 (s+1) else s) (p:=fun _=>true) (v:=false) (s0:=0)
    (J:=fun i s=>s=(((m.Cells.take i).countP fun c=>c.Kind == 0:Nat):Int)) (by omega) hf rfl
    (fun i s x hx _ hj=>by
      have hle:=List.countP_le_length (p:=fun c:D.Cell=>c.Kind == 0) (l:=m.Cells.take i)
      rw [List.length_take] at hle
      rw [z8X hx]
      by_cases h:x.Kind=0
      · rw [if_pos h,if_pos h,hj,ze (by omega) (by omega)];simp
      · rw [if_neg h,if_neg h,hj];simp)
    (fun i s x hi hx hj=>by
      unfold z2p z2n
      dsimp only
      rw [if_pos (decide_eq_true (by omega)),zS hx,Option.bind_some,if_pos rfl]
      by_cases h:x.Kind=0<;>simp [h])
    (fun s _=>by unfold z2p;dsimp only;rw [if_neg (by simp)];rfl)
  unfold z3v
  rw [if_pos (by simp)] at h1
  have h3:=h2 (by simp)
  rw [List.take_length] at h3
  rw [h1,h3]
  show((iter (zr fuel m) fuel (((freeN m:Nat):Int),m.Free)).bind fun o=>aft o (z2o fuel))=_
  have:=List.countP_le_length (p:=fun c:D.Cell=>c.Kind == 0) (l:=m.Cells)
  exact zad hn (freeN m) m.Free fuel (by unfold freeN;omega) (by unfold freeN;omega)
theorem z8w {m:D.Memory}{fuel:Nat}(hf:18446744073709551616≤fuel) (hn:m.Cells.length≤1048576):z1W fuel m=some (chainN m (freeN m) m.Free):=by
  have hm:maxLen=9223372036854775807:=rfl
  obtain⟨h1,h2⟩:=foldLoop (xs:=m.Cells) (body:=z1g fuel m) (mk:=fun i s=>(s,i)) (out:=id) (g:=fun s c=>if c.Kind=0 then w64 (s+1) else s) (p:=fun _=>true) (v:=false) (s0:=0)
    (J:=fun i s=>s=(((m.Cells.take i).countP fun c=>c.Kind == 0:Nat):Int)) (by omega) hf rfl
    (fun i s x hx _ hj=>by
      have hle:=List.countP_le_length (p:=fun c:D.Cell=>c.Kind == 0) (l:=m.Cells.take i)
      rw [List.length_take] at hle
      rw [z8X hx]
      by_cases h:x.Kind=0
      · rw [if_pos h,if_pos h,hj,ze (by omega) (by omega)];simp
      · rw [if_neg h,if_neg h,hj];simp)
    (fun i s x hi hx hj=>by
      have hle:=List.countP_le_length (p:=fun c:D.Cell=>c.Kind == 0) (l:=m.Cells.take i)
      rw [List.length_take] at hle
      unfold z1g zf z5b
      dsimp only
      rw [if_pos (decide_eq_true (by omega)),zS hx,Option.bind_some,if_pos rfl]
      by_cases h:x.Kind=0
      · simp [h]
      · simp [h];rw [ze (by omega) (by omega)])
    (fun s _=>by unfold z1g;dsimp only;rw [if_neg (by simp)];rfl)
  unfold z1W
  rw [if_pos (by simp)] at h1
  have h3:=h2 (by simp)
  rw [List.take_length] at h3
  rw [h1,h3]
  have h4:=List.countP_le_length (p:=fun c:D.Cell=>c.Kind == 0) (l:=m.Cells)
  exact zae (fl:=fuel) (t:=freeN m) hn h4 (freeN m) m.Free fuel 0 (by omega) (by unfold freeN;omega)

theorem zcA {m:D.Memory}:∀ {k:Nat}{a:Int},chainN m k a=true→-1≤a∧a≤(m.Cells.length:Int) - 1
  | 0,a,h=>by
      have:a = -1:=by simpa [chainN] using h
      omega
  | k+1,a,h=>by
    unfold chainN at h
    by_cases h2:0≤a∧a<m.Cells.length
    · omega
    · rw [z7q h2] at h;cases h
theorem z6v {m:D.Memory}{k:Nat}{a:Int}(h:chainN m (k+1) a=true):0≤a∧∃ c,m.Cells[a.toNat]? = some c∧c.Kind=0∧chainN m k c.Value=true:=by
  unfold chainN at h
  rw [Bool.and_eq_true,decide_eq_true_eq] at h
  obtain⟨h0,h1⟩:=h
  cases hc:m.Cells[a.toNat]? with
  | none=>rw [hc] at h1;cases h1
  | some c=>rw [hc] at h1;exact⟨h0,c,rfl,by simpa using h1⟩
theorem z9d {m:D.Memory}:∀ {k k':Nat}{a:Int},chainN m k a=true→chainN m k' a=true→k=k'
  | 0,0,a,_,_=>rfl
  | 0,k'+1,a,h,h'=>by
      have:a = -1:=by simpa [chainN] using h
      have:=(z6v h').1
      omega
  | k+1,0,a,h,h'=>by
      have:a = -1:=by simpa [chainN] using h'
      have:=(z6v h).1
      omega
  | k+1,k'+1,a,h,h'=>by
    obtain⟨_,c,h1,_,h2⟩:=z6v h
    obtain⟨_,c',h1',_,h2'⟩:=z6v h'
    rw [h1] at h1'
    cases h1'
    rw [z9d h2 h2']
def pathN (m:D.Memory):Nat→Int→List Nat
  | 0,_=>[]
  | k+1,a=>a.toNat::match m.Cells[a.toNat]? with
    | some c=>pathN m k c.Value
    | none=>[]
theorem z7Z {m:D.Memory}:∀ {k:Nat}{a:Int},chainN m k a=true→(pathN m k a).length=k∧(pathN m k a).Nodup∧
    ∀ i,i∈pathN m k a→(∃ c,m.Cells[i]? = some c∧c.Kind=0∧-1≤c.Value∧c.Value≤(m.Cells.length:Int) - 1)∧∃ k',k'≤k∧chainN m k' (i:Int)=true
  | 0,a,h=>⟨rfl,List.nodup_nil,fun i hi=>by cases hi⟩
  | k+1,a,h=>by
    obtain⟨h0,c,h1,h2,h3⟩:=z6v h
    obtain⟨g1,g2,g3⟩:=z7Z h3
    have hp:pathN m (k+1) a=a.toNat::pathN m k c.Value:=by simp only [pathN,h1]
    have ha:((a.toNat:Nat):Int)=a:=by omega
    rw [hp]
    refine⟨by simp [g1],List.nodup_cons.2 ⟨fun hi=>?_,g2⟩,fun i hi=>?_⟩
    · obtain⟨_,k',h4,h5⟩:=g3 _ hi
      rw [ha] at h5
      have:=z9d h h5
      omega
    · rcases List.mem_cons.1 hi with rfl | hi
      · have:=zcA h3
        exact⟨⟨c,h1,h2,this.1,this.2⟩,k+1,Nat.le_refl _,by rw [ha];exact h⟩
      · obtain⟨h4,k',h5,h6⟩:=g3 _ hi
        exact⟨h4,k',by omega,h6⟩
theorem fits:∀ (L:List Nat),L.Nodup→∀ bs:List Bool,(∀ i,i∈L→bs[i]? = some true)→L.length≤bs.countP id
  | [],_,_,_=>Nat.zero_le _
  | i::L,hn,bs,h=>by
    obtain⟨h1,h2⟩:=List.nodup_cons.1 hn
    have hi:=h i List.mem_cons_self
    obtain⟨hlt,hb⟩:=List.getElem?_eq_some_iff.1 hi
    have h3:=fits L h2 (bs.set i false) (fun j hj=>by
      have hij:i≠j:=fun e=>h1 (by rw [e];exact hj)
      rw [List.getElem?_set_ne hij]
      exact h j (List.mem_cons_of_mem _ hj))
    rw [List.countP_set hlt,hb] at h3
    have h4:0<bs.countP id:=List.countP_pos_iff.2 ⟨true,List.mem_of_getElem? hi,rfl⟩
    rw [if_pos (show id true=true from rfl),if_neg (show ¬ id false=true by simp)] at h3
    rw [List.length_cons]
    omega
theorem za4 {m:D.Memory}(h:chainN m (freeN m) m.Free=true){i:Nat}{c:D.Cell}(hc:m.Cells[i]? = some c) (h0:c.Kind=0):-1≤c.Value∧c.Value≤(m.Cells.length:Int) - 1:=by
  obtain⟨g1,g2,g3⟩:=z7Z h
  by_cases hi:i∈pathN m (freeN m) m.Free
  · obtain⟨⟨d,h1,_,h2⟩,_⟩:=g3 i hi
    rw [hc] at h1
    cases h1
    exact h2
  · have:=fits (i::pathN m (freeN m) m.Free) (List.nodup_cons.2 ⟨hi,g2⟩) (m.Cells.map fun c=>c.Kind == 0) (fun j hj=>by
      rcases List.mem_cons.1 hj with rfl | hj
      · simp [hc,h0]
      · obtain⟨⟨d,h1,h2,_⟩,_⟩:=g3 j hj
        simp [h1,h2])
    rw [List.countP_map,List.length_cons,g1] at this
    have e:List.countP (id ∘ fun c:D.Cell=>c.Kind == 0) m.Cells=freeN m:=rfl
    omega
end Go.E


namespace Go.E
open Go.RowKit Go.Proofs
set_option linter.unusedSimpArgs false
set_option linter.unusedVariables false

def cntOk (m:D.Memory) (t:List Int):Prop:=t.length=m.Cells.length∧∀ (i:Nat) (c:D.Cell),m.Cells[i]? = some c→c.Kind=0→t[i]? = some 0
theorem z8u {m:D.Memory}{t:List Int}{i:Int}{c:D.Cell}(h:cntOk m t) (hc:m.Cells[i.toNat]? = some c) (hk:c.Kind≠0):cntOk m (cntAt t i):=by
  refine⟨by unfold cntAt;rw [List.length_set];exact h.1,fun j d hd h0=>?_⟩
  unfold cntAt
  have hij:i.toNat≠j:=fun e=>by rw [e,hd] at hc;cases hc;exact hk h0
  rw [List.getElem?_set_ne hij]
  exact h.2 j d hd h0
theorem z6H {t:List Int}{i:Int}(h0:0≤i) (h1:i.toNat<t.length):idx t i=some ((t[i.toNat]?).getD 0):=by
  unfold idx
  rw [if_pos h0]
  obtain⟨v,hv⟩:=z4K h1
  rw [hv];rfl
theorem z2B {m:D.Memory}{i:Int}(h:agentAt m i=true):0≤i∧i.toNat<m.Cells.length∧∃ c,m.Cells[i.toNat]? = some c∧idx m.Cells i=some c∧agentKind c.Kind=true∧c.Kind≠0:=by
  unfold agentAt at h
  rw [Bool.and_eq_true,decide_eq_true_eq] at h
  obtain⟨h0,h1⟩:=h
  cases hc:m.Cells[i.toNat]? with
  | none=>rw [hc] at h1;cases h1
  | some c=>
    rw [hc] at h1
    have h2:agentKind c.Kind=true:=by simpa using h1
    refine⟨h0,(List.getElem?_eq_some_iff.1 hc).1,c,rfl,by unfold idx;rw [if_pos h0,hc],h2,?_⟩
    unfold agentKind at h2
    simp at h2;omega
theorem z9h {m:D.Memory}{w:D.Word}(h:wordN m w=true):0≤w.At∧w.At.toNat<m.Cells.length∧∃ c,m.Cells[w.At.toNat]? = some c∧c.Kind≠0:=by
  obtain⟨h0,c,h1,_,h2⟩:=z5P h
  refine⟨h0,(List.getElem?_eq_some_iff.1 h1).1,c,h1,?_⟩
  rcases h2 with⟨_,h2⟩ | ⟨_,h2⟩
  · unfold agentKind at h2;simp at h2;omega
  · omega

def putW (t:List Int) (w:D.Word):List Int:=cntAt t w.At
def putR (t:List Int) (p:D.Pair):List Int:=cntAt (cntAt t p.A) p.B
theorem zaD {m:D.Memory}{t:List Int}{w:D.Word}(hw:wordN m w=true) (h:cntOk m t):cntOk m (putW t w):=by
  obtain⟨_,_,c,h1,h2⟩:=z9h hw
  exact z8u h h1 h2
theorem z62 {m:D.Memory}{p:D.Pair}(h:redexN m p=true):p.A<p.B∧agentAt m p.A=true∧agentAt m p.B=true:=by
  unfold redexN at h;simpa using h
theorem zaE {m:D.Memory}{t:List Int}{p:D.Pair}(hp:redexN m p=true) (h:cntOk m t):cntOk m (putR t p):=by
  obtain⟨_,ha,hb⟩:=z62 hp
  obtain⟨_,_,c,h1,_,_,h2⟩:=z2B ha
  obtain⟨_,_,d,h3,_,_,h4⟩:=z2B hb
  exact z8u (z8u h h1 h2) h3 h4


def zerosN (m:D.Memory):List Int:=List.replicate m.Cells.length 0
theorem z80 {m:D.Memory}:cntOk m (zerosN m):=
  ⟨List.length_replicate,fun i c hc _=>by
    have:=(List.getElem?_eq_some_iff.1 hc).1
    unfold zerosN
    rw [List.getElem?_replicate,if_pos this]⟩


theorem zaf {m:D.Memory}{fuel:Nat}(hf:18446744073709551616≤fuel) (hs:m.sz≤1048576):
    iter (z24 fuel m) fuel (0,([]:List Int))=some (if(m.Cells.all fun c=>cellN c && (if c.Kind=0 then decide (-1≤c.Value∧c.Value≤(m.Cells.length:Int) - 1) else true))=true then .inl (zerosN m) else .inr false):=by
  have hm:maxLen=9223372036854775807:=rfl
  have hn:m.Cells.length≤1048576:=by unfold D.Memory.sz szL at hs;omega
  obtain⟨h1,h2⟩:=foldLoop (xs:=m.Cells) (body:=z24 fuel m) (mk:=fun i s=>(i,s)) (out:=id) (g:=fun s _=>s++[0]) (p:=fun c=>cellN c && (if c.Kind=0 then decide (-1≤c.Value∧c.Value≤(m.Cells.length:Int) - 1) else true)) (v:=false) (s0:=[])
    (J:=fun i s=>s=List.replicate i 0) (by omega) hf rfl
    (fun i s x hx _ hj=>by rw [hj,← List.replicate_succ'])
    (fun i s x hi hx hj=>by
      unfold z24
      dsimp only
      rw [if_pos (decide_eq_true (by omega)),zS hx,Option.bind_some,zbC hf (z61 (f:=D.Cell.sz) (xs:=m.Cells) (n:=1048576) (by unfold D.Memory.sz at hs;omega) (List.mem_of_getElem? hx)) (by omega),Option.bind_some]
      have hl:s.length=i:=by rw [hj,List.length_replicate]
      generalize (cellN x && (if x.Kind=0 then decide (-1≤x.Value∧x.Value≤(m.Cells.length:Int) - 1) else true))=b
      cases b with
      | false=>rw [if_pos (show(!false)=true from rfl),if_neg Bool.false_ne_true]
      | true=>rw [if_neg (by simp),if_pos (decide_eq_true (by simp;omega)),if_pos (show true=true from rfl)])
    (fun s _=>by unfold z24;dsimp only;rw [if_neg (by simp)];rfl)
  rw [h1]
  split
  · rename_i h
    rw [h2 h];rfl
  · rfl
theorem z5A {m:D.Memory}{xs ys:List D.Word}{t:List Int}{fuel:Nat}(hf:18446744073709551616≤fuel) (hn:m.Cells.length≤1048576) (hl:(xs++ys).length≤maxLen) (ht:cntOk m t):
    iter (z23 fuel m ys xs) fuel (0,t)=some (if(xs++ys).all (wordN m)=true then .inl ((xs++ys).foldl putW t) else .inr false)∧((xs++ys).all (wordN m)=true→cntOk m ((xs++ys).foldl putW t)):=by
  have hm:maxLen=9223372036854775807:=rfl
  exact foldLoop (xs:=xs++ys) (body:=z23 fuel m ys xs) (mk:=fun i s=>(i,s)) (out:=id) (g:=putW) (p:=wordN m) (v:=false) (s0:=t)
    (J:=fun i s=>cntOk m s) hl hf ht
    (fun i s x hx hp hj=>zaD hp hj)
    (fun i s x hi hx hj=>by
      unfold z23
      dsimp only
      rw [if_pos (decide_eq_true (by omega)),zS hx,Option.bind_some,zao (by omega),Option.bind_some]
      cases hp:wordN m x with
      | false=>rfl
      | true=>
        obtain⟨h0,h1,_⟩:=z9h hp
        rw [if_neg (by simp),Option.bind_some,z6H h0 (by rw [hj.1];exact h1),Option.bind_some,if_pos (decide_eq_true ⟨h0,by rw [hj.1];exact h1⟩)]
        rfl)
    (fun s _=>by unfold z23;dsimp only;rw [if_neg (by simp)];rfl)
theorem z5B {m:D.Memory}{xs:List D.Pair}{t:List Int}{fuel:Nat}(hf:18446744073709551616≤fuel) (hn:m.Cells.length≤1048576) (hl:xs.length≤maxLen) (ht:cntOk m t):
    iter (z22 fuel m xs) fuel (0,t)=some (if xs.all (redexN m)=true then .inl (xs.foldl putR t) else .inr false)∧(xs.all (redexN m)=true→cntOk m (xs.foldl putR t)):=by
  have hm:maxLen=9223372036854775807:=rfl
  exact foldLoop (xs:=xs) (body:=z22 fuel m xs) (mk:=fun i s=>(i,s)) (out:=id) (g:=putR) (p:=redexN m) (v:=false) (s0:=t)
    (J:=fun i s=>cntOk m s) hl hf ht
    (fun i s x hx hp hj=>zaE hp hj)
    (fun i s x hi hx hj=>by
      unfold z22 z1w
      dsimp only
      rw [if_pos (decide_eq_true (by omega)),zS hx,Option.bind_some,z34,z5f (by omega),Option.bind_some]
      unfold redexN
      by_cases hB:1≤x.B∧x.B≤(m.Cells.length:Int) - 1
      · rw [if_neg (by simp;omega),z34,ze (by omega) (by omega),Option.bind_some]
        by_cases hA:0≤x.A∧x.A≤x.B - 1
        · obtain⟨c,h1,h2⟩:=z5N (m:=m) hA.1 (by omega)
          obtain⟨d,h3,h4⟩:=z5N (m:=m) (i:=x.B) (by omega) (by omega)
          have eA:agentAt m x.A=agentKind c.Kind:=by unfold agentAt;rw [h1];simp [hA.1]
          have eB:agentAt m x.B=agentKind d.Kind:=by unfold agentAt;rw [h3];simp;omega
          rw [if_neg (by simp;omega),h2,Option.bind_some,z4H,Option.bind_some,decide_eq_true (show x.A<x.B by omega),eA,eB,h4]
          cases ha:agentKind c.Kind with
          | false=>rfl
          | true=>
            rw [if_neg (by simp),Option.bind_some,z4H,Option.bind_some]
            cases hb:agentKind d.Kind with
            | false=>rfl
            | true=>
              have l1:x.A.toNat<s.length:=by rw [hj.1];omega
              have l2:x.B.toNat<(s.set x.A.toNat (w64 ((s[x.A.toNat]?).getD 0+1))).length:=by rw [List.length_set,hj.1];omega
              rw [if_neg (by simp),z6H hA.1 l1,Option.bind_some,if_pos (decide_eq_true ⟨hA.1,l1⟩),z6H (by omega) l2,Option.bind_some,if_pos (decide_eq_true ⟨by omega,l2⟩)]
              rfl
        · rw [if_pos (by simp;omega)]
          have:(decide (x.A<x.B) && (agentAt m x.A && agentAt m x.B))=false:=by
            cases hA2:agentAt m x.A with
            | false=>simp
            | true=>have:=(z2B hA2).1;simp;intro h;omega
          rw [this];rfl
      · rw [if_pos (by simp;omega)]
        have:(decide (x.A<x.B) && (agentAt m x.A && agentAt m x.B))=false:=by
          cases hA2:agentAt m x.A with
          | false=>simp
          | true=>
            cases hB2:agentAt m x.B with
            | false=>simp
            | true=>have:=(z2B hA2).1;have:=(z2B hB2).2.1;have:=(z2B hB2).1;simp;omega
        rw [this];rfl)
    (fun s _=>by unfold z22;dsimp only;rw [if_neg (by simp)];rfl)
end Go.E


namespace Go.E
open Go.RowKit Go.Proofs
set_option linter.unusedSimpArgs false
set_option linter.unusedVariables false

theorem z9O {α:Type}{f g:α→Bool}:∀ {xs:List α},(∀ x,x∈xs→f x=g x)→xs.all f=xs.all g
  | [],_=>rfl
  | x::xs,h=>by rw [List.all_cons,List.all_cons,h x List.mem_cons_self,z9O fun y hy=>h y (List.mem_cons_of_mem _ hy)]
theorem z9y {α:Type}{f g:α→Bool}:∀ {xs:List α},xs.all (fun x=>f x && g x)=(xs.all f && xs.all g)
  | []=>rfl
  | x::xs=>by
    rw [List.all_cons,List.all_cons,List.all_cons,z9y (xs:=xs)]
    cases f x<;>cases g x<;>cases xs.all f<;>rfl
theorem z8g {n i x:Nat}(h:(List.range n)[i]? = some x):x=i∧i<n:=by
  obtain⟨h1,h2⟩:=List.getElem?_eq_some_iff.1 h
  rw [List.getElem_range] at h2
  rw [List.length_range] at h1
  exact⟨h2.symm,h1⟩

def occS (m:D.Memory) (t:List Int) (i:Nat):Bool:=(m.Cells[i]?).any fun c=>
  if agentKind c.Kind=true then(t[i]?).getD 0 == 1 else if c.Kind=13 then(t[i]?).getD 0 == w64 (2 - (c.Words.length:Int)) else true
def occI (m:D.Memory) (t:List Int) (i:Nat):Bool:=(m.Cells[i]?).any fun c=>(t[i]?).getD 0 == if c.Kind=0 then 0 else if c.Kind=13∧c.Words.length=0 then 2 else 1
def resS (m:D.Memory) (i:Nat):Bool:=(m.Cells[i]?).any fun c=>!(c.Kind == 13) || (resN m (m.Cells.length+1) ⟨2,i⟩).isSome

theorem z9A {m:D.Memory}{i:Nat}{c:D.Cell}(hc:m.Cells[i]? = some c) (h:c.Kind=13):wordN m ⟨2,i⟩=true:=by
  unfold wordN
  dsimp only
  rw [show(i:Int).toNat=i by omega,hc]
  simp [h]
theorem z8c {m:D.Memory}{t:List Int}{fuel:Nat}(hf:18446744073709551616≤fuel) (hn:m.Cells.length≤1048576) (ht:t.length=m.Cells.length) (hW:∀ w,w∈wordsN m→wordN m w=true):
    iter (z21 fuel m t) fuel 0=some (if(List.range m.Cells.length).all (fun i=>occS m t i && resS m i)=true then .inl () else .inr false):=by
  have hm:maxLen=9223372036854775807:=rfl
  exact(foldLoop (xs:=List.range m.Cells.length) (body:=z21 fuel m t) (mk:=fun i (_:Unit)=>i) (out:=id) (g:=fun s _=>s) (p:=fun i=>occS m t i && resS m i) (v:=false) (s0:=())
    (J:=fun _ _=>True) (by rw [List.length_range];omega) hf trivial
    (fun i s x hx hp hj=>trivial)
    (fun i s x hi hx hj=>by
      obtain⟨rfl,hi⟩:=z8g hx
      obtain⟨c,hc⟩:=z4K hi
      obtain⟨v,hv⟩:=z4K (ht ▸ hi:x<t.length)
      unfold z21 z18 z2G occS resS
      rw [if_pos (decide_eq_true (by omega)),zS hc,Option.bind_some,z4H,Option.bind_some,hc,hv,zS hv]
      simp only [Option.any_some,Option.getD_some,Option.bind_some]
      by_cases ha:agentKind c.Kind=true
      · have d:¬ c.Kind=13:=by unfold agentKind at ha;simp at ha;omega
        simp only [if_pos ha]
        by_cases h1:v=1<;>simp [h1,d]
      · simp only [if_neg ha]
        by_cases d:c.Kind=13
        · obtain⟨r,h1,h2,_⟩:=z8N hf hn hW (z9A hc d)
          rw [if_pos (by simp [d]),h1,Option.bind_some,if_pos d,h2]
          by_cases h3:v=w64 (2 - (c.Words.length:Int))
          · cases (resN m (m.Cells.length+1) ⟨2,(x:Int)⟩).isSome<;>simp [h3,d]
          · simp [h3]
        · simp [d])
    (fun s _=>by unfold z21;rw [List.length_range,if_neg (by simp)])).1
theorem z8m {m:D.Memory}{fuel:Nat}(hf:18446744073709551616≤fuel) (hn:m.Cells.length≤1048576) (hW:∀ w,w∈wordsN m→wordN m w=true):
    iter (zK fuel m) fuel 0=some (if(List.range m.Cells.length).all (resS m)=true then .inl () else .inr false):=by
  have hm:maxLen=9223372036854775807:=rfl
  exact(foldLoop (xs:=List.range m.Cells.length) (body:=zK fuel m) (mk:=fun i (_:Unit)=>i) (out:=id) (g:=fun s _=>s) (p:=resS m) (v:=false) (s0:=())
    (J:=fun _ _=>True) (by rw [List.length_range];omega) hf trivial
    (fun i s x hx hp hj=>trivial)
    (fun i s x hi hx hj=>by
      obtain⟨rfl,hi⟩:=z8g hx
      obtain⟨c,hc⟩:=z4K hi
      unfold zK zZ zd resS
      rw [if_pos (decide_eq_true (by omega)),zS hc,Option.bind_some,Option.bind_some,hc]
      simp only [Option.any_some]
      by_cases d:c.Kind=13
      · obtain⟨r,h1,h2,_⟩:=z8O hf hn hW (z9A hc d)
        rw [if_pos (by simp [d]),h1,Option.bind_some,h2]
        cases (resN m (m.Cells.length+1) ⟨2,(x:Int)⟩).isSome<;>simp [d]
      · simp [d])
    (fun s _=>by unfold zK;rw [List.length_range,if_neg (by simp)])).1
theorem z8n {m:D.Memory}{t:List Int}{fuel:Nat}(hf:18446744073709551616≤fuel) (hn:m.Cells.length≤1048576) (ht:t.length=m.Cells.length):
    iter (zk fuel m t) fuel 0=some (if(List.range m.Cells.length).all (occI m t)=true then .inl () else .inr false):=by
  have hm:maxLen=9223372036854775807:=rfl
  exact(foldLoop (xs:=List.range m.Cells.length) (body:=zk fuel m t) (mk:=fun i (_:Unit)=>i) (out:=id) (g:=fun s _=>s) (p:=occI m t) (v:=false) (s0:=())
    (J:=fun _ _=>True) (by rw [List.length_range];omega) hf trivial
    (fun i s x hx hp hj=>trivial)
    (fun i s x hi hx hj=>by
      obtain⟨rfl,hi⟩:=z8g hx
      obtain⟨c,hc⟩:=z4K hi
      obtain⟨v,hv⟩:=z4K (ht ▸ hi:x<t.length)
      unfold zk zF zE zG zf zd occI
      rw [if_pos (decide_eq_true (by omega)),zS hc,Option.bind_some,Option.bind_some,hc,hv,zS hv]
      simp only [Option.any_some,Option.getD_some,Option.bind_some]
      by_cases h0:c.Kind=0
      · by_cases h1:v=0<;>simp [h0,h1]
      · by_cases d:c.Kind=13
        · by_cases hw:c.Words.length=0
          · by_cases h1:v=2<;>simp [d,hw,h1]
          · by_cases h1:v=1<;>simp [d,hw,h1]
        · by_cases h1:v=1<;>simp [h0,d,h1])
    (fun s _=>by unfold zk;rw [List.length_range,if_neg (by simp)])).1
theorem zbS {m:D.Memory}{t:List Int}(hc:m.Cells.all cellN=true) (ht:cntOk m t):(List.range m.Cells.length).all (occS m t)=(List.range m.Cells.length).all (occI m t):=by
  refine z9O fun i hi=>?_
  obtain⟨c,hci⟩:=z4K (List.mem_range.1 hi)
  have hcell:=List.all_eq_true.1 hc c (List.mem_of_getElem? hci)
  unfold occS occI
  rw [hci]
  simp only [Option.any_some]
  unfold cellN at hcell
  by_cases h0:c.Kind=0
  · rw [if_neg (by unfold agentKind;simp [h0]),if_neg (by omega),if_pos h0,ht.2 i c hci h0];rfl
  · rw [if_neg h0] at hcell
    rw [if_neg h0]
    by_cases d:c.Kind=13
    · rw [if_pos d] at hcell
      have hl:c.Words.length<2:=by simp at hcell;omega
      rw [if_neg (by unfold agentKind;simp [d]),if_pos d]
      by_cases hw:c.Words.length=0
      · rw [if_pos ⟨d,hw⟩,hw];rfl
      · rw [if_neg (fun h=>hw h.2),show c.Words.length=1 by omega];rfl
    · rw [if_neg d] at hcell
      have ha:agentKind c.Kind=true:=by simp at hcell;exact hcell.1
      rw [if_pos ha,if_neg (fun h=>d h.1)]
theorem z7u {m:D.Memory}{xs ys:List D.Word}{t:List Int}{fuel:Nat}(hf:18446744073709551616≤fuel) (hl:(xs++ys).length≤maxLen) (hW:(xs++ys).all (wordN m)=true) (ht:cntOk m t):
    iter (zn fuel ys xs) fuel (0,t)=some (.inl ((xs++ys).foldl putW t)):=by
  have hm:maxLen=9223372036854775807:=rfl
  have h:=(foldLoop (xs:=xs++ys) (body:=zn fuel ys xs) (mk:=fun i s=>(i,s)) (out:=id) (g:=putW) (p:=fun _=>true) (v:=false) (s0:=t)
    (J:=fun i s=>cntOk m s) hl hf ht
    (fun i s x hx hp hj=>zaD (List.all_eq_true.1 hW x (List.mem_of_getElem? hx)) hj)
    (fun i s x hi hx hj=>by
      obtain⟨h0,h1,_⟩:=z9h (List.all_eq_true.1 hW x (List.mem_of_getElem? hx))
      unfold zn
      dsimp only
      rw [if_pos (decide_eq_true (by omega)),zS hx,Option.bind_some,z6H h0 (by rw [hj.1];exact h1),Option.bind_some,if_pos (decide_eq_true ⟨h0,by rw [hj.1];exact h1⟩)]
      rfl)
    (fun s _=>by unfold zn;dsimp only;rw [if_neg (by simp)];rfl)).1
  rw [h,if_pos (by simp)];rfl
theorem z7v {m:D.Memory}{t:List Int}{fuel:Nat}(hf:18446744073709551616≤fuel) (hl:m.Redexes.length≤maxLen) (hR:m.Redexes.all (redexN m)=true) (ht:cntOk m t):
    iter (zm fuel m) fuel (0,t)=some (.inl (m.Redexes.foldl putR t)):=by
  have hm:maxLen=9223372036854775807:=rfl
  have h:=(foldLoop (xs:=m.Redexes) (body:=zm fuel m) (mk:=fun i s=>(i,s)) (out:=id) (g:=putR) (p:=fun _=>true) (v:=false) (s0:=t)
    (J:=fun i s=>cntOk m s) hl hf ht
    (fun i s x hx hp hj=>zaE (List.all_eq_true.1 hR x (List.mem_of_getElem? hx)) hj)
    (fun i s x hi hx hj=>by
      obtain⟨_,ha,hb⟩:=z62 (List.all_eq_true.1 hR x (List.mem_of_getElem? hx))
      obtain⟨a0,a1,_⟩:=z2B ha
      obtain⟨b0,b1,_⟩:=z2B hb
      unfold zm
      dsimp only
      have l1:x.A.toNat<s.length:=by rw [hj.1];omega
      have l2:x.B.toNat<(s.set x.A.toNat (w64 ((s[x.A.toNat]?).getD 0+1))).length:=by rw [List.length_set,hj.1];omega
      rw [if_pos (decide_eq_true (by omega)),zS hx,Option.bind_some,z6H a0 l1,Option.bind_some,if_pos (decide_eq_true ⟨a0,l1⟩),z6H b0 l2,Option.bind_some,if_pos (decide_eq_true ⟨b0,l2⟩)]
      rfl)
    (fun s _=>by unfold zm;dsimp only;rw [if_neg (by simp)];rfl)).1
  rw [h,if_pos (by simp)];rfl


def tallyN (m:D.Memory) (x1:List D.Word):List Int:=m.Redexes.foldl putR ((wordsN m++x1).foldl putW (zerosN m))
def okN (m:D.Memory) (x1:List D.Word):Bool:=
  decide (1≤m.Cells.length∧m.Cells.length≤1500) && (decide (m.Redexes.length≤m.Cells.length) && (m.Cells.all cellN && ((wordsN m++x1).all (wordN m) && (m.Redexes.all (redexN m) &&
  ((List.range m.Cells.length).all (occI m (tallyN m x1)) && (chainN m (freeN m) m.Free && (List.range m.Cells.length).all (resS m)))))))

theorem z9R {m:D.Memory}{x1:List D.Word}{fuel:Nat}(hf:18446744073709551616≤fuel) (hs:m.sz≤1048576) (h1:x1.length≤1048576):z1f fuel m x1=some (okN m x1):=by
  have hm:maxLen=9223372036854775807:=rfl
  have hn:m.Cells.length≤1048576:=by unfold D.Memory.sz szL at hs;omega
  have hr:m.Redexes.length≤1048576:=by unfold D.Memory.sz szL at hs;omega
  have hw:=z8z hs
  have hl:(wordsN m++x1).length≤maxLen:=by rw [List.length_append];omega
  have hj:∀ t,zp fuel m x1 t=some (!t && (m.Cells.all cellN && ((wordsN m++x1).all (wordN m) && (m.Redexes.all (redexN m) &&
      ((List.range m.Cells.length).all (occI m (tallyN m x1)) && (chainN m (freeN m) m.Free && (List.range m.Cells.length).all (resS m))))))):=by
    intro t
    cases t with
    | true=>rfl
    | false=>
      unfold zp
      rw [if_neg Bool.false_ne_true,z8t (p:=fun c=>!cellN c) hf (by omega) (fun c hc=>by
        unfold z1v
        rw [zbD hf (z61 (f:=D.Cell.sz) (xs:=m.Cells) (n:=1048576) (by unfold D.Memory.sz at hs;omega) hc)];rfl),z6J,Option.bind_some]
      cases hC:m.Cells.all cellN with
      | false=>rfl
      | true=>
        rw [if_neg (by simp),z7R hf hs,Option.bind_some,if_pos (decide_eq_true (by omega)),z8r (p:=fun w=>!wordN m w) hf hl (fun w _=>by unfold z1u;rw [zap];rfl),z6J,Option.bind_some]
        cases hW:(wordsN m++x1).all (wordN m) with
        | false=>rfl
        | true=>
          rw [if_neg (by simp),z8s (p:=fun w=>!redexN m w) hf (by omega) (fun w _=>by unfold z1t;rw [z9Y];rfl),z6J,Option.bind_some]
          cases hR:m.Redexes.all (redexN m) with
          | false=>rfl
          | true=>
            have hWs:∀ w,w∈wordsN m→wordN m w=true:=fun w hw=>List.all_eq_true.1 hW w (List.mem_append_left _ hw)
            have t1:=(z5A (m:=m) (xs:=wordsN m) (ys:=x1) (t:=zerosN m) hf hn hl z80).2 hW
            have t2:cntOk m (tallyN m x1):=(z5B (m:=m) (xs:=m.Redexes) hf hn (by omega) t1).2 hR
            have ho:zT fuel m x1=some ((List.range m.Cells.length).all (occI m (tallyN m x1))):=by
              unfold zT
              rw [if_pos (decide_eq_true (by omega)),z7R hf hs,Option.bind_some,if_pos (decide_eq_true (by omega)),show List.replicate (m.Cells.length:Int).toNat (0:Int)=zerosN m from rfl,z7u hf hl hW z80,Option.bind_some]
              show z15 fuel m ((wordsN m++x1).foldl putW (zerosN m))=_
              unfold z15
              rw [z7v hf (by omega) hR t1,Option.bind_some]
              show z14 fuel m (tallyN m x1)=_
              unfold z14
              rw [z8n hf hn t2.1,Option.bind_some]
              cases (List.range m.Cells.length).all (occI m (tallyN m x1))<;>rfl
            unfold zJ
            rw [if_neg (by simp),ho,Option.bind_some,z8w hf hn]
            cases (List.range m.Cells.length).all (occI m (tallyN m x1)) with
            | false=>rfl
            | true=>
              rw [if_neg (by simp),Option.bind_some]
              unfold z10
              cases chainN m (freeN m) m.Free with
              | false=>rfl
              | true=>
                rw [if_neg (by simp),z8m hf hn hWs,Option.bind_some]
                cases (List.range m.Cells.length).all (resS m)<;>rfl
  unfold z1f okN
  rw [hj,hj]
  by_cases a1:m.Cells.length<1
  · rw [if_pos (decide_eq_true (by omega)),decide_eq_false (show ¬ (1≤m.Cells.length∧m.Cells.length≤1500) by omega)];rfl
  · by_cases a2:m.Cells.length>1500
    · rw [if_neg (by simp;omega),if_pos (decide_eq_true (by omega)),decide_eq_false (show ¬ (1≤m.Cells.length∧m.Cells.length≤1500) by omega)];rfl
    · rw [if_neg (by simp;omega),if_neg (by simp;omega),decide_eq_true (show 1≤m.Cells.length∧m.Cells.length≤1500 by omega),Bool.true_and]
      by_cases a3:m.Redexes.length≤m.Cells.length
      · rw [decide_eq_true a3,decide_eq_false (by omega)];rfl
      · rw [decide_eq_false a3,decide_eq_true (by omega)];rfl

theorem z9Q {m:D.Memory}{x1:List D.Word}{fuel:Nat}(hf:18446744073709551616≤fuel) (hs:m.sz≤1048576) (h1:x1.length≤1048576):z44 fuel m x1 m.Redexes=some (okN m x1):=by
  have hm:maxLen=9223372036854775807:=rfl
  have hn:m.Cells.length≤1048576:=by unfold D.Memory.sz szL at hs;omega
  have hr:m.Redexes.length≤1048576:=by unfold D.Memory.sz szL at hs;omega
  have hw:=z8z hs
  have hl:(wordsN m++x1).length≤maxLen:=by rw [List.length_append];omega
  have hj:∀ t,z20 fuel m x1 m.Redexes t=some (!t && (m.Cells.all cellN && ((wordsN m++x1).all (wordN m) && (m.Redexes.all (redexN m) &&
      ((List.range m.Cells.length).all (occI m (tallyN m x1)) && (chainN m (freeN m) m.Free && (List.range m.Cells.length).all (resS m))))))):=by
    intro t
    cases t with
    | true=>rfl
    | false=>
      unfold z20
      rw [if_neg Bool.false_ne_true,zaf hf hs,Option.bind_some]

      have hA:(m.Cells.all fun c=>cellN c && (if c.Kind=0 then decide (-1≤c.Value∧c.Value≤(m.Cells.length:Int) - 1) else true))=
          (m.Cells.all cellN && m.Cells.all fun c=>if c.Kind=0 then decide (-1≤c.Value∧c.Value≤(m.Cells.length:Int) - 1) else true):=z9y
      rw [hA]
      cases hC:m.Cells.all cellN with
      | false=>rfl
      | true=>
        have hV:chainN m (freeN m) m.Free=true→(m.Cells.all fun c=>if c.Kind=0 then decide (-1≤c.Value∧c.Value≤(m.Cells.length:Int) - 1) else true)=true:=fun h=>
          List.all_eq_true.2 fun c hc=>by
            obtain⟨i,hi⟩:=List.getElem?_of_mem hc
            by_cases h0:c.Kind=0
            · rw [if_pos h0];exact decide_eq_true (za4 h hi h0)
            · rw [if_neg h0]
        cases hF:(m.Cells.all fun c=>if c.Kind=0 then decide (-1≤c.Value∧c.Value≤(m.Cells.length:Int) - 1) else true) with
        | false=>
          have hch:chainN m (freeN m) m.Free=false:=by
            cases h:chainN m (freeN m) m.Free with
            | false=>rfl
            | true=>rw [hV h] at hF;cases hF
          rw [hch]
          simp [aft]
        | true=>
          rw [Bool.true_and,if_pos rfl]
          show z3L fuel m x1 m.Redexes (zerosN m)=_
          unfold z3L
          obtain⟨g1,g2⟩:=z5A (m:=m) (xs:=wordsN m) (ys:=x1) (t:=zerosN m) hf hn hl z80
          rw [z7Q hf hs,Option.bind_some,if_pos (decide_eq_true (by omega)),g1,Option.bind_some]
          cases hW:(wordsN m++x1).all (wordN m) with
          | false=>rfl
          | true=>
            have hWs:∀ w,w∈wordsN m→wordN m w=true:=fun w hw=>List.all_eq_true.1 hW w (List.mem_append_left _ hw)
            have t1:=g2 hW
            obtain⟨g3,g4⟩:=z5B (m:=m) (xs:=m.Redexes) hf hn (by omega) t1
            rw [if_pos rfl]
            show z3K fuel m m.Redexes ((wordsN m++x1).foldl putW (zerosN m))=_
            unfold z3K
            rw [g3,Option.bind_some]
            cases hR:m.Redexes.all (redexN m) with
            | false=>rfl
            | true=>
              have t2:cntOk m (tallyN m x1):=g4 hR
              rw [if_pos rfl]
              show z3J fuel m (tallyN m x1)=_
              unfold z3J
              rw [z8c hf hn t2.1 hWs,Option.bind_some,z9y,zbS (t:=tallyN m x1) hC t2]
              cases (List.range m.Cells.length).all (occI m (tallyN m x1)) with
              | false=>rfl
              | true=>
                cases (List.range m.Cells.length).all (resS m) with
                | false=>simp [aft]
                | true=>
                  show z3H fuel m ()=_
                  unfold z3H
                  rw [z8v hf hn,Option.bind_some]
                  simp
  unfold z44 okN
  rw [z34,Option.bind_some,hj,hj]
  by_cases a1:1≤m.Cells.length∧m.Cells.length≤1500
  · rw [if_neg (by simp;omega),decide_eq_true a1,Bool.true_and]
    by_cases a3:m.Redexes.length≤m.Cells.length
    · rw [decide_eq_true a3,decide_eq_false (by omega)];rfl
    · rw [decide_eq_false a3,decide_eq_true (by omega)];rfl
  · rw [if_pos (by simp;omega),decide_eq_false a1];rfl

theorem zcK {m:D.Memory}{fuel:Nat}(hf:18446744073709551616≤fuel) (hs:m.sz≤1048576):z4G fuel m=some (okN m []):=by
  unfold z4G
  rw [z9Q hf hs (by simp)];rfl
theorem zcL {m:D.Memory}{fuel:Nat}(hf:18446744073709551616≤fuel) (hs:m.sz≤1048576):z2z fuel m=some (okN m []):=by
  unfold z2z
  rw [z9R hf hs (by simp)];rfl
end Go.E


namespace Go.E
open Go.RowKit Go.Proofs
set_option linter.unusedSimpArgs false
set_option linter.unusedVariables false

theorem zbR {m:D.Memory}{x1:List D.Word}(h:okN m x1=true):m.Cells.all cellN=true∧(∀ w,w∈wordsN m→wordN m w=true)∧(List.range m.Cells.length).all (resS m)=true:=by
  unfold okN at h
  rw [Bool.and_eq_true,Bool.and_eq_true,Bool.and_eq_true,Bool.and_eq_true,Bool.and_eq_true,Bool.and_eq_true,Bool.and_eq_true] at h
  obtain⟨_,_,h1,h2,_,_,_,h3⟩:=h
  exact⟨h1,fun w hw=>List.all_eq_true.1 h2 w (List.mem_append_left _ hw),h3⟩
end Go.E


namespace Go.E
open Go.RowKit Go.Proofs
set_option linter.unusedSimpArgs false
set_option linter.unusedVariables false

theorem mapLoop {α β ρ:Type}{xs:List α}{body:Int × List β→Option (Rd (Int × List β) (List β) ρ)}{g:α→β}{fuel:Nat}(hl:xs.length≤1048576) (hf:18446744073709551616≤fuel)
    (step:∀ (i:Nat) x (s:List β),xs[i]? = some x→s.length=i→body ((i:Int),s)=some (.next (w64 (i+1),s++[g x]))) (last:∀ s,body ((xs.length:Int),s)=some (.brk s)):
    iter body fuel (0,[])=some (.inl (xs.map g)):=by
  have hm:maxLen=9223372036854775807:=rfl
  obtain⟨o,h1,h2⟩:=z16 (body:=body) (fun i s=>s.1=(i:Int)∧s.2=(xs.take i).map g) xs.length (fun o=>o=.inl (xs.map g)) (by
    rintro i ⟨a,s⟩ hi ⟨g1,g2⟩
    dsimp only at g1 g2
    subst g1;subst g2
    obtain⟨x,hx⟩:=z4K hi
    refine .inl ⟨_,step i x _ hx (by simp;omega),?_,?_⟩
    · dsimp only;rw [ze (by omega) (by omega)];simp
    · dsimp only;rw [List.take_add_one,hx];simp) (by
    rintro⟨a,s⟩ ⟨g1,g2⟩
    dsimp only at g1 g2
    subst g1;subst g2
    exact .inr ⟨_,last _,by rw [List.take_length]⟩) (fuel:=fuel) (i:=0) (s:=(0,[])) (Nat.zero_le _) (by omega) ⟨rfl,by simp⟩
  rw [h1,h2]

def partL {α:Type}(f:α→α) (xs:List α) (k:Nat):List α:=(xs.take k).map f++xs.drop k
theorem z8h {α:Type}{f:α→α}{xs:List α}{k:Nat}{x:α}(h:xs[k]? = some x):(partL f xs k)[k]? = some x:=by
  have hk:=(List.getElem?_eq_some_iff.1 h).1
  unfold partL
  rw [List.getElem?_append_right (by simp;omega)]
  simp [Nat.min_eq_left (Nat.le_of_lt hk),h]
theorem zaF {α:Type}{f:α→α}{xs:List α}{k:Nat}{x:α}(h:xs[k]? = some x):(partL f xs k).set k (f x)=partL f xs (k+1):=by
  have hk:=(List.getElem?_eq_some_iff.1 h).1
  unfold partL
  rw [List.set_append_right _ _ (by simp;omega),List.take_add_one,h]
  rw [show k - ((xs.take k).map f).length=0 by simp;omega]
  have hd:xs.drop k=x::xs.drop (k+1):=by
    rw [List.drop_eq_getElem_cons hk]
    congr 1
    exact(List.getElem?_eq_some_iff.1 h).2
  rw [hd]
  simp
theorem za1 {α:Type}{f:α→α}{xs:List α}:partL f xs 0=xs:=by simp [partL]
theorem zaG {α:Type}{f:α→α}{xs:List α}:partL f xs xs.length=xs.map f:=by simp [partL]

theorem setLoop {α S τ ρ:Type}{xs:List α}{body:S→Option (Rd S τ ρ)}{mk:Int→List α→S}{out:List α→τ}{f:α→α}{fuel:Nat}(hl:xs.length≤1048576) (hf:18446744073709551616≤fuel)
    (step:∀ (i:Nat) x,xs[i]? = some x→body (mk i (partL f xs i))=some (.next (mk (w64 (i+1)) ((partL f xs i).set i (f x))))) (last:body (mk xs.length (xs.map f))=some (.brk (out (xs.map f)))):
    iter body fuel (mk 0 xs)=some (.inl (out (xs.map f))):=by
  have hm:maxLen=9223372036854775807:=rfl
  obtain⟨o,h1,h2⟩:=z16 (body:=body) (fun i s=>s=mk i (partL f xs i)) xs.length (fun o=>o=.inl (out (xs.map f))) (by
    rintro i s hi rfl
    obtain⟨x,hx⟩:=z4K hi
    refine .inl ⟨_,step i x hx,?_⟩
    rw [zaF hx,ze (by omega) (by omega)]
    rfl) (by
    rintro s rfl
    rw [zaG]
    exact .inr ⟨_,last,rfl⟩) (fuel:=fuel) (i:=0) (s:=mk 0 xs) (Nat.zero_le _) (by omega) (by rw [za1];rfl)
  rw [h1,h2]

theorem zbN {c:D.Cell}{fuel:Nat}(h1:c.Data.length≤1048576) (h2:c.Words.length≤1048576):z2J fuel c=some c:=by
  unfold z2J z4P
  rw [if_pos (by simp;omega),Option.bind_some,if_pos (by simp;omega)]
  simp
theorem z8i {x:D.Memory}(h:x.sz≤1048576){c:D.Cell}(hc:c∈x.Cells):c.Data.length≤1048576∧c.Words.length≤1048576:=by
  unfold D.Memory.sz szL at h
  have:=z8b (f:=D.Cell.sz) hc
  have h9:c.sz=c.Data.length+(c.Words.length+0):=rfl
  omega
theorem z9s {x:D.Memory}(h:x.sz≤1048576):x.Cells.length≤1048576∧x.Redexes.length≤1048576:=by
  unfold D.Memory.sz szL at h
  omega
theorem zcz {x:D.Memory}{fuel:Nat}(hf:18446744073709551616≤fuel) (h:x.sz≤1048576):z29 fuel x=some x:=by
  obtain⟨hl,hr⟩:=z9s h
  unfold z29 z2E zN
  rw [if_pos (by simp;omega),if_pos (by simp;omega),Option.bind_some]
  have:=mapLoop (xs:=x.Cells) (body:=z1V fuel x) (g:=fun c=>c) hl hf (fun i c s hc hs=>by
    have hil:=(List.getElem?_eq_some_iff.1 hc).1
    obtain⟨z1,z2⟩:=z8i h (List.mem_of_getElem? hc)
    unfold z1V z1s zM
    rw [if_pos (by simpa using hil),zS hc,Option.bind_some,if_pos (by simp;omega),Option.bind_some,if_pos (by simp;omega),Option.bind_some,if_pos (by simp;omega)]
    simp) (fun s=>by unfold z1V;rw [if_neg (by simp)])
  dsimp only
  rw [this]
  simp [aft,z42]

def freeV (k size:Nat):Int:=if k<size then(k:Int) else -1
def freeC (k size:Nat):List D.Cell:=(List.range (size - k)).map fun j=>⟨0,0,freeV (k+j+1) size,[],[]⟩
def pm (L:List D.Cell) (size:Nat) (R:D.Word) (Q:List D.Pair):D.Memory:=⟨L++freeC L.length size,freeV L.length size,R,Q⟩
theorem z7A {k size:Nat}(h:k<size):freeC k size=⟨0,0,freeV (k+1) size,[],[]⟩::freeC (k+1) size:=by
  unfold freeC
  rw [show size - k=(size - (k+1))+1 by omega,List.range_succ_eq_map,List.map_cons,List.map_map]
  congr 1
  refine List.map_congr_left fun j _=>?_
  simp only [Function.comp,Nat.succ_eq_add_one]
  rw [show k+(j+1)+1=k+1+j+1 by omega]
theorem zax {fuel size:Nat}{L:List D.Cell}{R:D.Word}{Q:List D.Pair}{c:D.Cell}(h:L.length<size):z3j fuel (pm L size R Q) c=some ((L.length:Int),pm (L++[c]) size R Q):=by
  have e:freeV L.length size=(L.length:Int):=if_pos h
  unfold z3j pm
  dsimp only
  rw [e,zS (x:=⟨0,0,freeV (L.length+1) size,[],[]⟩) (by rw [z7A h];simp),Option.bind_some,if_pos (by simp;rw [z7A h];simp)]
  simp only [Int.toNat_natCast]
  rw [z7A h,List.set_append_right _ _ (Nat.le_refl _),Nat.sub_self,List.set_cons_zero]
  simp
theorem z8Y {size:Nat}(h:1≤size) (v:Int):((List.range size).map fun(j:Nat)=>(⟨0,0,((j:Int)+1),[],[]⟩:D.Cell)).set (size - 1) ⟨0,0,-1,[],[]⟩=freeC 0 size:=by
  refine List.ext_getElem? fun j=>?_
  unfold freeC freeV
  rw [List.getElem?_set,List.getElem?_map,List.getElem?_map]
  by_cases hj:j<size
  · rw [List.getElem?_range hj,List.getElem?_range (by omega)]
    simp only [List.length_map,List.length_range,Option.map_some]
    by_cases h1:size - 1=j
    · rw [if_pos h1,if_pos (by omega),if_neg (by omega)]
    · rw [if_neg h1,if_pos (by omega)]
      simp
  · rw [List.getElem?_eq_none (by simp;omega),List.getElem?_eq_none (by simp;omega),if_neg (by omega)]
    rfl
theorem za6 {fuel size:Nat}(hf:18446744073709551616≤fuel) (h:1≤size) (h2:size≤1500):z3u fuel (size:Int)=some (pm [] size ⟨0,0⟩ []):=by
  unfold z3u
  obtain⟨o,h1,rfl⟩:=z16 (body:=z2m fuel (size:Int)) (fun k s=>s=((k:Int),(List.range k).map fun(j:Nat)=>(⟨0,0,((j:Int)+1),[],[]⟩:D.Cell))) size (fun o=>o=.inl ((List.range size).map fun(j:Nat)=>(⟨0,0,((j:Int)+1),[],[]⟩:D.Cell))) (by
    rintro k s hk rfl
    refine .inl ⟨_,?_,rfl⟩
    unfold z2m
    dsimp only
    rw [if_pos (by simpa using hk),if_pos (by simp;omega),ze (by omega) (by omega),List.range_succ,List.map_append]
    simp) (by
    rintro s rfl
    refine .inr ⟨_,?_,rfl⟩
    unfold z2m
    rw [if_neg (by simp)]) (fuel:=fuel) (i:=0) (s:=(0,[])) (Nat.zero_le _) (by omega) (by simp)
  rw [h1,Option.bind_some,z4]
  unfold z4o
  try dsimp only
  rw [ze (by omega) (by omega),show(size:Int) - 1=((size - 1:Nat):Int) by omega,zS (x:=⟨0,0,(((size - 1:Nat):Int)+1),[],[]⟩) (by rw [List.getElem?_map,List.getElem?_range (by omega)];rfl),Option.bind_some,Int.toNat_natCast,z8Y h 0]
  unfold pm freeV
  rw [if_pos (by simp;omega)]
  rfl
theorem za7 {fuel size:Nat}(hf:18446744073709551616≤fuel) (h:1≤size) (h2:size≤1500):z1F fuel (size:Int)=some (pm [] size ⟨0,0⟩ []):=by
  unfold z1F
  rw [if_pos (by simp;omega),Int.toNat_natCast]
  have e0:(List.replicate size (⟨0,0,0,[],[]⟩:D.Cell))=(List.range size).map fun(j:Nat)=>(⟨0,0,(if j<0 then(j:Int)+1 else 0),[],[]⟩:D.Cell):=by
    refine List.ext_getElem? fun j=>?_
    rw [List.getElem?_replicate,List.getElem?_map]
    by_cases hj:j<size
    · rw [if_pos hj,List.getElem?_range hj];rfl
    · rw [if_neg hj,List.getElem?_eq_none (by simp;omega)];rfl
  obtain⟨o,h1,rfl⟩:=z16 (body:=z1C fuel (size:Int)) (fun k s=>s=((k:Int),(List.range size).map fun(j:Nat)=>(⟨0,0,(if j<k then(j:Int)+1 else 0),[],[]⟩:D.Cell))) size (fun o=>o=.inl ((List.range size).map fun(j:Nat)=>(⟨0,0,(if j<size then(j:Int)+1 else 0),[],[]⟩:D.Cell))) (by
    rintro k s hk rfl
    refine .inl ⟨_,?_,rfl⟩
    unfold z1C
    dsimp only
    rw [if_pos (by simpa using hk),zS (x:=⟨0,0,0,[],[]⟩) (by rw [List.getElem?_map,List.getElem?_range hk];simp),Option.bind_some,ze (by omega) (by omega),Int.toNat_natCast]
    congr 4
    refine List.ext_getElem? fun j=>?_
    rw [List.getElem?_set,List.getElem?_map,List.getElem?_map]
    by_cases hj:j<size
    · rw [List.getElem?_range hj]
      simp only [List.length_map,List.length_range,Option.map_some]
      by_cases h1:k=j
      · subst h1;simp [hj]
      · rw [if_neg h1]
        by_cases h3:j<k
        · rw [if_pos h3,if_pos (by omega)]
        · rw [if_neg h3,if_neg (by omega)]
    · rw [List.getElem?_eq_none (by simp;omega),if_neg (by omega)]
      rfl) (by
    rintro s rfl
    refine .inr ⟨_,?_,rfl⟩
    unfold z1C
    rw [if_neg (by simp)]) (fuel:=fuel) (i:=0) (s:=(0,List.replicate size (⟨0,0,0,[],[]⟩:D.Cell))) (Nat.zero_le _) (by omega) (by rw [e0];rfl)
  rw [h1,Option.bind_some,z4]
  unfold z3F
  try dsimp only
  have e1:((List.range size).map fun(j:Nat)=>(⟨0,0,(if j<size then(j:Int)+1 else 0),[],[]⟩:D.Cell))=(List.range size).map fun(j:Nat)=>(⟨0,0,((j:Int)+1),[],[]⟩:D.Cell):=List.map_congr_left fun j hj=>by rw [if_pos (List.mem_range.1 hj)]
  rw [e1,ze (by omega) (by omega),show(size:Int) - 1=((size - 1:Nat):Int) by omega,zS (x:=⟨0,0,(((size - 1:Nat):Int)+1),[],[]⟩) (by rw [List.getElem?_map,List.getElem?_range (by omega)];rfl),Option.bind_some,Int.toNat_natCast,z8Y h 0]
  unfold pm freeV
  rw [if_pos (by simp;omega)]
  rfl
end Go.E


namespace Go.E
open Go.RowKit Go.Proofs
set_option linter.unusedSimpArgs false
set_option linter.unusedVariables false

def usedC (c:D.Cell):Bool:=c.Kind != 0

def nowN (m:D.Memory) (i:Nat):Nat:=((m.Cells.take i).filter usedC).length
abbrev nowL (m:D.Memory):List Int:=(List.range m.Cells.length).map fun i=>((nowN m i:Nat):Int)
def movW (m:D.Memory) (w:D.Word):D.Word:=⟨w.Tag,((nowN m w.At.toNat:Nat):Int)⟩
def movC (m:D.Memory) (c:D.Cell):D.Cell:=⟨c.Kind,c.Level,c.Value,c.Data,c.Words.map (movW m)⟩
def movR (m:D.Memory) (p:D.Pair):D.Pair:=⟨((nowN m p.A.toNat:Nat):Int),((nowN m p.B.toNat:Nat):Int)⟩
def usedL (m:D.Memory) (i:Nat):List D.Cell:=(m.Cells.take i).filter usedC
section
variable {fuel:Nat}{m:D.Memory}
theorem z66 {i:Nat}:(usedL m i).length≤i:=Nat.le_trans (List.length_filter_le _ _) (by simp;omega)
theorem z5Q {i:Nat}{c:D.Cell}(h:m.Cells[i]? = some c) (hu:c.Kind≠0):usedL m (i+1)=usedL m i++[c]:=by
  unfold usedL
  rw [List.take_add_one,h,List.filter_append]
  simp [usedC,hu]
theorem z6x {i:Nat}{c:D.Cell}(h:m.Cells[i]? = some c) (hu:c.Kind=0):usedL m (i+1)=usedL m i:=by
  unfold usedL
  rw [List.take_add_one,h,List.filter_append]
  simp [usedC,hu]
theorem zbU {i j:Nat}(h:i≤j):nowN m i≤nowN m j:=by
  unfold nowN
  refine(List.Sublist.filter _ ?_).length_le
  exact List.take_sublist_take_left h
theorem zcS {i j:Nat}{c:D.Cell}(h:m.Cells[i]? = some c) (hu:c.Kind≠0) (hij:i<j):nowN m i<nowN m j:=by
  have h1:=zbU (m:=m) (show i+1≤j from hij)
  have h2:nowN m (i+1)=nowN m i+1:=by
    have:=congrArg List.length (z5Q h hu)
    rw [List.length_append] at this
    exact this
  omega
theorem z9E {i:Int}(h0:0≤i) (h:i.toNat<m.Cells.length):idx (nowL m) i=some ((nowN m i.toNat:Nat):Int):=by
  have e:i=(i.toNat:Int):=by omega
  rw [e]
  exact zS (by rw [List.getElem?_map,List.getElem?_range (by omega)];rfl)
theorem zbT (hf:18446744073709551616≤fuel) (hn:m.Cells.length≤1500):iter (z1o fuel m) fuel (0,0,[])=some (.inl (nowL m)):=by
  obtain⟨o,h1,rfl⟩:=z16 (body:=z1o fuel m) (fun i s=>s=(((nowN m i:Nat):Int),(i:Int),(List.range i).map fun i=>((nowN m i:Nat):Int))) m.Cells.length (fun o=>o=.inl (nowL m)) (by
    rintro i s hi rfl
    obtain⟨c,hc⟩:=z4K hi
    have hk:=z66 (m:=m) (i:=i)
    have d:nowN m i≤i:=hk
    refine .inl ⟨(((nowN m (i+1):Nat):Int),((i+1:Nat):Int),(List.range (i+1)).map fun i=>((nowN m i:Nat):Int)),?_,rfl⟩
    unfold z1o
    dsimp only
    rw [if_pos (by simpa using hi),if_pos (by simp;omega),zS hc,Option.bind_some]
    unfold z1J
    dsimp only
    rw [List.range_succ,List.map_append]
    by_cases hu:c.Kind=0
    · have e:nowN m (i+1)=nowN m i:=congrArg List.length (z6x hc hu)
      rw [if_neg (by simp [hu]),e,ze (by omega) (by omega)]
      simp
    · have e:nowN m (i+1)=nowN m i+1:=by
        have:=congrArg List.length (z5Q hc hu)
        rw [List.length_append] at this
        exact this
      rw [if_pos (by simp [hu]),e,ze (by omega) (by omega),ze (by omega) (by omega)]
      simp) (by
    rintro s rfl
    refine .inr ⟨_,?_,rfl⟩
    unfold z1o
    rw [if_neg (by simp)]) (fuel:=fuel) (i:=0) (s:=(0,0,[])) (Nat.zero_le _) (by omega) (by simp [nowN])
  exact h1

theorem z83 {x1:List D.Word}(ho:okN m x1=true){w:D.Word}(hw:w∈wordsN m):0≤w.At∧w.At.toNat<m.Cells.length∧∃ c,m.Cells[w.At.toNat]? = some c∧c.Kind≠0:=by
  obtain⟨h0,c,h1,_,h3⟩:=z5P ((zbR ho).2.1 w hw)
  refine⟨h0,(List.getElem?_eq_some_iff.1 h1).1,c,h1,?_⟩
  rcases h3 with⟨_,h3⟩ | ⟨_,h3⟩
  · unfold agentKind at h3
    simp only [decide_eq_true_eq] at h3
    omega
  · omega
theorem zan {x1:List D.Word}(hf:18446744073709551616≤fuel) (ho:okN m x1=true){c:D.Cell}(hc:c∈m.Cells) (hl:c.Words.length≤1048576):iter (z1m fuel (nowL m) c) fuel (0,c.Words)=some (.inl (c.Words.map (movW m))):=
  setLoop (xs:=c.Words) (body:=z1m fuel (nowL m) c) (mk:=fun i s=>(i,s)) (out:=fun s=>s) (f:=movW m) hl hf (fun i w hw=>by
    have hil:=(List.getElem?_eq_some_iff.1 hw).1
    obtain⟨h0,h1,_⟩:=z83 ho (w:=w) (by
      obtain⟨k,hk⟩:=List.mem_iff_getElem?.1 hc
      exact z6X hk (List.mem_of_getElem? hw))
    unfold z1m
    dsimp only
    rw [if_pos (by simpa using hil),zS (z8h hw),Option.bind_some,z9E h0 h1,Option.bind_some,Option.bind_some,Int.toNat_natCast]
    rfl) (by
    unfold z1m
    dsimp only
    rw [if_neg (by simp)])
theorem zcM {a b:Int}(h:a<b):z4p fuel a b=some a∧z4q fuel a b=some b:=by
  unfold z4p z4q
  rw [if_pos (decide_eq_true h),if_neg (by simp;omega)]
  exact⟨rfl,rfl⟩
theorem z8P {x1:List D.Word}(ho:okN m x1=true){p:D.Pair}(hp:p∈m.Redexes):0≤p.A∧p.A.toNat<m.Cells.length∧0≤p.B∧p.B.toNat<m.Cells.length∧(∃ c,m.Cells[p.A.toNat]? = some c∧c.Kind≠0)∧(∃ c,m.Cells[p.B.toNat]? = some c∧c.Kind≠0)∧nowN m p.A.toNat<nowN m p.B.toNat:=by
  have hR:m.Redexes.all (redexN m)=true:=by
    unfold okN at ho
    simp only [Bool.and_eq_true] at ho
    exact ho.2.2.2.2.1
  obtain⟨h1,h2,h3⟩:=z62 (List.all_eq_true.1 hR p hp)
  obtain⟨a1,a2,c,a3,_,_,a4⟩:=z2B h2
  obtain⟨b1,b2,d,b3,_,_,b4⟩:=z2B h3
  exact⟨a1,a2,b1,b2,⟨c,a3,a4⟩,⟨d,b3,b4⟩,zcS a3 a4 (by omega)⟩
def outM (m:D.Memory):D.Memory:=pm ((usedL m m.Cells.length).map (movC m)) m.Cells.length (movW m m.Root) (m.Redexes.map (movR m))
theorem z9b {x1:List D.Word}(hf:18446744073709551616≤fuel) (ho:okN m x1=true) (hs:m.sz≤1048576):z2K fuel m=some (outM m):=by
  have hn:1≤m.Cells.length∧m.Cells.length≤1500:=by
    unfold okN at ho
    simp only [Bool.and_eq_true,decide_eq_true_eq] at ho
    exact ho.1
  have hr:=(z9s hs).2
  unfold z2K
  rw [zbT hf hn.2,Option.bind_some,z4]
  unfold z40
  rw [za6 hf hn.1 hn.2,Option.bind_some]
  obtain⟨o,h1,rfl⟩:=z16 (body:=z1n fuel m (nowL m)) (fun i s=>s=((i:Int),(pm ((usedL m i).map (movC m)) m.Cells.length ⟨0,0⟩ []).Free,0,0,(pm ((usedL m i).map (movC m)) m.Cells.length ⟨0,0⟩ []).Cells,[])) m.Cells.length
    (fun o=>o=.inl ((pm ((usedL m m.Cells.length).map (movC m)) m.Cells.length ⟨0,0⟩ []).Free,0,0,(pm ((usedL m m.Cells.length).map (movC m)) m.Cells.length ⟨0,0⟩ []).Cells,[])) (by
    rintro i s hi rfl
    obtain⟨c,hc⟩:=z4K hi
    have e1:w64 ((i:Int)+1)=((i+1:Nat):Int):=by rw [ze (by omega) (by omega)];rfl
    refine .inl ⟨((i+1:Nat),(pm ((usedL m (i+1)).map (movC m)) m.Cells.length ⟨0,0⟩ []).Free,0,0,(pm ((usedL m (i+1)).map (movC m)) m.Cells.length ⟨0,0⟩ []).Cells,[]),?_,rfl⟩
    unfold z1n
    dsimp only
    rw [if_pos (by simpa using hi),zS hc,Option.bind_some]
    by_cases hu:c.Kind=0
    · rw [if_pos (by simp [hu]),z6x hc hu]
      unfold z1k
      dsimp only
      rw [e1]
    · obtain⟨z1,z2⟩:=z8i hs (List.mem_of_getElem? hc)
      rw [if_neg (by simp [hu]),Option.bind_some,zbN z1 z2,Option.bind_some,zan hf ho (List.mem_of_getElem? hc) z2,Option.bind_some,z4]
      unfold z3X
      dsimp only
      have hlen:((usedL m i).map (movC m)).length<m.Cells.length:=by
        have:=z66 (m:=m) (i:=i)
        rw [List.length_map];omega
      have ht:=zax (fuel:=fuel) (R:=⟨0,0⟩) (Q:=[]) (c:=movC m c) hlen
      have ht2:z3j fuel ⟨(pm ((usedL m i).map (movC m)) m.Cells.length ⟨0,0⟩ []).Cells,(pm ((usedL m i).map (movC m)) m.Cells.length ⟨0,0⟩ []).Free,⟨0,0⟩,[]⟩ ⟨c.Kind,c.Level,c.Value,c.Data,c.Words.map (movW m)⟩=_:=ht
      rw [ht2,Option.bind_some,z5Q hc hu,List.map_append]
      unfold z1k
      dsimp only
      rw [e1]
      rfl) (by
    rintro s rfl
    refine .inr ⟨_,?_,rfl⟩
    unfold z1n
    rw [if_neg (by simp)]) (fuel:=fuel) (i:=0) (s:=(0,(pm [] m.Cells.length ⟨0,0⟩ []).Free,0,0,(pm [] m.Cells.length ⟨0,0⟩ []).Cells,[])) (Nat.zero_le _) (by omega) (by simp [usedL])
  have h1':iter (z1n fuel m (nowL m)) fuel (0,(pm [] m.Cells.length ⟨0,0⟩ []).Free,(pm [] m.Cells.length ⟨0,0⟩ []).Root.Tag,(pm [] m.Cells.length ⟨0,0⟩ []).Root.At,(pm [] m.Cells.length ⟨0,0⟩ []).Cells,(pm [] m.Cells.length ⟨0,0⟩ []).Redexes)=_:=h1
  rw [h1',Option.bind_some,z4]
  unfold z3Z
  dsimp only
  obtain⟨r0,r1,_⟩:=z83 ho (w:=m.Root) (by unfold wordsN;exact List.mem_cons_self)
  rw [z9E r0 r1,Option.bind_some]
  generalize hP:pm ((usedL m m.Cells.length).map (movC m)) m.Cells.length ⟨0,0⟩ []=P
  obtain⟨o,h2,rfl⟩:=z16 (body:=z1K fuel m (nowL m)) (fun i s=>s=((i:Int),P.Free,(movW m m.Root).Tag,(movW m m.Root).At,P.Cells,(m.Redexes.take i).map (movR m))) m.Redexes.length
    (fun o=>o=.inl (P.Free,(movW m m.Root).Tag,(movW m m.Root).At,P.Cells,m.Redexes.map (movR m))) (by
    rintro i s hi rfl
    obtain⟨p,hp⟩:=z4K hi
    have e1:w64 ((i:Int)+1)=((i+1:Nat):Int):=by rw [ze (by omega) (by omega)];rfl
    refine .inl ⟨((i+1:Nat),P.Free,(movW m m.Root).Tag,(movW m m.Root).At,P.Cells,(m.Redexes.take (i+1)).map (movR m)),?_,rfl⟩
    obtain⟨a1,a2,b1,b2,_,_,h4⟩:=z8P ho (List.mem_of_getElem? hp)
    obtain⟨y1,y2⟩:=zcM (fuel:=fuel) (a:=((nowN m p.A.toNat:Nat):Int)) (b:=((nowN m p.B.toNat:Nat):Int)) (by omega)
    unfold z1K
    dsimp only
    rw [if_pos (by simpa using hi),zS hp,Option.bind_some,z9E a1 a2,Option.bind_some,Option.bind_some,z9E b1 b2,Option.bind_some]
    unfold z4n
    dsimp only
    rw [y1,Option.bind_some,y2,Option.bind_some,if_pos (by simp;omega),Option.bind_some,e1,List.take_add_one,hp,List.map_append]
    rfl) (by
    rintro s rfl
    rw [List.take_length]
    refine .inr ⟨_,?_,rfl⟩
    unfold z1K
    rw [if_neg (by simp)]) (fuel:=fuel) (i:=0) (s:=(0,P.Free,m.Root.Tag,((nowN m m.Root.At.toNat:Nat):Int),P.Cells,[])) (Nat.zero_le _) (by omega) (by simp [movW])
  rw [h2,Option.bind_some,z4]
  unfold z3Y outM
  subst hP
  rfl

structure Tos (m:D.Memory) (i:Nat) (to:List (Int × Int)):Prop where
  h:∀ k c,k<i→m.Cells[k]? = some c→c.Kind≠0→mget to (k:Int)=some ((nowN m k:Nat):Int)
theorem zaR {c:D.Cell}:zf fuel c=some (c.Kind == 0):=rfl
theorem zbX {k n:Nat}{f:D.Word→D.Word}:(freeC k n).map (fun c=>(⟨c.Kind,c.Level,c.Value,c.Data,c.Words.map f⟩:D.Cell))=freeC k n:=by
  unfold freeC
  rw [List.map_map]
  rfl
theorem zbG (hf:18446744073709551616≤fuel) (hn:m.Cells.length≤1500):∃ to,Tos m m.Cells.length to∧
    iter (zv fuel m) fuel (0,0,([]:List (Int × Int)),(pm [] m.Cells.length ⟨0,0⟩ []).Free,0,0,(pm [] m.Cells.length ⟨0,0⟩ []).Cells,[])=
      some (.inl (to,(pm (usedL m m.Cells.length) m.Cells.length ⟨0,0⟩ []).Free,0,0,(pm (usedL m m.Cells.length) m.Cells.length ⟨0,0⟩ []).Cells,[])):=by
  obtain⟨o,h1,to,h2,rfl⟩:=z16 (body:=zv fuel m) (fun i s=>∃ to,Tos m i to∧s=((i:Int),(i:Int),to,(pm (usedL m i) m.Cells.length ⟨0,0⟩ []).Free,0,0,(pm (usedL m i) m.Cells.length ⟨0,0⟩ []).Cells,[])) m.Cells.length
    (fun o=>∃ to,Tos m m.Cells.length to∧o=.inl (to,(pm (usedL m m.Cells.length) m.Cells.length ⟨0,0⟩ []).Free,0,0,(pm (usedL m m.Cells.length) m.Cells.length ⟨0,0⟩ []).Cells,[])) (by
    rintro i s hi ⟨to,hT,rfl⟩
    obtain⟨c,hc⟩:=z4K hi
    have e1:w64 ((i:Int)+1)=((i+1:Nat):Int):=by rw [ze (by omega) (by omega)];rfl
    refine .inl ?_
    unfold zv
    dsimp only
    rw [if_pos (by simpa using hi),if_pos (by simp),zS hc,Option.bind_some,zaR,Option.bind_some]
    by_cases hu:c.Kind=0
    · rw [if_neg (by simp [hu])]
      unfold zW
      dsimp only
      rw [e1]
      refine⟨_,rfl,to,⟨fun k d hk hd hd0=>?_⟩,by rw [z6x hc hu]⟩
      rcases Nat.lt_succ_iff_lt_or_eq.1 hk with h | h
      · exact hT.h k d h hd hd0
      · subst h;rw [hc] at hd;cases hd;exact absurd hu hd0
    · rw [if_pos (by simp [hu])]
      have hlen:(usedL m i).length<m.Cells.length:=by
        have:=z66 (m:=m) (i:=i)
        omega
      have ht:=zax (fuel:=fuel) (R:=⟨0,0⟩) (Q:=[]) (c:=c) hlen
      have ht2:z3p fuel ⟨(pm (usedL m i) m.Cells.length ⟨0,0⟩ []).Cells,(pm (usedL m i) m.Cells.length ⟨0,0⟩ []).Free,⟨0,0⟩,[]⟩ c=_:=ht
      rw [ht2,Option.bind_some]
      unfold zW
      dsimp only
      rw [e1]
      refine⟨_,rfl,mput to (i:Int) ((nowN m i:Nat):Int),⟨fun k d hk hd hd0=>?_⟩,by rw [z5Q hc hu];rfl⟩
      rw [zaN]
      rcases Nat.lt_succ_iff_lt_or_eq.1 hk with h | h
      · rw [if_neg (by omega)];exact hT.h k d h hd hd0
      · subst h;rw [if_pos rfl]) (by
    rintro s ⟨to,hT,rfl⟩
    refine .inr ⟨_,?_,to,hT,rfl⟩
    unfold zv
    rw [if_neg (by simp)]) (fuel:=fuel) (i:=0) (s:=(0,0,[],(pm [] m.Cells.length ⟨0,0⟩ []).Free,0,0,(pm [] m.Cells.length ⟨0,0⟩ []).Cells,[])) (Nat.zero_le _) (by omega) ⟨[],⟨fun k c hk=>absurd hk (Nat.not_lt_zero _)⟩,by simp [usedL]⟩
  exact⟨to,h2,h1⟩
def toW (to:List (Int × Int)) (w:D.Word):D.Word:=⟨w.Tag,(mget to w.At).getD 0⟩
def toC (to:List (Int × Int)) (c:D.Cell):D.Cell:=⟨c.Kind,c.Level,c.Value,c.Data,c.Words.map (toW to)⟩
theorem zaw {x1:List D.Word}(ho:okN m x1=true){to:List (Int × Int)}(hT:Tos m m.Cells.length to){w:D.Word}(hw:w∈wordsN m):toW to w=movW m w:=by
  obtain⟨h0,h1,c,h2,h3⟩:=z83 ho hw
  have:=hT.h _ c h1 h2 h3
  rw [show((w.At.toNat:Nat):Int)=w.At by omega] at this
  unfold toW movW
  rw [this]
  rfl
theorem zcD {x1:List D.Word}(ho:okN m x1=true){to:List (Int × Int)}(hT:Tos m m.Cells.length to):(pm (usedL m m.Cells.length) m.Cells.length ⟨0,0⟩ []).Cells.map (toC to)=(pm ((usedL m m.Cells.length).map (movC m)) m.Cells.length ⟨0,0⟩ []).Cells:=by
  unfold pm
  dsimp only
  rw [List.map_append,List.length_map]
  congr 1
  · refine List.map_congr_left fun c hc=>?_
    have hc2:c∈m.Cells:=List.mem_of_mem_take (List.mem_filter.1 hc).1
    unfold toC movC
    congr 1
    obtain⟨k,hk⟩:=List.mem_iff_getElem?.1 hc2
    exact List.map_congr_left fun w hw=>zaw ho hT (z6X hk hw)
  · exact zbX
theorem z9c {x1:List D.Word}(hf:18446744073709551616≤fuel) (ho:okN m x1=true) (hs:m.sz≤1048576) (t:D.Memory × Int→Option (D.Memory × Int)):
    ((z1F fuel (m.Cells.length:Int)).bind fun y=>((z29 fuel m).bind fun z=>((iter (zv fuel z) fuel (0,0,([]:(List (Int × Int))),y.Free,y.Root.Tag,y.Root.At,y.Cells,y.Redexes)).bind fun o=>aft o (z1Y fuel m))))=some (outM m,0):=by
  have hn:1≤m.Cells.length∧m.Cells.length≤1500:=by
    unfold okN at ho
    simp only [Bool.and_eq_true,decide_eq_true_eq] at ho
    exact ho.1
  have hr:=(z9s hs).2
  rw [za7 hf hn.1 hn.2,Option.bind_some,zcz hf hs,Option.bind_some]
  obtain⟨to,hT,h1⟩:=zbG (m:=m) hf hn.2
  have h1':iter (zv fuel m) fuel (0,0,([]:List (Int × Int)),(pm [] m.Cells.length ⟨0,0⟩ []).Free,(pm [] m.Cells.length ⟨0,0⟩ []).Root.Tag,(pm [] m.Cells.length ⟨0,0⟩ []).Root.At,(pm [] m.Cells.length ⟨0,0⟩ []).Cells,(pm [] m.Cells.length ⟨0,0⟩ []).Redexes)=_:=h1
  rw [h1',Option.bind_some,z4]
  unfold z1Y
  have hlen:(pm (usedL m m.Cells.length) m.Cells.length ⟨0,0⟩ []).Cells.length≤1500:=by
    have:=z66 (m:=m) (i:=m.Cells.length)
    unfold pm freeC
    simp
    omega
  have hW:∀ c,c∈(pm (usedL m m.Cells.length) m.Cells.length ⟨0,0⟩ []).Cells→c.Words.length≤1048576:=by
    intro c hc
    rcases List.mem_append.1 hc with hc | hc
    · exact(z8i hs (List.mem_of_mem_take (List.mem_filter.1 hc).1)).2
    · obtain⟨j,_,rfl⟩:=List.mem_map.1 hc
      simp
  have hTC:=zcD ho hT
  generalize hP:pm (usedL m m.Cells.length) m.Cells.length ⟨0,0⟩ []=P at *
  generalize ht:((to,P.Free,(0:Int),(0:Int),P.Cells,([]:List D.Pair)):(List (Int × Int)) × Int × Int × Int × (List D.Cell) × (List D.Pair))=q
  have t1:q.1=to:=by rw [← ht]
  have t2:q.2.1=P.Free:=by rw [← ht]
  have t5:q.2.2.2.2.1=P.Cells:=by rw [← ht]
  have t6:q.2.2.2.2.2=[]:=by rw [← ht]
  have hcells:iter (zY fuel q) fuel (0,P.Cells)=some (.inl (P.Cells.map (toC to))):=
    setLoop (xs:=P.Cells) (body:=zY fuel q) (mk:=fun i s=>(i,s)) (out:=fun s=>s) (f:=toC to) (by omega) hf (fun i c hc=>by
      have hil:=(List.getElem?_eq_some_iff.1 hc).1
      have hwords:iter (zX fuel q c) fuel (0,c.Words)=some (.inl (c.Words.map (toW to))):=
        setLoop (xs:=c.Words) (body:=zX fuel q c) (mk:=fun i s=>(i,s)) (out:=fun s=>s) (f:=toW to) (hW c (List.mem_of_getElem? hc)) hf (fun j w hw=>by
          have hjl:=(List.getElem?_eq_some_iff.1 hw).1
          unfold zX
          dsimp only
          rw [if_pos (by simpa using hjl),zS (z8h hw),Option.bind_some,Option.bind_some,Int.toNat_natCast,t1]
          rfl) (by
          unfold zX
          dsimp only
          rw [if_neg (by simp)])
      unfold zY
      dsimp only
      rw [t5,if_pos (by simpa using hil),zS (z8h hc),Option.bind_some,hwords,Option.bind_some,z4]
      unfold z31
      dsimp only
      rw [Int.toNat_natCast]
      rfl) (by
      unfold zY
      dsimp only
      rw [t5,if_neg (by simp)])
  rw [t5,hcells,Option.bind_some,z4]
  unfold z33
  rw [t6]
  obtain⟨o,h2,rfl⟩:=z16 (body:=z1h fuel m q) (fun i s=>s=((i:Int),(m.Redexes.take i).map (movR m))) m.Redexes.length
    (fun o=>o=.inl (m.Redexes.map (movR m))) (by
    rintro i s hi rfl
    obtain⟨p,hp⟩:=z4K hi
    have e1:w64 ((i:Int)+1)=((i+1:Nat):Int):=by rw [ze (by omega) (by omega)];rfl
    refine .inl ⟨((i+1:Nat),(m.Redexes.take (i+1)).map (movR m)),?_,rfl⟩
    obtain⟨a1,a2,b1,b2,⟨c,c1,c2⟩,⟨d,d1,d2⟩,h4⟩:=z8P ho (List.mem_of_getElem? hp)
    have y1:=hT.h _ c a2 c1 c2
    have y2:=hT.h _ d b2 d1 d2
    rw [show((p.A.toNat:Nat):Int)=p.A by omega] at y1
    rw [show((p.B.toNat:Nat):Int)=p.B by omega] at y2
    unfold z1h
    dsimp only
    rw [if_pos (by simpa using hi),zS hp,Option.bind_some,if_pos (by simp;omega),t1,y1,y2,e1,List.take_add_one,hp,List.map_append]
    rfl) (by
    rintro s rfl
    rw [List.take_length]
    refine .inr ⟨_,?_,rfl⟩
    unfold z1h
    rw [if_neg (by simp)]) (fuel:=fuel) (i:=0) (s:=(0,[])) (Nat.zero_le _) (by omega) (by simp)
  rw [h2,Option.bind_some,z4]
  unfold z32
  have hroot:toW to m.Root=movW m m.Root:=zaw ho hT (by unfold wordsN;exact List.mem_cons_self)
  unfold toW at hroot
  rw [hTC,t1,t2,hroot]
  unfold outM
  rw [← hP]
  unfold pm
  dsimp only
  rw [List.length_map]

theorem zcR (hs:m.sz≤1048576):(outM m).sz≤1048576:=by
  have h1:sumL D.Cell.sz (outM m).Cells≤sumL D.Cell.sz m.Cells:=by
    have e:∀ L:List D.Cell,sumL D.Cell.sz ((L.filter usedC).map (movC m))≤sumL D.Cell.sz L:=by
      intro L
      induction L with
      | nil=>simp [sumL]
      | cons c L ih=>
        rw [List.filter_cons]
        split
        · have e2:(movC m c).sz=c.sz:=by unfold D.Cell.sz movC;simp
          simp only [List.map_cons,sumL]
          omega
        · simp only [sumL]
          omega
    have e3:∀ k n,sumL D.Cell.sz (freeC k n)=0:=by
      intro k n
      unfold freeC
      generalize List.range (n - k)=R
      induction R with
      | nil=>rfl
      | cons a R ih=>simp only [List.map_cons,sumL,ih];rfl
    unfold outM pm
    dsimp only
    rw [z4z,e3]
    have:=e m.Cells
    unfold usedL
    rw [List.take_length]
    omega
  have h2:(outM m).Cells.length=m.Cells.length:=by
    have:=z66 (m:=m) (i:=m.Cells.length)
    unfold outM pm freeC
    simp
    omega
  have h3:(outM m).Redexes.length=m.Redexes.length:=by unfold outM pm;simp
  unfold D.Memory.sz szL at *
  omega
theorem z6f {fuel:Nat}{x:D.Memory}(hf:18446744073709551616≤fuel) (_hw:D.Memory.wf x) (hs:x.sz≤1048576):∃ r,z1M fuel x=some r∧z1q fuel x=some r∧r.1.sz≤1048576:=by
  have z0:(⟨[],0,⟨0,0⟩,[]⟩:D.Memory).sz≤1048576:=by decide
  unfold z1M z1q
  rw [zcK hf hs,zcL hf hs,Option.bind_some,Option.bind_some]
  cases ho:okN x [] with
  | false=>exact⟨_,rfl,rfl,z0⟩
  | true=>
    simp only [Bool.not_true,Bool.false_eq_true,if_false]
    rw [z9b hf ho hs,Option.bind_some,z9c hf ho hs some]
    exact⟨_,rfl,rfl,zcR hs⟩
end
end Go.E


namespace Go.E
open Go.RowKit Go.Proofs
set_option linter.unusedSimpArgs false
set_option linter.unusedVariables false

theorem lawCompactMemory {x0:D.Memory}(h0:D.Memory.wf x0):∃ fuel,z1d fuel x0=some true:=by
  obtain⟨fuel,hf⟩:∃ n:Nat,18446744073709551616≤n:=⟨_,Nat.le_refl _⟩
  refine⟨fuel,?_⟩
  unfold z1d
  obtain⟨r0,e0,s0⟩:=z88 (l:=(1048576:Int)) hf h0 (by decide) (by omega)
  rw [e0,Option.bind_some]
  rcases s0 with s0 | ⟨s0,t0⟩
  · rw [if_pos (by simp [s0])]
  rw [if_neg (by simp [s0])]
  have z0:D.Memory.sz x0≤1048576:=by omega
  obtain⟨r,a0,a1,b0⟩:=z6f hf h0 z0
  have m0:=fun {β:Type}(g:_→Option β)=>z5O (g:=g) a0
  have m1:=fun {β:Type}(g:_→Option β)=>z5O (g:=g) a1
  have m2:=fun {β:Type}(g:_→Option β)=>z5O (g:=g) (z86 hf z0)
  have m3:=fun {β:Type}(g:_→Option β)=>z5O (g:=g) (z6p hf z0)
  have m4:=fun {β:Type}(g:_→Option β) (k:Int) (h0:0≤k) (h1:k+(ctMemory x0:Nat)≤2147483648)=>z5O (g:=g) (z5H hf z0 h0 h1)
  have c0:=z7D (x:=x0)
  have m5:=fun {β:Type}(g:_→Option β)=>z5O (g:=g) (z6p hf b0)
  have m6:=fun {β:Type}(g:_→Option β) (k:Int) (h0:0≤k) (h1:k+(ctMemory r.1:Nat)≤2147483648)=>z5O (g:=g) (z5H hf b0 h0 h1)
  have m7:=fun {β:Type}(g:_→Option β) (k:Int) (h0:0≤k) (h1:k+(ctMemory r.1:Nat)≤2147483648)=>z5O (g:=g) (z7y hf b0 h0 h1)
  have d0:=z7D (x:=r.1)
  simp (disch:=omega) only [↓reduceIte,↓m0,↓m1,↓m2,↓m3,↓m4,↓m5,↓m6,↓m7,lt_f,Bool.not_true,Bool.false_eq_true,bne_self_eq_false,z55]
  simp (disch:=omega) only [↓reduceIte,↓zD,↓m0,↓m1,↓m2,↓m3,↓m4,↓m5,↓m6,↓m7,lt_f,Bool.not_true,Bool.false_eq_true,bne_self_eq_false,z55]
  simp (disch:=omega) only [↓reduceIte,↓zj,↓m0,↓m1,↓m2,↓m3,↓m4,↓m5,↓m6,↓m7,lt_f,Bool.not_true,Bool.false_eq_true,bne_self_eq_false,z55]
  simp (disch:=omega) only [↓reduceIte,↓zC,↓m0,↓m1,↓m2,↓m3,↓m4,↓m5,↓m6,↓m7,lt_f,Bool.not_true,Bool.false_eq_true,bne_self_eq_false,z55]

end Go.E


