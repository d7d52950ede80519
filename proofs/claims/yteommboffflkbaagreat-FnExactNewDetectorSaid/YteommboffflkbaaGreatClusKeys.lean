/- Grids: the reference's statements between ports and variables, told by keys. Conditions: the grid's parts are well formed. -/
import Derived.Test.YteommboffflkbaaGreatGridBegin
namespace Go.E
open Go.RowKit Go.Proofs
set_option linter.unusedSimpArgs false
set_option linter.unusedVariables false

def aliveN (g:D.Grid) (a:D.Address):Bool:=decide (0≤a.Machine∧0≤a.Index) && (g.Shards[a.Machine.toNat]?).any fun s=>if a.Kind=1 then(s.Cells[a.Index.toNat]?).any fun c=>decide (c.Kind≠0) else if a.Kind=2 then(s.Vars[a.Index.toNat]?).any fun v=>v.Used else false
def keyA (a:D.Address):Key:=if a.Kind=1 then(1,a.Machine.toNat,a.Index.toNat,0) else(2,a.Machine.toNat,a.Index.toNat,0)

theorem zbR {α:Type}{xs:List α}{i:Int}(h:(xs.length:Int)≤i):xs[i.toNat]? = none:=List.getElem?_eq_none (by omega)
theorem zfA {α:Type}{xs:List α}{i:Int}(h0:0≤i) (h:i<xs.length):∃ x,xs[i.toNat]? = some x∧idx xs i=some x:=by
  obtain⟨x,hx⟩:=z4O (xs:=xs) (i:=i.toNat) (by omega)
  exact⟨x,hx,by unfold idx;rw [if_pos h0,hx]⟩
theorem zaX {fuel:Nat}{g:D.Grid}{a:D.Address}(hs:g.sz≤1048576):z2k fuel g a=some (aliveN g a):=by
  have hm:maxLen=9223372036854775807:=rfl
  obtain⟨z1,z2⟩:=zbD hs
  unfold z2k aliveN
  rw [zbT (by omega),z8b,Option.bind_some]
  by_cases hM:0≤a.Machine∧a.Machine≤(g.Shards.length:Int) - 1
  · obtain⟨s,s1,s2⟩:=zfA (xs:=g.Shards) hM.1 (by omega)
    obtain⟨y1,y2,y3,y4⟩:=zao (z2 s (List.mem_of_getElem? s1))
    rw [decide_eq_true hM,if_neg (by simp),s2,Option.bind_some,s1,Option.any_some]
    by_cases k1:a.Kind=1
    · rw [if_pos (by simp [k1]),if_pos k1,zbT (by omega),z8b,Option.bind_some]
      by_cases hi:0≤a.Index∧a.Index≤(s.Cells.length:Int) - 1
      · obtain⟨c,c1,c2⟩:=zfA (xs:=s.Cells) hi.1 (by omega)
        rw [if_pos (decide_eq_true hi),c2,Option.bind_some,c1,Option.any_some,decide_eq_true ⟨hM.1,hi.1⟩]
        by_cases h:c.Kind=0<;>simp [h]
      · rw [if_neg (by simpa using hi)]
        by_cases h0:0≤a.Index
        · rw [zbR (by omega)];simp
        · rw [decide_eq_false (fun h=>h0 h.2)];rfl
    · rw [if_neg (by simpa using k1),if_neg k1]
      by_cases k2:a.Kind=2
      · rw [if_pos (by simp [k2]),if_pos k2,zbT (by omega),z8b,Option.bind_some]
        by_cases hi:0≤a.Index∧a.Index≤(s.Vars.length:Int) - 1
        · obtain⟨c,c1,c2⟩:=zfA (xs:=s.Vars) hi.1 (by omega)
          rw [if_pos (decide_eq_true hi),c2,Option.bind_some,c1,Option.any_some,decide_eq_true ⟨hM.1,hi.1⟩]
          rfl
        · rw [if_neg (by simpa using hi)]
          by_cases h0:0≤a.Index
          · rw [zbR (by omega)];simp
          · rw [decide_eq_false (fun h=>h0 h.2)];rfl
      · rw [if_neg (by simpa using k2),if_neg k2];simp
  · rw [decide_eq_false hM,if_pos (by simp)]
    by_cases h0:0≤a.Machine
    · rw [zbR (by omega)];simp
    · rw [decide_eq_false (fun h=>h0 h.1)];rfl
theorem ziP {fuel:Nat}{g:D.Grid}{a:D.Address}:z2R fuel g a=some (aliveN g a):=by
  unfold z2R z2w aliveN
  by_cases h1:a.Machine<0
  · rw [if_pos (decide_eq_true h1),if_pos rfl,decide_eq_false (fun h=>by omega)];rfl
  · rw [if_neg (by simpa using h1)]
    by_cases h2:a.Machine≥(g.Shards.length:Int)
    · rw [if_pos (decide_eq_true h2),if_pos rfl,zbR h2];simp
    · rw [if_neg (by simpa using h2)]
      obtain⟨s,s1,s2⟩:=zfA (xs:=g.Shards) (i:=a.Machine) (by omega) (by omega)
      rw [s1,Option.any_some]
      by_cases h3:a.Index<0
      · rw [if_pos (decide_eq_true h3),decide_eq_false (fun h=>by omega)];rfl
      · rw [if_neg (by simpa using h3),s2,Option.bind_some,decide_eq_true (p:=0≤a.Machine∧0≤a.Index) ⟨by omega,by omega⟩,Bool.true_and]
        by_cases k1:a.Kind=1
        · rw [if_pos (by simp [k1]),if_pos k1]
          by_cases hi:a.Index<(s.Cells.length:Int)
          · obtain⟨c,c1,c2⟩:=zfA (xs:=s.Cells) (i:=a.Index) (by omega) hi
            rw [if_pos (decide_eq_true hi),c2,Option.bind_some,c1,Option.any_some]
            by_cases h:c.Kind=0<;>simp [h]
          · rw [if_neg (by simpa using hi),zbR (by omega)];rfl
        · rw [if_neg (by simpa using k1),if_neg k1]
          by_cases k2:a.Kind=2
          · rw [if_pos (by simp [k2]),if_pos k2]
            by_cases hi:a.Index<(s.Vars.length:Int)
            · obtain⟨c,c1,c2⟩:=zfA (xs:=s.Vars) (i:=a.Index) (by omega) hi
              rw [if_pos (decide_eq_true hi),c2,Option.bind_some,c1,Option.any_some]
            · rw [if_neg (by simpa using hi),zbR (by omega)];rfl
          · rw [if_neg (by simpa using k2),if_neg k2]

theorem zeP {g:D.Grid}{a:D.Address}(h:aliveN g a=true):0≤a.Machine∧0≤a.Index∧∃ s,g.Shards[a.Machine.toNat]? = some s∧
    ((a.Kind=1∧∃ c,s.Cells[a.Index.toNat]? = some c∧c.Kind≠0)∨(a.Kind=2∧∃ v,s.Vars[a.Index.toNat]? = some v∧v.Used=true)):=by
  unfold aliveN at h
  rw [Bool.and_eq_true,decide_eq_true_eq] at h
  obtain⟨⟨h1,h2⟩,h3⟩:=h
  refine⟨h1,h2,?_⟩
  cases hs:g.Shards[a.Machine.toNat]? with
  | none=>rw [hs] at h3;cases h3
  | some s=>
    rw [hs,Option.any_some] at h3
    refine⟨s,rfl,?_⟩
    by_cases k1:a.Kind=1
    · rw [if_pos k1] at h3
      cases hc:s.Cells[a.Index.toNat]? with
      | none=>rw [hc] at h3;cases h3
      | some c=>rw [hc,Option.any_some,decide_eq_true_eq] at h3;exact .inl ⟨k1,c,rfl,h3⟩
    · rw [if_neg k1] at h3
      by_cases k2:a.Kind=2
      · rw [if_pos k2] at h3
        cases hc:s.Vars[a.Index.toNat]? with
        | none=>rw [hc] at h3;cases h3
        | some c=>rw [hc,Option.any_some] at h3;exact .inr ⟨k2,c,rfl,h3⟩
      · rw [if_neg k2] at h3;cases h3
theorem zcA {fuel:Nat}{g:D.Grid}{more:List D.ShardCell}{L L':D.l27Links}{at_:List Int}{a:D.Address}(hI:Items g more L at_) (hc:L'.cells=L.cells) (hv:L'.vars=L.vars) (h:aliveN g a=true):
    ∃ x:Nat,zV fuel L' a=some (x:Int)∧(allK g more)[x]? = some (keyA a):=by
  obtain⟨h1,h2,s,hs,h3⟩:=zeP h
  have em:a.Machine=((a.Machine.toNat:Nat):Int):=by omega
  have ei:a.Index=((a.Index.toNat:Nat):Int):=by omega
  unfold zV keyA
  rcases h3 with⟨k1,c,c1,c2⟩ | ⟨k2,v,v1,v2⟩
  · rw [if_pos (by simp [k1]),if_pos k1,hc]
    obtain⟨row,r1,r2⟩:=hI.cell _ _ s c hs c1
    refine⟨_,?_,zik (k:=0) hs c1 c2 (Nat.zero_le _)⟩
    rw [em,z9 r1,Option.bind_some,ei,z9 r2]
    rfl
  · have hi:=(List.getElem?_eq_some_iff.1 v1).1
    rw [if_neg (by simp [k2]),if_neg (by omega),hv]
    obtain⟨row,r1,r2⟩:=hI.var _ _ s hs hi
    refine⟨_,?_,zmT hs hi⟩
    rw [em,z9 r1,Option.bind_some,ei,z9 r2]
    rfl


def EndsOk (ks0:List Key) (E:List (List Int)) (ks:List Key):Prop:=E.length=ks0.length∧∀ (x:Nat) key,ks0[x]? = some key→∃ e,E[x]? = some e∧e.length=ks.count key
theorem znp {α:Type}{xs:List α}(h:xs.Nodup){i j:Nat}{a:α}(hi:xs[i]? = some a) (hj:xs[j]? = some a):i=j:=by
  obtain⟨h1,h2⟩:=List.getElem?_eq_some_iff.1 hi
  obtain⟨h3,h4⟩:=List.getElem?_eq_some_iff.1 hj
  have hp:=List.pairwise_iff_getElem.1 h
  rcases Nat.lt_trichotomy i j with hl | hl | hl
  · exact absurd (h2.trans h4.symm) (hp i j h1 h3 hl)
  · exact hl
  · exact absurd (h4.trans h2.symm) (hp j i h3 h1 hl)
theorem zhg {ks0:List Key}(hn:ks0.Nodup){E:List (List Int)}{ks:List Key}(h:EndsOk ks0 E ks){x:Nat}{k:Key}(hx:ks0[x]? = some k) (n:Int):
    ∃ e,E[x]? = some e∧e.length≤ks.length∧EndsOk ks0 (E.set x (e++[n])) (ks++[k]):=by
  obtain⟨hl,he⟩:=h
  obtain⟨e,e1,e2⟩:=he x k hx
  refine⟨e,e1,by rw [e2];exact List.count_le_length,by simp [hl],fun y key hy=>?_⟩
  obtain⟨f,f1,f2⟩:=he y key hy
  by_cases hxy:x=y
  · subst hxy
    rw [hx] at hy
    cases hy
    have hlt:=(List.getElem?_eq_some_iff.1 e1).1
    exact⟨_,List.getElem?_set_self hlt,by simp [e2]⟩
  · refine⟨f,by rw [List.getElem?_set_ne hxy];exact f1,?_⟩
    have hk:k≠key:=fun e=>hxy (znp hn hx (by rw [e];exact hy))
    rw [f2,List.count_append,List.count_singleton]
    simp [hk]

structure Run (g:D.Grid) (more:List D.ShardCell) (L L':D.l27Links) (ks:List Key):Prop where
  ports:L'.ports=L.ports
  cells:L'.cells=L.cells
  vars:L'.vars=L.vars
  ends:EndsOk (allK g more) L'.ends ks
  pairs:L'.pairs.length≤ks.length
theorem zcn {fuel:Nat}{g:D.Grid}{more:List D.ShardCell}{L L':D.l27Links}{ks:List Key}{x y:Nat}{k1 k2:Key}(hR:Run g more L L' ks) (hx:(allK g more)[x]? = some k1) (hy:(allK g more)[y]? = some k2) (hb:ks.length≤1000000):
    ∃ L'',zO fuel L' (x:Int) (y:Int)=some L''∧Run g more L L'' (ks++[k1,k2]):=by
  obtain⟨e,e1,e2,e3⟩:=zhg zfD hR.ends hx (L'.pairs.length:Int)
  obtain⟨f,f1,f2,f3⟩:=zhg zfD e3 hy (L'.pairs.length:Int)
  have hp:=hR.pairs
  rw [List.length_append,List.length_singleton] at f2
  unfold zO
  rw [if_pos (by simp only [List.length_singleton,decide_eq_true_eq];omega),z9 e1,Option.bind_some,if_pos (by simp only [List.length_singleton,decide_eq_true_eq];omega)]
  unfold z3g
  rw [Int.toNat_natCast,z9 f1,Option.bind_some,if_pos (by simp only [List.length_singleton,decide_eq_true_eq];omega),Int.toNat_natCast]
  refine⟨_,rfl,hR.ports,hR.cells,hR.vars,?_,?_⟩
  · rw [List.append_assoc] at f3
    exact f3
  · simp only [List.length_append,List.length_cons,List.length_nil]
    omega


theorem tryLoop {α S τ ρ:Type}{xs:List α}{body:S→Option (Rd S τ ρ)}(J:Nat→S→Prop) (p:Nat→α→Bool) (QT:τ→Prop) (QR:ρ→Prop){s0:S}{fuel:Nat}(hl:xs.length≤1048576) (hf:18446744073709551616≤fuel)
    (step:∀ (i:Nat) x s,xs[i]? = some x→J i s→(p i x=true→∃ s',body s=some (.next s')∧J (i+1) s')∧(p i x=false→∃ r,body s=some (.ret r)∧QR r))
    (last:∀ s,J xs.length s→∃ t,body s=some (.brk t)∧QT t) (h0:J 0 s0):
    ((xs.zipIdx.all fun y=>p y.2 y.1)=true∧∃ t,iter body fuel s0=some (.inl t)∧QT t)∨((xs.zipIdx.all fun y=>p y.2 y.1)=false∧∃ r,iter body fuel s0=some (.inr r)∧QR r):=by
  obtain⟨o,h1,h2⟩:=z1f (body:=body) (fun i s=>J i s∧∀ (j:Nat) x,j<i→xs[j]? = some x→p j x=true) xs.length (fun o=>((xs.zipIdx.all fun y=>p y.2 y.1)=true∧∃ t,o=.inl t∧QT t)∨((xs.zipIdx.all fun y=>p y.2 y.1)=false∧∃ r,o=.inr r∧QR r)) (by
    rintro i s hi ⟨hJ,hp⟩
    obtain⟨x,hx⟩:=z4O hi
    obtain⟨g1,g2⟩:=step i x s hx hJ
    cases hpx:p i x with
    | true=>
      obtain⟨s',e1,e2⟩:=g1 hpx
      refine .inl ⟨s',e1,e2,fun j y hj hy=>?_⟩
      by_cases hji:j<i
      · exact hp j y hji hy
      · obtain rfl:j=i:=by omega
        rw [hx] at hy;cases hy;exact hpx
    | false=>
      obtain⟨r,e1,e2⟩:=g2 hpx
      refine .inr (.inl ⟨r,e1,.inr ⟨?_,r,rfl,e2⟩⟩)
      cases hz:(xs.zipIdx.all fun y=>p y.2 y.1) with
      | false=>rfl
      | true=>
        have:=z84.1 hz i x hx
        rw [Nat.zero_add,hpx] at this
        cases this) (by
    rintro s ⟨hJ,hp⟩
    obtain⟨t,e1,e2⟩:=last s hJ
    refine .inr ⟨t,e1,.inl ⟨?_,t,rfl,e2⟩⟩
    refine z84.2 fun i x hx=>?_
    rw [Nat.zero_add]
    exact hp i x (List.getElem?_eq_some_iff.1 hx).1 hx) (fuel:=fuel) (i:=0) (s:=s0) (Nat.zero_le _) (by omega) ⟨h0,fun j x hj _=>absurd hj (Nat.not_lt_zero _)⟩
  rw [h1]
  rcases h2 with⟨a,t,rfl,b⟩ | ⟨a,r,rfl,b⟩
  · exact .inl ⟨a,t,rfl,b⟩
  · exact .inr ⟨a,r,rfl,b⟩

def fl {α β:Type}(f:Nat→α→List β) (xs:List α) (i:Nat):List β:=(xs.take i).zipIdx.flatMap fun x=>f x.2 x.1
theorem z9y {α β:Type}{f:Nat→α→List β}{xs:List α}:fl f xs 0=[]:=by simp [fl]
theorem z95 {α β:Type}{f:Nat→α→List β}{xs:List α}{i:Nat}{x:α}(h:xs[i]? = some x):fl f xs (i+1)=fl f xs i++f i x:=by
  unfold fl
  rw [zcj h,List.flatMap_append]
  simp
theorem z96 {α β:Type}{f:Nat→α→List β}{xs:List α}{b:Nat}(h:∀ i x,xs[i]? = some x→(f i x).length≤b):∀ i,i≤xs.length→(fl f xs i).length≤b*i
  | 0,_=>by simp [z9y]
  | i+1,hi=>by
    obtain⟨x,hx⟩:=z4O (xs:=xs) (i:=i) (by omega)
    rw [z95 hx,List.length_append,Nat.mul_succ]
    have:=z96 h i (by omega)
    have:=h i x hx
    omega
def auxK (t m i k:Nat) (a:D.Address):List Key:=[(t,m,i,k+1),keyA a]
def redK (_:Nat) (r:D.ShardRedex):List Key:=[keyA r.A,keyA r.B]
def fullK (m i:Nat) (v:D.ShardVar):List Key:=if v.Full=true then [(2,m,i,0),keyA v.Held] else []
def cellS (t m i:Nat) (c:D.ShardCell):List Key:=fl (auxK t m i) c.Aux c.Aux.length
def shardS (m:Nat) (s:D.Shard):List Key:=fl (cellS 1 m) s.Cells s.Cells.length++(fl redK s.Redexes s.Redexes.length++fl (fullK m) s.Vars s.Vars.length)
def rootS (g:D.Grid):List Key:=[(0,0,0,0),keyA g.Root]
def gridS (g:D.Grid):List Key:=rootS g++fl shardS g.Shards g.Shards.length
def fullA (g:D.Grid) (m i:Nat) (v:D.ShardVar):Bool:=!v.Full || (aliveN g ⟨m,2,i⟩ && aliveN g v.Held)
def shardA (g:D.Grid) (m:Nat) (s:D.Shard):Bool:=(s.Cells.all fun c=>c.Aux.all (aliveN g)) && ((s.Redexes.all fun r=>aliveN g r.A && aliveN g r.B) && s.Vars.zipIdx.all fun x=>fullA g m x.2 x.1)
def gridA (g:D.Grid):Bool:=aliveN g g.Root && g.Shards.zipIdx.all fun x=>shardA g x.2 x.1
theorem zgd {t m i:Nat}{c:D.ShardCell}(h:c.Aux.length≤3):(cellS t m i c).length≤6:=by
  have:=z96 (f:=auxK t m i) (xs:=c.Aux) (b:=2) (fun _ _ _=>by simp [auxK]) c.Aux.length (Nat.le_refl _)
  unfold cellS
  omega
theorem zmR {fuel:Nat}{g:D.Grid}{more:List D.ShardCell}{L L':D.l27Links}{at_:List Int}{ks:List Key}{c:D.ShardCell}{b t m i:Nat}(hf:18446744073709551616≤fuel) (hs:g.sz≤1048576) (hI:Items g more L at_) (hR:Run g more L L' ks) (hc:c.Aux.length≤3) (hks:ks.length≤900000)
    (hb:b≤1000000) (hk:∀ k,k<c.Aux.length→(allK g more)[b+k+1]? = some (t,m,i,k+1)):
    ∃ L'',z22 fuel L' g c (b:Int)=some (c.Aux.all (aliveN g),L'')∧(c.Aux.all (aliveN g)=true→Run g more L L'' (ks++cellS t m i c)):=by
  unfold z22
  have h:=tryLoop (xs:=c.Aux) (body:=z2A fuel g c (b:Int)) (fuel:=fuel)
    (fun k st=>∃ M:D.l27Links,st=((k:Int),M.agents,M.ports,M.cells,M.vars,M.ends,M.pairs)∧Run g more L M (ks++fl (auxK t m i) c.Aux k))
    (fun _ a=>aliveN g a)
    (fun tt=>∃ M:D.l27Links,tt=(M.agents,M.ports,M.cells,M.vars,M.ends,M.pairs)∧Run g more L M (ks++cellS t m i c))
    (fun r=>∃ M:D.l27Links,r=(false,M)) (s0:=(0,L'.agents,L'.ports,L'.cells,L'.vars,L'.ends,L'.pairs)) (by omega) hf (by
    rintro k a _ ha ⟨M,rfl,hM⟩
    have hkl:=(List.getElem?_eq_some_iff.1 ha).1
    have hfl:=z96 (f:=auxK t m i) (xs:=c.Aux) (b:=2) (fun _ _ _=>by simp [auxK]) k (by omega)
    unfold z2A
    dsimp only
    rw [if_pos (by simpa using hkl),z9 ha,Option.bind_some,zaX hs,Option.bind_some]
    constructor
    · intro hal
      rw [hal]
      obtain⟨y,y1,y2⟩:=zcA (fuel:=fuel) (L':=M) hI hM.cells hM.vars hal
      obtain⟨M',e1,e2⟩:=zcn (fuel:=fuel) hM (hk k hkl) y2 (by rw [List.length_append];omega)
      refine⟨(w64 (k+1),M'.agents,M'.ports,M'.cells,M'.vars,M'.ends,M'.pairs),?_,M',?_,?_⟩
      · rw [if_neg (by simp),Option.bind_some]
        have y1':zV fuel ⟨M.agents,M.ports,M.cells,M.vars,M.ends,M.pairs⟩ a=some (y:Int):=y1
        have e1':zO fuel ⟨M.agents,M.ports,M.cells,M.vars,M.ends,M.pairs⟩ ((b+k+1:Nat):Int) (y:Int)=some M':=e1
        rw [y1',Option.bind_some,za (n:=(b:Int)+k) (by omega) (by omega),za (by omega) (by omega),show(b:Int)+(k:Int)+1=((b+k+1:Nat):Int) by omega,e1',Option.bind_some]
      · rw [za (by omega) (by omega)];rfl
      · rw [z95 ha,← List.append_assoc];exact e2
    · intro hal
      rw [hal]
      exact⟨_,rfl,M,rfl⟩) (by
    rintro _ ⟨M,rfl,hM⟩
    refine⟨_,?_,M,rfl,hM⟩
    unfold z2A
    rw [if_neg (by simp)]) ⟨L',rfl,by rw [z9y,List.append_nil];exact hR⟩
  rw [z70 (p:=aliveN g)] at h
  rcases h with⟨h1,tt,h2,M,rfl,h3⟩ | ⟨h1,r,h2,M,rfl⟩
  · rw [h2,Option.bind_some,z8,h1]
    exact⟨M,rfl,fun _=>h3⟩
  · rw [h2,Option.bind_some,h1]
    exact⟨M,rfl,fun h=>by cases h⟩
theorem zfT {fuel:Nat}{g:D.Grid}{more:List D.ShardCell}{L L':D.l27Links}{at_:List Int}{ks:List Key}{a b:D.Address}(hs:g.sz≤1048576) (hI:Items g more L at_) (hR:Run g more L L' ks) (hks:ks.length≤900000):
    ∃ L'',z1c fuel L' g a b=some (aliveN g a && aliveN g b,L'')∧((aliveN g a && aliveN g b)=true→Run g more L L'' (ks++[keyA a,keyA b])):=by
  unfold z1c
  rw [zaX hs,zaX hs,Option.bind_some,Option.bind_some]
  unfold z2i
  cases ha:aliveN g a with
  | false=>exact⟨_,rfl,fun h=>by cases h⟩
  | true=>
    cases hb:aliveN g b with
    | false=>exact⟨_,rfl,fun h=>by cases h⟩
    | true=>
      obtain⟨x,x1,x2⟩:=zcA (fuel:=fuel) (L':=L') hI hR.cells hR.vars ha
      obtain⟨y,y1,y2⟩:=zcA (fuel:=fuel) (L':=L') hI hR.cells hR.vars hb
      obtain⟨M,e1,e2⟩:=zcn (fuel:=fuel) hR x2 y2 (by omega)
      rw [if_neg (by simp),if_neg (by simp),x1,Option.bind_some,y1,Option.bind_some,e1,Option.bind_some]
      exact⟨M,rfl,fun _=>e2⟩
end Go.E


namespace Go.E
open Go.RowKit Go.Proofs
set_option linter.unusedSimpArgs false
set_option linter.unusedVariables false

theorem zhK {s:D.Shard}(h:s.Redexes.length≤400) (i:Nat) (hi:i≤s.Redexes.length):(fl redK s.Redexes i).length≤2*i:=z96 (b:=2) (fun _ _ _=>by simp [redK]) i hi
theorem zia {s:D.Shard}{m:Nat}(i:Nat) (hi:i≤s.Vars.length):(fl (fullK m) s.Vars i).length≤2*i:=z96 (b:=2) (fun _ _ _=>by unfold fullK;split<;>simp) i hi
theorem zeL {s:D.Shard}{m:Nat}(h:∀ c,c∈s.Cells→c.Aux.length≤3) (i:Nat) (hi:i≤s.Cells.length):(fl (cellS 1 m) s.Cells i).length≤6*i:=z96 (b:=6) (fun j c hc=>zgd (h c (List.mem_of_getElem? hc))) i hi

abbrev Tup (M:D.l27Links):List D.Agent × List D.Port × List (List Int) × List (List Int) × List (List Int) × List (List Int):=(M.agents,M.ports,M.cells,M.vars,M.ends,M.pairs)
section
variable {fuel:Nat}{g:D.Grid}{more:List D.ShardCell}{L:D.l27Links}{at_:List Int}
theorem zmM {M0:D.l27Links}{ks:List Key}{m:Nat}{s:D.Shard}{z:List D.Agent × List D.Port × List (List Int) × List (List Int) × List (List Int) × List (List Int)}(hf:18446744073709551616≤fuel) (hs:g.sz≤1048576) (hS:Small g) (hI:Items g more L at_) (hR:Run g more L M0 ks) (hm:g.Shards[m]? = some s) (hks:ks.length≤500000):
    ((s.Cells.all fun c=>c.Aux.all (aliveN g))=true∧∃ t,iter (z1Z fuel g ((m:Int),z) s) fuel (0,Tup M0)=some (.inl t)∧∃ M,t=Tup M∧Run g more L M (ks++fl (cellS 1 m) s.Cells s.Cells.length))∨
    ((s.Cells.all fun c=>c.Aux.all (aliveN g))=false∧∃ r,iter (z1Z fuel g ((m:Int),z) s) fuel (0,Tup M0)=some (.inr r)∧∃ M,r=.ret (false,M)):=by
  obtain⟨a1,a2,a3,a4,a5⟩:=hS.s s (List.mem_of_getElem? hm)
  have hml:=(List.getElem?_eq_some_iff.1 hm).1
  have hn:=hS.n
  have h:=tryLoop (xs:=s.Cells) (body:=z1Z fuel g ((m:Int),z) s) (fuel:=fuel)
    (fun i st=>∃ M:D.l27Links,st=((i:Int),Tup M)∧Run g more L M (ks++fl (cellS 1 m) s.Cells i))
    (fun _ c=>c.Aux.all (aliveN g))
    (fun t=>∃ M,t=Tup M∧Run g more L M (ks++fl (cellS 1 m) s.Cells s.Cells.length))
    (fun r=>∃ M,r=.ret (false,M)) (s0:=(0,Tup M0)) (by omega) hf (by
    rintro i c _ hc ⟨M,rfl,hM⟩
    have hil:=(List.getElem?_eq_some_iff.1 hc).1
    obtain⟨c1,c2,c3⟩:=a4 c (List.mem_of_getElem? hc)
    have hfl:=zeL (m:=m) (fun c hc=>(a4 c hc).2.1) i (by omega)
    obtain⟨row,r1,r2⟩:=hI.cell m i s c hm hc
    have hp:=zbP hS m (by omega)
    have hr:=zbp (t:=1) (m:=m) (fun c hc=>(a4 c hc).2.1) i (by omega)
    obtain⟨M',e1,e2⟩:=zmR (fuel:=fuel) (t:=1) (m:=m) (i:=i) (b:=(portK (g.Shards.take m)).length+(rowK 1 m (s.Cells.take i)).length) hf hs hI hM c2 (by rw [List.length_append];omega) (by omega) (fun k hk=>by
      have k0:c.Kind≠0:=fun h0=>by
        unfold shCellN at c3
        rw [if_pos h0,decide_eq_true_eq] at c3
        rw [c3.2.2.2] at hk
        exact absurd hk (Nat.not_lt_zero _)
      exact zik hm hc k0 hk)
    have e1':z22 fuel ⟨M.agents,M.ports,M.cells,M.vars,M.ends,M.pairs⟩ g c (((portK (g.Shards.take m)).length+(rowK 1 m (s.Cells.take i)).length:Nat):Int)=some (c.Aux.all (aliveN g),M'):=e1
    unfold z1Z
    dsimp only
    rw [if_pos (by simpa using hil),z9 hc,Option.bind_some,hM.cells,z9 r1,Option.bind_some,z9 r2,Option.bind_some,← hM.cells,e1',Option.bind_some]
    constructor
    · intro hal
      rw [hal,if_neg (by simp)]
      exact⟨(w64 (i+1),Tup M'),rfl,M',by rw [za (by omega) (by omega)];rfl,by rw [z95 hc,← List.append_assoc];exact e2 hal⟩
    · intro hal
      rw [hal,if_pos (by simp)]
      exact⟨_,rfl,_,rfl⟩) (by
    rintro _ ⟨M,rfl,hM⟩
    refine⟨_,?_,M,rfl,hM⟩
    unfold z1Z
    rw [if_neg (by simp)]) ⟨M0,rfl,by rw [z9y,List.append_nil];exact hR⟩
  rw [z70 (p:=fun c:D.ShardCell=>c.Aux.all (aliveN g))] at h
  exact h
theorem zn6 {M0:D.l27Links}{ks:List Key}{s:D.Shard}(hf:18446744073709551616≤fuel) (hs:g.sz≤1048576) (hI:Items g more L at_) (hR:Run g more L M0 ks) (hz:s.Redexes.length≤400) (hks:ks.length≤500000):
    ((s.Redexes.all fun r=>aliveN g r.A && aliveN g r.B)=true∧∃ t,iter (z1Y fuel g s) fuel (0,Tup M0)=some (.inl t)∧∃ M,t=Tup M∧Run g more L M (ks++fl redK s.Redexes s.Redexes.length))∨
    ((s.Redexes.all fun r=>aliveN g r.A && aliveN g r.B)=false∧∃ r,iter (z1Y fuel g s) fuel (0,Tup M0)=some (.inr r)∧∃ M,r=.ret (false,M)):=by
  have h:=tryLoop (xs:=s.Redexes) (body:=z1Y fuel g s) (fuel:=fuel)
    (fun i st=>∃ M:D.l27Links,st=((i:Int),Tup M)∧Run g more L M (ks++fl redK s.Redexes i))
    (fun _ r=>aliveN g r.A && aliveN g r.B)
    (fun t=>∃ M,t=Tup M∧Run g more L M (ks++fl redK s.Redexes s.Redexes.length))
    (fun r=>∃ M,r=.ret (false,M)) (s0:=(0,Tup M0)) (by omega) hf (by
    rintro i c _ hc ⟨M,rfl,hM⟩
    have hil:=(List.getElem?_eq_some_iff.1 hc).1
    have hfl:=zhK hz i (by omega)
    obtain⟨M',e1,e2⟩:=zfT (fuel:=fuel) (a:=c.A) (b:=c.B) hs hI hM (by rw [List.length_append];omega)
    have e1':z1c fuel ⟨M.agents,M.ports,M.cells,M.vars,M.ends,M.pairs⟩ g c.A c.B=some (aliveN g c.A && aliveN g c.B,M'):=e1
    unfold z1Y
    dsimp only
    rw [if_pos (by simpa using hil),z9 hc,Option.bind_some,Option.bind_some,e1',Option.bind_some]
    constructor
    · intro hal
      rw [hal,if_neg (by simp)]
      exact⟨(w64 (i+1),Tup M'),rfl,M',by rw [za (by omega) (by omega)];rfl,by rw [z95 hc,← List.append_assoc];exact e2 hal⟩
    · intro hal
      rw [hal,if_pos (by simp)]
      exact⟨_,rfl,_,rfl⟩) (by
    rintro _ ⟨M,rfl,hM⟩
    refine⟨_,?_,M,rfl,hM⟩
    unfold z1Y
    rw [if_neg (by simp)]) ⟨M0,rfl,by rw [z9y,List.append_nil];exact hR⟩
  rw [z70 (p:=fun r:D.ShardRedex=>aliveN g r.A && aliveN g r.B)] at h
  exact h
theorem zmW {M0:D.l27Links}{ks:List Key}{m:Nat}{s:D.Shard}{z:List D.Agent × List D.Port × List (List Int) × List (List Int) × List (List Int) × List (List Int)}(hf:18446744073709551616≤fuel) (hs:g.sz≤1048576) (hI:Items g more L at_) (hR:Run g more L M0 ks) (hz:s.Vars.length≤400) (hks:ks.length≤500000):
    ((s.Vars.zipIdx.all fun x=>fullA g m x.2 x.1)=true∧∃ t,iter (z1X fuel g ((m:Int),z) s) fuel (0,Tup M0)=some (.inl t)∧∃ M,t=Tup M∧Run g more L M (ks++fl (fullK m) s.Vars s.Vars.length))∨
    ((s.Vars.zipIdx.all fun x=>fullA g m x.2 x.1)=false∧∃ r,iter (z1X fuel g ((m:Int),z) s) fuel (0,Tup M0)=some (.inr r)∧∃ M,r=.ret (false,M)):=by
  exact tryLoop (xs:=s.Vars) (body:=z1X fuel g ((m:Int),z) s) (fuel:=fuel)
    (fun i st=>∃ M:D.l27Links,st=((i:Int),Tup M)∧Run g more L M (ks++fl (fullK m) s.Vars i))
    (fun i v=>fullA g m i v)
    (fun t=>∃ M,t=Tup M∧Run g more L M (ks++fl (fullK m) s.Vars s.Vars.length))
    (fun r=>∃ M,r=.ret (false,M)) (s0:=(0,Tup M0)) (by omega) hf (by
    rintro i c _ hc ⟨M,rfl,hM⟩
    have hil:=(List.getElem?_eq_some_iff.1 hc).1
    have hfl:=zia (m:=m) i (by omega:i≤s.Vars.length)
    obtain⟨M',e1,e2⟩:=zfT (fuel:=fuel) (a:=⟨(m:Int),2,(i:Int)⟩) (b:=c.Held) hs hI hM (by rw [List.length_append];omega)
    have e1':z1c fuel ⟨M.agents,M.ports,M.cells,M.vars,M.ends,M.pairs⟩ g ⟨(m:Int),2,(i:Int)⟩ c.Held=some (aliveN g ⟨(m:Int),2,(i:Int)⟩ && aliveN g c.Held,M'):=e1
    unfold z1X
    dsimp only
    rw [if_pos (by simpa using hil),z9 hc,Option.bind_some]
    unfold fullA
    cases hF:c.Full with
    | false=>
      rw [if_neg (by simp)]
      refine⟨fun _=>⟨(w64 (i+1),Tup M),?_,M,by rw [za (by omega) (by omega)];rfl,?_⟩,fun h=>by cases h⟩
      · unfold z4S;rfl
      · rw [z95 hc];unfold fullK;rw [hF,if_neg (by simp),List.append_nil];exact hM
    | true=>
      rw [if_pos rfl,Option.bind_some,e1',Option.bind_some]
      unfold z4S
      rw [Bool.not_true,Bool.false_or]
      constructor
      · intro hal
        rw [hal]
        refine⟨(w64 (i+1),Tup M'),rfl,M',by rw [za (by omega) (by omega)];rfl,?_⟩
        rw [z95 hc,← List.append_assoc]
        have h9:=e2 hal
        unfold fullK
        rw [hF,if_pos rfl]
        have:keyA ⟨(m:Int),2,(i:Int)⟩=(2,m,i,0):=by unfold keyA;simp
        rw [this] at h9
        exact h9
      · intro hal
        rw [hal]
        exact⟨_,rfl,_,rfl⟩) (by
    rintro _ ⟨M,rfl,hM⟩
    refine⟨_,?_,M,rfl,hM⟩
    unfold z1X
    rw [if_neg (by simp)]) ⟨M0,rfl,by rw [z9y,List.append_nil];exact hR⟩
theorem zgw {m:Nat}{s:D.Shard}(hS:Small g) (hm:g.Shards[m]? = some s):(shardS m s).length≤4000:=by
  obtain⟨a1,a2,a3,a4,a5⟩:=hS.s s (List.mem_of_getElem? hm)
  unfold shardS
  rw [List.length_append,List.length_append]
  have:=zeL (m:=m) (fun c hc=>(a4 c hc).2.1) s.Cells.length (Nat.le_refl _)
  have:=zhK a3 s.Redexes.length (Nat.le_refl _)
  have:=zia (m:=m) s.Vars.length (Nat.le_refl _)
  omega
theorem zj6 (hI:Items g more L at_):Run g more L L [] where
  ports:=rfl
  cells:=rfl
  vars:=rfl
  ends:=by
    rw [hI.ends]
    refine⟨by simp,fun x key hx=>⟨[],?_,rfl⟩⟩
    have:=(List.getElem?_eq_some_iff.1 hx).1
    rw [List.getElem?_replicate,if_pos this]
  pairs:=by rw [hI.pairs];exact Nat.le_refl _
theorem zou (hf:18446744073709551616≤fuel) (hs:g.sz≤1048576) (hS:Small g) (hI:Items g more L at_):
    ∃ L',z8B fuel g L=some (gridA g,L')∧(gridA g=true→Run g more L L' (gridS g)):=by
  have hn:=hS.n
  unfold z8B gridA
  rw [zaX hs,Option.bind_some]
  cases hr:aliveN g g.Root with
  | false=>exact⟨L,rfl,fun h=>by cases h⟩
  | true=>
    obtain⟨x,x1,x2⟩:=zcA (fuel:=fuel) (L':=L) hI rfl rfl hr
    obtain⟨M0,e1,e2⟩:=zcn (fuel:=fuel) (x:=0) (k1:=(0,0,0,0)) (zj6 hI) (by unfold allK portK;rfl) x2 (Nat.zero_le _)
    rw [if_neg (by simp),x1,Option.bind_some]
    have e1':zO fuel L 0 (x:Int)=some M0:=e1
    rw [e1',Option.bind_some,Bool.true_and]
    have h:=tryLoop (xs:=g.Shards) (body:=z3w fuel g) (fuel:=fuel)
      (fun m st=>∃ M:D.l27Links,st=((m:Int),Tup M)∧Run g more L M (rootS g++fl shardS g.Shards m))
      (fun m s=>shardA g m s)
      (fun t=>∃ M,t=Tup M∧Run g more L M (gridS g))
      (fun r=>∃ M,r=(false,M)) (s0:=(0,Tup M0)) (by omega) hf (by
      rintro m s _ hm ⟨M,rfl,hM⟩
      have hml:=(List.getElem?_eq_some_iff.1 hm).1
      obtain⟨a1,a2,a3,a4,a5⟩:=hS.s s (List.mem_of_getElem? hm)
      have hfl:=z96 (f:=shardS) (xs:=g.Shards) (b:=4000) (fun j c hc=>zgw hS hc) m (by omega)
      have d:(rootS g++fl shardS g.Shards m).length≤100000:=by rw [List.length_append];unfold rootS;simp only [List.length_cons,List.length_nil];omega
      have hfc:=zeL (m:=m) (fun c hc=>(a4 c hc).2.1) s.Cells.length (Nat.le_refl _)
      have hfr:=zhK a3 s.Redexes.length (Nat.le_refl _)
      unfold z3w
      dsimp only
      rw [if_pos (by simpa using hml),z9 hm,Option.bind_some]
      unfold shardA
      rcases zmM (z:=Tup M) hf hs hS hI hM hm (by omega) with⟨c1,t,c2,M1,rfl,c3⟩ | ⟨c1,r,c2,M1,rfl⟩
      · have c2':iter (z1Z fuel g ((m:Int),M.agents,M.ports,M.cells,M.vars,M.ends,M.pairs) s) fuel (0,M.agents,M.ports,M.cells,M.vars,M.ends,M.pairs)=_:=c2
        rw [c1,Bool.true_and,c2',Option.bind_some,z8]
        unfold z9w
        dsimp only
        rcases zn6 (s:=s) hf hs hI c3 a3 (by rw [List.length_append];omega) with⟨d1,t,d2,M2,rfl,d3⟩ | ⟨d1,r,d2,M2,rfl⟩
        · have d2':iter (z1Y fuel g s) fuel (0,M1.agents,M1.ports,M1.cells,M1.vars,M1.ends,M1.pairs)=_:=d2
          rw [d1,Bool.true_and,d2',Option.bind_some,z8]
          unfold z9v
          dsimp only
          rcases zmW (m:=m) (s:=s) (z:=Tup M) hf hs hI d3 a2 (by rw [List.length_append,List.length_append];omega) with⟨f1,t,f2,M3,rfl,f3⟩ | ⟨f1,r,f2,M3,rfl⟩
          · have f2':iter (z1X fuel g ((m:Int),M.agents,M.ports,M.cells,M.vars,M.ends,M.pairs) s) fuel (0,M2.agents,M2.ports,M2.cells,M2.vars,M2.ends,M2.pairs)=_:=f2
            rw [f1,f2',Option.bind_some,z8]
            refine⟨fun _=>⟨(w64 (m+1),Tup M3),rfl,M3,by rw [za (by omega) (by omega)];rfl,?_⟩,fun h=>by cases h⟩
            rw [z95 hm]
            unfold shardS
            simp only [List.append_assoc] at f3 ⊢
            exact f3
          · have f2':iter (z1X fuel g ((m:Int),M.agents,M.ports,M.cells,M.vars,M.ends,M.pairs) s) fuel (0,M2.agents,M2.ports,M2.cells,M2.vars,M2.ends,M2.pairs)=_:=f2
            rw [f1,f2',Option.bind_some]
            exact⟨fun h=>(by cases h),fun _=>⟨_,rfl,_,rfl⟩⟩
        · have d2':iter (z1Y fuel g s) fuel (0,M1.agents,M1.ports,M1.cells,M1.vars,M1.ends,M1.pairs)=_:=d2
          rw [d1,d2',Option.bind_some]
          exact⟨fun h=>(by cases h),fun _=>⟨_,rfl,_,rfl⟩⟩
      · have c2':iter (z1Z fuel g ((m:Int),M.agents,M.ports,M.cells,M.vars,M.ends,M.pairs) s) fuel (0,M.agents,M.ports,M.cells,M.vars,M.ends,M.pairs)=_:=c2
        rw [c1,c2',Option.bind_some]
        exact⟨fun h=>(by cases h),fun _=>⟨_,rfl,_,rfl⟩⟩) (by
      rintro _ ⟨M,rfl,hM⟩
      refine⟨_,?_,M,rfl,hM⟩
      unfold z3w
      rw [if_neg (by simp)]) ⟨M0,rfl,by rw [z9y,List.append_nil];exact e2⟩
    rcases h with⟨h1,t,h2,M,rfl,h3⟩ | ⟨h1,r,h2,M,rfl⟩
    · have h2':iter (z3w fuel g) fuel (0,M0.agents,M0.ports,M0.cells,M0.vars,M0.ends,M0.pairs)=_:=h2
      rw [h2',Option.bind_some,z8,h1]
      exact⟨M,rfl,fun _=>h3⟩
    · have h2':iter (z3w fuel g) fuel (0,M0.agents,M0.ports,M0.cells,M0.vars,M0.ends,M0.pairs)=_:=h2
      rw [h2',Option.bind_some,h1]
      exact⟨M,rfl,fun h=>by cases h⟩
def varC (S:List Key) (m:Nat) (s:D.Shard):Bool:=s.Vars.zipIdx.all fun y=>!y.1.Used || decide (S.count (2,m,y.2,0)=2)
def countsN (g:D.Grid) (more:List D.ShardCell) (S:List Key):Bool:=((portK g.Shards++rowK 3 0 more).all fun k=>decide (S.count k=1)) && g.Shards.zipIdx.all fun x=>varC S x.2 x.1
theorem ziZ {M:D.l27Links}{S:List Key}(hf:18446744073709551616≤fuel) (hs:g.sz≤1048576) (hI:Items g more L at_) (hR:Run g more L M S) (hp:L.ports.length≤1048576):z4Q fuel g M=some (countsN g more S):=by
  have hm:maxLen=9223372036854775807:=rfl
  obtain⟨z1,z2⟩:=zbD hs
  have hpl:M.ports.length=(portK g.Shards++rowK 3 0 more).length:=by rw [hR.ports];exact hI.ports
  unfold z4Q
  have hP:=allLoop (xs:=portK g.Shards++rowK 3 0 more) (body:=z4m fuel M) (p:=fun _ k=>decide (S.count k=1)) (t:=()) (v:=false) (fuel:=fuel) (by rw [← hpl,hR.ports];omega) hf (fun i k hi hx=>by
    obtain⟨e,e1,e2⟩:=hR.ends.2 i k (by unfold allK;rw [List.getElem?_append_left hi];exact hx)
    unfold z4m
    rw [if_pos (by simp only [decide_eq_true_eq];omega),z9 e1,Option.bind_some,e2]
    by_cases h:S.count k=1
    · rw [if_neg (by simp [h]),if_pos (decide_eq_true h)]
    · rw [if_pos (by simp only [bne_iff_ne,ne_eq];omega),if_neg (by simpa using h)]) (by unfold z4m;rw [← hpl,if_neg (by simp)])
  rw [z70 (p:=fun k=>decide (S.count k=1))] at hP
  rw [hP,Option.bind_some]
  unfold countsN
  cases ((portK g.Shards++rowK 3 0 more).all fun k=>decide (S.count k=1)) with
  | false=>rfl
  | true=>
    rw [if_pos rfl,z8,Bool.true_and]
    unfold z8a
    have hG:=allLoop (xs:=g.Shards) (body:=z4k fuel g M) (p:=fun m s=>varC S m s) (t:=()) (v:=false) (fuel:=fuel) (by omega) hf (fun m s hi hx=>by
      obtain⟨y1,y2,y3,y4⟩:=zao (z2 s (List.mem_of_getElem? hx))
      unfold z4k
      rw [if_pos (by simpa using hi)]
      have hV:=allLoop (xs:=s.Vars) (body:=z4j fuel g M (m:Int)) (p:=fun i v=>!v.Used || decide (S.count (2,m,i,0)=2)) (t:=()) (v:=Rd.ret false) (fuel:=fuel) (by omega) hf (fun i v hj hv=>by
        obtain⟨row,r1,r2⟩:=hI.var m i s hx hj
        obtain⟨e,e1,e2⟩:=hR.ends.2 _ _ (zmT hx hj)
        unfold z4j
        rw [z9 hx,Option.bind_some,if_pos (by simpa using hj),Option.bind_some,z9 hv,Option.bind_some]
        unfold z4i
        cases v.Used with
        | false=>rfl
        | true=>
          rw [if_pos rfl,hR.vars,z9 r1,Option.bind_some,z9 r2,Option.bind_some,z9 e1,Option.bind_some,e2]
          by_cases h:S.count (2,m,i,0)=2
          · rw [if_neg (by simp [h]),if_pos (by simp [h])]
          · rw [if_pos (by simp only [bne_iff_ne,ne_eq];omega),if_neg (by simpa using h)]) (by unfold z4j;rw [z9 hx,Option.bind_some,if_neg (by simp)])
      rw [hV,Option.bind_some]
      unfold varC
      cases (s.Vars.zipIdx.all fun y=>!y.1.Used || decide (S.count (2,m,y.2,0)=2))<;>rfl) (by unfold z4k;rw [if_neg (by simp)])
    rw [hG,Option.bind_some]
    cases (g.Shards.zipIdx.all fun x=>varC S x.2 x.1)<;>rfl
end
end Go.E


namespace Go.E
open Go.RowKit Go.Proofs
set_option linter.unusedSimpArgs false
set_option linter.unusedVariables false

def thA (a:D.Address):D.thing:=⟨a,0,false⟩
def auxT (m i k:Nat) (a:D.Address):List D.statement:=[⟨⟨⟨(m:Int),1,(i:Int)⟩,(k:Int)+1,true⟩,thA a⟩]
def redT (_:Nat) (r:D.ShardRedex):List D.statement:=[⟨thA r.A,thA r.B⟩]
def fullT (m i:Nat) (v:D.ShardVar):List D.statement:=if v.Full=true then [⟨thA ⟨(m:Int),2,(i:Int)⟩,thA v.Held⟩] else []
def cellT (m i:Nat) (c:D.ShardCell):List D.statement:=fl (auxT m i) c.Aux c.Aux.length
def shardT (m:Nat) (s:D.Shard):List D.statement:=fl (cellT m) s.Cells s.Cells.length++(fl redT s.Redexes s.Redexes.length++fl (fullT m) s.Vars s.Vars.length)
def rootT (g:D.Grid):List D.statement:=[⟨⟨noneN,0,true⟩,thA g.Root⟩]
def gridT (g:D.Grid):List D.statement:=rootT g++fl shardT g.Shards g.Shards.length

theorem addLoop {α S τ ρ β:Type}{xs:List α}{body:S→Option (Rd S τ ρ)}{mk:Int→List β→S}{out:List β→τ}(f:Nat→α→List β){s0:List β}{fuel:Nat}(hl:xs.length≤1048576) (hf:18446744073709551616≤fuel)
    (step:∀ (i:Nat) x,xs[i]? = some x→body (mk i (s0++fl f xs i))=some (.next (mk (w64 (i+1)) (s0++fl f xs i++f i x))))
    (last:body (mk xs.length (s0++fl f xs xs.length))=some (.brk (out (s0++fl f xs xs.length)))):
    iter body fuel (mk 0 s0)=some (.inl (out (s0++fl f xs xs.length))):=by
  obtain⟨o,h1,h2⟩:=z1f (body:=body) (fun k s=>s=mk k (s0++fl f xs k)) xs.length (fun o=>o=.inl (out (s0++fl f xs xs.length))) (by
    rintro k s hk rfl
    obtain⟨x,hx⟩:=z4O hk
    refine .inl ⟨_,step k x hx,?_⟩
    rw [za (by omega) (by omega),z95 hx,List.append_assoc]
    rfl) (by
    rintro s rfl
    exact .inr ⟨_,last,rfl⟩) (fuel:=fuel) (i:=0) (s:=mk 0 s0) (Nat.zero_le _) (by omega) (by rw [z9y,List.append_nil];rfl)
  rw [h1,h2]
theorem zo7 {fuel:Nat}{m i:Nat}{aux:List D.Address}(hf:18446744073709551616≤fuel) (hl:aux.length≤3):z1q fuel ⟨(m:Int),1,(i:Int)⟩ aux=some (fl (auxT m i) aux aux.length):=by
  unfold z1q
  have h:=addLoop (xs:=aux) (body:=z13 fuel ⟨(m:Int),1,(i:Int)⟩ aux) (mk:=fun k s=>(s,k)) (out:=fun s=>s) (auxT m i) (s0:=[]) (by omega) hf (fun k a ha=>by
    have hkl:=(List.getElem?_eq_some_iff.1 ha).1
    have hfl:=z96 (f:=auxT m i) (xs:=aux) (b:=1) (fun _ _ _=>by simp [auxT]) k (by omega)
    rw [List.nil_append]
    generalize fl (auxT m i) aux k=s at hfl ⊢
    unfold z13 z6w
    dsimp only
    have hw:w64 ((k:Int)+1)=(k:Int)+1:=za (by omega) (by omega)
    rw [if_pos (by simpa using hkl),z9 ha,Option.bind_some,hw,if_pos (decide_eq_true (by omega)),Option.bind_some,if_pos (by simp;omega)]
    unfold z2r
    dsimp only
    rw [hw]
    rfl) (by
    unfold z13
    rw [if_neg (by simp)])
  rw [h,Option.bind_some,z8]
  rfl
theorem zge {m i:Nat}{c:D.ShardCell}(h:c.Aux.length≤3):(cellT m i c).length≤3:=by
  have:=z96 (f:=auxT m i) (xs:=c.Aux) (b:=1) (fun _ _ _=>by simp [auxT]) c.Aux.length (Nat.le_refl _)
  unfold cellT
  omega
theorem zgv {g:D.Grid}{m:Nat}{s:D.Shard}(hS:Small g) (hm:g.Shards[m]? = some s):(shardT m s).length≤2000:=by
  obtain⟨a1,a2,a3,a4,a5⟩:=hS.s s (List.mem_of_getElem? hm)
  unfold shardT
  rw [List.length_append,List.length_append]
  have:=z96 (f:=cellT m) (xs:=s.Cells) (b:=3) (fun j c hc=>zge (a4 c (List.mem_of_getElem? hc)).2.1) s.Cells.length (Nat.le_refl _)
  have:=z96 (f:=redT) (xs:=s.Redexes) (b:=1) (fun j c hc=>by simp [redT]) s.Redexes.length (Nat.le_refl _)
  have:=z96 (f:=fullT m) (xs:=s.Vars) (b:=1) (fun j c hc=>by unfold fullT;split<;>simp) s.Vars.length (Nat.le_refl _)
  omega
theorem zeZ {fuel:Nat}{g:D.Grid}(hf:18446744073709551616≤fuel) (hS:Small g):z2G fuel g=some (gridT g):=by
  have hn:=hS.n
  unfold z2G z6w
  rw [if_neg (by simp),Option.bind_some]
  have h:=addLoop (xs:=g.Shards) (body:=z16 fuel g) (mk:=fun k s=>(k,s)) (out:=fun s=>s) shardT (s0:=rootT g) (fuel:=fuel) (by omega) hf (fun m s hm=>by
    obtain⟨a1,a2,a3,a4,a5⟩:=hS.s s (List.mem_of_getElem? hm)
    have hml:=(List.getElem?_eq_some_iff.1 hm).1
    have hfl:=z96 (f:=shardT) (xs:=g.Shards) (b:=2000) (fun j c hc=>zgv hS hc) m (by omega)
    have q:(rootT g++fl shardT g.Shards m).length≤100000:=by rw [List.length_append];unfold rootT;simp only [List.length_cons,List.length_nil];omega
    generalize rootT g++fl shardT g.Shards m=s0 at q ⊢
    unfold z16
    dsimp only
    rw [if_pos (by simpa using hml),z9 hm,Option.bind_some]
    have h1:=addLoop (xs:=s.Cells) (body:=z1Q fuel ((m:Int),s0) s) (mk:=fun k s=>(k,s)) (out:=fun s=>s) (cellT m) (s0:=s0) (fuel:=fuel) (by omega) hf (fun i c hc=>by
      have hil:=(List.getElem?_eq_some_iff.1 hc).1
      have c2:=(a4 c (List.mem_of_getElem? hc)).2.1
      have hfl:=z96 (f:=cellT m) (xs:=s.Cells) (b:=3) (fun j c hc=>zge (a4 c (List.mem_of_getElem? hc)).2.1) i (by omega)
      have hcl:=zge (m:=m) (i:=i) c2
      have d:(s0++fl (cellT m) s.Cells i).length≤200000:=by rw [List.length_append];omega
      generalize s0++fl (cellT m) s.Cells i=s1 at d ⊢
      unfold z1Q z3r
      dsimp only
      rw [if_pos (by simpa using hil),z9 hc,Option.bind_some,Option.bind_some,zo7 hf c2,Option.bind_some,if_pos (by unfold cellT at hcl;simp only [decide_eq_true_eq];omega)]
      rfl) (by
      unfold z1Q
      rw [if_neg (by simp)])
    try dsimp only at h1
    rw [h1,Option.bind_some,z8]
    have G:=z96 (f:=cellT m) (xs:=s.Cells) (b:=3) (fun j c hc=>zge (a4 c (List.mem_of_getElem? hc)).2.1) s.Cells.length (Nat.le_refl _)
    have d:(s0++fl (cellT m) s.Cells s.Cells.length).length≤200000:=by rw [List.length_append];omega
    unfold shardT
    rw [← List.append_assoc,← List.append_assoc]
    generalize s0++fl (cellT m) s.Cells s.Cells.length=s1 at d ⊢
    unfold z5z
    try dsimp only
    have h2:=addLoop (xs:=s.Redexes) (body:=z1P fuel s) (mk:=fun k s=>(k,s)) (out:=fun s=>s) redT (s0:=s1) (fuel:=fuel) (by omega) hf (fun i c hc=>by
      have hil:=(List.getElem?_eq_some_iff.1 hc).1
      have hfl:=z96 (f:=redT) (xs:=s.Redexes) (b:=1) (fun j c hc=>by simp [redT]) i (by omega)
      have o:(s1++fl redT s.Redexes i).length≤300000:=by rw [List.length_append];omega
      generalize s1++fl redT s.Redexes i=s2 at o ⊢
      unfold z1P
      dsimp only
      rw [if_pos (by simpa using hil),z9 hc,Option.bind_some,if_pos (by simp;omega)]
      rfl) (by
      unfold z1P
      rw [if_neg (by simp)])
    try dsimp only at h2
    rw [h2,Option.bind_some,z8]
    have H:=z96 (f:=redT) (xs:=s.Redexes) (b:=1) (fun j c hc=>by simp [redT]) s.Redexes.length (Nat.le_refl _)
    have o:(s1++fl redT s.Redexes s.Redexes.length).length≤300000:=by rw [List.length_append];omega
    generalize s1++fl redT s.Redexes s.Redexes.length=s2 at o ⊢
    unfold z5y
    have h3:=addLoop (xs:=s.Vars) (body:=z1O fuel ((m:Int),s0) s) (mk:=fun k s=>(k,s)) (out:=fun s=>s) (fullT m) (s0:=s2) (fuel:=fuel) (by omega) hf (fun i c hc=>by
      have hil:=(List.getElem?_eq_some_iff.1 hc).1
      have hfl:=z96 (f:=fullT m) (xs:=s.Vars) (b:=1) (fun j c hc=>by unfold fullT;split<;>simp) i (by omega)
      have y:(s2++fl (fullT m) s.Vars i).length≤400000:=by rw [List.length_append];omega
      generalize s2++fl (fullT m) s.Vars i=s3 at y ⊢
      unfold z1O z44 fullT z2V z1N
      dsimp only
      rw [if_pos (by simpa using hil),z9 hc,Option.bind_some]
      cases c.Full with
      | false=>rw [if_neg (by simp),if_neg (by simp),List.append_nil]
      | true=>
        rw [if_pos rfl,if_pos rfl,Option.bind_some,if_pos (by simp;omega)]
        rfl) (by
      unfold z1O
      rw [if_neg (by simp)])
    try dsimp only at h3
    rw [h3,Option.bind_some,z8]
    rfl) (by
    unfold z16
    rw [if_neg (by simp)])
  have h':iter (z16 fuel g) fuel (0,[⟨⟨⟨0,0,0⟩,0,true⟩,⟨⟨g.Root.Machine,g.Root.Kind,g.Root.Index⟩,0,false⟩⟩])=some (.inl (gridT g)):=h
  have h'':iter (z16 fuel g) fuel (0,[⟨⟨⟨0,0,0⟩,0,(0:Int) != 1⟩,⟨⟨g.Root.Machine,g.Root.Kind,g.Root.Index⟩,0,false⟩⟩])=some (.inl (gridT g)):=h'
  rw [h'',Option.bind_some,z8]
  rfl


def nameT (t:D.thing):List D.Address:=if t.own=true then [] else [t.at_]
def namesT (st:D.statement):List D.Address:=nameT st.a++nameT st.b
def namesK (T:List D.statement):List D.Address:=fl (fun _ st=>namesT st) T T.length
def Cnt (M:List (D.Address × Int)) (N:List D.Address):Prop:=∀ a,(mget M a).getD 0=(N.count a:Nat)
theorem zot {M:List (D.Address × Int)}{N:List D.Address}{a:D.Address}(h:Cnt M N) (hN:N.length≤1000000):Cnt (mput M a (w64 ((mget M a).getD 0+1))) (N++[a]):=by
  intro b
  have hl:=List.count_le_length (a:=a) (l:=N)
  rw [h a,za (by omega) (by omega),zgK,List.count_append,List.count_singleton]
  by_cases hab:a=b
  · subst hab;simp
  · rw [if_neg hab,h b]
    simp [hab]
theorem zjE {fuel:Nat}{st:D.statement}{M:List (D.Address × Int)}{N:List D.Address}(hf:18446744073709551616≤fuel) (h:Cnt M N) (hN:N.length≤900000):
    ∃ M',iter (z1M fuel st) fuel (0,M)=some (.inl M')∧Cnt M' (N++namesT st):=by
  have hfu:∃ n,fuel=n+3:=⟨fuel - 3,by omega⟩
  have key:∀ (i:Nat) (x:D.thing) (M:List (D.Address × Int)) (N:List D.Address),i<2→[st.a,st.b][i]? = some x→Cnt M N→N.length≤1000000→∃ M',z1M fuel st ((i:Int),M)=some (.next (w64 (i+1),M'))∧Cnt M' (N++nameT x):=by
    intro i x M N hi hx hC hN
    unfold z1M
    dsimp only
    rw [if_pos (by simp;omega),z9 hx,Option.bind_some]
    unfold nameT z8M z7n
    cases x.own with
    | true=>exact⟨M,by rw [if_neg (by simp)],by rw [if_pos rfl,List.append_nil];exact hC⟩
    | false=>exact⟨_,by rw [if_pos (by simp)],by rw [if_neg (by simp)];exact zot hC hN⟩
  obtain⟨M1,e1,c1⟩:=key 0 st.a M N (by omega) rfl h (by omega)
  have hna:(nameT st.a).length≤1:=by unfold nameT;split<;>simp
  obtain⟨M2,e2,c2⟩:=key 1 st.b M1 (N++nameT st.a) (by omega) rfl c1 (by rw [List.length_append];omega)
  have e3:z1M fuel st (2,M2)=some (.brk M2):=by unfold z1M;rw [if_neg (by simp)]
  have w1:w64 (((0:Nat):Int)+1)=1:=by rw [za (by omega) (by omega)];rfl
  have w2:w64 (((1:Nat):Int)+1)=2:=by rw [za (by omega) (by omega)];rfl
  rw [w1] at e1
  rw [w2] at e2
  refine⟨M2,?_,by unfold namesT;rw [← List.append_assoc];exact c2⟩
  have e1':z1M fuel st (0,M)=some (.next (1,M1)):=e1
  have e2':z1M fuel st (1,M1)=some (.next (2,M2)):=e2
  generalize hb:z1M fuel st=B at *
  obtain⟨n,rfl⟩:=hfu
  simp only [iter,e1',e2',e3]
theorem zjC {st:D.statement}:(namesT st).length≤2:=by
  unfold namesT nameT
  rw [List.length_append]
  split<;>split<;>simp
theorem zjD {fuel:Nat}{T:List D.statement}(hf:18446744073709551616≤fuel) (hT:T.length≤400000):∃ M,z9q fuel T=some M∧Cnt M (namesK T):=by
  unfold z9q
  obtain⟨o,h1,M,rfl,h2⟩:=z1f (body:=z7o fuel T) (fun i s=>∃ M,s=((i:Int),M)∧Cnt M (fl (fun _ st=>namesT st) T i)) T.length (fun o=>∃ M,o=.inl M∧Cnt M (namesK T)) (by
    rintro i _ hi ⟨M,rfl,hM⟩
    obtain⟨st,hst⟩:=z4O hi
    have hfl:=z96 (f:=fun _ st=>namesT st) (xs:=T) (b:=2) (fun _ _ _=>zjC) i (by omega)
    obtain⟨M',e1,e2⟩:=zjE (fuel:=fuel) (st:=st) hf hM (by omega)
    refine .inl ⟨(w64 (i+1),M'),?_,M',by rw [za (by omega) (by omega)];rfl,by rw [z95 hst];exact e2⟩
    unfold z7o
    dsimp only
    rw [if_pos (by simpa using hi),z9 hst,Option.bind_some,e1,Option.bind_some,z8]
    rfl) (by
    rintro _ ⟨M,rfl,hM⟩
    refine .inr ⟨M,?_,M,rfl,hM⟩
    unfold z7o
    rw [if_neg (by simp)]) (fuel:=fuel) (i:=0) (s:=(0,[])) (Nat.zero_le _) (by omega) ⟨[],rfl,fun a=>by rw [z9y];rfl⟩
  rw [h1,Option.bind_some,z8]
  exact⟨M,rfl,h2⟩
def okTh (g:D.Grid) (t:D.thing):Bool:=t.own || aliveN g t.at_
def okT (g:D.Grid) (st:D.statement):Bool:=okTh g st.a && okTh g st.b
def shardC (N:List D.Address) (m:Nat) (s:D.Shard):Bool:=(s.Cells.zipIdx.all fun y=>decide (y.1.Kind=0) || decide (N.count ⟨(m:Int),1,(y.2:Int)⟩=1)) && s.Vars.zipIdx.all fun y=>!y.1.Used || decide (N.count ⟨(m:Int),2,(y.2:Int)⟩=2)
def implN (g:D.Grid) (T:List D.statement):Bool:=T.all (okT g) && g.Shards.zipIdx.all fun x=>shardC (namesK T) x.2 x.1
theorem zjr {fuel:Nat}{g:D.Grid}{T:List D.statement}(hf:18446744073709551616≤fuel) (hs:g.sz≤1048576) (hT:T.length≤400000):z2H fuel g T=some (implN g T):=by
  have hm:maxLen=9223372036854775807:=rfl
  obtain⟨z1,z2⟩:=zbD hs
  unfold z2H implN
  have h1:=allLoop (xs:=T) (body:=z1W fuel g T) (p:=fun _ st=>okT g st) (t:=()) (v:=false) (fuel:=fuel) (by omega) hf (fun i st hi hx=>by
    unfold z1W
    rw [if_pos (by simpa using hi),z9 hx,Option.bind_some]
    have j7:∀ b,zA fuel (i:Int) b=if b=true then some (.ret false) else some (.next (w64 (i+1))):=fun b=>by unfold zA;rfl
    simp only [ziP,Option.bind_some,j7]
    unfold okT okTh
    cases st.a.own<;>cases st.b.own<;>cases aliveN g st.a.at_<;>cases aliveN g st.b.at_<;>rfl) (by unfold z1W;rw [if_neg (by simp)])
  rw [z70 (p:=okT g)] at h1
  rw [h1,Option.bind_some]
  cases T.all (okT g) with
  | false=>rfl
  | true=>
    rw [if_pos rfl,z8,Bool.true_and]
    unfold z5B
    obtain⟨M,e1,hC⟩:=zjD (T:=T) hf hT
    rw [e1,Option.bind_some]
    have h2:=allLoop (xs:=g.Shards) (body:=z1V fuel g M) (p:=fun m s=>shardC (namesK T) m s) (t:=()) (v:=false) (fuel:=fuel) (by omega) hf (fun m s hi hx=>by
      obtain⟨y1,y2,y3,y4⟩:=zao (z2 s (List.mem_of_getElem? hx))
      unfold z1V
      rw [if_pos (by simpa using hi),z9 hx,Option.bind_some]
      have hcs:=allLoop (xs:=s.Cells) (body:=z1U fuel M (m:Int) s) (p:=fun i c=>decide (c.Kind=0) || decide ((namesK T).count ⟨(m:Int),1,(i:Int)⟩=1)) (t:=()) (v:=Rd.ret false) (fuel:=fuel) (by omega) hf (fun i c hj hc=>by
        unfold z1U z3r z1R
        rw [if_pos (by simpa using hj),z9 hc,Option.bind_some,Option.bind_some,hC]
        by_cases k0:c.Kind=0
        · simp [k0]
        · by_cases h:(namesK T).count ⟨(m:Int),1,(i:Int)⟩=1
          · simp [k0,h]
          · have h9:¬ (((namesK T).count ⟨(m:Int),1,(i:Int)⟩:Nat):Int)=1:=by omega
            simp [k0,h,h9]) (by unfold z1U;rw [if_neg (by simp)])
      have hvs:=allLoop (xs:=s.Vars) (body:=z1T fuel M (m:Int) s) (p:=fun i v=>!v.Used || decide ((namesK T).count ⟨(m:Int),2,(i:Int)⟩=2)) (t:=()) (v:=Rd.ret false) (fuel:=fuel) (by omega) hf (fun i c hj hc=>by
        unfold z1T z44 z1S
        rw [if_pos (by simpa using hj),z9 hc,Option.bind_some,Option.bind_some,hC]
        cases c.Used with
        | false=>rfl
        | true=>
          by_cases h:(namesK T).count ⟨(m:Int),2,(i:Int)⟩=2
          · simp [h]
          · have h9:¬ (((namesK T).count ⟨(m:Int),2,(i:Int)⟩:Nat):Int)=2:=by omega
            simp [h,h9]) (by unfold z1T;rw [if_neg (by simp)])
      rw [hcs,Option.bind_some]
      unfold shardC
      cases (s.Cells.zipIdx.all fun y=>decide (y.1.Kind=0) || decide ((namesK T).count ⟨(m:Int),1,(y.2:Int)⟩=1)) with
      | false=>rfl
      | true=>
        rw [if_pos rfl,z8,Bool.true_and]
        unfold z5A
        rw [hvs,Option.bind_some]
        cases (s.Vars.zipIdx.all fun y=>!y.1.Used || decide ((namesK T).count ⟨(m:Int),2,(y.2:Int)⟩=2))<;>rfl) (by unfold z1V;rw [if_neg (by simp)])
    rw [h2,Option.bind_some]
    cases (g.Shards.zipIdx.all fun x=>shardC (namesK T) x.2 x.1)<;>rfl
end Go.E


namespace Go.E
open Go.RowKit Go.Proofs
set_option linter.unusedSimpArgs false
set_option linter.unusedVariables false

theorem z9O {α β:Type}{f:Nat→α→List β}{xs:List α}{p:β→Bool}:(fl f xs xs.length).all p=xs.zipIdx.all fun x=>(f x.2 x.1).all p:=by
  unfold fl
  rw [List.take_length,List.all_flatMap]
theorem zbE {α β γ:Type}{f:Nat→α→List β}{xs:List α}{h:β→List γ}{n:Nat}:(fl f xs n).flatMap h=fl (fun i x=>(f i x).flatMap h) xs n:=by
  unfold fl
  rw [List.flatMap_assoc]
theorem zi0 {α γ:Type}{h:α→List γ}:∀ {xs:List α}{k:Nat},((xs.zipIdx k).flatMap fun x=>h x.1)=xs.flatMap h
  | [],_=>rfl
  | x::xs,k=>by rw [List.zipIdx_cons,List.flatMap_cons,List.flatMap_cons,zi0]
theorem zfv {T:List D.statement}:namesK T=T.flatMap namesT:=by
  unfold namesK fl
  rw [List.take_length]
  exact zi0
theorem zdG {α β:Type}{f f':Nat→α→List β}{xs:List α}{n:Nat}(h:∀ i x,f i x=f' i x):fl f xs n=fl f' xs n:=by
  have:f=f':=funext fun i=>funext fun x=>h i x
  rw [this]


theorem zom {g:D.Grid}{m i:Nat}{c:D.ShardCell}:(cellT m i c).all (okT g)=c.Aux.all (aliveN g):=by
  unfold cellT
  rw [z9O,← z70 (p:=aliveN g)]
  congr 1
  funext x
  simp [auxT,okT,okTh,thA]
theorem zoj {g:D.Grid}{m i:Nat}{v:D.ShardVar}:(fullT m i v).all (okT g)=fullA g m i v:=by
  unfold fullT fullA
  cases v.Full<;>simp [okT,okTh,thA]
theorem zno {g:D.Grid}{m:Nat}{s:D.Shard}:(shardT m s).all (okT g)=shardA g m s:=by
  unfold shardT shardA
  rw [List.all_append,List.all_append,z9O,z9O,z9O]
  simp only [zom,zoj]
  rw [z70 (p:=fun c:D.ShardCell=>c.Aux.all (aliveN g))]
  congr 2
  rw [← z70 (p:=fun r:D.ShardRedex=>aliveN g r.A && aliveN g r.B)]
  congr 1
  funext x
  simp [redT,okT,okTh,thA]
theorem zjA {g:D.Grid}:(gridT g).all (okT g)=gridA g:=by
  unfold gridT gridA rootT
  rw [List.all_append,z9O]
  simp only [zno]
  simp [okT,okTh,thA]


def kT (t:D.thing):Key:=if t.own=true then(if t.at_.Kind=1 then(1,t.at_.Machine.toNat,t.at_.Index.toNat,t.slot.toNat) else(0,0,0,0)) else keyA t.at_
def keysT (st:D.statement):List Key:=[kT st.a,kT st.b]
def formH (t:D.thing):Bool:=!t.own || (decide (t.at_.Kind≠1) || decide (0<t.slot))
def formT (st:D.statement):Bool:=formH st.a && formH st.b
theorem zjJ {m i:Nat}{c:D.ShardCell}:(cellT m i c).flatMap keysT=cellS 1 m i c:=by
  unfold cellT cellS
  rw [zbE]
  refine zdG fun k a=>?_
  unfold auxT auxK keysT kT thA
  simp
theorem zjH {m i:Nat}{v:D.ShardVar}:(fullT m i v).flatMap keysT=fullK m i v:=by
  unfold fullT fullK
  cases v.Full with
  | false=>rfl
  | true=>simp [keysT,kT,thA,keyA]
theorem ziS {m:Nat}{s:D.Shard}:(shardT m s).flatMap keysT=shardS m s:=by
  unfold shardT shardS
  rw [List.flatMap_append,List.flatMap_append,zbE,zbE,zbE,zdG (fun i c=>zjJ (m:=m) (i:=i) (c:=c)),zdG (fun i c=>zjH (m:=m) (i:=i) (v:=c))]
  congr 2
theorem zjG {g:D.Grid}:(gridT g).flatMap keysT=gridS g:=by
  unfold gridT gridS
  rw [List.flatMap_append,zbE,zdG (fun i c=>ziS (m:=i) (s:=c))]
  rfl
theorem zjM {g:D.Grid}:(gridT g).all formT=true:=by
  unfold gridT rootT
  rw [List.all_append,z9O]
  have hc:∀ m i c,(cellT m i c).all formT=true:=fun m i c=>by
    unfold cellT
    rw [z9O,List.all_eq_true]
    intro x _
    simp [auxT,formT,formH,thA]
  have hs:∀ m s,(shardT m s).all formT=true:=fun m s=>by
    unfold shardT
    rw [List.all_append,List.all_append,z9O,z9O,z9O]
    rw [Bool.and_eq_true,Bool.and_eq_true,List.all_eq_true,List.all_eq_true,List.all_eq_true]
    refine⟨fun x _=>hc _ _ _,fun x _=>by simp [redT,formT,formH,thA],fun x _=>?_⟩
    unfold fullT
    split<;>simp [formT,formH,thA]
  rw [Bool.and_eq_true]
  exact⟨by simp [formT,formH,thA,noneN],List.all_eq_true.2 fun x _=>hs _ _⟩
theorem zo8 {g:D.Grid}{t:D.thing}{K:Nat}(hK:K=1∨K=2) (h:okTh g t=true) (hf:formH t=true) (m i:Nat):[kT t].count (K,m,i,0)=(nameT t).count ⟨(m:Int),(K:Int),(i:Int)⟩:=by
  unfold okTh at h
  unfold formH at hf
  unfold nameT kT
  cases ho:t.own with
  | true=>
    rw [ho] at hf
    rw [if_pos rfl,if_pos rfl,List.count_singleton]
    by_cases k1:t.at_.Kind=1
    · rw [if_pos k1]
      have h2:0<t.slot:=by simpa [k1] using hf
      rw [if_neg]
      · rfl
      · intro he
        simp only [beq_iff_eq,Prod.mk.injEq] at he
        omega
    · rw [if_neg k1,if_neg]
      · rfl
      · intro he
        simp only [beq_iff_eq,Prod.mk.injEq] at he
        omega
  | false=>
    rw [ho,Bool.false_or] at h
    obtain⟨h1,h2,s,_,h3⟩:=zeP h
    have hk:t.at_.Kind=1∨t.at_.Kind=2:=by
      rcases h3 with⟨h3,_⟩ | ⟨h3,_⟩
      · exact .inl h3
      · exact .inr h3
    rw [if_neg (by simp),if_neg (by simp),List.count_singleton,List.count_singleton]
    generalize t.at_=a at *
    obtain⟨a1,a2,a3⟩:=a
    dsimp only at *
    unfold keyA
    dsimp only
    have e:(((if a2=1 then(1,a1.toNat,a3.toNat,0) else(2,a1.toNat,a3.toNat,0)):Key) == (K,m,i,0))=((⟨a1,a2,a3⟩:D.Address) == ⟨(m:Int),(K:Int),(i:Int)⟩):=by
      rw [Bool.eq_iff_iff,beq_iff_eq,beq_iff_eq,D.Address.mk.injEq]
      constructor
      · intro he
        split at he
        · simp only [Prod.mk.injEq] at he
          omega
        · simp only [Prod.mk.injEq] at he
          omega
      · rintro⟨e1,e2,e3⟩
        split
        · obtain rfl:K=1:=by omega
          simp [e1,e3]
        · obtain rfl:K=2:=by omega
          simp [e1,e3]
    rw [e]
theorem zeG {g:D.Grid}{K:Nat}(hK:K=1∨K=2) (m i:Nat):∀ {T:List D.statement},T.all (okT g)=true→T.all formT=true→(T.flatMap keysT).count (K,m,i,0)=(T.flatMap namesT).count ⟨(m:Int),(K:Int),(i:Int)⟩
  | [],_,_=>rfl
  | st::T,h1,h2=>by
    rw [List.all_cons,Bool.and_eq_true] at h1 h2
    unfold okT at h1
    unfold formT at h2
    rw [Bool.and_eq_true] at h1 h2
    have a:=zo8 hK h1.1.1 h2.1.1 m i
    have b:=zo8 hK h1.1.2 h2.1.2 m i
    rw [List.flatMap_cons,List.flatMap_cons,List.count_append,List.count_append,zeG hK m i h1.2 h2.2]
    congr 1
    unfold keysT namesT
    rw [show [kT st.a,kT st.b]=[kT st.a]++[kT st.b] from rfl,List.count_append,List.count_append,a,b]


theorem z6i {α β:Type}[BEq β] [LawfulBEq β] {f:Nat→α→List β}{xs:List α}{y:β}(h:∀ (i:Nat) x,xs[i]? = some x→(f i x).count y=0):∀ n,n≤xs.length→(fl f xs n).count y=0
  | 0,_=>by rw [z9y];rfl
  | n+1,hn=>by
    obtain⟨x,hx⟩:=z4O (xs:=xs) (i:=n) (by omega)
    rw [z95 hx,List.count_append,z6i h n (by omega),h n x hx]
theorem zgP {α β:Type}[BEq β] [LawfulBEq β] {f:Nat→α→List β}{xs:List α}{y:β}{j:Nat}{a:α}(ha:xs[j]? = some a) (h:∀ (i:Nat) x,i≠j→xs[i]? = some x→(f i x).count y=0):∀ n,n≤xs.length→(fl f xs n).count y=if j<n then(f j a).count y else 0
  | 0,_=>by rw [z9y];rfl
  | n+1,hn=>by
    obtain⟨x,hx⟩:=z4O (xs:=xs) (i:=n) (by omega)
    rw [z95 hx,List.count_append,zgP ha h n (by omega)]
    by_cases hj:n=j
    · subst hj
      rw [ha] at hx
      cases hx
      rw [if_neg (Nat.lt_irrefl _),if_pos (Nat.lt_succ_self _),Nat.zero_add]
    · rw [h n x hj hx,Nat.add_zero]
      by_cases hl:j<n
      · rw [if_pos hl,if_pos (by omega)]
      · rw [if_neg hl,if_neg (by omega)]
theorem zeO {m i k:Nat}{a:D.Address}{X:Key}(hX:∀ a,keyA a≠X):(auxK 1 m i k a).count X=if(1,m,i,k+1)=X then 1 else 0:=by
  unfold auxK
  rw [show [((1,m,i,k+1):Key),keyA a]=[(1,m,i,k+1)]++[keyA a] from rfl,List.count_append,List.count_singleton,List.count_singleton,if_neg (c:=(keyA a == X)=true) (by simpa using hX a)]
  simp
theorem zfQ {i:Nat}{r:D.ShardRedex}{X:Key}(hX:∀ a,keyA a≠X):(redK i r).count X=0:=by
  unfold redK
  rw [List.count_eq_zero]
  simp only [List.mem_cons,List.not_mem_nil,or_false]
  rintro(h | h)<;>exact hX _ h.symm
theorem zdE {m i:Nat}{v:D.ShardVar}{X:Key}(hX:∀ a,keyA a≠X) (h2:(2,m,i,0)≠X):(fullK m i v).count X=0:=by
  unfold fullK
  split
  · rw [List.count_eq_zero]
    simp only [List.mem_cons,List.not_mem_nil,or_false]
    rintro(h | h)
    · exact h2 h.symm
    · exact hX _ h.symm
  · rfl
theorem zjK {a:D.Address}:(keyA a).1≠0:=by unfold keyA;split<;>simp
theorem zi9 {a:D.Address}:(keyA a).2.2.2=0:=by unfold keyA;split<;>rfl
theorem zn5 {g:D.Grid}:(gridS g).count (0,0,0,0)=1:=by
  have hX:∀ a,keyA a≠(0,0,0,0):=fun a h=>zjK (a:=a) (by rw [h])
  unfold gridS rootS
  rw [List.count_append,z6i (fun m s _=>?_) _ (Nat.le_refl _)]
  · rw [show [((0,0,0,0):Key),keyA g.Root]=[(0,0,0,0)]++[keyA g.Root] from rfl,List.count_append,List.count_singleton,List.count_singleton,if_neg (c:=(keyA g.Root == (0,0,0,0))=true) (by simpa using hX g.Root)]
    rfl
  · unfold shardS
    rw [List.count_append,List.count_append,z6i (fun i c _=>?_) _ (Nat.le_refl _),z6i (fun i c _=>zfQ hX) _ (Nat.le_refl _),z6i (fun i c _=>zdE hX (by simp)) _ (Nat.le_refl _)]
    unfold cellS
    exact z6i (fun k a _=>by rw [zeO hX,if_neg (by simp)]) _ (Nat.le_refl _)
theorem zn8 {g:D.Grid}{m i k:Nat}{s:D.Shard}{c:D.ShardCell}(hm:g.Shards[m]? = some s) (hc:s.Cells[i]? = some c) (hk:k<c.Aux.length):(gridS g).count (1,m,i,k+1)=1:=by
  have hX:∀ a,keyA a≠(1,m,i,k+1):=fun a h=>by
    have:=zi9 (a:=a)
    rw [h] at this
    exact absurd this (Nat.succ_ne_zero k)
  have hml:=(List.getElem?_eq_some_iff.1 hm).1
  have hil:=(List.getElem?_eq_some_iff.1 hc).1
  obtain⟨a,ha⟩:=z4O hk
  have h0:(rootS g).count (1,m,i,k+1)=0:=by
    unfold rootS
    rw [List.count_eq_zero]
    simp only [List.mem_cons,List.not_mem_nil,or_false]
    rintro(h | h)
    · simp at h
    · exact hX _ h.symm
  unfold gridS
  rw [List.count_append,h0,Nat.zero_add,zgP hm (fun m' s' hne _=>?_) _ (Nat.le_refl _),if_pos hml]
  · unfold shardS
    rw [List.count_append,List.count_append,z6i (f:=redK) (fun i c _=>zfQ hX) _ (Nat.le_refl _),z6i (f:=fullK m) (fun i c _=>zdE hX (by simp)) _ (Nat.le_refl _),zgP hc (fun i' c' hne _=>?_) _ (Nat.le_refl _),if_pos hil]
    · unfold cellS
      rw [zgP ha (fun k' a' hne _=>?_) _ (Nat.le_refl _),if_pos hk,zeO hX,if_pos rfl]
      rw [zeO hX,if_neg (by simp only [Prod.mk.injEq];omega)]
    · unfold cellS
      exact z6i (fun k' a' _=>by rw [zeO hX,if_neg (by simp only [Prod.mk.injEq];omega)]) _ (Nat.le_refl _)
  · unfold shardS
    rw [List.count_append,List.count_append,z6i (f:=redK) (fun i c _=>zfQ hX) _ (Nat.le_refl _),z6i (f:=fullK m') (fun i c _=>zdE hX (by simp)) _ (Nat.le_refl _),z6i (fun i' c' _=>?_) _ (Nat.le_refl _)]
    unfold cellS
    exact z6i (fun k' a' _=>by rw [zeO hX,if_neg (by simp only [Prod.mk.injEq];omega)]) _ (Nat.le_refl _)
theorem zgE {ss:List D.Shard}{k:Key}:k∈portK ss↔k=(0,0,0,0)∨∃ (m:Nat) (s:D.Shard) (i:Nat) (c:D.ShardCell) (j:Nat),ss[m]? = some s∧s.Cells[i]? = some c∧c.Kind≠0∧j≤c.Aux.length∧k=(1,m,i,j):=by
  unfold portK
  rw [List.mem_cons,List.mem_flatMap]
  constructor
  · rintro(h | ⟨⟨s,m⟩,h1,h2⟩)
    · exact .inl h
    · rw [List.mem_zipIdx_iff_getElem?] at h1
      unfold rowK at h2
      obtain⟨⟨c,i⟩,h3,h4⟩:=List.mem_flatMap.1 h2
      rw [List.mem_zipIdx_iff_getElem?] at h3
      dsimp only at h1 h3 h4
      unfold cellK at h4
      split at h4
      · cases h4
      · rename_i k0
        obtain⟨j,h5,rfl⟩:=List.mem_map.1 h4
        have:=List.mem_range.1 h5
        exact .inr ⟨m,s,i,c,j,h1,h3,k0,by omega,rfl⟩
  · rintro(h | ⟨m,s,i,c,j,h1,h2,h3,h4,rfl⟩)
    · exact .inl h
    · refine .inr ⟨(s,m),by rw [List.mem_zipIdx_iff_getElem?];exact h1,List.mem_flatMap.2 ⟨(c,i),by rw [List.mem_zipIdx_iff_getElem?];exact h2,?_⟩⟩
      dsimp only
      unfold cellK
      rw [if_neg h3]
      exact List.mem_map.2 ⟨j,List.mem_range.2 (by omega),rfl⟩
theorem znt {g:D.Grid}{N:List D.Address}:(g.Shards.zipIdx.all fun x=>shardC N x.2 x.1)=true↔∀ (m:Nat) s,g.Shards[m]? = some s→(∀ (i:Nat) c,s.Cells[i]? = some c→c.Kind=0∨N.count ⟨(m:Int),1,(i:Int)⟩=1)∧∀ (i:Nat) v,s.Vars[i]? = some v→v.Used=false∨N.count ⟨(m:Int),2,(i:Int)⟩=2:=by
  rw [z84 (p:=fun m s=>shardC N m s)]
  refine forall_congr' fun m=>forall_congr' fun s=>?_
  rw [Nat.zero_add]
  refine imp_congr_right fun hm=>?_
  unfold shardC
  rw [Bool.and_eq_true,z84 (p:=fun i (c:D.ShardCell)=>decide (c.Kind=0) || decide (N.count ⟨(m:Int),1,(i:Int)⟩=1)),z84 (p:=fun i (v:D.ShardVar)=>!v.Used || decide (N.count ⟨(m:Int),2,(i:Int)⟩=2))]
  simp only [Nat.zero_add,Bool.or_eq_true,decide_eq_true_eq,Bool.not_eq_true']
end Go.E


namespace Go.E
open Go.RowKit Go.Proofs
set_option linter.unusedSimpArgs false
set_option linter.unusedVariables false

def cellsOf:List D.Parcel→List D.ShardCell
  | []=>[]
  | p::ps=>if p.Kind=3 then p.Cell::cellsOf ps else cellsOf ps
def stepC (p:D.Parcel):Nat:=if p.Kind=3 then 1 else 0

def parK (j:Nat) (p:D.Parcel):List Key:=if p.Kind=1∨p.Kind=2 then [keyA p.A,keyA p.B] else if p.Kind=3 then cellS 3 0 j p.Cell++[(3,0,j,0),keyA p.B] else []
def parS:Nat→List D.Parcel→List Key
  | _,[]=>[]
  | j,p::ps=>parK j p++parS (j+stepC p) ps
def parA (g:D.Grid) (p:D.Parcel):Bool:=if p.Kind=1∨p.Kind=2 then aliveN g p.A && aliveN g p.B else if p.Kind=3 then p.Cell.Aux.all (aliveN g) && aliveN g p.B else true
def auxTA (at_:D.Address) (k:Nat) (a:D.Address):List D.statement:=[⟨⟨at_,(k:Int)+1,true⟩,thA a⟩]
def parT (ch i:Nat) (p:D.Parcel):List D.statement:=if p.Kind=1∨p.Kind=2 then [⟨thA p.A,thA p.B⟩] else if p.Kind=3 then fl (auxTA ⟨(ch:Int),3,(i:Int)⟩) p.Cell.Aux p.Cell.Aux.length++[⟨⟨⟨(ch:Int),3,(i:Int)⟩,0,true⟩,thA p.B⟩] else []
def chanT (ch:Nat) (ps:List D.Parcel):List D.statement:=fl (parT ch) ps ps.length
def chansT (cs:List (List D.Parcel)):List D.statement:=fl chanT cs cs.length

theorem z6X {p:D.Parcel}{ps:List D.Parcel}:cellsOf (p::ps)=if p.Kind=3 then p.Cell::cellsOf ps else cellsOf ps:=rfl
theorem zaL {p:D.Parcel}{ps:List D.Parcel}{j:Nat}:parS j (p::ps)=parK j p++parS (j+stepC p) ps:=rfl
theorem z8n:∀ {ps qs:List D.Parcel},cellsOf (ps++qs)=cellsOf ps++cellsOf qs
  | [],_=>rfl
  | p::ps,qs=>by
    rw [List.cons_append,z6X,z6X,z8n]
    split<;>rfl
theorem zc9:∀ {ps qs:List D.Parcel}{j:Nat},parS j (ps++qs)=parS j ps++parS (j+(cellsOf ps).length) qs
  | [],_,_=>rfl
  | p::ps,qs,j=>by
    rw [List.cons_append,zaL,zaL,zc9,List.append_assoc,z6X]
    congr 3
    unfold stepC
    split
    · rw [List.length_cons];omega
    · omega
theorem zna {p:D.Parcel}{j:Nat}:parS j [p]=parK j p:=by simp [parS]
theorem zek {a:D.Address}:(keyA a).1≠3:=by unfold keyA;split<;>simp
theorem zoc {p:D.Parcel}{j:Nat}(h:p.Kind=3→p.Cell.Aux.length≤3):(parK j p).length≤8:=by
  unfold parK
  split
  · simp
  · split
    · rename_i h3
      have:=zgd (t:=3) (m:=0) (i:=j) (h h3)
      rw [List.length_append]
      simp only [List.length_cons,List.length_nil]
      omega
    · simp
theorem zju:∀ {ps:List D.Parcel}{j:Nat},(∀ p,p∈ps→p.Kind=3→p.Cell.Aux.length≤3)→(parS j ps).length≤8*ps.length
  | [],_,_=>by simp [parS]
  | p::ps,j,h=>by
    have h1:=zoc (j:=j) (h p (by simp))
    have h2:=zju (ps:=ps) (j:=j+stepC p) fun q hq=>h q (by simp [hq])
    rw [zaL,List.length_append,List.length_cons]
    omega


theorem zoA {g:D.Grid}{ch i:Nat}{p:D.Parcel}:(parT ch i p).all (okT g)=parA g p:=by
  unfold parT parA
  split
  · simp [okT,okTh,thA]
  · split
    · rw [List.all_append,z9O,← z70 (p:=aliveN g)]
      congr 1
      · congr 1
        funext x
        simp [auxTA,okT,okTh,thA]
      · simp [okT,okTh,thA]
    · rfl
theorem zok {g:D.Grid}{ch:Nat}{ps:List D.Parcel}:(chanT ch ps).all (okT g)=ps.all (parA g):=by
  unfold chanT
  rw [z9O,← z70 (p:=parA g)]
  congr 1
  funext x
  exact zoA
theorem zi7 {g:D.Grid}{cs:List (List D.Parcel)}:(chansT cs).all (okT g)=cs.flatten.all (parA g):=by
  unfold chansT
  rw [z9O,List.all_flatten,← z70 (p:=fun ps:List D.Parcel=>ps.all (parA g))]
  congr 1
  funext x
  exact zok
theorem znx {ch i:Nat}{p:D.Parcel}:(parT ch i p).all formT=true:=by
  unfold parT
  split
  · simp [formT,formH,thA]
  · split
    · rw [List.all_append,z9O,Bool.and_eq_true,List.all_eq_true]
      exact⟨fun x _=>by simp [auxTA,formT,formH,thA],by simp [formT,formH,thA]⟩
    · rfl
theorem ziU {cs:List (List D.Parcel)}:(chansT cs).all formT=true:=by
  unfold chansT
  rw [z9O,List.all_eq_true]
  intro x _
  unfold chanT
  rw [z9O,List.all_eq_true]
  intro y _
  exact znx


theorem zib {α β γ:Type}[BEq β] [BEq γ] {f:Nat→α→List β}{h:Nat→α→List γ}{xs:List α}{y:β}{z:γ}(e:∀ i x,(f i x).count y=(h i x).count z):∀ n,n≤xs.length→(fl f xs n).count y=(fl h xs n).count z
  | 0,_=>by rw [z9y,z9y];rfl
  | n+1,hn=>by
    obtain⟨x,hx⟩:=z4O (xs:=xs) (i:=n) (by omega)
    rw [z95 hx,z95 hx,List.count_append,List.count_append,zib e n (by omega),e n x]
theorem zdD {x:Key}{K m n:Nat}(h:x.1≠K):([x]:List Key).count (K,m,n,0)=0:=by
  rw [List.count_eq_zero,List.mem_singleton]
  intro e
  rw [← e] at h
  exact h rfl
theorem zn9 {ch i j K m n:Nat}{p:D.Parcel}(hK:K=1∨K=2):((parT ch i p).flatMap keysT).count (K,m,n,0)=(parK j p).count (K,m,n,0):=by
  unfold parT parK
  split
  · rfl
  · split
    · rw [List.flatMap_append,zbE,List.count_append,List.count_append]
      congr 1
      · unfold cellS
        refine zib (fun k a=>?_) _ (Nat.le_refl _)
        have h1:((auxTA ⟨(ch:Int),3,(i:Int)⟩ k a).flatMap keysT)=[(0,0,0,0)]++[keyA a]:=by simp [auxTA,keysT,kT,thA]
        have h2:auxK 3 0 j k a=[(3,0,j,k+1)]++[keyA a]:=rfl
        rw [h1,h2,List.count_append,List.count_append,zdD (x:=(0,0,0,0)) (by dsimp only;omega),zdD (x:=(3,0,j,k+1)) (by dsimp only;omega)]
      · have h1:([⟨⟨⟨(ch:Int),3,(i:Int)⟩,0,true⟩,thA p.B⟩]:List D.statement).flatMap keysT=[(0,0,0,0)]++[keyA p.B]:=by simp [keysT,kT,thA]
        have h2:([(3,0,j,0),keyA p.B]:List Key)=[(3,0,j,0)]++[keyA p.B]:=rfl
        rw [h1,h2,List.count_append,List.count_append,zdD (x:=(0,0,0,0)) (by dsimp only;omega),zdD (x:=(3,0,j,0)) (by dsimp only;omega)]
    · rfl
theorem zhn {ch K m n:Nat}(hK:K=1∨K=2):∀ {ps:List D.Parcel}{j i:Nat},((ps.zipIdx i).flatMap fun x=>(parT ch x.2 x.1).flatMap keysT).count (K,m,n,0)=(parS j ps).count (K,m,n,0)
  | [],_,_=>rfl
  | p::ps,j,i=>by
    rw [List.zipIdx_cons,List.flatMap_cons,List.count_append,zhn (ps:=ps) (j:=j+stepC p) hK,zn9 (j:=j) hK]
    rw [zaL,List.count_append]
theorem zfC {K m n:Nat}(hK:K=1∨K=2):∀ {cs:List (List D.Parcel)}{j i:Nat},((cs.zipIdx i).flatMap fun x=>(chanT x.2 x.1).flatMap keysT).count (K,m,n,0)=(parS j cs.flatten).count (K,m,n,0)
  | [],_,_=>rfl
  | ps::cs,j,i=>by
    rw [List.zipIdx_cons,List.flatMap_cons,List.count_append,zfC (cs:=cs) (j:=j+(cellsOf ps).length) hK,List.flatten_cons,zc9,List.count_append]
    congr 1
    unfold chanT
    rw [zbE]
    unfold fl
    rw [List.take_length]
    exact zhn hK
theorem zin {K m n:Nat}{cs:List (List D.Parcel)}(hK:K=1∨K=2):((chansT cs).flatMap keysT).count (K,m,n,0)=(parS 0 cs.flatten).count (K,m,n,0):=by
  unfold chansT
  rw [zbE]
  unfold fl
  rw [List.take_length]
  exact zfC hK


theorem zcO {t m i k:Nat}{a:D.Address}{X:Key}(hX:∀ a,keyA a≠X):(auxK t m i k a).count X=if(t,m,i,k+1)=X then 1 else 0:=by
  unfold auxK
  rw [show [((t,m,i,k+1):Key),keyA a]=[(t,m,i,k+1)]++[keyA a] from rfl,List.count_append,List.count_singleton,List.count_singleton,if_neg (c:=(keyA a == X)=true) (by simpa using hX a)]
  simp
theorem ziT {g:D.Grid}{X:Key}(h3:X.1=3):(gridS g).count X=0:=by
  have hX:∀ a,keyA a≠X:=fun a h=>zek (a:=a) (by rw [h];exact h3)
  have hr:(rootS g).count X=0:=by
    unfold rootS
    rw [List.count_eq_zero]
    simp only [List.mem_cons,List.not_mem_nil,or_false]
    rintro(h | h)
    · rw [h] at h3;simp at h3
    · exact hX _ h.symm
  unfold gridS
  rw [List.count_append,hr,z6i (fun m s _=>?_) _ (Nat.le_refl _)]
  unfold shardS
  rw [List.count_append,List.count_append,z6i (fun i c _=>?_) _ (Nat.le_refl _),z6i (fun i c _=>zfQ hX) _ (Nat.le_refl _),z6i (fun i c _=>zdE hX (fun h=>by rw [← h] at h3;simp at h3)) _ (Nat.le_refl _)]
  unfold cellS
  exact z6i (fun k a _=>by rw [zcO hX,if_neg (fun h=>by rw [← h] at h3;simp at h3)]) _ (Nat.le_refl _)
theorem zgG {p:D.Parcel}{j:Nat}{X:Key}(hX:∀ a,keyA a≠X) (h:X.1=3→X.2.2.1≠j):(parK j p).count X=0:=by
  have pair:∀ k:Key,k≠X→∀ a,([k,keyA a]:List Key).count X=0:=fun k hk a=>by
    rw [List.count_eq_zero]
    simp only [List.mem_cons,List.not_mem_nil,or_false]
    rintro(h | h)
    · exact hk h.symm
    · exact hX _ h.symm
  unfold parK
  split
  · exact pair _ (hX _) _
  · split
    · rw [List.count_append,pair _ (fun e=>by rw [← e] at h;exact h rfl rfl)]
      unfold cellS
      rw [z6i (fun k a _=>?_) _ (Nat.le_refl _)]
      rw [zcO hX,if_neg (fun e=>by rw [← e] at h;exact h rfl rfl)]
    · rfl
theorem zcw {X:Key}(hX:∀ a,keyA a≠X):∀ {ps:List D.Parcel}{j:Nat},(X.1=3→X.2.2.1<j)→(parS j ps).count X=0
  | [],_,_=>rfl
  | p::ps,j,h=>by
    rw [zaL,List.count_append,zgG hX (fun h3=>Nat.ne_of_lt (h h3)),zcw hX fun h3=>Nat.lt_of_lt_of_le (h h3) (Nat.le_add_right _ _)]
theorem znb {p:D.Parcel}{j s:Nat}(h3:p.Kind=3) (hs:s≤p.Cell.Aux.length):(parK j p).count (3,0,j,s)=1:=by
  have hX:∀ a,keyA a≠(3,0,j,s):=fun a h=>zek (a:=a) (by rw [h])
  unfold parK
  rw [if_neg (by omega),if_pos h3,List.count_append,show([(3,0,j,0),keyA p.B]:List Key)=[(3,0,j,0)]++[keyA p.B] from rfl,List.count_append,List.count_singleton,List.count_singleton,if_neg (c:=(keyA p.B == (3,0,j,s))=true) (by simpa using hX p.B)]
  unfold cellS
  cases s with
  | zero=>
    rw [z6i (fun k a _=>by rw [zcO hX,if_neg (by simp)]) _ (Nat.le_refl _),if_pos (by simp)]
  | succ s=>
    obtain⟨a,ha⟩:=z4O (xs:=p.Cell.Aux) (i:=s) (by omega)
    rw [zgP ha (fun k' a' hne _=>?_) _ (Nat.le_refl _),if_pos (by omega),zcO hX,if_pos rfl,if_neg (by simp)]
    rw [zcO hX,if_neg (by simp only [Prod.mk.injEq];omega)]
theorem zfS:∀ {ps:List D.Parcel}{j t s:Nat}{c:D.ShardCell},(cellsOf ps)[t]? = some c→s≤c.Aux.length→(parS j ps).count (3,0,j+t,s)=1
  | [],_,_,_,_,h,_=>by simp [cellsOf] at h
  | p::ps,j,t,s,c,h,hs=>by
    have hX:∀ a,keyA a≠(3,0,j+t,s):=fun a h=>zek (a:=a) (by rw [h])
    rw [zaL,List.count_append]
    rw [z6X] at h
    by_cases h3:p.Kind=3
    · rw [if_pos h3] at h
      have hst:stepC p=1:=by unfold stepC;rw [if_pos h3]
      rw [hst]
      cases t with
      | zero=>
        rw [List.getElem?_cons_zero,Option.some.injEq] at h
        subst h
        rw [Nat.add_zero] at hX ⊢
        rw [znb h3 hs,zcw hX (fun _=>Nat.lt_succ_self j)]
      | succ t=>
        rw [List.getElem?_cons_succ] at h
        rw [zgG hX (fun _=>by simp),show j+(t+1)=(j+1)+t by omega,zfS h hs]
    · rw [if_neg h3] at h
      have hst:stepC p=0:=by unfold stepC;rw [if_neg h3]
      have hk:(parK j p).count (3,0,j+t,s)=0:=by
        unfold parK
        split
        · rw [List.count_eq_zero]
          simp only [List.mem_cons,List.not_mem_nil,or_false]
          rintro(h | h)<;>exact hX _ h.symm
        · rfl
      rw [hst,hk,Nat.add_zero,Nat.zero_add,zfS h hs]
theorem zn4 {cs:List D.ShardCell}{k:Key}:k∈rowK 3 0 cs↔∃ (i:Nat) (c:D.ShardCell) (j:Nat),cs[i]? = some c∧c.Kind≠0∧j≤c.Aux.length∧k=(3,0,i,j):=by
  unfold rowK
  rw [List.mem_flatMap]
  constructor
  · rintro⟨⟨c,i⟩,h3,h4⟩
    rw [List.mem_zipIdx_iff_getElem?] at h3
    dsimp only at h3 h4
    unfold cellK at h4
    split at h4
    · cases h4
    · rename_i k0
      obtain⟨j,h5,rfl⟩:=List.mem_map.1 h4
      have:=List.mem_range.1 h5
      exact⟨i,c,j,h3,k0,by omega,rfl⟩
  · rintro⟨i,c,j,h2,h3,h4,rfl⟩
    refine⟨(c,i),by rw [List.mem_zipIdx_iff_getElem?];exact h2,?_⟩
    dsimp only
    unfold cellK
    rw [if_neg h3]
    exact List.mem_map.2 ⟨j,List.mem_range.2 (by omega),rfl⟩
theorem zhN {g:D.Grid}{P:List D.Parcel}:countsN g (cellsOf P) (gridS g++parS 0 P)=true↔∀ (m:Nat) s,g.Shards[m]? = some s→(∀ (i:Nat) c,s.Cells[i]? = some c→c.Kind=0∨(gridS g++parS 0 P).count (1,m,i,0)=1)∧∀ (i:Nat) v,s.Vars[i]? = some v→v.Used=false∨(gridS g++parS 0 P).count (2,m,i,0)=2:=by
  unfold countsN
  rw [Bool.and_eq_true,List.all_eq_true,z84 (p:=fun m s=>varC (gridS g++parS 0 P) m s)]
  constructor
  · rintro⟨h1,h2⟩ m s hm
    refine⟨fun i c hc=>?_,fun i v hv=>?_⟩
    · by_cases k0:c.Kind=0
      · exact .inl k0
      · have:=h1 (1,m,i,0) (List.mem_append.2 (.inl (zgE.2 (.inr ⟨m,s,i,c,0,hm,hc,k0,Nat.zero_le _,rfl⟩))))
        exact .inr (by simpa only [decide_eq_true_eq] using this)
    · have h3:=h2 m s hm
      unfold varC at h3
      rw [Nat.zero_add] at h3
      have h4:=(z84 (p:=fun i (v:D.ShardVar)=>!v.Used || decide ((gridS g++parS 0 P).count (2,m,i,0)=2))).1 h3 i v hv
      rw [Nat.zero_add] at h4
      cases hu:v.Used with
      | false=>exact .inl rfl
      | true=>rw [hu,Bool.not_true,Bool.false_or,decide_eq_true_eq] at h4;exact .inr h4
  · intro h
    refine⟨fun k hk=>?_,fun m s hm=>?_⟩
    · rcases List.mem_append.1 hk with hk | hk
      · rcases zgE.1 hk with rfl | ⟨m,s,i,c,j,h1,h2,h3,h4,rfl⟩
        · refine decide_eq_true ?_
          rw [List.count_append,zn5,zcw (fun a h=>zjK (a:=a) (by rw [h])) (fun h=>by simp at h)]
        · cases j with
          | zero=>exact decide_eq_true (((h m s h1).1 i c h2).resolve_left h3)
          | succ j=>
            refine decide_eq_true ?_
            rw [List.count_append,zn8 h1 h2 (by omega),zcw (fun a h=>by have:=zi9 (a:=a);rw [h] at this;exact absurd this (Nat.succ_ne_zero j)) (fun h=>by simp at h)]
      · obtain⟨i,c,j,h2,h3,h4,rfl⟩:=zn4.1 hk
        refine decide_eq_true ?_
        have:=zfS (j:=0) h2 h4
        rw [Nat.zero_add] at this
        rw [List.count_append,ziT rfl,this]
    · unfold varC
      refine(z84 (p:=fun i (v:D.ShardVar)=>!v.Used || decide ((gridS g++parS 0 P).count (2,0+m,i,0)=2))).2 fun i v hv=>?_
      rw [Nat.zero_add,Nat.zero_add]
      rcases (h m s hm).2 i v hv with h1 | h1
      · rw [h1];rfl
      · rw [decide_eq_true h1,Bool.or_true]
theorem zmJ {g:D.Grid}{cs:List (List D.Parcel)}:(gridA g && (cs.flatten.all (parA g) && countsN g (cellsOf cs.flatten) (gridS g++parS 0 cs.flatten)))=implN g (gridT g++chansT cs):=by
  unfold implN
  rw [List.all_append,zjA,zi7]
  cases hA:gridA g with
  | false=>rfl
  | true=>
    cases hB:cs.flatten.all (parA g) with
    | false=>rfl
    | true=>
      simp only [Bool.true_and]
      rw [Bool.eq_iff_iff,zhN,znt]
      have hk:(gridT g++chansT cs).all (okT g)=true:=by rw [List.all_append,zjA,zi7,hA,hB];rfl
      have hfo:(gridT g++chansT cs).all formT=true:=by rw [List.all_append,zjM,ziU];rfl
      have hc:=fun m i=>zeG (g:=g) (K:=1) (.inl rfl) m i hk hfo
      have hv:=fun m i=>zeG (g:=g) (K:=2) (.inr rfl) m i hk hfo
      simp only [List.flatMap_append,List.count_append,zjG] at hc hv
      have ec:∀ m i,(gridS g++parS 0 cs.flatten).count (1,m,i,0)=(namesK (gridT g++chansT cs)).count ⟨(m:Int),1,(i:Int)⟩:=fun m i=>by
        rw [zfv,List.flatMap_append,List.count_append,List.count_append,← zin (.inl rfl)]
        exact hc m i
      have ev:∀ m i,(gridS g++parS 0 cs.flatten).count (2,m,i,0)=(namesK (gridT g++chansT cs)).count ⟨(m:Int),2,(i:Int)⟩:=fun m i=>by
        rw [zfv,List.flatMap_append,List.count_append,List.count_append,← zin (.inr rfl)]
        exact hv m i
      refine forall_congr' fun m=>forall_congr' fun s=>?_
      refine imp_congr_right fun hm=>and_congr (forall_congr' fun i=>forall_congr' fun c=>?_) (forall_congr' fun i=>forall_congr' fun c=>?_)
      · rw [ec m i]
      · rw [ev m i]
end Go.E


