/- Clusters: the parts by themselves and the reference's walk over the parcels. Conditions: the cluster's own size. -/
import Derived.Test.YteommboffflkbaaGreatClusKeys
import Derived.Test.YteommboffflkbaaGreatGridBegin
import Derived.Test.YteommboffflkbaaGreatSizesD
import Derived.Test.YteommboffflkbaaGreatHN
namespace Go.E
open Go.RowKit Go.Proofs
set_option linter.unusedSimpArgs false
set_option linter.unusedVariables false


def numN (xs:List Int) (k:Nat):Bool:=decide (xs.length=k) && xs.all fun x=>decide (0≤x∧x≤1000000000)
def emptyN (c:D.ShardCell):Bool:=decide (c.Kind=0∧c.Level=0∧c.Value=0∧c.Data=[]∧c.Aux=[])
def parcelN (to:Int) (p:D.Parcel):Bool:=
  if p.Kind=1 then emptyN p.Cell && decide (p.A.Machine=to) else
  if p.Kind=2 then emptyN p.Cell && decide (p.A.Machine=to∧p.A.Kind=2) else
  if p.Kind=3 then(decide (p.Cell.Kind≠0) && shCellN p.Cell) && (decide (p.A=noneN) && decide (p.B.Machine=to)) else
  if p.Kind=4 then emptyN p.Cell && (decide (p.A=noneN) && decide (p.B=noneN)) else false
def listN (k i:Nat) (ch:List D.Parcel):Bool:=decide (ch.length≤200) && ch.all (parcelN ((i % k:Nat):Int))
def diagN (k i:Nat) (ch:List D.Parcel):Bool:=decide (i / k≠i % k) || decide (ch=[])
def chansN (k:Nat) (cs:List (List D.Parcel)):Bool:=(cs.zipIdx.all fun x=>diagN k x.2 x.1) && cs.zipIdx.all fun x=>listN k x.2 x.1
def clusPN (c:D.Cluster):Bool:=piecesN c.Grid && (decide (c.Channels.length=c.Grid.Shards.length*c.Grid.Shards.length∧c.Counts.length=c.Grid.Shards.length) && (numN c.Sent c.Grid.Shards.length && (numN c.Got c.Grid.Shards.length && ((c.Counts.all fun x=>numN x 7) && chansN c.Grid.Shards.length c.Channels))))

theorem zch {c:D.Cluster}(h:c.sz≤1048576):c.Grid.sz≤1048576∧c.Channels.length≤1048576∧(∀ ch,ch∈c.Channels→ch.length≤1048576∧∀ p,p∈ch→p.Cell.sz≤1048576)∧c.Counts.length≤1048576∧(∀ x,x∈c.Counts→x.length≤1048576)∧c.Sent.length≤1048576∧c.Got.length≤1048576:=by
  unfold D.Cluster.sz at h
  have h1:szL (fun x=>szL D.Parcel.sz x) c.Channels≤1048576:=by first | omega | (simp only [] at h;omega)
  have h2:szL (fun x:List Int=>x.length) c.Counts≤1048576:=by first | omega | (simp only [] at h;omega)
  refine⟨by omega,z3v h1,fun ch hc=>?_,z3v h2,fun x hx=>z3u h2 hx,by omega,by omega⟩
  have h3:=z3u h1 hc
  refine⟨z3v h3,fun p hp=>?_⟩
  have h4:=z3u h3 hp
  unfold D.Parcel.sz at h4
  omega
theorem zbr {fuel k:Nat}{xs:List Int}(hf:18446744073709551616≤fuel) (hl:xs.length≤1048576):z2K fuel xs (k:Int)=some (numN xs k):=by
  have hm:maxLen=9223372036854775807:=rfl
  unfold z2K numN
  by_cases h:xs.length=k
  · subst h
    rw [if_neg (by simp)]
    have h1:=allLoop (xs:=xs) (body:=z3A fuel xs (xs.length:Int)) (p:=fun _ x=>decide (0≤x∧x≤1000000000)) (t:=()) (v:=false) (fuel:=fuel) (by omega) hf (fun i x hi hx=>by
      unfold z3A
      rw [if_pos (by simpa using hi),z9 hx,Option.bind_some,z8b,Option.bind_some]
      cases decide (0≤x∧x≤1000000000)<;>rfl) (by unfold z3A;rw [if_neg (by simp)])
    rw [z70 (p:=fun x:Int=>decide (0≤x∧x≤1000000000))] at h1
    rw [h1,Option.bind_some]
    cases xs.all fun x=>decide (0≤x∧x≤1000000000)<;>simp [aft,z7J]
  · rw [if_pos (by simp;omega),decide_eq_false h];rfl
theorem zjk {fuel:Nat}{xs ys:List Int}(hf:18446744073709551616≤fuel) (hl:xs.length≤maxLen):z7P fuel xs ys=some (decide (xs=ys)):=by
  unfold z7P
  exact eqWhole hl hf rfl (fun i a b hi ha hb=>by
    unfold z7D
    rw [if_pos (by simpa using hi),z9 ha,Option.bind_some,z9 hb,Option.bind_some]
    by_cases h:a=b<;>simp [h]) (by unfold z7D;rw [if_neg (by simp)])
theorem ziL {fuel:Nat}{xs ys:List D.Address}(hf:18446744073709551616≤fuel) (hl:xs.length≤maxLen):z2h fuel xs ys=some (decide (xs=ys)):=by
  unfold z2h
  exact eqWhole hl hf rfl (fun i a b hi ha hb=>by
    unfold z2z
    rw [if_pos (by simpa using hi),z9 ha,Option.bind_some,z9 hb,Option.bind_some,zeQ]
    by_cases h:a=b<;>simp [h]) (by unfold z2z;rw [if_neg (by simp)])
theorem ziV {fuel:Nat}{c:D.ShardCell}(hf:18446744073709551616≤fuel) (hs:c.sz≤1048576):z50 fuel c ⟨0,0,0,[],[]⟩=some (emptyN c):=by
  have hm:maxLen=9223372036854775807:=rfl
  unfold D.ShardCell.sz at hs
  unfold z50 emptyN
  dsimp only
  rw [zjk hf (by omega),ziL hf (by omega)]
  by_cases h1:c.Kind=0<;>by_cases h2:c.Level=0<;>by_cases h3:c.Value=0<;>by_cases h4:c.Data=[]<;>by_cases h5:c.Aux=[]<;>simp [h1,h2,h3,h4,h5]
theorem ziW {fuel:Nat}{c:D.ShardCell}(hf:18446744073709551616≤fuel) (hs:c.sz≤1048576):z1H fuel c ⟨0,0,0,[],[]⟩=some (emptyN c):=by
  have hm:maxLen=9223372036854775807:=rfl
  unfold D.ShardCell.sz at hs
  unfold z1H emptyN
  dsimp only
  rw [zfB hf (by omega),zeq hf (by omega)]
  by_cases h1:c.Kind=0<;>by_cases h2:c.Level=0<;>by_cases h3:c.Value=0<;>by_cases h4:c.Data=[]<;>by_cases h5:c.Aux=[]<;>simp [h1,h2,h3,h4,h5]
theorem zfV {a:D.Address}:(((a.Machine:Int) == 0) && (((a.Kind:Int) == 0) && (((a.Index:Int) == 0) && true)))=decide (a=noneN):=zeQ (a:=a) (b:=noneN)
theorem beqD {a b:Int}:(a == b)=decide (a=b):=by by_cases h:a=b<;>simp [h]
theorem zhQ {fuel:Nat}{p:D.Parcel}{to:Int}(hf:18446744073709551616≤fuel) (hs:p.Cell.sz≤1048576):z6D fuel p to=some (parcelN to p):=by
  unfold z6D
  rw [show(⟨p.Cell.Kind,p.Cell.Level,p.Cell.Value,p.Cell.Data,p.Cell.Aux⟩:D.ShardCell)=p.Cell from rfl,ziV hf hs,zho hf hs,zfV,zfV]
  simp only [Option.bind_some,beqD]
  unfold parcelN
  by_cases k1:p.Kind=1
  · cases emptyN p.Cell<;>simp [k1]
  · by_cases k2:p.Kind=2
    · cases emptyN p.Cell<;>by_cases h:p.A.Machine=to<;>by_cases h':p.A.Kind=2<;>simp [k2,h,h']
    · by_cases k3:p.Kind=3
      · by_cases h0:p.Cell.Kind=0<;>cases shCellN p.Cell<;>by_cases h:p.A=noneN<;>by_cases h':p.B.Machine=to<;>simp [k3,h0,h,h']
      · by_cases k4:p.Kind=4
        · cases emptyN p.Cell<;>by_cases h:p.A=noneN<;>by_cases h':p.B=noneN<;>simp [k4,h,h']
        · simp [k1,k2,k3,k4]
theorem zhR {fuel:Nat}{p:D.Parcel}{to:Int}(hf:18446744073709551616≤fuel) (hs:p.Cell.sz≤1048576):z5o fuel p to=some (parcelN to p):=by
  have key:∀ b,z27 fuel p to b=if b=true then some false else if p.Kind=1 then some (decide (p.A.Machine=to)) else if p.Kind=2 then some (decide (p.A.Machine=to∧p.A.Kind=2)) else if p.Kind=3 then some ((decide (p.Cell.Kind≠0) && shCellN p.Cell) && (decide (p.A=noneN) && decide (p.B.Machine=to))) else if p.Kind=4 then some (decide (p.A=noneN) && decide (p.B=noneN)) else some false:=fun b=>by
    unfold z27
    rw [zhp hf hs,zfV,zfV]
    simp only [Option.bind_some,beqD]
    cases b with
    | true=>rfl
    | false=>
      rw [if_neg Bool.false_ne_true,if_neg Bool.false_ne_true]
      by_cases k1:p.Kind=1
      · simp [k1]
      · by_cases k2:p.Kind=2
        · by_cases h:p.A.Machine=to<;>by_cases h':p.A.Kind=2<;>simp [k2,h,h']
        · by_cases k3:p.Kind=3
          · by_cases h0:p.Cell.Kind=0<;>cases shCellN p.Cell<;>by_cases h:p.A=noneN<;>by_cases h':p.B.Machine=to<;>simp [k3,h0,h,h']
          · by_cases k4:p.Kind=4
            · by_cases h:p.A=noneN<;>by_cases h':p.B=noneN<;>simp [k4,h,h']
            · simp [k1,k2,k3,k4]
  unfold z5o
  rw [ziW hf hs,key,Option.bind_some,key]
  unfold parcelN
  by_cases k3:p.Kind=3
  · simp [k3]
  · by_cases k1:p.Kind=1
    · cases emptyN p.Cell<;>simp [k1]
    · by_cases k2:p.Kind=2
      · cases emptyN p.Cell<;>simp [k2]
      · by_cases k4:p.Kind=4
        · cases emptyN p.Cell<;>simp [k4]
        · cases emptyN p.Cell<;>simp [k1,k2,k3,k4]
theorem tmodN {i k:Nat}(hk:k≠0):((i:Int).tmod (k:Int))=((i % k:Nat):Int):=by rw [Int.tmod_eq_emod_of_nonneg (by omega)];exact(Int.natCast_emod i k).symm
theorem zo3 {k:Nat}{cs:List (List D.Parcel)}(hk:0<k) (hl:cs.length=k*k):(cs.zipIdx.all fun x=>diagN k x.2 x.1)=true↔∀ m,m<k→cs[m*k+m]? = some []:=by
  rw [z84 (p:=fun i ch=>diagN k i ch)]
  constructor
  · intro h m hm
    have hlt:m*k+m<cs.length:=by
      have:m*k+k≤k*k:=by rw [← Nat.succ_mul];exact Nat.mul_le_mul_right _ hm
      omega
    obtain⟨ch,hc⟩:=z4O hlt
    have h1:=h _ _ hc
    rw [Nat.zero_add] at h1
    unfold diagN at h1
    have e1:(m*k+m) / k=m:=by rw [Nat.mul_comm,Nat.mul_add_div hk,Nat.div_eq_of_lt hm,Nat.add_zero]
    have e2:(m*k+m) % k=m:=by rw [Nat.mul_comm,Nat.mul_add_mod,Nat.mod_eq_of_lt hm]
    rw [e1,e2] at h1
    simp only [ne_eq,not_true_eq_false,decide_false,Bool.false_or,decide_eq_true_eq] at h1
    rw [hc,h1]
  · intro h i ch hc
    rw [Nat.zero_add]
    unfold diagN
    have hil:=(List.getElem?_eq_some_iff.1 hc).1
    by_cases e:i / k=i % k
    · have h1:=h (i % k) (Nat.mod_lt _ hk)
      have e2:i % k*k+i % k=i:=by
        have:=Nat.div_add_mod i k
        rw [e,Nat.mul_comm] at this
        exact this
      rw [e2,hc] at h1
      simp only [Option.some.injEq] at h1
      rw [h1];simp
    · simp [e]
theorem zfR {fuel:Nat}{c:D.Cluster}(hf:18446744073709551616≤fuel) (hs:c.sz≤1048576):z6C fuel c=some (clusPN c):=by
  have hm:maxLen=9223372036854775807:=rfl
  obtain⟨z1,z2,z3,z4,z5,z6,z7⟩:=zch hs
  have no:z15 fuel c true=some false:=by unfold z15;rfl
  unfold z6C clusPN
  rw [show(⟨c.Grid.Shards,(⟨c.Grid.Root.Machine,c.Grid.Root.Kind,c.Grid.Root.Index⟩:D.Address)⟩:D.Grid)=c.Grid from rfl,zhL hf z1,Option.bind_some,zbr hf z6,zbr hf z7]
  cases hp:piecesN c.Grid with
  | false=>rw [Bool.not_false,if_pos rfl,no];rfl
  | true=>
    have hk:1≤c.Grid.Shards.length∧c.Grid.Shards.length≤4:=by
      unfold piecesN at hp
      rw [Bool.and_eq_true,decide_eq_true_eq] at hp
      exact hp.1
    have hkk:c.Grid.Shards.length*c.Grid.Shards.length≤16:=Nat.mul_le_mul hk.2 hk.2
    rw [Bool.not_true,if_neg (by simp),za (by omega) (by omega),Bool.true_and]
    generalize hkd:c.Grid.Shards.length=k at *
    by_cases h1:c.Channels.length=k*k
    · rw [if_neg (by simp [h1])]
      by_cases h2:c.Counts.length=k
      · rw [if_neg (by simp [h2]),Option.bind_some,Option.bind_some]
        cases h3:numN c.Sent k with
        | false=>rw [Bool.not_false,if_pos rfl,no];simp
        | true=>
          rw [Bool.not_true,if_neg (by simp)]
          cases h4:numN c.Got k with
          | false=>rw [Bool.not_false,no];simp
          | true=>
            rw [Bool.not_true,decide_eq_true ⟨h1,h2⟩,Bool.true_and,Bool.true_and,Bool.true_and]
            unfold z15
            rw [if_neg (by simp)]
            have hD:=allLoop (xs:=c.Counts) (body:=z4d fuel c) (p:=fun m x=>numN x 7 && decide (c.Channels[m*k+m]? = some [])) (t:=()) (v:=false) (fuel:=fuel) (by omega) hf (fun m x hi hx=>by
              have hmk:m*k+m<c.Channels.length:=by
                have:m*k+k≤k*k:=by rw [← Nat.succ_mul];exact Nat.mul_le_mul_right _ (by omega)
                omega
              obtain⟨ch,hc⟩:=z4O hmk
              have hmk2:(m:Int)*(k:Int)=((m*k:Nat):Int):=by simp
              have hb:m*k≤16:=by omega
              unfold z4d z4a
              rw [hkd,if_pos (by simp;omega),z9 hx,Option.bind_some]
              have h7:=zbr (k:=7) hf (z5 x (List.mem_of_getElem? hx))
              rw [show((7:Nat):Int)=7 from rfl] at h7
              rw [h7,Option.bind_some,hmk2,za (n:=((m*k:Nat):Int)) (by omega) (by omega),za (n:=((m*k:Nat):Int)+(m:Int)) (by omega) (by omega),show((m*k:Nat):Int)+(m:Int)=((m*k+m:Nat):Int) by omega,z9 hc,hc]
              cases numN x 7 with
              | false=>rfl
              | true=>
                cases ch with
                | nil=>simp
                | cons y ys=>simp) (by unfold z4d;rw [hkd,h2,if_neg (by simp)])
            rw [hD,Option.bind_some]
            have hdiag:=zo3 (cs:=c.Channels) (by omega:0<k) h1
            have hcond:((c.Counts.zipIdx.all fun y=>numN y.1 7 && decide (c.Channels[y.2*k+y.2]? = some []))=true)↔((c.Counts.all fun x=>numN x 7)=true∧(c.Channels.zipIdx.all fun x=>diagN k x.2 x.1)=true):=by
              rw [hdiag,z84 (p:=fun m x=>numN x 7 && decide (c.Channels[m*k+m]? = some [])),List.all_eq_true]
              constructor
              · intro h
                refine⟨fun x hx=>?_,fun m hm'=>?_⟩
                · obtain⟨m,hm'⟩:=List.getElem?_of_mem hx
                  have:=h m x hm'
                  rw [Bool.and_eq_true] at this
                  exact this.1
                · obtain⟨x,hx⟩:=z4O (xs:=c.Counts) (i:=m) (by omega)
                  have:=h m x hx
                  rw [Nat.zero_add,Bool.and_eq_true,decide_eq_true_eq] at this
                  exact this.2
              · rintro⟨ha,hb⟩ m x hx
                have hml:=(List.getElem?_eq_some_iff.1 hx).1
                rw [Nat.zero_add,ha x (List.mem_of_getElem? hx),hb m (by omega)]
                simp
            unfold chansN
            by_cases hC:(c.Counts.zipIdx.all fun y=>numN y.1 7 && decide (c.Channels[y.2*k+y.2]? = some []))=true
            · obtain⟨e1,e2⟩:=hcond.1 hC
              rw [if_pos hC,z8,e1,e2,Bool.true_and,Bool.true_and]
              unfold z88
              have hL:=allLoop (xs:=c.Channels) (body:=z4c fuel c) (p:=fun i ch=>listN k i ch) (t:=()) (v:=false) (fuel:=fuel) (by omega) hf (fun i ch hi hc=>by
                obtain⟨y1,y2⟩:=z3 ch (List.mem_of_getElem? hc)
                unfold z4c listN
                rw [if_pos (by simpa using hi),z9 hc,Option.bind_some]
                by_cases hl:ch.length≤200
                · rw [if_neg (by simp;omega),decide_eq_true hl,Bool.true_and]
                  have hP:=allLoop (xs:=ch) (body:=z4b fuel c (i:Int)) (p:=fun _ p=>parcelN ((i % k:Nat):Int) p) (t:=()) (v:=Rd.ret false) (fuel:=fuel) (by omega) hf (fun j p hj hp'=>by
                    unfold z4b
                    rw [z9 hc,Option.bind_some,if_pos (by simpa using hj),Option.bind_some,z9 hp',Option.bind_some,hkd,if_pos (by simp;omega),tmodN (by omega),zhQ hf (y2 p (List.mem_of_getElem? hp')),Option.bind_some]
                    cases parcelN ((i % k:Nat):Int) p<;>rfl) (by unfold z4b;rw [z9 hc,Option.bind_some,if_neg (by simp)])
                  rw [z70 (p:=parcelN ((i % k:Nat):Int))] at hP
                  rw [hP,Option.bind_some]
                  cases ch.all (parcelN ((i % k:Nat):Int))<;>rfl
                · rw [if_pos (by simp;omega),decide_eq_false hl];rfl) (by unfold z4c;rw [if_neg (by simp)])
              rw [hL,Option.bind_some]
              cases (c.Channels.zipIdx.all fun x=>listN k x.2 x.1)<;>rfl
            · rw [if_neg hC]
              have:((c.Counts.all fun x=>numN x 7) && ((c.Channels.zipIdx.all fun x=>diagN k x.2 x.1) && (c.Channels.zipIdx.all fun x=>listN k x.2 x.1)))=false:=by
                cases ha:(c.Counts.all fun x=>numN x 7) with
                | false=>rfl
                | true=>
                  cases hb:(c.Channels.zipIdx.all fun x=>diagN k x.2 x.1) with
                  | false=>rfl
                  | true=>exact absurd (hcond.2 ⟨ha,hb⟩) hC
              rw [this];rfl
      · rw [if_pos (by simp;omega),no,decide_eq_false (fun h=>h2 h.2)];rfl
    · rw [if_pos (by simp;omega),no,decide_eq_false (fun h=>h1 h.1)];rfl
end Go.E


namespace Go.E
open Go.RowKit Go.Proofs
set_option linter.unusedSimpArgs false
set_option linter.unusedVariables false

theorem zbN {α:Type}{xs:List (List α)}{i:Nat}{x:List α}(h:xs[i]? = some x):(xs.take (i+1)).flatten=(xs.take i).flatten++x:=by
  rw [List.take_add_one,h]
  simp
theorem zdZ {α:Type}{xs:List α}{i:Nat}{x:α}(h:xs[i]? = some x):xs.take (i+1)=xs.take i++[x]:=by
  rw [List.take_add_one,h]
  rfl
theorem z8d {α:Type}{b:Nat}:∀ {xs:List (List α)},(∀ x,x∈xs→x.length≤b)→xs.flatten.length≤b*xs.length
  | [],_=>by simp
  | x::xs,h=>by
    rw [List.flatten_cons,List.length_append,List.length_cons,Nat.mul_succ]
    have:=h x (by simp)
    have:=z8d (xs:=xs) fun y hy=>h y (by simp [hy])
    omega
theorem zaW:∀ {ps:List D.Parcel},(cellsOf ps).length≤ps.length
  | []=>Nat.le_refl _
  | p::ps=>by
    rw [z6X]
    have:=zaW (ps:=ps)
    split
    · simp only [List.length_cons];omega
    · simp only [List.length_cons];omega
theorem zbG:∀ {ps:List D.Parcel}{c:D.ShardCell},c∈cellsOf ps→∃ p,p∈ps∧p.Kind=3∧p.Cell=c
  | [],_,h=>by simp [cellsOf] at h
  | p::ps,c,h=>by
    rw [z6X] at h
    split at h
    · rename_i h3
      rcases List.mem_cons.1 h with rfl | h
      · exact⟨p,by simp,h3,rfl⟩
      · obtain⟨q,h1,h2⟩:=zbG h
        exact⟨q,by simp [h1],h2⟩
    · obtain⟨q,h1,h2⟩:=zbG h
      exact⟨q,by simp [h1],h2⟩
theorem zo5 {X Y:List D.Parcel}{p:D.Parcel}(h3:p.Kind=3):(cellsOf (X++p::Y))[(cellsOf X).length]? = some p.Cell:=by
  rw [z8n,List.getElem?_append_right (Nat.le_refl _),Nat.sub_self,z6X,if_pos h3]
  rfl

structure Chans (c:D.Cluster):Prop where
  n:c.Channels.length≤16
  l:∀ ch,ch∈c.Channels→ch.length≤200
  p:∀ q,q∈c.Channels.flatten→q.Cell.sz≤1048576∧(q.Kind=3→q.Cell.Kind≠0∧q.Cell.Aux.length≤3)
theorem zij {c:D.Cluster}(hs:c.sz≤1048576) (h:clusPN c=true):piecesN c.Grid=true∧Chans c:=by
  unfold clusPN at h
  simp only [Bool.and_eq_true,decide_eq_true_eq] at h
  obtain⟨h1,⟨h2,h3⟩,h4,h5,h6,h7⟩:=h
  obtain⟨z1,z2,z3,z4,z5,z6,z7⟩:=zch hs
  have hk:1≤c.Grid.Shards.length∧c.Grid.Shards.length≤4:=by
    unfold piecesN at h1
    rw [Bool.and_eq_true,decide_eq_true_eq] at h1
    exact h1.1
  unfold chansN at h7
  rw [Bool.and_eq_true] at h7
  have h8:=(z84 (p:=fun i ch=>listN c.Grid.Shards.length i ch)).1 h7.2
  have h9:∀ ch,ch∈c.Channels→ch.length≤200∧∀ q,q∈ch→q.Kind=3→q.Cell.Kind≠0∧q.Cell.Aux.length≤3:=fun ch hc=>by
    obtain⟨i,hi⟩:=List.getElem?_of_mem hc
    have o:=h8 i ch hi
    unfold listN at o
    rw [Bool.and_eq_true,decide_eq_true_eq,List.all_eq_true] at o
    refine⟨o.1,fun q hq h3'=>?_⟩
    have d:=o.2 q hq
    unfold parcelN at d
    rw [if_neg (by omega),if_neg (by omega),if_pos h3'] at d
    simp only [Bool.and_eq_true,decide_eq_true_eq] at d
    exact⟨d.1.1,zgx d.1.2⟩
  refine⟨h1,⟨?_,fun ch hc=>(h9 ch hc).1,fun q hq=>?_⟩⟩
  · rw [h2];exact Nat.mul_le_mul hk.2 hk.2
  · obtain⟨ch,hc,hq2⟩:=List.mem_flatten.1 hq
    exact⟨(z3 ch hc).2 q hq2,(h9 ch hc).2 q hq2⟩

section
variable {fuel:Nat}{c:D.Cluster}
theorem zj4 (hf:18446744073709551616≤fuel) (hC:Chans c):iter (z3f fuel c) fuel (0,[])=some (.inl (cellsOf c.Channels.flatten)):=by
  have hn:=hC.n
  have hfl:=z8d hC.l
  have hcl:=zaW (ps:=c.Channels.flatten)
  obtain⟨o,h,rfl⟩:=z1f (body:=z3f fuel c) (fun i s=>s=((i:Int),cellsOf (c.Channels.take i).flatten)) c.Channels.length (fun o=>o=.inl (cellsOf c.Channels.flatten)) (by
    rintro i s hi rfl
    obtain⟨ch,hc⟩:=z4O hi
    have hch:=hC.l ch (List.mem_of_getElem? hc)
    refine .inl ⟨_,?_,rfl⟩
    have hin:=z1f (body:=z4Z fuel c ((i:Int),cellsOf (c.Channels.take i).flatten)) (fun n s=>s=((n:Int),cellsOf ((c.Channels.take i).flatten++ch.take n))) ch.length (fun o=>o=.inl (cellsOf ((c.Channels.take i).flatten++ch))) (by
      rintro n s hn' rfl
      obtain⟨p,hp⟩:=z4O hn'
      refine .inl ⟨_,?_,rfl⟩
      have hb:(cellsOf ((c.Channels.take i).flatten++ch.take n)).length≤100000:=by
        have h1:=zaW (ps:=(c.Channels.take i).flatten++ch.take n)
        have h2:=z8d (xs:=c.Channels.take i) fun y hy=>hC.l y (List.mem_of_mem_take hy)
        rw [List.length_append,List.length_take] at h1
        rw [List.length_take] at h2
        omega
      have e:cellsOf ((c.Channels.take i).flatten++ch.take (n+1))=cellsOf ((c.Channels.take i).flatten++ch.take n)++(if p.Kind=3 then [p.Cell] else []):=by
        rw [zdZ hp,← List.append_assoc,z8n]
        congr 1
      rw [e]
      generalize cellsOf ((c.Channels.take i).flatten++ch.take n)=s at hb ⊢
      unfold z4Z z4e
      dsimp only
      rw [z9 hc,Option.bind_some,if_pos (by simpa using hn'),Option.bind_some,z9 hp,Option.bind_some]
      by_cases h3:p.Kind=3
      · rw [if_pos (by simp [h3]),Option.bind_some,z9 hp,Option.bind_some,if_pos (by simp only [List.length_cons,List.length_nil,decide_eq_true_eq];omega),if_pos h3,za (by omega) (by omega)]
        rfl
      · rw [if_neg (by simpa using h3),if_neg h3,List.append_nil,za (by omega) (by omega)]
        rfl) (by
      rintro s rfl
      refine .inr ⟨_,?_,rfl⟩
      unfold z4Z
      dsimp only
      rw [z9 hc,Option.bind_some,if_neg (by simp),List.take_length]) (fuel:=fuel) (i:=0) (s:=(0,cellsOf (c.Channels.take i).flatten)) (Nat.zero_le _) (by omega) (by simp)
    obtain⟨o,e1,rfl⟩:=hin
    unfold z3f
    dsimp only
    rw [if_pos (by simpa using hi),e1,Option.bind_some,z8,zbN hc]
    unfold z8t
    dsimp only
    rw [za (by omega) (by omega)]
    rfl) (by
    rintro s rfl
    refine .inr ⟨_,?_,rfl⟩
    unfold z3f
    rw [if_neg (by simp),List.take_length]) (fuel:=fuel) (i:=0) (s:=(0,[])) (Nat.zero_le _) (by omega) rfl
  exact h
theorem znw {g:D.Grid}(hS:Small g):(gridS g).length≤20000:=by
  have hn:=hS.n
  have hfl:=z96 (f:=shardS) (xs:=g.Shards) (b:=4000) (fun j s hc=>zgw hS hc) g.Shards.length (Nat.le_refl _)
  unfold gridS rootS
  rw [List.length_append]
  simp only [List.length_cons,List.length_nil]
  omega

theorem zhP {L:D.l27Links}{at_:List Int}{X Y:List D.Parcel}{p:D.Parcel}{M:D.l27Links}{ch:List D.Parcel}{i n:Nat}{z:Int × Int × D.l27Links}(hf:18446744073709551616≤fuel) (hs:c.Grid.sz≤1048576) (hS:Small c.Grid) (hI:Items c.Grid (cellsOf c.Channels.flatten) L at_) (hC:Chans c)
    (hX:c.Channels.flatten=X++p::Y) (hc:c.Channels[i]? = some ch) (hp:ch[n]? = some p) (hM:Run c.Grid (cellsOf c.Channels.flatten) L M (gridS c.Grid++parS 0 X)) (hz:z.2.1=(i:Int)):
    (parA c.Grid p=true→∃ M',z1g fuel c (L,at_) z (((cellsOf X).length:Int),(n:Int),M)=some (.next (((cellsOf (X++[p])).length:Int),w64 ((n:Int)+1),M'))∧Run c.Grid (cellsOf c.Channels.flatten) L M' (gridS c.Grid++parS 0 (X++[p])))∧
    (parA c.Grid p=false→∃ r,z1g fuel c (L,at_) z (((cellsOf X).length:Int),(n:Int),M)=some (.ret r)∧∃ M',r=.ret (M',false)):=by
  have hnl:=(List.getElem?_eq_some_iff.1 hp).1
  have hfl:=z8d hC.l
  have hn16:=hC.n
  have hXl:X.length+1≤3200:=by
    have:c.Channels.flatten.length=X.length+(Y.length+1):=by rw [hX,List.length_append,List.length_cons]
    omega
  have hcX:=zaW (ps:=X)
  have hpm:p∈c.Channels.flatten:=by rw [hX];simp
  obtain⟨q1,q2⟩:=hC.p p hpm
  have hgl:=znw hS
  have hpl:=zju (ps:=X) (j:=0) (fun q hq h3=>((hC.p q (by rw [hX];simp [hq])).2 h3).2)
  have hks:(gridS c.Grid++parS 0 X).length≤100000:=by rw [List.length_append];omega
  have hpar:parS 0 (X++[p])=parS 0 X++parK (cellsOf X).length p:=by rw [zc9,Nat.zero_add,zna]
  have ge:(⟨c.Grid.Shards,(⟨c.Grid.Root.Machine,c.Grid.Root.Kind,c.Grid.Root.Index⟩:D.Address)⟩:D.Grid)=c.Grid:=rfl
  have he:z1g fuel c (L,at_) z (((cellsOf X).length:Int),(n:Int),M)=z3e fuel c (L,at_) (((cellsOf X).length:Int),(n:Int),M) p (decide (p.Kind=1∨p.Kind=2)):=by
    unfold z1g
    dsimp only
    rw [hz,z9 hc,Option.bind_some,if_pos (by simpa using hnl),Option.bind_some,z9 hp,Option.bind_some]
    simp only [beqD]
    by_cases k1:p.Kind=1
    · simp [k1]
    · by_cases k2:p.Kind=2<;>simp [k1,k2]
  rw [he]
  unfold z3e
  dsimp only
  rw [ge]
  by_cases d:p.Kind=1∨p.Kind=2
  · have k3:p.Kind≠3:=by omega
    have hcx:cellsOf (X++[p])=cellsOf X:=by rw [z8n,z6X,if_neg k3];simp [cellsOf]
    have hpk:parK (cellsOf X).length p=[keyA p.A,keyA p.B]:=by unfold parK;rw [if_pos d]
    have hpa:parA c.Grid p=(aliveN c.Grid p.A && aliveN c.Grid p.B):=by unfold parA;rw [if_pos d]
    obtain⟨M',e1,e2⟩:=zfT (fuel:=fuel) (a:=p.A) (b:=p.B) hs hI hM (by omega)
    rw [if_pos (decide_eq_true d),e1,Option.bind_some,hpa,hcx,hpar,hpk]
    constructor
    · intro h
      dsimp only
      rw [h,Bool.not_true,if_neg (by simp)]
      exact⟨M',rfl,by rw [← List.append_assoc];exact e2 h⟩
    · intro h
      dsimp only
      rw [h,Bool.not_false,if_pos rfl]
      exact⟨_,rfl,_,rfl⟩
  · rw [if_neg (by simpa using d)]
    by_cases k3:p.Kind=3
    · obtain⟨c0,c3⟩:=q2 k3
      rw [if_pos (by simp [k3])]
      have hcx:(cellsOf (X++[p])).length=(cellsOf X).length+1:=by rw [z8n,z6X,if_pos k3];simp [cellsOf]
      have hat:(cellsOf c.Channels.flatten)[(cellsOf X).length]? = some p.Cell:=by rw [hX];exact zo5 k3
      have hpk:parK (cellsOf X).length p=cellS 3 0 (cellsOf X).length p.Cell++[(3,0,(cellsOf X).length,0),keyA p.B]:=by unfold parK;rw [if_neg d,if_pos k3]
      have hpa:parA c.Grid p=(p.Cell.Aux.all (aliveN c.Grid) && aliveN c.Grid p.B):=by unfold parA;rw [if_neg d,if_pos k3]
      have hidx:=z9 (hI.more _ _ hat)
      have hpk1:=zbP hS c.Grid.Shards.length (Nat.le_refl _)
      rw [List.take_length] at hpk1
      have hgn:=hS.n
      have hrk:=zbp (t:=3) (m:=0) (cs:=cellsOf c.Channels.flatten) (fun y hy=>by
        obtain⟨q,g1,g2,g3⟩:=zbG hy
        rw [← g3]
        exact((hC.p q g1).2 g2).2) (cellsOf X).length (by have:=(List.getElem?_eq_some_iff.1 hat).1;omega)
      obtain⟨M1,e1,e2⟩:=zmR (fuel:=fuel) (t:=3) (m:=0) (i:=(cellsOf X).length) (b:=(portK c.Grid.Shards).length+(rowK 3 0 ((cellsOf c.Channels.flatten).take (cellsOf X).length)).length) hf hs hI hM c3 (by omega) (by omega) (fun k hk=>by
        have:=zim (g:=c.Grid) (k:=k+1) hat c0 (by omega)
        rw [← Nat.add_assoc] at this
        exact this)
      rw [hidx,Option.bind_some,show(⟨p.Cell.Kind,p.Cell.Level,p.Cell.Value,p.Cell.Data,p.Cell.Aux⟩:D.ShardCell)=p.Cell from rfl,e1,Option.bind_some,hpa,hcx,hpar,hpk]
      dsimp only
      cases ha:p.Cell.Aux.all (aliveN c.Grid) with
      | false=>
        rw [Bool.not_false,if_pos rfl,Bool.false_and]
        unfold z3d
        rw [if_pos rfl]
        exact⟨fun h=>(by cases h),fun _=>⟨_,rfl,_,rfl⟩⟩
      | true=>
        rw [Bool.not_true,if_neg (by simp),zaX hs,Option.bind_some,Bool.true_and]
        unfold z3d
        dsimp only
        cases hb:aliveN c.Grid p.B with
        | false=>
          rw [Bool.not_false,if_pos rfl]
          exact⟨fun h=>(by cases h),fun _=>⟨_,rfl,_,rfl⟩⟩
        | true=>
          rw [Bool.not_true,if_neg (by simp),hidx,Option.bind_some]
          have o:=e2 ha
          obtain⟨y,y1,y2⟩:=zcA (fuel:=fuel) (L':=M1) hI o.cells o.vars hb
          have hx:=zim (g:=c.Grid) (k:=0) hat c0 (Nat.zero_le _)
          rw [Nat.add_zero] at hx
          have hcs:=zgd (t:=3) (m:=0) (i:=(cellsOf X).length) c3
          obtain⟨M2,f1,f2⟩:=zcn (fuel:=fuel) o hx y2 (by rw [List.length_append];omega)
          rw [y1,Option.bind_some,f1,Option.bind_some]
          unfold z72 z4X z4Y
          dsimp only
          refine⟨fun _=>⟨M2,?_,?_⟩,fun h=>by cases h⟩
          · rw [za (n:=((cellsOf X).length:Int)+1) (by omega) (by omega)]
            rfl
          · rw [← List.append_assoc,← List.append_assoc]
            exact f2
    · have hcx:cellsOf (X++[p])=cellsOf X:=by rw [z8n,z6X,if_neg k3];simp [cellsOf]
      have hpk:parK (cellsOf X).length p=[]:=by unfold parK;rw [if_neg d,if_neg k3]
      have hpa:parA c.Grid p=true:=by unfold parA;rw [if_neg d,if_neg k3]
      rw [if_neg (by simpa using k3),hcx,hpar,hpk,hpa,List.append_nil]
      exact⟨fun _=>⟨M,rfl,hM⟩,fun h=>by cases h⟩
end
end Go.E


namespace Go.E
open Go.RowKit Go.Proofs
set_option linter.unusedSimpArgs false
set_option linter.unusedVariables false

section
variable {fuel:Nat}{c:D.Cluster}
theorem zo4 {L:D.l27Links}{at_:List Int}{i:Nat}{ch:List D.Parcel}{M0:D.l27Links}{z:Int × Int × D.l27Links}(hf:18446744073709551616≤fuel) (hs:c.Grid.sz≤1048576) (hS:Small c.Grid) (hI:Items c.Grid (cellsOf c.Channels.flatten) L at_) (hC:Chans c)
    (hc:c.Channels[i]? = some ch) (hM:Run c.Grid (cellsOf c.Channels.flatten) L M0 (gridS c.Grid++parS 0 (c.Channels.take i).flatten)) (hz:z.2.1=(i:Int)):
    (ch.all (parA c.Grid)=true∧∃ t,iter (z1g fuel c (L,at_) z) fuel (((cellsOf (c.Channels.take i).flatten).length:Int),0,M0)=some (.inl t)∧∃ M,t=(((cellsOf (c.Channels.take (i+1)).flatten).length:Int),M)∧Run c.Grid (cellsOf c.Channels.flatten) L M (gridS c.Grid++parS 0 (c.Channels.take (i+1)).flatten))∨
    (ch.all (parA c.Grid)=false∧∃ r,iter (z1g fuel c (L,at_) z) fuel (((cellsOf (c.Channels.take i).flatten).length:Int),0,M0)=some (.inr r)∧∃ M,r=.ret (M,false)):=by
  have hch:=hC.l ch (List.mem_of_getElem? hc)
  have hfl:c.Channels.flatten=(c.Channels.take i).flatten++(ch++(c.Channels.drop (i+1)).flatten):=by
    have h1:=zbN hc
    have h2:c.Channels.flatten=(c.Channels.take (i+1)).flatten++(c.Channels.drop (i+1)).flatten:=by rw [← List.flatten_append,List.take_append_drop]
    rw [h2,h1,List.append_assoc]
  have h:=tryLoop (xs:=ch) (body:=z1g fuel c (L,at_) z) (fuel:=fuel)
    (fun n st=>∃ M:D.l27Links,st=(((cellsOf ((c.Channels.take i).flatten++ch.take n)).length:Int),(n:Int),M)∧Run c.Grid (cellsOf c.Channels.flatten) L M (gridS c.Grid++parS 0 ((c.Channels.take i).flatten++ch.take n)))
    (fun _ p=>parA c.Grid p)
    (fun t=>∃ M,t=(((cellsOf (c.Channels.take (i+1)).flatten).length:Int),M)∧Run c.Grid (cellsOf c.Channels.flatten) L M (gridS c.Grid++parS 0 (c.Channels.take (i+1)).flatten))
    (fun r=>∃ M,r=.ret (M,false)) (s0:=(((cellsOf (c.Channels.take i).flatten).length:Int),0,M0)) (by omega) hf (by
    rintro n p _ hp ⟨M,rfl,hM'⟩
    have hnl:=(List.getElem?_eq_some_iff.1 hp).1
    have hX:c.Channels.flatten=((c.Channels.take i).flatten++ch.take n)++p::(ch.drop (n+1)++(c.Channels.drop (i+1)).flatten):=by
      rw [hfl,List.append_assoc]
      congr 1
      have:ch=ch.take n++p::ch.drop (n+1):=by
        have h3:=List.take_append_drop (n+1) ch
        rw [zdZ hp,List.append_assoc] at h3
        exact h3.symm
      rw [← List.cons_append,← List.append_assoc,← this]
    obtain⟨g1,g2⟩:=zhP (z:=z) hf hs hS hI hC hX hc hp hM' hz
    refine⟨fun hp1=>?_,fun hp1=>?_⟩
    · obtain⟨M',e1,e2⟩:=g1 hp1
      have ht:(c.Channels.take i).flatten++ch.take (n+1)=((c.Channels.take i).flatten++ch.take n)++[p]:=by rw [zdZ hp,List.append_assoc]
      refine⟨_,e1,M',?_,?_⟩
      · rw [ht,za (by omega) (by omega)];rfl
      · rw [ht];exact e2
    · exact g2 hp1) (by
    rintro _ ⟨M,rfl,hM'⟩
    rw [List.take_length] at hM'
    refine⟨_,?_,M,rfl,by rw [zbN hc];exact hM'⟩
    unfold z1g
    dsimp only
    rw [hz,z9 hc,Option.bind_some,if_neg (by simp),List.take_length,zbN hc]) ⟨M0,by simp,by simpa using hM⟩
  rw [z70 (p:=parA c.Grid)] at h
  exact h
theorem zmL {L:D.l27Links}{at_:List Int}{M0:D.l27Links}(hf:18446744073709551616≤fuel) (hs:c.Grid.sz≤1048576) (hS:Small c.Grid) (hI:Items c.Grid (cellsOf c.Channels.flatten) L at_) (hC:Chans c)
    (hM:Run c.Grid (cellsOf c.Channels.flatten) L M0 (gridS c.Grid)):
    (c.Channels.flatten.all (parA c.Grid)=true∧∃ t,iter (z2g fuel c (L,at_)) fuel (0,0,M0)=some (.inl t)∧Run c.Grid (cellsOf c.Channels.flatten) L t (gridS c.Grid++parS 0 c.Channels.flatten))∨
    (c.Channels.flatten.all (parA c.Grid)=false∧∃ r,iter (z2g fuel c (L,at_)) fuel (0,0,M0)=some (.inr r)∧∃ M,r=(M,false)):=by
  have hn:=hC.n
  have hfl:=z8d hC.l
  have h:=tryLoop (xs:=c.Channels) (body:=z2g fuel c (L,at_)) (fuel:=fuel)
    (fun i st=>∃ M:D.l27Links,st=(((cellsOf (c.Channels.take i).flatten).length:Int),(i:Int),M)∧Run c.Grid (cellsOf c.Channels.flatten) L M (gridS c.Grid++parS 0 (c.Channels.take i).flatten))
    (fun _ ch=>ch.all (parA c.Grid))
    (fun t=>Run c.Grid (cellsOf c.Channels.flatten) L t (gridS c.Grid++parS 0 c.Channels.flatten))
    (fun r=>∃ M,r=(M,false)) (s0:=(0,0,M0)) (by omega) hf (by
    rintro i ch _ hc ⟨M,rfl,hM'⟩
    have hil:=(List.getElem?_eq_some_iff.1 hc).1
    unfold z2g
    dsimp only
    rw [if_pos (by simpa using hil)]
    rcases zo4 (z:=(((cellsOf (c.Channels.take i).flatten).length:Int),(i:Int),M)) hf hs hS hI hC hc hM' rfl with⟨c1,t,c2,M1,rfl,c3⟩ | ⟨c1,r,c2,M1,rfl⟩
    · rw [c1,c2,Option.bind_some,z8]
      unfold z8u
      dsimp only
      exact⟨fun _=>⟨_,rfl,M1,by rw [za (by omega) (by omega)];rfl,c3⟩,fun h=>by cases h⟩
    · rw [c1,c2,Option.bind_some]
      exact⟨fun h=>(by cases h),fun _=>⟨_,rfl,_,rfl⟩⟩) (by
    rintro _ ⟨M,rfl,hM'⟩
    rw [List.take_length] at hM'
    refine⟨_,?_,hM'⟩
    unfold z2g
    rw [if_neg (by simp)]) ⟨M0,by simp [cellsOf],by simpa [parS] using hM⟩
  rw [z70 (p:=fun ch:List D.Parcel=>ch.all (parA c.Grid)),← List.all_flatten] at h
  exact h
theorem zop (hf:18446744073709551616≤fuel) (hs:c.Grid.sz≤1048576) (hS:Small c.Grid) (hC:Chans c):
    ∃ L at_ L',Items c.Grid (cellsOf c.Channels.flatten) L at_∧z7b fuel c=some (L',gridA c.Grid && c.Channels.flatten.all (parA c.Grid))∧((gridA c.Grid && c.Channels.flatten.all (parA c.Grid))=true→Run c.Grid (cellsOf c.Channels.flatten) L L' (gridS c.Grid++parS 0 c.Channels.flatten)):=by
  have hn:=hC.n
  have hfl:=z8d hC.l
  have hcl:=zaW (ps:=c.Channels.flatten)
  have ge:(⟨c.Grid.Shards,(⟨c.Grid.Root.Machine,c.Grid.Root.Kind,c.Grid.Root.Index⟩:D.Address)⟩:D.Grid)=c.Grid:=rfl
  obtain⟨L,at_,b1,hI⟩:=zmP (fuel:=fuel) (g:=c.Grid) (more:=cellsOf c.Channels.flatten) hf hS ⟨by omega,fun y hy=>by
    obtain⟨q,g1,g2,g3⟩:=zbG hy
    rw [← g3]
    exact⟨(hC.p q g1).1,((hC.p q g1).2 g2).2⟩⟩
  obtain⟨M0,a1,a2⟩:=zou (fuel:=fuel) hf hs hS hI
  refine⟨L,at_,?_⟩
  unfold z7b
  rw [zj4 hf hC,Option.bind_some,z8]
  unfold z8v
  rw [ge,b1,Option.bind_some]
  dsimp only
  rw [a1,Option.bind_some]
  dsimp only
  cases hA:gridA c.Grid with
  | false=>exact⟨M0,hI,rfl,fun h=>by cases h⟩
  | true=>
    rw [Bool.not_true,if_neg (by simp),Bool.true_and]
    rcases zmL hf hs hS hI hC (a2 hA) with⟨c1,t,c2,c3⟩ | ⟨c1,r,c2,M1,rfl⟩
    · rw [c1,c2,Option.bind_some,z8]
      exact⟨t,hI,rfl,fun _=>c3⟩
    · rw [c1,c2,Option.bind_some]
      exact⟨M1,hI,rfl,fun h=>by cases h⟩

def clusN (c:D.Cluster):Bool:=clusPN c && implN c.Grid (gridT c.Grid++chansT c.Channels)
theorem zmH (hf:18446744073709551616≤fuel) (hs:c.sz≤1048576):z9g fuel c=some (clusN c):=by
  obtain⟨z1,_⟩:=zch hs
  unfold z9g clusN
  rw [zfR hf hs,Option.bind_some]
  cases hp:clusPN c with
  | false=>rfl
  | true=>
    obtain⟨hpn,hC⟩:=zij hs hp
    have hS:=zfM z1 hpn
    obtain⟨L,at_,L',hI,e1,e2⟩:=zop (fuel:=fuel) hf z1 hS hC
    have hn:=hC.n
    have hgn:=hS.n
    have hfl:=z8d hC.l
    have hcl:=zaW (ps:=c.Channels.flatten)
    rw [Bool.not_true,if_neg (by simp),e1,Option.bind_some,Bool.true_and,← zmJ]
    dsimp only
    cases hA:gridA c.Grid with
    | false=>rfl
    | true=>
      cases hB:c.Channels.flatten.all (parA c.Grid) with
      | false=>rfl
      | true=>
        have hpl:L.ports.length≤1048576:=by
          rw [hI.ports]
          have h:=zbP hS c.Grid.Shards.length (Nat.le_refl _)
          rw [List.take_length] at h
          have h2:=zbp (t:=3) (m:=0) (cs:=cellsOf c.Channels.flatten) (fun y hy=>by
            obtain⟨q,g1,g2,g3⟩:=zbG hy
            rw [← g3]
            exact((hC.p q g1).2 g2).2) (cellsOf c.Channels.flatten).length (Nat.le_refl _)
          rw [List.take_length] at h2
          rw [List.length_append]
          omega
        rw [Bool.true_and,if_pos rfl]
        have h9:=ziZ hf z1 hI (e2 (by rw [hA,hB];rfl)) hpl
        have d:z4Q fuel (⟨c.Grid.Shards,(⟨c.Grid.Root.Machine,c.Grid.Root.Kind,c.Grid.Root.Index⟩:D.Address)⟩:D.Grid) L'=_:=h9
        rw [d]
        rfl


theorem zci {k:Int}{xs:List Int}(hf:18446744073709551616≤fuel) (hl:xs.length≤1048576):z6z fuel k xs=some (xs.all fun x=>decide (0≤x∧x≤k)):=by
  have hm:maxLen=9223372036854775807:=rfl
  unfold z6z
  rw [zdg (p:=fun x=>!decide (0≤x∧x≤k)) hf (by omega) (fun x=>by
    unfold z83
    by_cases h:x<0
    · rw [if_pos (decide_eq_true h),decide_eq_false (by omega)];rfl
    · rw [if_neg (by simpa using h)]
      by_cases h2:x>k
      · rw [decide_eq_true h2,decide_eq_false (by omega)];rfl
      · rw [decide_eq_false h2,decide_eq_true (by omega)];rfl),Option.bind_some,zaD,Bool.not_not]
theorem zg9 {p:List Int→Bool}{f:List Int→Option Bool}{xs:List (List Int)}(hf:18446744073709551616≤fuel) (hl:xs.length≤maxLen) (h:∀ n,n∈xs→f n=some (p n)):
    zL fuel xs f=some (xs.any p):=by
  unfold zL z1j
  obtain⟨r,h1,h2⟩:=askIndex (xs:=xs) (p:=p) (body:=zH fuel xs f) (j:=z1x fuel) (t:=()) hl hf rfl (fun i x hi hx=>by
    simp only [zH,z9 hx,h x (List.mem_of_getElem? hx),lt_t (show(i:Int)<xs.length by omega),if_true,Option.bind_some]) (by simp [zH])
  rw [h1,Option.bind_some,h2]
theorem zeH {p:D.Parcel→Bool}{f:D.Parcel→Option Bool}{xs:List D.Parcel}(hf:18446744073709551616≤fuel) (hl:xs.length≤maxLen) (h:∀ n,n∈xs→f n=some (p n)):
    zc fuel xs f=some (xs.any p):=by
  unfold zc zQ
  obtain⟨r,h1,h2⟩:=askIndex (xs:=xs) (p:=p) (body:=zn fuel xs f) (j:=z1d fuel) (t:=()) hl hf rfl (fun i x hi hx=>by
    simp only [zn,z9 hx,h x (List.mem_of_getElem? hx),lt_t (show(i:Int)<xs.length by omega),if_true,Option.bind_some]) (by simp [zn])
  rw [h1,Option.bind_some,h2]
theorem zhT {xs:List Int}(hf:18446744073709551616≤fuel) (hl:xs.length≤1048576):z2F fuel xs=some (numN xs 7):=by
  unfold z2F numN
  rw [zci hf hl,Option.bind_some]
  by_cases h:xs.length=7
  · rw [if_pos (by simp [h]),decide_eq_true h,Bool.true_and]
  · rw [if_neg (by simp;omega),decide_eq_false h,Bool.false_and]
theorem zo2 {i k:Nat}:((i:Int).tdiv (k:Int))=((i / k:Nat):Int):=by rw [Int.tdiv_eq_ediv_of_nonneg (by omega)];exact(Int.natCast_ediv i k).symm
theorem zhv {k:Nat}{cs:List (List D.Parcel)}(hf:18446744073709551616≤fuel) (hk:1≤k∧k≤4) (hl:cs.length≤1048576) (hc:∀ ch,ch∈cs→ch.length≤1048576∧∀ p,p∈ch→p.Cell.sz≤1048576):z3T fuel cs (k:Int)=some (decide (cs.length=k*k) && chansN k cs):=by
  have hm:maxLen=9223372036854775807:=rfl
  have hkk:k*k≤16:=Nat.mul_le_mul hk.2 hk.2
  have hke:(k:Int)*(k:Int)=((k*k:Nat):Int):=by simp
  unfold z3T
  rw [hke,za (by omega) (by omega)]
  by_cases h1:cs.length=k*k
  · rw [if_neg (by simp [h1]),decide_eq_true h1,Bool.true_and]
    have hL:=allLoop (xs:=cs) (body:=z2q fuel cs (k:Int)) (p:=fun i ch=>diagN k i ch && listN k i ch) (t:=()) (v:=false) (fuel:=fuel) (by omega) hf (fun i ch hi hx=>by
      obtain⟨y1,y2⟩:=hc ch (List.mem_of_getElem? hx)
      have hP:=zeH (fuel:=fuel) (p:=fun p=>!parcelN ((i % k:Nat):Int) p) (f:=fun y0=>z1A fuel y0 ((i % k:Nat):Int)) (xs:=ch) hf (by omega) (fun p hp=>by
        unfold z1A
        rw [zhR hf (y2 p hp)]
        rfl)
      rw [zaD] at hP
      have j2:∀ b,zN fuel (i:Int) b=if b=true then some (.ret false) else some (.next (w64 ((i:Int)+1))):=fun b=>by unfold zN;rfl
      have hdk:((i / k:Nat):Int)≤(i:Int):=Int.ofNat_le.2 (Nat.div_le_self i k)
      have hd0:(0:Int)≤((i / k:Nat):Int):=Int.natCast_nonneg _
      unfold z2q
      rw [if_pos (by simpa using hi),z9 hx,Option.bind_some,if_pos (by simp;omega),if_pos (by simp;omega),zo2,tmodN (by omega),za (n:=((i / k:Nat):Int)) (by omega) (by omega),hP]
      simp only [Option.bind_some,j2]
      unfold diagN listN
      by_cases e:i / k=i % k
      · rw [if_pos (by simp [e])]
        cases ch with
        | nil=>simp [e]
        | cons y ys=>simp [e]
      · rw [if_neg (by simp;omega)]
        by_cases h2:ch.length≤200
        · rw [if_neg (by simp;omega)]
          cases hq:ch.all (parcelN ((i % k:Nat):Int))<;>simp [e,h2,hq]
        · rw [if_pos (by simp;omega)]
          simp [e,h2]) (by unfold z2q;rw [if_neg (by simp)])
    rw [hL,Option.bind_some]
    have hand:(cs.zipIdx.all fun y=>diagN k y.2 y.1 && listN k y.2 y.1)=chansN k cs:=by
      unfold chansN
      induction cs.zipIdx with
      | nil=>rfl
      | cons y ys ih=>
        simp only [List.all_cons,ih]
        cases diagN k y.2 y.1<;>cases listN k y.2 y.1<;>cases (ys.all fun x=>diagN k x.2 x.1)<;>rfl
    rw [hand]
    cases chansN k cs<;>simp [aft,z6v]
  · rw [if_pos (by simp;omega),decide_eq_false h1];rfl
theorem zmS {at_:D.Address}{aux:List D.Address}(hf:18446744073709551616≤fuel) (hl:aux.length≤3):z1q fuel at_ aux=some (fl (auxTA at_) aux aux.length):=by
  unfold z1q
  have h:=addLoop (xs:=aux) (body:=z13 fuel at_ aux) (mk:=fun k s=>(s,k)) (out:=fun s=>s) (auxTA at_) (s0:=[]) (by omega) hf (fun k a ha=>by
    have hkl:=(List.getElem?_eq_some_iff.1 ha).1
    have hfl:=z96 (f:=auxTA at_) (xs:=aux) (b:=1) (fun _ _ _=>by simp [auxTA]) k (by omega)
    rw [List.nil_append]
    generalize fl (auxTA at_) aux k=s at hfl ⊢
    unfold z13 z6w
    dsimp only
    have hw:w64 ((k:Int)+1)=(k:Int)+1:=za (by omega) (by omega)
    rw [if_pos (by simpa using hkl),z9 ha,Option.bind_some,hw,if_pos (decide_eq_true (by omega)),Option.bind_some,if_pos (by simp;omega)]
    unfold z2r
    dsimp only
    rw [hw]
    rfl) (by
    unfold z13
    rw [if_neg (by simp)])
  rw [h,Option.bind_some,z8]
  rfl
theorem zjt {ch i:Nat}{p:D.Parcel}(h:p.Kind=3→p.Cell.Aux.length≤3):(parT ch i p).length≤4:=by
  unfold parT
  split
  · simp
  · split
    · rename_i h3
      have:=z96 (f:=auxTA ⟨(ch:Int),3,(i:Int)⟩) (xs:=p.Cell.Aux) (b:=1) (fun _ _ _=>by simp [auxTA]) p.Cell.Aux.length (Nat.le_refl _)
      have:=h h3
      rw [List.length_append]
      simp only [List.length_cons,List.length_nil]
      omega
    · simp
theorem zhO (hf:18446744073709551616≤fuel) (hC:Chans c):zP fuel c=some (chansT c.Channels)∧(chansT c.Channels).length≤20000:=by
  have hn:=hC.n
  have hp3:∀ ch,ch∈c.Channels→∀ p,p∈ch→p.Kind=3→p.Cell.Aux.length≤3:=fun ch h1 p h2 h3=>((hC.p p (List.mem_flatten.2 ⟨ch,h1,h2⟩)).2 h3).2
  have hcl:∀ (i:Nat) ch,c.Channels[i]? = some ch→(chanT i ch).length≤800:=fun i ch hc=>by
    have hch:=hC.l ch (List.mem_of_getElem? hc)
    have:=z96 (f:=parT i) (xs:=ch) (b:=4) (fun j p hp=>zjt (hp3 ch (List.mem_of_getElem? hc) p (List.mem_of_getElem? hp))) ch.length (Nat.le_refl _)
    unfold chanT
    omega
  have hall:∀ i,i≤c.Channels.length→(fl chanT c.Channels i).length≤800*i:=fun i hi=>z96 (f:=chanT) (xs:=c.Channels) (b:=800) hcl i hi
  refine⟨?_,by have:=hall c.Channels.length (Nat.le_refl _);unfold chansT;omega⟩
  unfold zP
  have h:=addLoop (xs:=c.Channels) (body:=zX fuel c) (mk:=fun k s=>(s,k)) (out:=fun s=>s) chanT (s0:=[]) (fuel:=fuel) (by omega) hf (fun i ch hc=>by
    have hil:=(List.getElem?_eq_some_iff.1 hc).1
    have hch:=hC.l ch (List.mem_of_getElem? hc)
    have h0:=hall i (by omega)
    rw [List.nil_append]
    generalize fl chanT c.Channels i=s0 at h0 ⊢
    unfold zX
    dsimp only
    rw [if_pos (by simpa using hil),z9 hc,Option.bind_some]
    have h1:=addLoop (xs:=ch) (body:=zD fuel (s0,(i:Int)) ch) (mk:=fun k s=>(k,s)) (out:=fun s=>s) (parT i) (s0:=s0) (fuel:=fuel) (by omega) hf (fun n p hp=>by
      have hnl:=(List.getElem?_eq_some_iff.1 hp).1
      have h3':=hp3 ch (List.mem_of_getElem? hc) p (List.mem_of_getElem? hp)
      have hfl:=z96 (f:=parT i) (xs:=ch) (b:=4) (fun j p hp=>zjt (hp3 ch (List.mem_of_getElem? hc) p (List.mem_of_getElem? hp))) n (by omega)
      have hb:(s0++fl (parT i) ch n).length≤100000:=by rw [List.length_append];omega
      generalize s0++fl (parT i) ch n=s at hb ⊢
      have he:zD fuel (s0,(i:Int)) ch ((n:Int),s)=zC fuel (s0,(i:Int)) ((n:Int),s) p (decide (p.Kind=1∨p.Kind=2)):=by
        unfold zD
        dsimp only
        rw [if_pos (by simpa using hnl),z9 hp,Option.bind_some]
        simp only [beqD]
        by_cases k1:p.Kind=1
        · simp [k1]
        · by_cases k2:p.Kind=2<;>simp [k1,k2]
      rw [he]
      unfold zC parT
      dsimp only
      by_cases d:p.Kind=1∨p.Kind=2
      · rw [if_pos (decide_eq_true d),if_pos (by simp;omega),if_pos d]
        rfl
      · rw [if_neg (by simpa using d),if_neg d]
        by_cases k3:p.Kind=3
        · have haux:=zmS (fuel:=fuel) (at_:=⟨(i:Int),3,(n:Int)⟩) hf (h3' k3)
          have hal:=z96 (f:=auxTA ⟨(i:Int),3,(n:Int)⟩) (xs:=p.Cell.Aux) (b:=1) (fun _ _ _=>by simp [auxTA]) p.Cell.Aux.length (Nat.le_refl _)
          have o:=h3' k3
          rw [if_pos (by simp [k3]),if_pos k3]
          unfold z5O
          rw [Option.bind_some,haux,Option.bind_some,if_pos (by simp only [decide_eq_true_eq];omega)]
          unfold z6w
          rw [if_neg (by simp),Option.bind_some,if_pos (by simp only [List.length_append,List.length_cons,List.length_nil,decide_eq_true_eq];omega),← List.append_assoc]
          rfl
        · rw [if_neg (by simpa using k3),if_neg k3,List.append_nil]
          rfl) (by
      unfold zD
      rw [if_neg (by simp)])
    try dsimp only at h1
    rw [h1,Option.bind_some,z8]
    rfl) (by
    unfold zX
    rw [if_neg (by simp)])
  rw [h,Option.bind_some,z8]
  rfl
theorem zmK (hf:18446744073709551616≤fuel) (hs:c.sz≤1048576):z4z fuel c=some (clusN c):=by
  have hm:maxLen=9223372036854775807:=rfl
  obtain⟨z1,z2,z3,z4,z5,z6,z7⟩:=zch hs
  have ge:(⟨c.Grid.Shards,(⟨c.Grid.Root.Machine,c.Grid.Root.Kind,c.Grid.Root.Index⟩:D.Address)⟩:D.Grid)=c.Grid:=rfl
  have no1:∀ r,z1a fuel c r true=some false:=fun r=>by unfold z1a;rfl
  have no2:zo fuel c true=some false:=by unfold zo;rfl
  have j2:zo fuel c false=if(c.Counts.all fun x=>numN x 7)=true then((zP fuel c).bind fun y=>(z28 fuel c.Grid y).bind fun G=>some G) else some false:=by
    unfold zo
    rw [if_neg (by simp),zg9 (p:=fun x=>!numN x 7) hf (by omega) (fun x hx=>by unfold z4G;rw [zhT hf (z5 x hx)];rfl),zaD,Option.bind_some]
    cases (c.Counts.all fun x=>numN x 7)<;>rfl
  unfold z4z z1C
  rw [Option.bind_some]
  by_cases hk:1≤c.Grid.Shards.length∧c.Grid.Shards.length≤4
  · rw [if_neg (by simp;omega),if_neg (by simp;omega),zhv hf hk z2 z3,Option.bind_some]
    by_cases h1:c.Channels.length=c.Grid.Shards.length*c.Grid.Shards.length
    · rw [decide_eq_true h1,Bool.true_and]
      cases h2:chansN c.Grid.Shards.length c.Channels with
      | false=>
        rw [Bool.not_false,no1]
        have:clusPN c=false:=by unfold clusPN;rw [h2];simp
        unfold clusN
        rw [this];rfl
      | true=>
        rw [Bool.not_true]
        unfold z1a
        rw [if_neg (by simp)]
        have key:∀ b,(b=false→clusPN c=false)→b=false→zo fuel c true=some (clusN c):=fun b h hb=>by
          rw [no2]
          unfold clusN
          rw [h hb];rfl
        by_cases h3:c.Counts.length=c.Grid.Shards.length
        · rw [if_neg (by simp [h3])]
          by_cases h4:c.Sent.length=c.Grid.Shards.length
          · rw [if_neg (by simp [h4])]
            by_cases h5:c.Got.length=c.Grid.Shards.length
            · rw [if_neg (by simp [h5]),zci hf z6,zci hf z7,Option.bind_some,Option.bind_some]
              have e4:numN c.Sent c.Grid.Shards.length=(c.Sent.all fun x=>decide (0≤x∧x≤1000000000)):=by unfold numN;rw [decide_eq_true h4,Bool.true_and]
              have e5:numN c.Got c.Grid.Shards.length=(c.Got.all fun x=>decide (0≤x∧x≤1000000000)):=by unfold numN;rw [decide_eq_true h5,Bool.true_and]
              rw [← e4,← e5]
              cases h6:numN c.Sent c.Grid.Shards.length with
              | false=>
                rw [Bool.not_false,if_pos rfl]
                exact key false (fun _=>by unfold clusPN;rw [h6];simp) rfl
              | true=>
                rw [Bool.not_true,if_neg (by simp)]
                cases h7:numN c.Got c.Grid.Shards.length with
                | false=>
                  rw [Bool.not_false]
                  exact key false (fun _=>by unfold clusPN;rw [h7];simp) rfl
                | true=>
                  rw [Bool.not_true,j2]
                  cases h8:(c.Counts.all fun x=>numN x 7) with
                  | false=>
                    have:clusPN c=false:=by unfold clusPN;rw [h8];simp
                    unfold clusN
                    rw [if_neg (by simp),this];rfl
                  | true=>
                    have hcp:clusPN c=piecesN c.Grid:=by
                      unfold clusPN
                      rw [h2,h6,h7,h8,decide_eq_true ⟨h1,h3⟩]
                      simp
                    rw [if_pos rfl]

                    have hC:Chans c:=by
                      refine⟨by rw [h1];exact Nat.mul_le_mul hk.2 hk.2,fun ch hc=>?_,fun q hq=>?_⟩
                      · unfold chansN at h2
                        rw [Bool.and_eq_true] at h2
                        obtain⟨i,hi⟩:=List.getElem?_of_mem hc
                        have d:=(z84 (p:=fun i ch=>listN c.Grid.Shards.length i ch)).1 h2.2 i ch hi
                        unfold listN at d
                        rw [Bool.and_eq_true,decide_eq_true_eq] at d
                        exact d.1
                      · obtain⟨ch,hc,hq2⟩:=List.mem_flatten.1 hq
                        refine⟨(z3 ch hc).2 q hq2,fun h3'=>?_⟩
                        unfold chansN at h2
                        rw [Bool.and_eq_true] at h2
                        obtain⟨i,hi⟩:=List.getElem?_of_mem hc
                        have d:=(z84 (p:=fun i ch=>listN c.Grid.Shards.length i ch)).1 h2.2 i ch hi
                        unfold listN at d
                        rw [Bool.and_eq_true,decide_eq_true_eq,List.all_eq_true] at d
                        have o:=d.2 q hq2
                        unfold parcelN at o
                        rw [if_neg (by omega),if_neg (by omega),if_pos h3'] at o
                        simp only [Bool.and_eq_true,decide_eq_true_eq] at o
                        exact⟨o.1.1,zgx o.1.2⟩
                    obtain⟨e9,H⟩:=zhO (fuel:=fuel) hf hC
                    rw [e9,Option.bind_some,zhM hf z1]
                    unfold z1e clusN
                    rw [hcp]
                    cases hp:piecesN c.Grid with
                    | false=>rfl
                    | true=>
                      have hS:=zfM z1 hp
                      have hgn:=hS.n
                      have hfl:=z96 (f:=shardT) (xs:=c.Grid.Shards) (b:=2000) (fun j s hc=>zgv hS hc) c.Grid.Shards.length (Nat.le_refl _)
                      have hl:(gridT c.Grid).length≤100000:=by unfold gridT rootT;rw [List.length_append];simp only [List.length_cons,List.length_nil];omega
                      rw [Bool.not_true,if_neg (by simp),zeZ hf hS,Option.bind_some,if_pos (by simp only [decide_eq_true_eq];omega),zjr hf z1 (by rw [List.length_append];omega),Option.bind_some,Option.bind_some,Bool.true_and]
            · rw [if_pos (by simp;omega)]
              exact key false (fun _=>by unfold clusPN numN;rw [decide_eq_false h5];simp) rfl
          · rw [if_pos (by simp;omega)]
            exact key false (fun _=>by unfold clusPN numN;rw [decide_eq_false h4];simp) rfl
        · rw [if_pos (by simp;omega)]
          exact key false (fun _=>by unfold clusPN;rw [decide_eq_false (fun h=>h3 h.2)];simp) rfl
    · rw [decide_eq_false h1,Bool.false_and,Bool.not_false,no1]
      have:clusPN c=false:=by unfold clusPN;rw [decide_eq_false (fun h=>h1 h.1)];simp
      unfold clusN
      rw [this];rfl
  · have:clusPN c=false:=by unfold clusPN piecesN;rw [decide_eq_false hk];rfl
    unfold clusN
    rw [this]
    by_cases h:c.Grid.Shards.length<1
    · rw [if_pos (by simp;omega),no1];rfl
    · rw [if_neg (by simp;omega),if_pos (by simp;omega),no1];rfl
end
end Go.E


namespace Go.E
open Go.RowKit Go.Proofs
set_option linter.unusedSimpArgs false
set_option linter.unusedVariables false

section
variable {fuel:Nat}{c:D.Cluster}
end

theorem zeJ {c:D.Cluster}(hs:c.sz≤1048576) (h:clusN c=true):Small c.Grid∧Chans c∧c.Grid.Shards.length≠0∧c.Channels.length=c.Grid.Shards.length*c.Grid.Shards.length:=by
  unfold clusN at h
  rw [Bool.and_eq_true] at h
  obtain⟨z1,_⟩:=zch hs
  obtain⟨hp,hC⟩:=zij hs h.1
  have h1:=h.1
  unfold clusPN at h1
  simp only [Bool.and_eq_true,decide_eq_true_eq] at h1
  have h2:=hp
  unfold piecesN at h2
  rw [Bool.and_eq_true,decide_eq_true_eq] at h2
  exact⟨zfM z1 hp,hC,by omega,h1.2.1.1⟩
end Go.E


namespace Go.E
open Go.RowKit Go.Proofs
set_option linter.unusedSimpArgs false
set_option linter.unusedVariables false

def oneN (b:Bool):Nat:=if b=true then 1 else 0
def markN (ch:List D.Parcel):Nat:=sumL (fun p:D.Parcel=>oneN (p.Kind == 4)) ch
def goN (c:D.Cluster):Nat:=sumL (fun ch:List D.Parcel=>ch.length - markN ch) c.Channels

section
variable {fuel:Nat}{c:D.Cluster}
theorem zjz {b:Bool}:oneN b≤1:=by unfold oneN;split<;>omega
theorem zgu {α:Type}{f:α→Nat}{b:Nat}:∀ {xs:List α},(∀ x,x∈xs→f x≤b)→sumL f xs≤b*xs.length
  | [],_=>by simp [sumL]
  | x::xs,h=>by
    have h1:=h x (by simp)
    have h2:=zgu (b:=b) (xs:=xs) fun y hy=>h y (by simp [hy])
    simp only [sumL,List.length_cons,Nat.mul_add]
    omega
theorem zfX {ch:List D.Parcel}:markN ch≤ch.length:=by
  have:=zgu (f:=fun p:D.Parcel=>oneN (p.Kind == 4)) (b:=1) (xs:=ch) fun _ _=>zjz
  unfold markN
  omega
theorem zmO {b:Bool}:z7O fuel b=some ((oneN b:Nat):Int):=by unfold z7O;cases b<;>rfl
theorem ziH {b:Bool}:z9p fuel b=some ((oneN b:Nat):Int):=by unfold z9p;cases b<;>rfl
theorem zfw {ch:List D.Parcel}(hf:18446744073709551616≤fuel) (hl:ch.length≤1048576):z42 fuel ch=some ((markN ch:Nat):Int):=by
  unfold z42
  have h:=sumLoop (xs:=ch) (body:=z3z fuel ch) (mk:=fun i s=>(s,i)) (out:=fun s=>s) (f:=fun p:D.Parcel=>oneN (p.Kind == 4)) (c0:=0) (fuel:=fuel) (by omega) hf (fun i p hp=>by
    have hil:=(List.getElem?_eq_some_iff.1 hp).1
    have hb:=zfX (ch:=ch.take i)
    have d:=zjz (b:=p.Kind == 4)
    unfold markN at hb
    rw [List.length_take] at hb
    unfold z3z
    dsimp only
    rw [if_pos (by simpa using hil),z9 hp,Option.bind_some,zmO,Option.bind_some,za (n:=_+((oneN _:Nat):Int)) (by omega) (by omega)]) (fun s=>by
    unfold z3z
    rw [if_neg (by simp)])
  try dsimp only at h
  rw [h,Option.bind_some,z8,Int.zero_add]
  rfl
theorem zfx {ch:List D.Parcel}(hf:18446744073709551616≤fuel) (hl:ch.length≤1048576):z6U fuel ch=some ((markN ch:Nat):Int):=by
  unfold z6U
  have h:=sumLoop (xs:=ch) (body:=z6g fuel ch) (mk:=fun i s=>(s,i)) (out:=fun s=>s) (f:=fun p:D.Parcel=>oneN (p.Kind == 4)) (c0:=0) (fuel:=fuel) (by omega) hf (fun i p hp=>by
    have hil:=(List.getElem?_eq_some_iff.1 hp).1
    have hb:=zfX (ch:=ch.take i)
    have d:=zjz (b:=p.Kind == 4)
    unfold markN at hb
    rw [List.length_take] at hb
    unfold z6g
    dsimp only
    rw [if_pos (by simpa using hil),z9 hp,Option.bind_some,ziH,Option.bind_some,za (n:=_+((oneN _:Nat):Int)) (by omega) (by omega)]) (fun s=>by
    unfold z6g
    rw [if_neg (by simp)])
  try dsimp only at h
  rw [h,Option.bind_some,z8,Int.zero_add]
  rfl
theorem zoB (hC:Chans c) (i:Nat):sumL (fun ch:List D.Parcel=>ch.length - markN ch) (c.Channels.take i)≤200*16:=by
  have:=zgu (f:=fun ch:List D.Parcel=>ch.length - markN ch) (b:=200) (xs:=c.Channels.take i) fun ch hc=>by
    have:=hC.l ch (List.mem_of_mem_take hc)
    omega
  rw [List.length_take] at this
  have h2:=hC.n
  omega
theorem zor (hf:18446744073709551616≤fuel) (hC:Chans c):z5S fuel c=some ((goN c:Nat):Int):=by
  have hcn:=hC.n
  unfold z5S
  have h:=sumLoop (xs:=c.Channels) (body:=z3y fuel c) (mk:=fun i s=>(s,i)) (out:=fun s=>s) (f:=fun ch:List D.Parcel=>ch.length - markN ch) (c0:=0) (fuel:=fuel) (by omega) hf (fun i ch hp=>by
    have hil:=(List.getElem?_eq_some_iff.1 hp).1
    have hb:=zoB hC i
    have hm:=zfX (ch:=ch)
    have hch:=hC.l ch (List.mem_of_getElem? hp)
    have e:(ch.length:Int) - ((markN ch:Nat):Int)=((ch.length - markN ch:Nat):Int):=by omega
    unfold z3y
    dsimp only
    rw [if_pos (by simpa using hil),z9 hp,Option.bind_some,Option.bind_some,zfw hf (by omega),Option.bind_some,e,za (n:=((ch.length - markN ch:Nat):Int)) (by omega) (by omega),za (n:=_+((ch.length - markN ch:Nat):Int)) (by omega) (by omega)]) (fun s=>by
    unfold z3y
    rw [if_neg (by simp)])
  try dsimp only at h
  rw [h,Option.bind_some,z8,Int.zero_add]
  rfl
theorem zos (hf:18446744073709551616≤fuel) (hC:Chans c):z29 fuel c=some ((goN c:Nat):Int):=by
  have hcn:=hC.n
  unfold z29
  have h:=sumLoop (xs:=c.Channels) (body:=z1w fuel c) (mk:=fun i s=>(s,i)) (out:=fun s=>s) (f:=fun ch:List D.Parcel=>ch.length - markN ch) (c0:=0) (fuel:=fuel) (by omega) hf (fun i ch hp=>by
    have hil:=(List.getElem?_eq_some_iff.1 hp).1
    have hb:=zoB hC i
    have hm:=zfX (ch:=ch)
    have hch:=hC.l ch (List.mem_of_getElem? hp)
    have e:(ch.length:Int) - ((markN ch:Nat):Int)=((ch.length - markN ch:Nat):Int):=by omega
    unfold z1w
    dsimp only
    rw [if_pos (by simpa using hil),z9 hp,Option.bind_some,zfx hf (by omega),Option.bind_some,e,za (n:=((ch.length - markN ch:Nat):Int)) (by omega) (by omega),za (n:=_+((ch.length - markN ch:Nat):Int)) (by omega) (by omega)]) (fun s=>by
    unfold z1w
    rw [if_neg (by simp)])
  try dsimp only at h
  rw [h,Option.bind_some,z8,Int.zero_add]
  rfl
end
end Go.E


namespace Go.E
open Go.RowKit Go.Proofs
set_option linter.unusedSimpArgs false
set_option linter.unusedVariables false

def sumN (xs:List Int):Nat:=sumL Int.toNat xs
def honN (c:D.Cluster):Bool:=(c.Channels.all fun ch=>decide (markN ch=0)) && decide (((sumN c.Sent:Nat):Int) - ((sumN c.Got:Nat):Int)=((goN c:Nat):Int))
section
variable {fuel:Nat}{c:D.Cluster}
structure Nums (c:D.Cluster):Prop where
  sl:c.Sent.length=c.Grid.Shards.length
  gl:c.Got.length=c.Grid.Shards.length
  n:c.Grid.Shards.length≤4
  s:∀ x,x∈c.Sent→0≤x∧x≤1000000000
  g:∀ x,x∈c.Got→0≤x∧x≤1000000000
theorem zjB (hs:c.sz≤1048576) (h:clusN c=true):Nums c:=by
  obtain⟨hS,_⟩:=zeJ hs h
  unfold clusN clusPN at h
  simp only [Bool.and_eq_true,decide_eq_true_eq] at h
  have h1:=h.1.2.2.1
  have h2:=h.1.2.2.2.1
  unfold numN at h1 h2
  simp only [Bool.and_eq_true,decide_eq_true_eq,List.all_eq_true] at h1 h2
  exact⟨h1.1,h2.1,hS.n,h1.2,h2.2⟩
theorem ze2 {xs:List Int}(h:∀ x,x∈xs→0≤x∧x≤1000000000) (i:Nat):sumL Int.toNat (xs.take i)≤1000000000*xs.length:=by
  have h1:=zgu (f:=Int.toNat) (b:=1000000000) (xs:=xs.take i) fun x hx=>by
    have:=h x (List.mem_of_mem_take hx)
    omega
  rw [List.length_take] at h1
  have:min i xs.length≤xs.length:=Nat.min_le_right _ _
  have:=Nat.mul_le_mul_left 1000000000 this
  omega
theorem zi1 {xs:List Int}(hf:18446744073709551616≤fuel) (hl:xs.length≤4) (h:∀ x,x∈xs→0≤x∧x≤1000000000):z9U fuel xs=some ((sumN xs:Nat):Int):=by
  unfold z9U
  have h1:=sumLoop (xs:=xs) (body:=z8L fuel xs) (mk:=fun i s=>(s,i)) (out:=fun s=>s) (f:=Int.toNat) (c0:=0) (fuel:=fuel) (by omega) hf (fun i x hx=>by
    have hil:=(List.getElem?_eq_some_iff.1 hx).1
    have hb:=ze2 h i
    have d:=h x (List.mem_of_getElem? hx)
    have e:(x.toNat:Int)=x:=Int.toNat_of_nonneg d.1
    unfold z8L
    dsimp only
    rw [if_pos (by simpa using hil),z9 hx,Option.bind_some,e,za (n:=_+x) (by omega) (by omega)]) (fun s=>by
    unfold z8L
    rw [if_neg (by simp)])
  try dsimp only at h1
  rw [h1,Option.bind_some,z8,Int.zero_add]
  rfl
theorem zmE (hf:18446744073709551616≤fuel) (hN:Nums c):iter (z2J fuel c) fuel (0,0)=some (.inl (((sumN c.Sent:Nat):Int) - ((sumN c.Got:Nat):Int))):=by
  have h1:=hN.sl
  have h2:=hN.gl
  have h3:=hN.n
  obtain⟨o,e1,e2⟩:=z1f (body:=z2J fuel c) (fun i st=>st=(((sumL Int.toNat (c.Sent.take i):Nat):Int) - ((sumL Int.toNat (c.Got.take i):Nat):Int),(i:Int))) c.Sent.length (fun o=>o=.inl (((sumN c.Sent:Nat):Int) - ((sumN c.Got:Nat):Int))) (by
    rintro i st hi rfl
    obtain⟨x,hx⟩:=z4O hi
    obtain⟨y,hy⟩:=z4O (xs:=c.Got) (i:=i) (by omega)
    have b1:=ze2 hN.s i
    have b2:=ze2 hN.g i
    have b3:=hN.s x (List.mem_of_getElem? hx)
    have b4:=hN.g y (List.mem_of_getElem? hy)
    have t1:=zaG (f:=Int.toNat) hx
    have t2:=zaG (f:=Int.toNat) hy
    refine .inl ⟨_,?_,rfl⟩
    unfold z2J z98
    dsimp only
    rw [if_pos (by simpa using hi),z9 hx,Option.bind_some,z9 hy,Option.bind_some,Option.bind_some,za (n:=x - y) (by omega) (by omega),za (n:=_+(x - y)) (by omega) (by omega),za (n:=(i:Int)+1) (by omega) (by omega),t1,t2]
    refine congrArg some (congrArg Rd.next (Prod.ext ?_ rfl))
    dsimp only
    omega) (by
    rintro st rfl
    refine .inr ⟨_,by unfold z2J;rw [if_neg (by simp)],?_⟩
    rw [List.take_length]
    unfold sumN
    rw [show c.Got.take c.Sent.length=c.Got from List.take_of_length_le (by omega)]) (fuel:=fuel) (i:=0) (s:=(0,0)) (by omega) (by omega) (by simp [sumL])
  rw [e1,e2]
theorem znu (hf:18446744073709551616≤fuel) (hC:Chans c) (hN:Nums c):z6B fuel c=some (honN c):=by
  have hcn:=hC.n
  unfold z6B
  rw [zmE hf hN,Option.bind_some,z8]
  unfold z87 honN
  have h:=allLoop (xs:=c.Channels) (body:=z49 fuel c) (p:=fun _ ch=>decide (markN ch=0)) (t:=()) (v:=false) (fuel:=fuel) (by unfold maxLen;omega) hf (fun i ch hi hx=>by
    have hch:=hC.l ch (List.mem_of_getElem? hx)
    unfold z49
    rw [if_pos (by simpa using hi),z9 hx,Option.bind_some,zfw hf (by omega),Option.bind_some]
    by_cases hm:markN ch=0
    · rw [if_neg (by simp [hm]),if_pos (by simp [hm])]
    · rw [if_pos (by simp;omega),if_neg (by simp [hm])]) (by
    unfold z49
    rw [if_neg (by simp)])
  rw [z70 (p:=fun ch:List D.Parcel=>decide (markN ch=0))] at h
  rw [h,Option.bind_some]
  cases c.Channels.all fun ch=>decide (markN ch=0) with
  | false=>rfl
  | true=>
    rw [if_pos rfl,z8]
    unfold z86
    rw [zor hf hC,Option.bind_some,beqD,Bool.true_and]
theorem zga {p:List D.Parcel→Bool}{f:List D.Parcel→Option Bool}{xs:List (List D.Parcel)}(hf:18446744073709551616≤fuel) (hl:xs.length≤maxLen) (h:∀ n,n∈xs→f n=some (p n)):
    zg fuel xs f=some (xs.any p):=by
  unfold zg zy
  obtain⟨r,h1,h2⟩:=askIndex (xs:=xs) (p:=p) (body:=zf fuel xs f) (j:=zU fuel) (t:=()) hl hf rfl (fun i x hi hx=>by
    simp only [zf,z9 hx,h x (List.mem_of_getElem? hx),lt_t (show(i:Int)<xs.length by omega),if_true,Option.bind_some]) (by simp [zf])
  rw [h1,Option.bind_some,h2]
theorem znv (hf:18446744073709551616≤fuel) (hC:Chans c) (hN:Nums c):z2s fuel c=some (honN c):=by
  have hcn:=hC.n
  have h1:=hN.sl
  have h2:=hN.gl
  have h3:=hN.n
  have b1:=ze2 hN.s c.Sent.length
  have b2:=ze2 hN.g c.Got.length
  rw [List.take_length] at b1 b2
  unfold z2s z2W honN
  rw [zga (p:=fun ch=>!decide (markN ch=0)) hf (by unfold maxLen;omega) (fun ch hch=>by
    have hl:=hC.l ch hch
    unfold z2a
    rw [zfx hf (by omega),Option.bind_some]
    by_cases hm:markN ch=0
    · simp [hm]
    · rw [decide_eq_true (by omega),decide_eq_false hm];rfl),zaD,Option.bind_some,Option.bind_some]
  cases c.Channels.all fun ch=>decide (markN ch=0) with
  | false=>rfl
  | true=>
    rw [if_pos (by rfl),zi1 hf (by omega) hN.s,zi1 hf (by omega) hN.g,zos hf hC,Option.bind_some,Option.bind_some,Option.bind_some,za (n:=((sumN c.Sent:Nat):Int) - ((sumN c.Got:Nat):Int)) (by unfold sumN;omega) (by unfold sumN;omega),beqD,Bool.true_and]
end
end Go.E


namespace Go.E
open Go.RowKit Go.Proofs
set_option linter.unusedSimpArgs false
set_option linter.unusedVariables false

section
variable {fuel:Nat}
theorem zdC {xs:List Int}(hl:xs.length≤1048576):z2S fuel xs=some xs:=by unfold z2S;rw [if_pos (decide_eq_true (by simp only [List.length_nil];omega))];rfl
theorem zaV {xs:List Int}(hl:xs.length≤1048576):zj fuel xs=some xs:=by unfold zj;rw [if_pos (decide_eq_true (by simp only [List.length_nil];omega))];rfl
theorem zeK {xs:List D.Address}(hl:xs.length≤1048576):zk fuel xs=some xs:=by unfold zk;rw [if_pos (decide_eq_true (by simp only [List.length_nil];omega))];rfl
theorem zj3 {xs:List D.ShardVar}(hl:xs.length≤1048576):zu fuel xs=some xs:=by unfold zu;rw [if_pos (decide_eq_true (by simp only [List.length_nil];omega))];rfl
theorem zgb {xs:List D.ShardRedex}(hl:xs.length≤1048576):zm fuel xs=some xs:=by unfold zm;rw [if_pos (decide_eq_true (by simp only [List.length_nil];omega))];rfl
theorem zgc {xs:List D.Parcel}(hl:xs.length≤1048576):zK fuel xs=some xs:=by unfold zK;rw [if_pos (decide_eq_true (by simp only [List.length_nil];omega))];rfl
theorem zhW {c:D.ShardCell}(h:c.sz≤1048576):c.Data.length≤1048576∧c.Aux.length≤1048576:=by
  unfold D.ShardCell.sz at h
  omega
theorem zi5 {c:D.ShardCell}(h:c.sz≤1048576):z43 fuel c=some c:=by
  obtain⟨h1,h2⟩:=zhW h
  unfold z43
  rw [zdC h1,Option.bind_some,if_pos (decide_eq_true (by simp only [List.length_nil];omega))]
  rfl
theorem zcc {α:Type}{xs:List α}:xs.map (fun x=>x)=xs:=by simp
theorem zjv {s:D.Shard}(hf:18446744073709551616≤fuel) (h:s.sz≤1048576):z52 fuel s=some s:=by
  obtain⟨h1,h2,h3,h4⟩:=zao h
  unfold z52
  rw [if_pos (decide_eq_true (by simp only [List.length_nil];omega)),if_pos (decide_eq_true (by simp only [List.length_nil];omega))]
  unfold z51
  have hL:=mapLoop (xs:=s.Cells) (body:=z30 fuel s) (g:=fun x=>x) h1 hf (fun i x t hx ht=>by
    have hi:=(List.getElem?_eq_some_iff.1 hx).1
    unfold z30
    dsimp only
    rw [if_pos (decide_eq_true (by omega)),z9 hx,Option.bind_some,zi5 (h4 x (List.mem_of_getElem? hx)),Option.bind_some,if_pos (decide_eq_true (by simp only [List.length_cons,List.length_nil];omega))]) (fun t=>by
    unfold z30
    rw [if_neg (by simp)])
  rw [zcc] at hL
  dsimp only
  rw [hL,Option.bind_some,z8]
  rfl
theorem znc {g:D.Grid}(hf:18446744073709551616≤fuel) (h:g.sz≤1048576):z5U fuel g=some g:=by
  obtain⟨h1,h2⟩:=zbD h
  unfold z5U
  have hL:=mapLoop (xs:=g.Shards) (body:=z3B fuel g) (g:=fun x=>x) h1 hf (fun i x t hx ht=>by
    have hi:=(List.getElem?_eq_some_iff.1 hx).1
    unfold z3B
    dsimp only
    rw [if_pos (decide_eq_true (by omega)),z9 hx,Option.bind_some,zjv hf (h2 x (List.mem_of_getElem? hx)),Option.bind_some,if_pos (decide_eq_true (by simp only [List.length_cons,List.length_nil];omega))]) (fun t=>by
    unfold z3B
    rw [if_neg (by simp)])
  rw [zcc] at hL
  rw [hL,Option.bind_some,z8]
  rfl
theorem zjx {cs:List (List D.Parcel)}(hf:18446744073709551616≤fuel) (hl:cs.length≤1048576) (hc:∀ ch,ch∈cs→ch.length≤1048576∧∀ p,p∈ch→p.Cell.sz≤1048576):z2Z fuel cs=some cs:=by
  unfold z2Z
  have hL:=mapLoop (xs:=cs) (body:=z24 fuel cs) (g:=fun x=>x) hl hf (fun i ch t hx ht=>by
    have hi:=(List.getElem?_eq_some_iff.1 hx).1
    obtain⟨c1,c2⟩:=hc ch (List.mem_of_getElem? hx)
    unfold z24
    dsimp only
    rw [if_pos (decide_eq_true (by omega))]
    have hM:=mapLoop (xs:=ch) (body:=z23 fuel cs ((i:Int),t)) (g:=fun x=>x) c1 hf (fun k p u hp hu=>by
      have hk:=(List.getElem?_eq_some_iff.1 hp).1
      unfold z23
      dsimp only
      rw [z9 hx,Option.bind_some,if_pos (decide_eq_true (by omega)),Option.bind_some,z9 hp,Option.bind_some,show(⟨p.Cell.Kind,p.Cell.Level,p.Cell.Value,p.Cell.Data,p.Cell.Aux⟩:D.ShardCell)=p.Cell from rfl,zi5 (c2 p (List.mem_of_getElem? hp)),Option.bind_some,if_pos (decide_eq_true (by simp only [List.length_cons,List.length_nil];omega))]) (fun u=>by
      unfold z23
      dsimp only
      rw [z9 hx,Option.bind_some,if_neg (by simp)])
    rw [zcc] at hM
    rw [hM,Option.bind_some,z8]
    unfold z5T
    dsimp only
    rw [if_pos (decide_eq_true (by simp only [List.length_cons,List.length_nil];omega))]) (fun t=>by
    unfold z24
    rw [if_neg (by simp)])
  rw [zcc] at hL
  rw [hL,Option.bind_some,z8]
  rfl
theorem zjw {cs:List (List Int)}(hf:18446744073709551616≤fuel) (hl:cs.length≤1048576) (hc:∀ x,x∈cs→x.length≤1048576):z4W fuel cs=some cs:=by
  unfold z4W
  have hL:=mapLoop (xs:=cs) (body:=z2Y fuel cs) (g:=fun x=>x) hl hf (fun i x t hx ht=>by
    have hi:=(List.getElem?_eq_some_iff.1 hx).1
    unfold z2Y
    dsimp only
    rw [if_pos (decide_eq_true (by omega)),z9 hx,Option.bind_some,zdC (hc x (List.mem_of_getElem? hx)),Option.bind_some,if_pos (decide_eq_true (by simp only [List.length_cons,List.length_nil];omega))]) (fun t=>by
    unfold z2Y
    rw [if_neg (by simp)])
  rw [zcc] at hL
  rw [hL,Option.bind_some,z8]
  rfl
theorem znd {c:D.Cluster}(hf:18446744073709551616≤fuel) (h:c.sz≤1048576):z8s fuel c=some c:=by
  obtain⟨z1,z2,z3,z4,z5,z6,z7⟩:=zch h
  unfold z8s
  rw [show(⟨c.Grid.Shards,(⟨c.Grid.Root.Machine,c.Grid.Root.Kind,c.Grid.Root.Index⟩:D.Address)⟩:D.Grid)=c.Grid from rfl,znc hf z1,Option.bind_some,zjx hf z2 z3,Option.bind_some,zjw hf z4 z5,Option.bind_some,zdC z6,Option.bind_some,zdC z7,Option.bind_some]


theorem zj0 {s:D.Shard}(hf:18446744073709551616≤fuel) (h:s.sz≤1048576):z6R fuel s=some s:=by
  obtain⟨h1,h2,h3,h4⟩:=zao h
  unfold z6R
  rw [zj3 h2,Option.bind_some,zgb h3,Option.bind_some]
  unfold z6y
  have hL:=mapLoop (xs:=s.Cells) (body:=z4x fuel s) (g:=fun x=>x) h1 hf (fun i x t hx ht=>by
    have hi:=(List.getElem?_eq_some_iff.1 hx).1
    obtain⟨c1,c2⟩:=zhW (h4 x (List.mem_of_getElem? hx))
    unfold z4x
    dsimp only
    rw [if_pos (decide_eq_true (by omega)),z9 hx,Option.bind_some,zaV c1,Option.bind_some,zeK c2,Option.bind_some,if_pos (decide_eq_true (by simp only [List.length_cons,List.length_nil];omega))]) (fun t=>by
    unfold z4x
    rw [if_neg (by simp)])
  rw [zcc] at hL
  dsimp only
  rw [hL,Option.bind_some,z8]
  rfl
theorem zmF {g:D.Grid}(hf:18446744073709551616≤fuel) (h:g.sz≤1048576):z7r fuel g=some g:=by
  obtain⟨h1,h2⟩:=zbD h
  unfold z7r
  have hL:=mapLoop (xs:=g.Shards) (body:=z5r fuel g) (g:=fun x=>x) h1 hf (fun i x t hx ht=>by
    have hi:=(List.getElem?_eq_some_iff.1 hx).1
    unfold z5r
    dsimp only
    rw [if_pos (decide_eq_true (by omega)),z9 hx,Option.bind_some,zj0 hf (h2 x (List.mem_of_getElem? hx)),Option.bind_some,if_pos (decide_eq_true (by simp only [List.length_cons,List.length_nil];omega))]) (fun t=>by
    unfold z5r
    rw [if_neg (by simp)])
  rw [zcc] at hL
  rw [hL,Option.bind_some,z8]
  rfl
theorem zhj {xs:List D.Parcel}(hf:18446744073709551616≤fuel) (hl:xs.length≤1048576) (hp:∀ p,p∈xs→p.Cell.sz≤1048576):z5q fuel xs=some xs:=by
  unfold z5q
  rw [zgc hl,Option.bind_some]
  obtain⟨o,h1,h2⟩:=z1f (body:=z39 fuel xs) (fun i st=>st.1=(i:Int)∧st.2.length=xs.length∧(∀ j,j<i→st.2[j]? = xs[j]?.map fun x=>(true,x))∧∀ j,i≤j→st.2[j]? = xs[j]?.map fun x=>(false,x)) xs.length (fun o=>o=.inl (xs.map fun x=>(true,x))) (by
    rintro i ⟨a,s⟩ hi ⟨rfl,e1,e2,e3⟩
    dsimp only at e1 e2 e3
    obtain⟨x,hx⟩:=z4O hi
    have hs:s[i]? = some (false,x):=by rw [e3 i (Nat.le_refl _),hx];rfl
    obtain⟨c1,c2⟩:=zhW (hp x (List.mem_of_getElem? hx))
    refine .inl ⟨(w64 (i+1),s.set i (true,x)),?_,by dsimp only;rw [za (by omega) (by omega)];rfl,by simpa using e1,fun j hj=>?_,fun j hj=>?_⟩
    · unfold z39
      dsimp only
      rw [if_pos (decide_eq_true (by omega)),z9 hs,Option.bind_some,zaV c1,Option.bind_some,Option.bind_some,zeK c2,Option.bind_some,Option.bind_some,if_neg (by simp)]
      unfold z5p
      dsimp only
      rw [Int.toNat_natCast]
    · by_cases h:i=j
      · subst h
        rw [List.getElem?_set_self (by omega),hx];rfl
      · rw [List.getElem?_set_ne h,e2 j (by omega)]
    · rw [List.getElem?_set_ne (by omega),e3 j (by omega)]) (by
    rintro⟨a,s⟩ ⟨rfl,e1,e2,e3⟩
    dsimp only at e1 e2 e3
    refine .inr ⟨s,by unfold z39;rw [if_neg (by simp)],?_⟩
    have:s=xs.map fun x=>(true,x):=List.ext_getElem? fun j=>by
      rw [List.getElem?_map]
      by_cases h:j<xs.length
      · exact e2 j h
      · rw [List.getElem?_eq_none (by omega),List.getElem?_eq_none (by omega)];rfl
    rw [this]) (fuel:=fuel) (i:=0) (s:=(0,xs.map fun x=>(false,x))) (by omega) (by omega) ⟨rfl,by simp,fun j hj=>by omega,fun j _=>by simp⟩
  rw [h1,h2,Option.bind_some,z8]
  unfold z7q
  rw [if_pos (by simp),List.map_map]
  simp [Function.comp_def]
theorem zj1 {cs:List (List D.Parcel)}(hf:18446744073709551616≤fuel) (hl:cs.length≤1048576) (hc:∀ ch,ch∈cs→ch.length≤1048576∧∀ p,p∈ch→p.Cell.sz≤1048576):z4y fuel cs=some cs:=by
  unfold z4y
  refine z7z hl hf (fun _=>rfl) ?_ ?_
  · intro i y out hy d
    have hi:=(List.getElem?_eq_some_iff.1 hy).1
    obtain⟨c1,c2⟩:=hc y (List.mem_of_getElem? hy)
    simp only [z4F,z9 hy,Option.bind_some,lt_t (show(i:Int)<cs.length by omega),if_true,zhj hf c1 c2]
    rw [if_pos (by simp;omega)]
    simp
  · intro out
    simp [z4F]
theorem zhU {cs:List (List Int)}(hf:18446744073709551616≤fuel) (hl:cs.length≤1048576) (hc:∀ x,x∈cs→x.length≤1048576):z6h fuel cs=some cs:=by
  unfold z6h
  refine z7z hl hf (fun _=>rfl) ?_ ?_
  · intro i y out hy d
    have hi:=(List.getElem?_eq_some_iff.1 hy).1
    simp only [z5P,z9 hy,Option.bind_some,lt_t (show(i:Int)<cs.length by omega),if_true,zaV (hc y (List.mem_of_getElem? hy))]
    rw [if_pos (by simp;omega)]
    simp
  · intro out
    simp [z5P]
theorem zmG {c:D.Cluster}(hf:18446744073709551616≤fuel) (h:c.sz≤1048576):z5s fuel c=some c:=by
  obtain⟨z1,z2,z3,z4,z5,z6,z7⟩:=zch h
  unfold z5s
  rw [zmF hf z1,Option.bind_some,zj1 hf z2 z3,Option.bind_some,zhU hf z4 z5,Option.bind_some,zaV z6,Option.bind_some,zaV z7,Option.bind_some]
end


theorem zhV {k v:Int}{d:List Int}(h:contentN k v d=true):d.length≤4:=by
  unfold contentN at h
  split at h
  · simp only [decide_eq_true_eq] at h;omega
  · split at h
    · simp only [decide_eq_true_eq] at h;omega
    · split at h
      · simp only [Bool.and_eq_true,decide_eq_true_eq] at h;omega
      · split at h
        · simp only [decide_eq_true_eq] at h;omega
        · split at h
          · simp only [Bool.and_eq_true,decide_eq_true_eq] at h;omega
          · split at h
            · simp only [Bool.and_eq_true,decide_eq_true_eq] at h;omega
            · split at h
              · simp only [decide_eq_true_eq] at h;omega
              · simp only [decide_eq_true_eq] at h;omega
theorem zi3 {c:D.ShardCell}(h:shCellN c=true):c.sz≤7:=by
  have h1:=zgx h
  have h2:c.Data.length≤4:=by
    unfold shCellN at h
    split at h
    · simp only [decide_eq_true_eq] at h
      rw [h.2.2.1];simp
    · unfold agN agentN agentOf at h
      simp only [Bool.and_eq_true] at h
      exact zhV h.2.2.2.2
  unfold D.ShardCell.sz
  omega
theorem zjs {to:Int}{p:D.Parcel}(h:parcelN to p=true):p.Cell.sz≤7:=by
  have he:emptyN p.Cell=true→p.Cell.sz≤7:=fun h=>by
    unfold emptyN at h
    simp only [decide_eq_true_eq] at h
    unfold D.ShardCell.sz
    rw [h.2.2.2.1,h.2.2.2.2];simp
  unfold parcelN at h
  split at h
  · simp only [Bool.and_eq_true] at h;exact he h.1
  · split at h
    · simp only [Bool.and_eq_true] at h;exact he h.1
    · split at h
      · simp only [Bool.and_eq_true] at h;exact zi3 h.1.2
      · split at h
        · simp only [Bool.and_eq_true] at h;exact he h.1
        · cases h
theorem zgt {α:Type}{f:α→Nat}{xs:List α}{b n:Nat}(h:∀ x,x∈xs→f x≤b) (hn:xs.length≤n):szL f xs≤(b+1)*n:=by
  have h1:=zgu h
  unfold szL
  have h2:(b+1)*xs.length≤(b+1)*n:=Nat.mul_le_mul_left _ hn
  rw [Nat.add_mul,Nat.one_mul] at h2
  omega
theorem zj2 {c:D.Cluster}(hs:c.sz≤1048576) (h:clusN c=true):c.sz≤100000:=by
  obtain⟨hS,hC,hk,hl⟩:=zeJ hs h
  have hN:=zjB hs h
  have h4:=hS.n
  have hcn:=hC.n
  have hg:szL D.Shard.sz c.Grid.Shards≤(4000+1)*4:=zgt (fun s hm=>by
    have h1:=hS.s s hm
    have h2:szL D.ShardCell.sz s.Cells≤(7+1)*400:=zgt (fun x hx=>zi3 (h1.2.2.2.1 x hx).2.2) h1.1
    unfold D.Shard.sz
    omega) h4
  have h0:=h
  unfold clusN clusPN at h0
  simp only [Bool.and_eq_true,decide_eq_true_eq] at h0
  have h5:=h0.1.2.2.2.2.2
  unfold chansN at h5
  rw [Bool.and_eq_true] at h5
  have hch:szL (fun x=>szL D.Parcel.sz x) c.Channels≤(1600+1)*16:=zgt (fun ch hc=>by
    obtain⟨i,hi⟩:=List.getElem?_of_mem hc
    have h6:=(z84 (p:=fun i ch=>listN c.Grid.Shards.length i ch)).1 h5.2 i ch hi
    unfold listN at h6
    rw [Bool.and_eq_true,decide_eq_true_eq,List.all_eq_true] at h6
    have h8:szL D.Parcel.sz ch≤(7+1)*200:=zgt (fun p hp=>by
      have:=zjs (h6.2 p hp)
      unfold D.Parcel.sz
      omega) h6.1
    omega) hcn
  have hco:szL (fun x:List Int=>x.length) c.Counts≤(7+1)*4:=zgt (fun x hx=>by
    have h6:=List.all_eq_true.1 h0.1.2.2.2.2.1 x hx
    unfold numN at h6
    rw [Bool.and_eq_true,decide_eq_true_eq] at h6
    omega) (by have:=h0.1.2.1.2;omega)
  have h6:=hN.sl
  have h7:=hN.gl
  unfold D.Cluster.sz D.Grid.sz
  omega
end Go.E


namespace Go.E
open Go.RowKit Go.Proofs
set_option linter.unusedSimpArgs false
set_option linter.unusedVariables false

theorem zdq {fuel:Nat}{x:D.Cluster}(hf:18446744073709551616≤fuel) (_hw:D.Cluster.wf x) (hs:x.sz≤1048576):∃ r,z53 fuel x=some r∧z3s fuel x=some r∧r.1.sz≤1048576:=by
  have z0:(⟨(⟨(⟨[],(⟨0,0,0⟩:D.Address)⟩:D.Grid),[],[],[],[]⟩:D.Cluster),0,0,false,[],0,false⟩:D.Detector).sz≤1048576:=by decide
  unfold z53 z3s
  rw [zmH hf hs,zmK hf hs,Option.bind_some,Option.bind_some]
  cases h:clusN x with
  | false=>exact⟨_,rfl,rfl,z0⟩
  | true=>
    obtain⟨hS,hC,hk,hl⟩:=zeJ hs h
    have hN:=zjB hs h
    have h1:=hN.sl
    have h4:=hN.n
    simp only [Bool.not_true,Bool.false_eq_true,if_false]
    rw [znu hf hC hN,znv hf hC hN,Option.bind_some,Option.bind_some]
    cases honN x with
    | false=>exact⟨_,rfl,rfl,z0⟩
    | true=>
      simp only [Bool.not_true,Bool.false_eq_true,if_false]
      unfold z9S z1C
      rw [znd hf hs,zmG hf hs,Option.bind_some,Option.bind_some,Option.bind_some,h1,if_pos (decide_eq_true (by omega)),if_pos (decide_eq_true (by omega)),Option.bind_some]
      refine⟨_,rfl,rfl,?_⟩
      have h9:=zj2 hs h
      unfold D.Detector.sz
      simp only [List.length_replicate,Int.toNat_natCast]
      show x.sz+(x.Grid.Shards.length+0)≤1048576
      omega

theorem lawNewDetector {x0:D.Cluster}(h0:D.Cluster.wf x0):∃ fuel,z2U fuel x0=some true:=by
  obtain⟨fuel,hf⟩:∃ n:Nat,18446744073709551616≤n:=⟨_,Nat.le_refl _⟩
  refine⟨fuel,?_⟩
  unfold z2U
  obtain⟨r0,e0,s0⟩:=zeY (l:=(1048576:Int)) hf h0 (by decide) (by omega)
  rw [e0,Option.bind_some]
  rcases s0 with s0 | ⟨s0,t0⟩
  · rw [if_pos (by simp [s0])]
  rw [if_neg (by simp [s0])]
  have z0:D.Cluster.sz x0≤1048576:=by omega
  obtain⟨r,a0,a1,b0⟩:=zdq hf h0 z0
  have m0:=fun {β:Type}(g:_→Option β)=>zbH (g:=g) a0
  have m1:=fun {β:Type}(g:_→Option β)=>zbH (g:=g) a1
  have m2:=fun {β:Type}(g:_→Option β)=>zbH (g:=g) (zeV hf z0)
  have m3:=fun {β:Type}(g:_→Option β)=>zbH (g:=g) (zc4 hf z0)
  have m4:=fun {β:Type}(g:_→Option β) (k:Int) (h0:0≤k) (h1:k+(ctCluster x0:Nat)≤2147483648)=>zbH (g:=g) (zds hf z0 h0 h1)
  have c0:=zhi (x:=x0)
  have m5:=fun {β:Type}(g:_→Option β)=>zbH (g:=g) (zet hf b0)
  have m6:=fun {β:Type}(g:_→Option β) (k:Int) (h0:0≤k) (h1:k+(ctDetector r.1:Nat)≤2147483648)=>zbH (g:=g) (zd2 hf b0 h0 h1)
  have m7:=fun {β:Type}(g:_→Option β) (k:Int) (h0:0≤k) (h1:k+(ctDetector r.1:Nat)≤2147483648)=>zbH (g:=g) (zd7 hf b0 h0 h1)
  have d0:=zg7 (x:=r.1)
  simp (disch:=omega) only [↓reduceIte,↓m0,↓m1,↓m2,↓m3,↓m4,↓m5,↓m6,↓m7,lt_f,Bool.not_true,Bool.false_eq_true,bne_self_eq_false,z97]
  simp (disch:=omega) only [↓reduceIte,↓z1s,↓m0,↓m1,↓m2,↓m3,↓m4,↓m5,↓m6,↓m7,lt_f,Bool.not_true,Bool.false_eq_true,bne_self_eq_false,z97]
  simp (disch:=omega) only [↓reduceIte,↓z17,↓m0,↓m1,↓m2,↓m3,↓m4,↓m5,↓m6,↓m7,lt_f,Bool.not_true,Bool.false_eq_true,bne_self_eq_false,z97]
  simp (disch:=omega) only [↓reduceIte,↓z1r,↓m0,↓m1,↓m2,↓m3,↓m4,↓m5,↓m6,↓m7,lt_f,Bool.not_true,Bool.false_eq_true,bne_self_eq_false,z97]
end Go.E


