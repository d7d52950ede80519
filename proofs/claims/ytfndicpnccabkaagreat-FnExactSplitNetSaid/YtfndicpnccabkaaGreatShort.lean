/- Loops over lists that ask each element or compare two lists. Conditions: the lengths fit in a machine number, fuel enough for any counter. -/
import Derived.Test.YtfndicpnccabkaaGreatPure
namespace Go.E
set_option linter.unusedVariables false
set_option linter.unusedSimpArgs false


theorem eqLoop {α τ ρ:Type}[DecidableEq α] {xs ys:List α}{body:Int→Option (Rd Int τ ρ)}{fuel:Nat}{t:τ}{v:ρ}(hl:xs.length≤maxLen) (hf:18446744073709551616≤fuel) (he:xs.length=ys.length)
    (step:∀ (i:Nat) (a b:α),i<xs.length→xs[i]? = some a→ys[i]? = some b→body i=if a=b then some (.next (w64 (i+1))) else some (.ret v)) (last:body xs.length=some (.brk t)):
    iter body fuel 0=some (if xs=ys then .inl t else .inr v):=by
  have hm:maxLen=9223372036854775807:=rfl
  obtain⟨o,h2,h3⟩:=z2K (body:=body) (fun i s=>s=(i:Int)∧xs.take i=ys.take i) xs.length (fun o=>o=if xs=ys then .inl t else .inr v) (by
    rintro i s hi ⟨rfl,h⟩
    obtain⟨a,ha⟩:=z5i hi
    obtain⟨b,hb⟩:=z5i (he ▸ hi:i<ys.length)
    have hs:=step i a b hi ha hb
    by_cases e:a=b
    · rw [if_pos e] at hs
      refine .inl ⟨_,hs,by rw [zC (by omega) (by omega)];simp,?_⟩
      rw [List.take_add_one,List.take_add_one,h,ha,hb,e]
    · rw [if_neg e] at hs
      refine .inr (.inl ⟨_,hs,?_⟩)
      rw [if_neg]
      rintro rfl
      rw [ha] at hb
      exact e (Option.some.inj hb)) (by
    rintro s ⟨rfl,h⟩
    rw [List.take_length,he,List.take_length] at h
    exact .inr ⟨_,last,by rw [if_pos h]⟩) (fuel:=fuel) (i:=0) (s:=0) (Nat.zero_le _) (by omega) ⟨rfl,by simp⟩
  rw [h2,h3]


theorem eqWhole {α τ:Type}[DecidableEq α] {xs ys:List α}{body:Int→Option (Rd Int τ Bool)}{j:τ→Option Bool}{fuel:Nat}{t:τ}(hl:xs.length≤maxLen) (hf:18446744073709551616≤fuel) (hj:j t=some true)
    (step:∀ (i:Nat) (a b:α),i<xs.length→xs[i]? = some a→ys[i]? = some b→body i=if a=b then some (.next (w64 (i+1))) else some (.ret false)) (last:body xs.length=some (.brk t)):
    (if((xs.length:Int) != (ys.length:Int))=true then some false else((iter body fuel 0).bind fun o=>aft o j))=some (decide (xs=ys)):=by
  by_cases he:xs.length=ys.length
  · rw [if_neg (by simp [he]),eqLoop hl hf he step last]
    by_cases h:xs=ys
    · rw [if_pos h,decide_eq_true h];exact hj
    · rw [if_neg h,decide_eq_false h];rfl
  · rw [if_pos (by simp;omega),decide_eq_false (fun h=>he (by rw [h]))]


theorem askLoop {α τ ρ:Type}{xs:List α}{body:Int→Option (Rd Int τ ρ)}{fuel:Nat}{t:τ}{p:α→Bool}{g:Int→ρ}(hl:xs.length≤maxLen) (hf:18446744073709551616≤fuel)
    (step:∀ (i:Nat) (x:α),i<xs.length→xs[i]? = some x→body i=if p x=true then some (.ret (g i)) else some (.next (w64 (i+1)))) (last:body xs.length=some (.brk t)):
    (xs.any p=false∧iter body fuel 0=some (.inl t))∨(xs.any p=true∧∃ i:Nat,i<xs.length∧iter body fuel 0=some (.inr (g i))):=by
  have hm:maxLen=9223372036854775807:=rfl
  obtain⟨o,h2,h3⟩:=z2K (body:=body) (fun i s=>s=(i:Int)∧(xs.take i).any p=false) xs.length (fun o=>(xs.any p=false∧o=.inl t)∨(xs.any p=true∧∃ i:Nat,i<xs.length∧o=.inr (g i))) (by
    rintro i s hi ⟨rfl,ha⟩
    obtain⟨x,hx⟩:=z5i hi
    have hs:=step i x hi hx
    cases hp:p x with
    | true=>
      rw [hp,if_pos rfl] at hs
      exact .inr (.inl ⟨_,hs,.inr ⟨List.any_eq_true.2 ⟨x,List.mem_of_getElem? hx,hp⟩,i,hi,rfl⟩⟩)
    | false=>
      rw [hp,if_neg (by simp)] at hs
      refine .inl ⟨_,hs,by rw [zC (by omega) (by omega)];simp,?_⟩
      rw [List.take_add_one,hx,List.any_append,ha]
      simp [hp]) (by
    rintro s ⟨rfl,ha⟩
    rw [List.take_length] at ha
    exact .inr ⟨_,last,.inl ⟨ha,rfl⟩⟩) (fuel:=fuel) (i:=0) (s:=0) (Nat.zero_le _) (by omega) ⟨rfl,by simp⟩
  rcases h3 with⟨h3,rfl⟩ | ⟨h3,i,hi,rfl⟩
  · exact .inl ⟨h3,h2⟩
  · exact .inr ⟨h3,i,hi,h2⟩


theorem askOne {α τ ρ:Type}{xs:List α}{body:Int→Option (Rd Int τ ρ)}{j:τ→Option ρ}{fuel:Nat}{t:τ}{p:α→Bool}{v:ρ}(hl:xs.length≤maxLen) (hf:18446744073709551616≤fuel)
    (step:∀ (i:Nat) (x:α),i<xs.length→xs[i]? = some x→body i=if p x=true then some (.ret v) else some (.next (w64 (i+1)))) (last:body xs.length=some (.brk t)):
    ((iter body fuel 0).bind fun o=>aft o j)=if xs.any p=true then some v else j t:=by
  rcases askLoop (g:=fun _=>v) hl hf step last with⟨h1,h2⟩ | ⟨h1,i,_,h2⟩
  · rw [h2,h1];rfl
  · rw [h2,h1];rfl


theorem askIndex {α τ:Type}{xs:List α}{body:Int→Option (Rd Int τ Int)}{j:τ→Option Int}{fuel:Nat}{t:τ}{p:α→Bool}(hl:xs.length≤maxLen) (hf:18446744073709551616≤fuel) (hj:j t=some (-1))
    (step:∀ (i:Nat) (x:α),i<xs.length→xs[i]? = some x→body i=if p x=true then some (.ret i) else some (.next (w64 (i+1)))) (last:body xs.length=some (.brk t)):
    ∃ r,((iter body fuel 0).bind fun o=>aft o j)=some r∧decide (r≥0)=xs.any p:=by
  rcases askLoop (g:=fun i=>i) hl hf step last with⟨h1,h2⟩ | ⟨h1,i,_,h2⟩
  · exact⟨-1,by rw [h2];exact hj,by rw [h1];decide⟩
  · exact⟨i,by rw [h2];rfl,by rw [h1];exact decide_eq_true (by omega)⟩
end Go.E
namespace Go.E

end Go.E


namespace Go.E
set_option linter.unusedVariables false
set_option linter.unusedSimpArgs false

theorem z4V {a:Int}(h0:-4611686018427387904≤a) (h1:a≤4611686018427387904):w64 (a+1)=a+1:=zC (by omega) (by omega)
def markL {α:Type}(f:α→Int→α) (c:α→Nat):List α→Int→List α
  | [],_=>[]
  | x::xs,k=>f x k::markL f c xs (k+c x)

section
variable {α:Type}{f:α→Int→α}{c:α→Nat}

theorem zX:∀ (xs:List α) (k:Int),(markL f c xs k).length=xs.length
  | [],_=>rfl
  | x::xs,k=>by simp only [markL,List.length_cons,zX xs]

theorem z7e:∀ (xs ys:List α) (k:Int),markL f c (xs++ys) k=markL f c xs k++markL f c ys (k+(sumL c xs:Nat))
  | [],ys,k=>by simp [markL,sumL]
  | x::xs,ys,k=>by
    simp only [List.cons_append,markL,z7e xs ys,sumL]
    rw [show k+(c x:Int)+(sumL c xs:Nat)=k+((c x+sumL c xs:Nat):Int) by omega]

theorem zex {xs:List α}{k:Int}{i:Nat}{x:α}(h:xs[i]? = some x):(markL f c xs k)[i]? = some (f x (k+(sumL c (xs.take i):Nat))):=by
  have hi:=(List.getElem?_eq_some_iff.1 h).1
  have hs:xs=xs.take i++(x::xs.drop (i+1)):=by
    have h1:=(List.getElem?_eq_some_iff.1 h).2
    rw [← h1,← List.drop_eq_getElem_cons hi,List.take_append_drop]
  conv=>lhs;rw [hs]
  rw [z7e,List.getElem?_append_right (by rw [zX,List.length_take];omega),zX,List.length_take,Nat.min_eq_left (by omega),Nat.sub_self]
  simp [markL]

theorem z4y {ρ:Type}{body:Int × Int × List α→Option (Rd (Int × Int × List α) (Int × List α) ρ)}{xs:List α}{k:Int}{fuel:Nat}(hl:xs.length≤4294967296) (hf:18446744073709551616≤fuel) (h0:0≤k) (h1:k+(sumL c xs:Nat)≤2147483648)
    (step:∀ (i:Nat) (x:α) (ys:List α) (k:Int),i<xs.length→ys.length=xs.length→ys[i]? = some x→x∈xs→0≤k→k+(c x:Nat)≤2147483648→body (k,(i:Int),ys)=some (.next (k+(c x:Nat),w64 ((i:Int)+1),ys.set i (f x k))))
    (last:∀ k ys,body (k,(xs.length:Int),ys)=some (.brk (k,ys))):iter body fuel (k,0,xs)=some (.inl (k+(sumL c xs:Nat),markL f c xs k)):=by
  obtain⟨o,h2,h3⟩:=z2K (body:=body) (fun i s=>s.1=k+(sumL c (xs.take i):Nat)∧s.2.1=(i:Int)∧s.2.2=markL f c (xs.take i) k++xs.drop i) xs.length (fun o=>o=.inl (k+(sumL c xs:Nat),markL f c xs k)) (by
    rintro i ⟨s,t,ys⟩ hi ⟨h2,h3,h4⟩
    dsimp only at h2 h3 h4
    subst h2;subst h3;subst h4
    obtain⟨x,hx⟩:=z5i hi
    have hlen:(markL f c (xs.take i) k).length=i:=by rw [zX,List.length_take];omega
    have hdrop:xs.drop i=x::xs.drop (i+1):=by
      have h1:=(List.getElem?_eq_some_iff.1 hx).2
      rw [← h1,← List.drop_eq_getElem_cons hi]
    have hsum:sumL c (xs.take (i+1))=sumL c (xs.take i)+c x:=z91 hx
    have hle:sumL c (xs.take (i+1))≤sumL c xs:=by
      conv=>rhs;rw [← List.take_append_drop (i+1) xs,z6i]
      omega
    refine .inl ⟨_,step i x _ _ hi (by rw [List.length_append,hlen,List.length_drop];omega) (by rw [List.getElem?_append_right (by omega),hlen,Nat.sub_self,hdrop];rfl) (List.mem_of_getElem? hx) (by omega) (by omega),?_,?_,?_⟩
    · show _+_=_
      rw [hsum];omega
    · show w64 _=_
      rw [z4V (by omega) (by omega)];simp
    · show List.set _ _ _=_
      rw [hdrop,List.set_append_right _ _ (by omega),hlen,Nat.sub_self,List.set_cons_zero]
      have ht:xs.take (i+1)=xs.take i++[x]:=by rw [List.take_add_one,hx];rfl
      rw [ht,z7e]
      simp [markL]) (by
    rintro⟨s,t,ys⟩ ⟨h2,h3,h4⟩
    dsimp only at h2 h3 h4
    subst h2;subst h3;subst h4
    refine .inr ⟨_,last _ _,?_⟩
    rw [List.take_length,List.drop_length,List.append_nil]) (fuel:=fuel) (i:=0) (s:=(k,0,xs)) (Nat.zero_le _) (by omega) ⟨by simp [sumL],rfl,by simp [markL]⟩
  rw [h2,h3]

theorem z5G {body:Int × Int→Option (Rd (Int × Int) Int Int)}{xs:List α}{k:Int}{fuel:Nat}(hl:xs.length≤4294967296) (hf:18446744073709551616≤fuel) (h0:0≤k) (h1:k+(sumL c xs:Nat)≤2147483648)
    (step:∀ (i:Nat) (x:α) (k':Int),i<xs.length→(markL f c xs k)[i]? = some (f x k')→x∈xs→0≤k'→k'+(c x:Nat)≤2147483648→body (k',(i:Int))=some (.next (k'+(c x:Nat),w64 ((i:Int)+1))))
    (last:∀ k',body (k',((markL f c xs k).length:Int))=some (.brk k')):iter body fuel (k,0)=some (.inl (k+(sumL c xs:Nat))):=by
  obtain⟨o,h2,h3⟩:=z2K (body:=body) (fun i s=>s.1=k+(sumL c (xs.take i):Nat)∧s.2=(i:Int)) xs.length (fun o=>o=.inl (k+(sumL c xs:Nat))) (by
    rintro i ⟨s,t⟩ hi ⟨h2,h3⟩
    dsimp only at h2 h3
    subst h2;subst h3
    obtain⟨x,hx⟩:=z5i hi
    have hsum:sumL c (xs.take (i+1))=sumL c (xs.take i)+c x:=z91 hx
    have hle:sumL c (xs.take (i+1))≤sumL c xs:=by
      conv=>rhs;rw [← List.take_append_drop (i+1) xs,z6i]
      omega
    refine .inl ⟨_,step i x _ hi (zex hx) (List.mem_of_getElem? hx) (by omega) (by omega),?_,?_⟩
    · show _+_=_
      rw [hsum];omega
    · show w64 _=_
      rw [z4V (by omega) (by omega)];simp) (by
    rintro⟨s,t⟩ ⟨h2,h3⟩
    dsimp only at h2 h3
    subst h2;subst h3
    refine .inr ⟨_,by have:=last (k+(sumL c (xs.take xs.length):Nat));rw [zX] at this;exact this,?_⟩
    rw [List.take_length]) (fuel:=fuel) (i:=0) (s:=(k,0)) (Nat.zero_le _) (by omega) ⟨by simp [sumL],rfl⟩
  rw [h2,h3]

theorem z63 {g:α→Nat}{m:Nat}:∀ {xs:List α},(∀ x,x∈xs→c x≤m*(g x+1))→sumL c xs≤m*szL g xs
  | [],_=>by simp [sumL]
  | x::xs,h=>by
    have h1:=h x (by simp)
    have h2:=z63 (g:=g) (m:=m) (xs:=xs) fun y hy=>h y (by simp [hy])
    unfold szL at h2 ⊢
    simp only [sumL,List.length_cons]
    have:m*(xs.length+1+(g x+sumL g xs))=m*(g x+1)+m*(xs.length+sumL g xs):=by rw [← Nat.mul_add];congr 1;omega
    omega

end
end Go.E
namespace Go.E
theorem z2G {α β:Type}{e:Option α}{a:α}{g:α→Option β}(h:e=some a):e.bind g=g a:=by rw [h];rfl
end Go.E


namespace Go.E
open Go.RowKit
set_option linter.unusedVariables false

def D.Address.wf (x:D.Address):Prop:=I64 x.Machine∧I64 x.Kind∧I64 x.Index∧True
def D.Address.sz (x:D.Address):Nat:=0
def D.Port.wf (x:D.Port):Prop:=I64 x.Agent∧I64 x.Slot∧True
def D.Port.sz (x:D.Port):Nat:=0
def D.ShardVar.wf (x:D.ShardVar):Prop:=True∧True∧D.Address.wf x.Held∧True
def D.ShardVar.sz (x:D.ShardVar):Nat:=0
def D.ShardRedex.wf (x:D.ShardRedex):Prop:=D.Address.wf x.A∧D.Address.wf x.B∧True
def D.ShardRedex.sz (x:D.ShardRedex):Nat:=0
def D.Agent.wf (x:D.Agent):Prop:=I64 x.Kind∧I64 x.Level∧I64 x.Value∧WfL I64 x.Data∧WfL D.Port.wf x.Ports∧True
def D.Agent.sz (x:D.Agent):Nat:=x.Data.length+(x.Ports.length+(0))
def D.ShardCell.wf (x:D.ShardCell):Prop:=I64 x.Kind∧I64 x.Level∧I64 x.Value∧WfL I64 x.Data∧WfL D.Address.wf x.Aux∧True
def D.ShardCell.sz (x:D.ShardCell):Nat:=x.Data.length+(x.Aux.length+(0))
def D.Parcel.wf (x:D.Parcel):Prop:=I64 x.Kind∧D.ShardCell.wf x.Cell∧D.Address.wf x.A∧D.Address.wf x.B∧True
def D.Parcel.sz (x:D.Parcel):Nat:=D.ShardCell.sz x.Cell+(0)
def D.Net.wf (x:D.Net):Prop:=WfL D.Agent.wf x.Agents∧True
def D.Net.sz (x:D.Net):Nat:=szL D.Agent.sz x.Agents+(0)
def D.Shard.wf (x:D.Shard):Prop:=WfL D.ShardCell.wf x.Cells∧WfL D.ShardVar.wf x.Vars∧WfL D.ShardRedex.wf x.Redexes∧True
def D.Shard.sz (x:D.Shard):Nat:=szL D.ShardCell.sz x.Cells+(x.Vars.length+(x.Redexes.length+(0)))
def D.Grid.wf (x:D.Grid):Prop:=WfL D.Shard.wf x.Shards∧D.Address.wf x.Root∧True
def D.Grid.sz (x:D.Grid):Nat:=szL D.Shard.sz x.Shards+(0)
def D.Cluster.wf (x:D.Cluster):Prop:=D.Grid.wf x.Grid∧WfL (WfL D.Parcel.wf) x.Channels∧WfL (WfL I64) x.Counts∧WfL I64 x.Sent∧WfL I64 x.Got∧True
def D.Cluster.sz (x:D.Cluster):Nat:=D.Grid.sz x.Grid+(szL (fun x=>szL D.Parcel.sz x) x.Channels+(szL (fun x=>x.length) x.Counts+(x.Sent.length+(x.Got.length+(0)))))
end Go.E


namespace Go.E
open Go.RowKit
set_option linter.unusedVariables false
set_option linter.unusedSimpArgs false

def marksM:List Nat→Nat→Nat
  | [],m=>m
  | i::r,m=>marksM r (m ||| 2 ^ i)
theorem zaM {sk:List (List Nat × Nat)}{full:Nat}:∀ {l:List Nat}{m m':Nat},freeAllM sk full l m=some m'→marksM l m=m'
  | [],m,m',h=>by simpa [freeAllM,marksM] using h
  | i::r,m,m',h=>by
    unfold freeAllM at h
    split at h
    · exact zaM (l:=r) h
    · cases h


variable {P:Program}{n:Nat}{Q:Post}{F:Fr}{w:World}{ops rest:List Oper}{o:Oper}{T:TT}{wm fuel:Nat}{sk:List (List Nat × Nat)}{w0 W W9:World}

def Fr.pick (F:Fr):List Nat→Option Fr
  | []=>some []
  | i::r=>match F.get i,F.pick r with
    | some v,some G=>some ((i,v)::G)
    | _,_=>none
def Fr.keys:Fr→List Nat
  | []=>[]
  | (i,_)::r=>i::Fr.keys r
theorem Fr.pick_has {F:Fr}:∀ {l:List Nat}{G:Fr},F.pick l=some G→F.Has G
  | [],G,h=>by simp only [Fr.pick,Option.some.injEq] at h;subst h;trivial
  | i::r,G,h=>by
    unfold Fr.pick at h
    split at h
    · rename_i v G' hv hG
      simp only [Option.some.injEq] at h;subst h
      exact⟨hv,Fr.pick_has hG⟩
    · cases h
theorem wk {c:Code}(l:List Nat){G:Fr}(h:WP P n c Q G w) (hs:F.pick l=some G:=by exact rfl):WP P n c Q F w:=WP.weak G (Fr.pick_has hs) h
theorem dw {k m:Nat}(l:List Nat){G:Fr}(h:DM P n ops Q W9 w0 wm fuel k m G w) (hs:F.pick l=some G:=by exact rfl):DM P n ops Q W9 w0 wm fuel k m F w:=DM.weak G (Fr.pick_has hs) h
theorem ct {c:Code}{τ:Type}(J:τ→Fr→World→Prop) (hk:∀ t F w,J t F w→Q .normal F w) (h:WP P n c (Q.after (fun F w=>∃ t G,J t G w∧F.pick G.keys=some G)) F w):WP P n c Q F w:=
  WP.cut J hk (h.mono fun e F w q=>by cases e<;>first | exact(let ⟨t,G,h1,h2⟩:=q;⟨t,G,Fr.pick_has h2,h1⟩) | exact q)
theorem it {c:Code}{σ τ ρ:Type}(J:σ→Fr→World→Prop){body:σ→Option (Rd σ τ ρ)}{k:Nat}{s:σ}{out:τ ⊕ ρ}(hm:iter body k s=some out) (h0:J s F w)
    (round:∀ s F w k o,J s F w→body s=some o→(match o with | .next s'=>Go.E.iter body k s'=some out | .brk t=>out=.inl t | .ret r=>out=.inr r)→
      WP P n c (Q.after (fun F' w'=>∃ s' G,o=.next s'∧J s' G w'∧F'.pick G.keys=some G)) F w):WP P n (.loop c) Q F w:=
  WP.iter J body hm h0 fun s F w k o h1 h2 h3=>(round s F w k o h1 h2 h3).mono fun e F w q=>by cases e<;>first | exact(let ⟨s',G,h1,h2,h4⟩:=q;⟨s',G,Fr.pick_has h4,h1,h2⟩) | exact q
theorem ci {α:Type}{c:Operand}{x y:Code}{b:Bool}{A B:Option α}{r:α}(hm:(if b=true then A else B)=some r) (h1:A=some r→WP P n x Q F w) (h2:B=some r→WP P n y Q F w) (hc:F.ev c=some (.bool b):=by exact rfl):WP P n (.cond c x y) Q F w:=
  WP.cond b hc (fun h=>h1 (by rw [if_pos h] at hm;exact hm)) (fun h=>h2 (by rw [if_neg (zfj h)] at hm;exact hm))
theorem rb {α:Type}(i:Nat){b:Bool}{A B:Option α}{r:α}(hm:(if b=true then A else B)=some r) (h1:A=some r→RW P n ops Q rest ((i,.bool true)::F) w) (h2:B=some r→RW P n ops Q rest ((i,.bool false)::F) w) (hg:F.get i=some (.bool b):=by exact rfl):RW P n ops Q rest F w:=by
  cases b
  · exact RW.know i hg rfl (h2 hm)
  · exact RW.know i hg rfl (h1 hm)
theorem db {α:Type}{k m:Nat}(i:Nat){b:Bool}{A B:Option α}{r:α}(hm:(if b=true then A else B)=some r) (h1:A=some r→DM P n ops Q W9 w0 wm fuel k m ((i,.bool true)::F) w) (h2:B=some r→DM P n ops Q W9 w0 wm fuel k m ((i,.bool false)::F) w) (hg:F.get i=some (.bool b):=by exact rfl):DM P n ops Q W9 w0 wm fuel k m F w:=by
  cases b
  · exact DM.know i hg rfl (h2 hm)
  · exact DM.know i hg rfl (h1 hm)
theorem zf6 {m:Int}{b:Nat}(h:0≤m∧m≤4294967296) (hb:Nat.ble b 65536=true):m*(b:Int)≤281474976710656:=by
  have h1:b≤65536:=by simpa using hb
  have h2:m*(b:Int)≤4294967296*65536:=Int.mul_le_mul h.2 (by omega) (by omega) (by omega)
  omega
theorem bS {α β:Type}{x:Option α}{f:α→Option β}{b:β}(h:x.bind f=some b):∃ a,x=some a∧f a=some b:=bind_some h
abbrev sl {α:Type}(A:Option Addr) (x:List α) (k:Nat):Value:=.slice A x.length k
abbrev ow {α:Type}(T:Ty (List α)) (A:Option Addr) (x:List α) (k:Nat):Res:=Own T [.slice A x.length k] x
theorem iS {α:Type}{b:Bool}{A:Option α}{r:α}(hm:(if b=true then A else none)=some r):b=true∧A=some r:=by
  cases b
  · cases hm
  · exact⟨rfl,hm⟩

theorem sq  {x y:Code}(h:WP P n x (Q.after (WP P n y Q)) F w) :WP P n (.seq x y) Q F w:=WP.seq h

theorem sp  (h:Q .normal F w) :WP P n .skip Q F w:=WP.skip h

theorem rt  (h:Q .ret F w) :WP P n .ret Q F w:=WP.ret h

theorem xt  {id:Nat}(h:Q (.exit id) F w) :WP P n (.exit id) Q F w:=WP.exit h

theorem bk  {id:Nat}{c:Code}(h:WP P n c (Q.block id) F w) :WP P n (.block id c) Q F w:=WP.block h

theorem cd  {c:Operand}{x y:Code}(b:Bool) (ht:b=true→WP P n x Q F w) (hf:b=false→WP P n y Q F w) (hc:F.ev c=some (.bool b):=by exact rfl):WP P n (.cond c x y) Q F w:=WP.cond b hc ht hf

theorem q1 {v:Value}{t:Nat}{x:Operand}{i:TI}{p q:Addr}{cs:List Value}(hat:At w p cs) (off:Nat) (ht:TTok P T:=by exact ttok) (ho:o.op=.load t x:=by exact rfl) (hi:T.get t=some i:=by exact rfl) (hag:i.agg=false:=by exact rfl) (hx:F.ev x=some (.pointer (some q)):=by exact rfl) (hq:q=p.add off:=by exact rfl) (hv:nthv cs off=some v:=by exact rfl):Quiet P n F w o v:=Quiet.load1 ht ho hi hag hx hat off hq hv

theorem qN  {t:Nat}{x:Operand}{i:TI}{q:Addr}{cs:List Value}(hat:At w q cs) (ht:TTok P T:=by exact ttok) (ho:o.op=.load t x:=by exact rfl) (hi:T.get t=some i:=by exact rfl) (hag:i.agg=true:=by exact rfl) (hx:F.ev x=some (.pointer (some q)):=by exact rfl) (hl:cs.length=i.size:=by exact rfl):Quiet P n F w o (.agg ⟨cs⟩):=Quiet.loadN ht ho hi hag hx hat hl

theorem rg  {id:Nat}(h:RW P n ops Q ops F w) :WP P n (.region id ops.toArray false) Q F w:=WP.region h

theorem rn  (h:Q .normal F w) :RW P n ops Q [] F w:=RW.nil h

theorem qt  {v:Value}(hq:Quiet P n F w o v){d:Nat}(h:RW P n ops Q rest ((d,v)::F) w) (hg:guardOf ops F o=some true:=by exact rfl) (hd:o.dst=some d:=by exact rfl) (hn:Nat.blt d n=true:=by exact rfl):RW P n ops Q (o::rest) F w:=RW.quiet hg hq hd hn h

theorem rr  (k:Nat){rest':List Oper}{F':Fr}(h:RW P n ops Q rest' F' w) (ht:TTok P T:=by exact ttok) (hr:pvs T n ops k rest F=some (rest',F'):=by exact rfl):RW P n ops Q rest F w:=RW.run ht k hr h

theorem nw  {Rs:List Res}(hS:St W w Rs){cs:List Value}{e:TypeId}{d:Nat}(h:∀ g w',Ext w w'→St W w' (Box g cs e::Rs)→RW P n ops Q rest ((d,.pointer (some ⟨g,0,none⟩))::F) w') (ht:TTok P T:=by exact ttok) (hg:guardOf ops F o=some true:=by exact rfl) (hc:newOf T F o.op=some (cs,e):=by exact rfl) (hd:o.dst=some d:=by exact rfl) (hn:Nat.blt d n=true:=by exact rfl):RW P n ops Q (o::rest) F w:=RW.new ht hS hg hc hd hn h

theorem ca  {f:FuncId}{vs:List Value}(hen:Enters P f){R:Value→World→Prop}(hf:Calls P f ⟨vs⟩ w (Ret R)) (h:∀ v w',R v w'→RW P n ops Q rest (F.putO o.dst v) w') (hg:guardOf ops F o=some true:=by exact rfl) (hc:callOf F o.op=some (f,vs):=by exact rfl) (hn:dstOk n o.dst=true:=by exact rfl):RW P n ops Q (o::rest) F w:=RW.call hg hc hn hen hf h

theorem so  {A B:List Res}{g:Nat}{cs cs':List Value}{e:TypeId}(hS:St W w (A++Box g cs e::B)){t:Nat}{x y:Operand}{i:TI}{q:Addr}(off:Nat){v:Value}(h:∀ w',St W w' (A++Box g cs' e::B)→RW P n ops Q rest F w') (ht:TTok P T:=by exact ttok) (hg:guardOf ops F o=some true:=by exact rfl) (ho:o.op=.store t x y:=by exact rfl) (hd:o.dst=none:=by exact rfl) (hi:T.get t=some i:=by exact rfl) (hx:F.ev x=some (.pointer (some q)):=by exact rfl) (hq:q=⟨g,off,none⟩:=by exact rfl) (hy:F.ev y=some v:=by exact rfl) (hl:Nat.beq (cellsV v).length i.size=true:=by exact rfl) (h1:oneCells (cellsV v)=true:=by exact rfl) (hs:setAt cs off (cellsV v)=some cs':=by exact rfl):RW P n ops Q (o::rest) F w:=RW.store ht hS hg ho hd hi hx off hq hy hl h1 hs h

theorem into  {f:FuncId}{fn:Func}{c:Code}{vs:List Value}{R:Value→World→Prop}(hf:P.funcs[f]? = some fn) (n:Nat) (rs:List ResultVar) (h:WP P n c (RetP P rs R) (startFr 0 vs) w) (hb:fn.body=some c:=by exact rfl) (hn:fn.ntmps=n:=by exact rfl) (hl:Nat.ble vs.length n=true:=by exact rfl) (hr:fn.results.toList=rs:=by exact rfl):Calls P f ⟨vs⟩ w (Ret R):=Calls.into hf hb n hn hl rs hr h

theorem l1  {t:Nat}{x:Operand}{i:TI}{p q:Addr}{cs:List Value}(hat:At w p cs) (off:Nat){v:Value}{d:Nat}(h:RW P n ops Q rest ((d,v)::F) w) (ht:TTok P T:=by exact ttok) (hg:guardOf ops F o=some true:=by exact rfl) (ho:o.op=.load t x:=by exact rfl) (hi:T.get t=some i:=by exact rfl) (hag:i.agg=false:=by exact rfl) (hx:F.ev x=some (.pointer (some q)):=by exact rfl) (hq:q=p.add off:=by exact rfl) (hv:nthv cs off=some v:=by exact rfl) (hd:o.dst=some d:=by exact rfl) (hn:Nat.blt d n=true:=by exact rfl):RW P n ops Q (o::rest) F w:=RW.load1 ht hg ho hi hag hx hat off hq hv hd hn h

theorem lN  {t:Nat}{x:Operand}{i:TI}{q:Addr}{cs:List Value}(hat:At w q cs){d:Nat}(h:RW P n ops Q rest ((d,.agg ⟨cs⟩)::F) w) (ht:TTok P T:=by exact ttok) (hg:guardOf ops F o=some true:=by exact rfl) (ho:o.op=.load t x:=by exact rfl) (hi:T.get t=some i:=by exact rfl) (hag:i.agg=true:=by exact rfl) (hx:F.ev x=some (.pointer (some q)):=by exact rfl) (hl:Nat.beq cs.length i.size=true:=by exact rfl) (hd:o.dst=some d:=by exact rfl) (hn:Nat.blt d n=true:=by exact rfl):RW P n ops Q (o::rest) F w:=RW.loadN ht hg ho hi hag hx hat hl hd hn h

theorem ix  {α:Type}{U:Ty α}{w1:World}(he:Ext w1 w){t e:Nat}{x ix:Operand}{i j:TI}{A:Option Addr}{len c:Nat}{xs:List α}{k:IntKind}{m:Int}{e':Nat}(hr:(tSl e' U).ro w1 [.slice A len c] xs){a:α}(z:idx xs m=some a){d:Nat}(h:∀ q es,At w1 q es→U.ro w1 es a→RW P n ops Q rest ((d,.pointer (some q))::F) w) (ht:TTok P T:=by exact ttok) (hg:guardOf ops F o=some true:=by exact rfl) (ho:o.op=.indexAddr t x ix:=by exact rfl) (hi:T.get t=some i:=by exact rfl) (hd:i.d=.slice e:=by exact rfl) (hj:T.get e=some j:=by exact rfl) (hs:U.size=j.size:=by exact rfl) (hpos:0<U.size:=by decide) (hx:F.ev x=some (.slice A len c):=by exact rfl) (hm:F.ev ix=some (.int k m):=by exact rfl) (hd':o.dst=some d:=by exact rfl) (hn:Nat.blt d n=true:=by exact rfl):RW P n ops Q (o::rest) F w:=RW.idx ht he hg ho hi hd hj hs hpos hx hm hr (z5 z).1 (z5 z).2 hd' hn h

theorem cu  {α:Type}{U:Ty α}{w1:World}(he:Ext w1 w){t e:Nat}{x:Operand}{lo hi:Option Operand}{i j:TI}{A:Option Addr}{len c:Nat}{xs:List α}(ho:o.op=.slice t x lo hi none){e':Nat}(hr:(tSl e' U).ro w1 [.slice A len c] xs){l h:Nat}(hl:(lo=none∧l=0)∨∃ y k,lo=some y∧F.ev y=some (.int k (l:Int))) (hh:(hi=none∧h=xs.length)∨∃ y k,hi=some y∧F.ev y=some (.int k (h:Int))) (h1:l≤h) (h2:h≤xs.length){d:Nat}(hk:∀ A' c',(tSl e' U).ro w1 [.slice A' (h - l) c'] ((xs.take h).drop l)→RW P n ops Q rest ((d,.slice A' (h - l) c')::F) w) (ht:TTok P T:=by exact ttok) (hg:guardOf ops F o=some true:=by exact rfl) (hi':T.get t=some i:=by exact rfl) (hd:i.d=.slice e:=by exact rfl) (hj:T.get e=some j:=by exact rfl) (hs:U.size=j.size:=by exact rfl) (hx:F.ev x=some (.slice A len c):=by exact rfl) (hd':o.dst=some d:=by exact rfl) (hn:Nat.blt d n=true:=by exact rfl):RW P n ops Q (o::rest) F w:=RW.cut ht he hg ho hi' hd hj hs hx hr hl hh h1 h2 hd' hn hk

theorem dn  {id:Nat}(wm:Nat) (hm:P.follows .mixedOrders=true) (k:Nat) (sk:List (List Nat × Nat)) (hv:Ext W9 w) (h:(skOf ops=sk∧ops.length=k)→DM P n ops Q W9 w wm k k 0 F { w with drawn:=w.drawn+1 }) (hk:Nat.beq ops.length k=true:=by kernel_rfl) (hs:Region.noSelect ops.toArray=true:=by kernel_rfl) (hsk:skOf ops=sk:=by kernel_rfl):WP P n (.region id ops.toArray true) Q F w:=WP.drawnM wm hm k hk hs sk hsk hv h

theorem dd {k m:Nat}(hsk:skOf ops=sk∧ops.length=k) (h:Q .normal F w) (hr:readyM sk k m=[]:=by kernel_rfl):DM P n ops Q W9 w0 wm fuel k m F w:=DM.done hsk hr h

theorem dV {k m:Nat}{v:Value}(hsk:skOf ops=sk∧ops.length=k) (i:Nat){m':Nat}(hi:nthv ops i=some o) (hq:Quiet P n F W9 o v){d:Nat}(h:DM P n ops Q W9 w0 wm fuel k m' ((d,v)::F) w) (hm:m ||| 2 ^ i=m':=by exact rfl) (hwi:wm.testBit i=false:=by kernel_rfl) (hf:freeM sk (2 ^ k - 1) m i=true:=by kernel_rfl) (hg:guardOf ops F o=some true:=by exact rfl) (hd:o.dst=some d:=by exact rfl) (hn:Nat.blt d n=true:=by exact rfl):DM P n ops Q W9 w0 wm (fuel+1) k m F w:=DM.quietV hsk i _ hm hwi hi hf hg hq hd hn h

theorem dr {k m:Nat}(fuel:Nat) (hsk:skOf ops=sk∧ops.length=k) (l:List Nat){F':Fr}(h:DM P n ops Q W9 w0 wm fuel k (marksM l m) F' w) (ht:TTok P T:=by exact ttok) (hwl:l.all (fun i=>!wm.testBit i)=true:=by kernel_rfl) (hl:(freeAllM sk (2 ^ k - 1) l m).isSome=true:=by kernel_rfl) (hr:pvsD T n ops l F=some F':=by exact rfl):DM P n ops Q W9 w0 wm (fuel+l.length) k m F w:=by
  obtain⟨m',hl'⟩:=Option.isSome_iff_exists.1 hl
  have e:=zaM hl'
  subst e
  exact DM.run ht hsk l _ hwl hl' hr h

theorem o1 {k m:Nat}(hsk:skOf ops=sk∧ops.length=k) (i:Nat) (h:LM P n ops Q W9 w0 wm fuel k m i F w) (hr:readyM sk k m=[i]:=by kernel_rfl):DM P n ops Q W9 w0 wm (fuel+1) k m F w:=DM.one hsk i hr h

theorem mc {k m:Nat}(hsk:skOf ops=sk∧ops.length=k){i:Nat}{m':Nat}{f:FuncId}{vs:List Value}(hen:Enters P f){R:Value→World→Prop}(hf:Calls P f ⟨vs⟩ w (Ret R)) (h:∀ v w',R v w'→Ext w w'∧DM P n ops Q W9 w0 wm fuel k m' (F.putO o.dst v) w') (hm:m ||| 2 ^ i=m':=by exact rfl) (hwi:wm.testBit i=false:=by kernel_rfl) (hi:nthv ops i=some o:=by exact rfl) (hg:guardOf ops F o=some true:=by exact rfl) (hc:callOf F o.op=some (f,vs):=by exact rfl) (hn:dstOk n o.dst=true:=by exact rfl):LM P n ops Q W9 w0 wm fuel k m i F w:=LM.call hsk _ hm hwi hi hg hc hn hen hf h

theorem mw {k m:Nat}(hsk:skOf ops=sk∧ops.length=k){Rs:List Res}(hS:St W w Rs){i:Nat}{m':Nat}{cs:List Value}{e:TypeId}{d:Nat}(h:∀ g w',Ext w w'→St W w' (Box g cs e::Rs)→DM P n ops Q W9 w0 wm fuel k m' ((d,.pointer (some ⟨g,0,none⟩))::F) w') (ht:TTok P T:=by exact ttok) (hm:m ||| 2 ^ i=m':=by exact rfl) (hwi:wm.testBit i=false:=by kernel_rfl) (hi:nthv ops i=some o:=by exact rfl) (hg:guardOf ops F o=some true:=by exact rfl) (hc:newOf T F o.op=some (cs,e):=by exact rfl) (hd:o.dst=some d:=by exact rfl) (hn:Nat.blt d n=true:=by exact rfl):LM P n ops Q W9 w0 wm fuel k m i F w:=LM.new ht hsk hS _ hm hwi hi hg hc hd hn h

theorem dl {k m:Nat}(hsk:skOf ops=sk∧ops.length=k) (i:Nat){m':Nat}{t:Nat}{x:Operand}{j:TI}{p q:Addr}{cs:List Value}(hat:At w0 p cs) (off:Nat){v:Value}{d:Nat}(h:DM P n ops Q W9 w0 wm fuel k m' ((d,v)::F) w) (ht:TTok P T:=by exact ttok) (hm:m ||| 2 ^ i=m':=by exact rfl) (hwi:wm.testBit i=false:=by kernel_rfl) (hwo:wrOk sk wm k i=true:=by kernel_rfl) (hnw:Nat.beq (m &&& wm) 0=true:=by kernel_rfl) (hi:nthv ops i=some o:=by exact rfl) (hf:freeM sk (2 ^ k - 1) m i=true:=by kernel_rfl) (hg:guardOf ops F o=some true:=by exact rfl) (ho:o.op=.load t x:=by exact rfl) (hj:T.get t=some j:=by exact rfl) (hag:j.agg=false:=by exact rfl) (hx:F.ev x=some (.pointer (some q)):=by exact rfl) (hq:q=p.add off:=by exact rfl) (hv:nthv cs off=some v:=by exact rfl) (hd:o.dst=some d:=by exact rfl) (hn:Nat.blt d n=true:=by exact rfl):DM P n ops Q W9 w0 wm (fuel+1) k m F w:=DM.load1 ht hsk i _ hm hwi hwo hnw hi hf hg ho hj hag hx hat off hq hv hd hn h

theorem dL {k m:Nat}(hsk:skOf ops=sk∧ops.length=k) (i:Nat){m':Nat}{t:Nat}{x:Operand}{j:TI}{q:Addr}{cs:List Value}(hat:At w0 q cs){d:Nat}(h:DM P n ops Q W9 w0 wm fuel k m' ((d,.agg ⟨cs⟩)::F) w) (ht:TTok P T:=by exact ttok) (hm:m ||| 2 ^ i=m':=by exact rfl) (hwi:wm.testBit i=false:=by kernel_rfl) (hwo:wrOk sk wm k i=true:=by kernel_rfl) (hnw:Nat.beq (m &&& wm) 0=true:=by kernel_rfl) (hi:nthv ops i=some o:=by exact rfl) (hf:freeM sk (2 ^ k - 1) m i=true:=by kernel_rfl) (hg:guardOf ops F o=some true:=by exact rfl) (ho:o.op=.load t x:=by exact rfl) (hj:T.get t=some j:=by exact rfl) (hag:j.agg=true:=by exact rfl) (hx:F.ev x=some (.pointer (some q)):=by exact rfl) (hl:Nat.beq cs.length j.size=true:=by exact rfl) (hd:o.dst=some d:=by exact rfl) (hn:Nat.blt d n=true:=by exact rfl):DM P n ops Q W9 w0 wm (fuel+1) k m F w:=DM.loadN ht hsk i _ hm hwi hwo hnw hi hf hg ho hj hag hx hat hl hd hn h

theorem dx {k m:Nat}{α:Type}{U:Ty α}{w1:World}(he:Ext w1 w0) (hsk:skOf ops=sk∧ops.length=k) (i:Nat){m':Nat}{t e:Nat}{x ix:Operand}{j j':TI}{A:Option Addr}{len c:Nat}{xs:List α}{kk:IntKind}{mm:Int}{e':Nat}(hr:(tSl e' U).ro w1 [.slice A len c] xs){a:α}(z:idx xs mm=some a){d:Nat}(h:∀ q es,At w1 q es→U.ro w1 es a→DM P n ops Q W9 w0 wm fuel k m' ((d,.pointer (some q))::F) w) (ht:TTok P T:=by exact ttok) (hm':m ||| 2 ^ i=m':=by exact rfl) (hwi:wm.testBit i=false:=by kernel_rfl) (hwo:wrOk sk wm k i=true:=by kernel_rfl) (hnw:Nat.beq (m &&& wm) 0=true:=by kernel_rfl) (hi:nthv ops i=some o:=by exact rfl) (hf:freeM sk (2 ^ k - 1) m i=true:=by kernel_rfl) (hg:guardOf ops F o=some true:=by exact rfl) (ho:o.op=.indexAddr t x ix:=by exact rfl) (hj:T.get t=some j:=by exact rfl) (hd:j.d=.slice e:=by exact rfl) (hj':T.get e=some j':=by exact rfl) (hs:U.size=j'.size:=by exact rfl) (hpos:0<U.size:=by decide) (hx:F.ev x=some (.slice A len c):=by exact rfl) (hm:F.ev ix=some (.int kk mm):=by exact rfl) (hd':o.dst=some d:=by exact rfl) (hn:Nat.blt d n=true:=by exact rfl):DM P n ops Q W9 w0 wm (fuel+1) k m F w:=DM.idx ht he hsk i _ hm' hwi hwo hnw hi hf hg ho hj hd hj' hs hpos hx hm hr (z5 z).1 (z5 z).2 hd' hn h

theorem dv {k m:Nat}{α:Type}{U:Ty α}{w1:World}(he:Ext w1 W9) (hsk:skOf ops=sk∧ops.length=k) (i:Nat){m':Nat}{t e:Nat}{x ix:Operand}{j j':TI}{A:Option Addr}{len c:Nat}{xs:List α}{kk:IntKind}{mm:Int}{e':Nat}(hr:(tSl e' U).ro w1 [.slice A len c] xs){a:α}(z:idx xs mm=some a){d:Nat}(h:∀ q es,At w1 q es→U.ro w1 es a→DM P n ops Q W9 w0 wm fuel k m' ((d,.pointer (some q))::F) w) (ht:TTok P T:=by exact ttok) (hm':m ||| 2 ^ i=m':=by exact rfl) (hwi:wm.testBit i=false:=by kernel_rfl) (hi:nthv ops i=some o:=by exact rfl) (hf:freeM sk (2 ^ k - 1) m i=true:=by kernel_rfl) (hg:guardOf ops F o=some true:=by exact rfl) (ho:o.op=.indexAddr t x ix:=by exact rfl) (hj:T.get t=some j:=by exact rfl) (hd:j.d=.slice e:=by exact rfl) (hj':T.get e=some j':=by exact rfl) (hs:U.size=j'.size:=by exact rfl) (hpos:0<U.size:=by decide) (hx:F.ev x=some (.slice A len c):=by exact rfl) (hm:F.ev ix=some (.int kk mm):=by exact rfl) (hd':o.dst=some d:=by exact rfl) (hn:Nat.blt d n=true:=by exact rfl):DM P n ops Q W9 w0 wm (fuel+1) k m F w:=DM.idxV ht he hsk i _ hm' hwi hi hf hg ho hj hd hj' hs hpos hx hm hr (z5 z).1 (z5 z).2 hd' hn h

theorem mS  {α:Type}{U:Ty α}{Rs:List Res}(z:α) (hS:St W w Rs){t e:Nat}{l c:Operand}{i j:TI}{k1 k2:IntKind}{m:Int}(hz9:0≤m∧m≤4294967296){zz9:List Value}(hz:∀ w',U.own w' zz9 z []){d:Nat}(h:∀ A k w',Ext w w'→St W w' (Own (tSl e U) [.slice A (List.replicate m.toNat z).length k] (List.replicate m.toNat z)::Rs)→RW P n ops Q rest ((d,.slice A (List.replicate m.toNat z).length k)::F) w') (ht:TTok P T:=by exact ttok) (hg:guardOf ops F o=some true:=by exact rfl) (ho:o.op=.makeSlice t l c:=by exact rfl) (hi:T.get t=some i:=by exact rfl) (hd:i.d=.slice e:=by exact rfl) (hj:T.get e=some j:=by exact rfl) (hs:U.size=j.size:=by exact rfl) (hl:F.ev l=some (.int k1 m):=by exact rfl) (hc:F.ev c=some (.int k2 m):=by exact rfl) (G:Nat.ble j.bytes 65536=true:=by exact rfl) (hzz9:j.zero=zz9:=by exact rfl) (hd':o.dst=some d:=by exact rfl) (hn:Nat.blt d n=true:=by exact rfl):RW P n ops Q (o::rest) F w:=RW.make ht z hS hg ho hi hd hj hs hl hc hz9.1 (zf6 hz9 G) (by have:=hz9.2;simp only [maxLen];omega) (by intro v;rw [hzz9];exact hz v) hd' hn h

theorem qb  {t:Nat}{ps:List (Nat × Operand)}{i:TI}{gs:List (Nat × Nat × Bool × Nat)}{vs:List (Nat × Value)}{cs:List Value}(ht:TTok P T:=by exact ttok) (ho:o.op=.build t ⟨ps⟩:=by exact rfl) (hi:T.get t=some i:=by exact rfl) (hd:i.d=.struct gs:=by exact rfl) (hv:partsOf F ps=some vs:=by exact rfl) (hc:fillV gs i.zero vs=some cs:=by exact rfl):Quiet P n F w o (.agg ⟨cs⟩):=Quiet.build ht ho hi hd hv hc

theorem n0  {α:Type}{U:Ty α}{Rs:List Res}{t e:Nat}{i j:TI}(hS:St W w Rs){d:Nat}(h:∀ A k w',Ext w w'→St W w' (Own (tSl e U) [.slice A ([]:List α).length k] []::Rs)→RW P n ops Q rest ((d,.slice A ([]:List α).length k)::F) w') (ht:TTok P T:=by exact ttok) (hg:guardOf ops F o=some true:=by exact rfl) (ho:o.op=.buildSlice t 0 #[]:=by exact rfl) (hi:T.get t=some i:=by exact rfl) (hd:i.d=.slice e:=by exact rfl) (hj:T.get e=some j:=by exact rfl) (hd':o.dst=some d:=by exact rfl) (hn:Nat.blt d n=true:=by exact rfl):RW P n ops Q (o::rest) F w:=RW.newSlice0 ht hS hg ho hi hd hj hd' hn h

theorem ap  {α:Type}{U:Ty α}(hfl:Flat U){B:List Res}{e:Nat}{A:Option Addr}{k:Nat}{xs ys:List α}(hS:St W w (Own (tSl e U) [.slice A xs.length k] xs::B)){t:Nat}{s x:Operand}{i j:TI}{A2:Option Addr}{k2:Nat}{e':Nat}(hr:(tSl e' U).ro w [.slice A2 ys.length k2] ys) (z:decide ((xs.length:Int)+ys.length≤4294967296)=true){d:Nat}(h:∀ A' k' w',St W w' (Own (tSl e U) [.slice A' (xs++ys).length k'] (xs++ys)::B)→RW P n ops Q rest ((d,.slice A' (xs++ys).length k')::F) w') (ht:TTok P T:=by exact ttok) (hg:guardOf ops F o=some true:=by exact rfl) (ho:o.op=.call { callee:=.builtin .append,args:=#[s,x],argTypes:=#[t,t] }:=by exact rfl) (hi:T.get t=some i:=by exact rfl) (hd:i.d=.slice e:=by exact rfl) (hj:T.get e=some j:=by exact rfl) (hs:U.size=j.size:=by exact rfl) (hpos:0<U.size:=by decide) (hx:F.ev s=some (.slice A xs.length k):=by exact rfl) (hy:F.ev x=some (.slice A2 ys.length k2):=by exact rfl) (hb:j.bytes≤32768:=by decide) (hd':o.dst=some d:=by exact rfl) (hn:Nat.blt d n=true:=by exact rfl):RW P n ops Q (o::rest) F w:=RW.appendRo ht hfl hS hg ho hi hd hj hs hpos hx hy hr (of_decide_eq_true z) hb hd' hn h

theorem qNilEq  {t u e:Nat}{x y:Operand}{i:TI}{A:Option Addr}{l c:Nat}(ht:TTok P T:=by exact ttok) (ho:o.op=.binOp .eql t x y u:=by exact rfl) (hi:T.get t=some i:=by exact rfl) (hd:i.d=.slice e:=by exact rfl) (hx:F.ev x=some (.slice A l c):=by exact rfl) (hy:F.ev y=some (.slice none 0 0):=by exact rfl):Quiet P n F w o (.bool A.isNone):=Quiet.nilEq ht ho hi hd hx hy

theorem ns  {α:Type}{U:Ty α}{Rs:List Res}{t e m:Nat}{ps:List (Nat × Operand)}{vs:List (Nat × Value)}{els:List Value}{ys:List α}{i j:TI}(hS:St W w (OwnEls U els ys::Rs)){d:Nat}(h:∀ A k w',Ext w w'→St W w' (Own (tSl e U) [.slice A ys.length k] ys::Rs)→RW P n ops Q rest ((d,.slice A ys.length k)::F) w') (ht:TTok P T:=by exact ttok) (hg:guardOf ops F o=some true:=by exact rfl) (ho:o.op=.buildSlice t m ⟨ps⟩:=by exact rfl) (hi:T.get t=some i:=by exact rfl) (hd:i.d=.slice e:=by exact rfl) (hj:T.get e=some j:=by exact rfl) (hv:partsOf F ps=some vs:=by exact rfl) (hf:fillV (slots j.size 0 m) (chunks m j.zero) vs=some els:=by exact rfl) (hm:ys.length=m:=by exact rfl) (hpos:Nat.ble 1 (m*j.size)=true:=by exact rfl) (hsm:Nat.ble (m*j.size) 16777216=true:=by exact rfl) (hd':o.dst=some d:=by exact rfl) (hn:Nat.blt d n=true:=by exact rfl):RW P n ops Q (o::rest) F w:=RW.newSlice ht hS hg ho hi hd hj hv hf hm hpos hsm hd' hn h

theorem ao  {α:Type}{U:Ty α}{B:List Res}{e e':Nat}{A A2:Option Addr}{k k2:Nat}{xs ys:List α}(hS:St W w (Own (tSl e' U) [.slice A2 ys.length k2] ys::Own (tSl e U) [.slice A xs.length k] xs::B)){t:Nat}{s x:Operand}{i j:TI}(z:decide ((xs.length:Int)+ys.length≤4294967296)=true){d:Nat}(h:∀ A' k' w',St W w' (Own (tSl e U) [.slice A' (xs++ys).length k'] (xs++ys)::B)→RW P n ops Q rest ((d,.slice A' (xs++ys).length k')::F) w') (ht:TTok P T:=by exact ttok) (hg:guardOf ops F o=some true:=by exact rfl) (ho:o.op=.call { callee:=.builtin .append,args:=#[s,x],argTypes:=#[t,t] }:=by exact rfl) (hi:T.get t=some i:=by exact rfl) (hd:i.d=.slice e:=by exact rfl) (hj:T.get e=some j:=by exact rfl) (hs:U.size=j.size:=by exact rfl) (hpos:0<U.size:=by decide) (hx:F.ev s=some (.slice A xs.length k):=by exact rfl) (hy:F.ev x=some (.slice A2 ys.length k2):=by exact rfl) (hb:j.bytes≤32768:=by decide) (hd':o.dst=some d:=by exact rfl) (hn:Nat.blt d n=true:=by exact rfl):RW P n ops Q (o::rest) F w:=RW.appendOwn ht hS hg ho hi hd hj hs hpos hx hy (of_decide_eq_true z) hb hd' hn h

theorem fo  {α:Type}{U:Ty α}{B:List Res}{e:Nat}{A:Option Addr}{k ln:Nat}{xs:List α}{a:α}(hS:St W w (Own (tSl e U) [.slice A ln k] xs::B)){t e':Nat}{x ix:Operand}{i j:TI}{kd:IntKind}{m:Int}(z:idx xs m=some a){d:Nat}(h:∀ q es,ElAt U A m.toNat q→St W w (Hole U e (.slice A ln k) xs m.toNat es::Own U es a::B)→RW P n ops Q rest ((d,.pointer (some q))::F) w) (ht:TTok P T:=by exact ttok) (hg:guardOf ops F o=some true:=by exact rfl) (ho:o.op=.indexAddr t x ix:=by exact rfl) (hi:T.get t=some i:=by exact rfl) (hd:i.d=.slice e':=by exact rfl) (hj:T.get e'=some j:=by exact rfl) (hs:U.size=j.size:=by exact rfl) (hx:F.ev x=some (.slice A ln k):=by exact rfl) (hm:F.ev ix=some (.int kd m):=by exact rfl) (hd':o.dst=some d:=by exact rfl) (hn:Nat.blt d n=true:=by exact rfl):RW P n ops Q (o::rest) F w:=RW.focus ht hS hg ho hi hd hj hs hx hm (z5 z).1 (z5 z).2 hd' hn h

theorem ia  {α:Type}{U:Ty α}{B:List Res}{e:Nat}{A:Option Addr}{k ln:Nat}{xs:List α}{es:List Value}{m:Int}(hS:St W w (Hole U e (.slice A ln k) xs m.toNat es::B)){t e':Nat}{x ix:Operand}{i j:TI}{kd:IntKind}(h0:0≤m){d:Nat}(h:∀ q,ElAt U A m.toNat q→RW P n ops Q rest ((d,.pointer (some q))::F) w) (ht:TTok P T:=by exact ttok) (hg:guardOf ops F o=some true:=by exact rfl) (ho:o.op=.indexAddr t x ix:=by exact rfl) (hi:T.get t=some i:=by exact rfl) (hd:i.d=.slice e':=by exact rfl) (hj:T.get e'=some j:=by exact rfl) (hs:U.size=j.size:=by exact rfl) (hx:F.ev x=some (.slice A ln k):=by exact rfl) (hm:F.ev ix=some (.int kd m):=by exact rfl) (hd':o.dst=some d:=by exact rfl) (hn:Nat.blt d n=true:=by exact rfl):RW P n ops Q (o::rest) F w:=RW.idxAgain ht hS hg ho hi hd hj hs hx hm h0 hd' hn h

theorem sh  {α:Type}{U:Ty α}{e:Nat}{A:Option Addr}{k m ln:Nat}{xs:List α}{es es':List Value}{B:List Res}(hS:St W w (Hole U e (.slice A ln k) xs m es::B)){q:Addr}(hq:ElAt U A m q){t:Nat}{x y:Operand}{i:TI}{q':Addr}(off:Nat){v:Value}(h:∀ w',St W w' (Hole U e (.slice A ln k) xs m es'::B)→RW P n ops Q rest F w') (ht:TTok P T:=by exact ttok) (hg:guardOf ops F o=some true:=by exact rfl) (ho:o.op=.store t x y:=by exact rfl) (hd:o.dst=none:=by exact rfl) (hi:T.get t=some i:=by exact rfl) (hx:F.ev x=some (.pointer (some q')):=by exact rfl) (hq':q'=q.add off:=by exact rfl) (hy:F.ev y=some v:=by exact rfl) (hl:Nat.beq (cellsV v).length i.size=true:=by exact rfl) (h1:oneCells (cellsV v)=true:=by exact rfl) (hs:setAt es off (cellsV v)=some es':=by exact rfl):RW P n ops Q (o::rest) F w:=RW.storeHoleN ht hS hq hg ho hd hi hx off hq' hy hl h1 hs h

theorem io  {α:Type}{U:Ty α}{B:List Res}{e:Nat}{A:Option Addr}{k ln:Nat}{xs:List α}(hS:St W w (Own (tSl e U) [.slice A ln k] xs::B)){t e':Nat}{x ix:Operand}{i j:TI}{kd:IntKind}{m:Int}(h0:0≤m) (hlt:m.toNat<xs.length){d:Nat}(h:∀ q,(∃ g,A=some ⟨g,0,none⟩∧q=⟨g,m.toNat*U.size,none⟩)→RW P n ops Q rest ((d,.pointer (some q))::F) w) (ht:TTok P T:=by exact ttok) (hg:guardOf ops F o=some true:=by exact rfl) (ho:o.op=.indexAddr t x ix:=by exact rfl) (hi:T.get t=some i:=by exact rfl) (hd:i.d=.slice e':=by exact rfl) (hj:T.get e'=some j:=by exact rfl) (hs:U.size=j.size:=by exact rfl) (hx:F.ev x=some (.slice A ln k):=by exact rfl) (hm:F.ev ix=some (.int kd m):=by exact rfl) (hd':o.dst=some d:=by exact rfl) (hn:Nat.blt d n=true:=by exact rfl):RW P n ops Q (o::rest) F w:=RW.idxOwnN ht hS hg ho hi hd hj hs hx hm h0 hlt hd' hn h

theorem se  {α:Type}{U:Ty α}{B:List Res}{e:Nat}{A:Option Addr}{k ln:Nat}{xs:List α}{y:α}{es':List Value}(hS:St W w (Own (tSl e U) [.slice A ln k] xs::Own U es' y::B)){t:Nat}{x yv:Operand}{j:TI}{q:Addr}{m:Nat}(hlt:m<xs.length) (hq:∃ g,A=some ⟨g,0,none⟩∧q=⟨g,m*U.size,none⟩){v:Value}(h:∀ w',St W w' (Own (tSl e U) [.slice A ln k] (xs.set m y)::B)→RW P n ops Q rest F w') (ht:TTok P T:=by exact ttok) (hg:guardOf ops F o=some true:=by exact rfl) (ho:o.op=.store t x yv:=by exact rfl) (hd:o.dst=none:=by exact rfl) (hj:T.get t=some j:=by exact rfl) (hs:U.size=j.size:=by exact rfl) (hx:F.ev x=some (.pointer (some q)):=by exact rfl) (hy:F.ev yv=some v:=by exact rfl) (hc:cellsV v=es':=by exact rfl):RW P n ops Q (o::rest) F w:=RW.storeElN ht hS hg ho hd hj hs hx hlt hq hy hc h

theorem qBuildK  {t:Nat}{ps:List (Nat × Operand)}{vs:List (Nat × Value)}{cs:List Value}(ho:o.op=.build t ⟨ps⟩:=by exact rfl) (hv:partsOf F ps=some vs:=by exact rfl) (hb:P.built t vs=some ⟨cs⟩:=by kernel_rfl):Quiet P n F w o (.agg ⟨cs⟩):=Quiet.buildK ho hv hb

theorem dp  {k m:Nat}{v:Value}(hsk:skOf ops=sk∧ops.length=k) (i:Nat){m':Nat}(hi:nthv ops i=some o) (hq:∀ w,Quiet P n F w o v){d:Nat}(h:DM P n ops Q W9 w0 wm fuel k m' ((d,v)::F) w) (hm:m ||| 2 ^ i=m':=by exact rfl) (hwi:wm.testBit i=false:=by kernel_rfl) (hf:freeM sk (2 ^ k - 1) m i=true:=by kernel_rfl) (hg:guardOf ops F o=some true:=by exact rfl) (hd:o.dst=some d:=by exact rfl) (hn:Nat.blt d n=true:=by exact rfl):DM P n ops Q W9 w0 wm (fuel+1) k m F w:=DM.quietP hsk i _ hm hwi hi hf hg hq hd hn h

theorem mW  {k m:Nat}(hsk:skOf ops=sk∧ops.length=k){i:Nat}{m':Nat}{f:FuncId}{vs:List Value}(hen:Enters P f){R:Value→World→Prop}(hf:Calls P f ⟨vs⟩ w (Ret R)) (h:∀ v w',R v w'→Ext W9 w'∧DM P n ops Q W9 w0 wm fuel k m' (F.putO o.dst v) w') (hm:m ||| 2 ^ i=m':=by exact rfl) (hwi:wm.testBit i=true:=by kernel_rfl) (hi:nthv ops i=some o:=by exact rfl) (hg:guardOf ops F o=some true:=by exact rfl) (hc:callOf F o.op=some (f,vs):=by exact rfl) (hn:dstOk n o.dst=true:=by exact rfl):LM P n ops Q W9 w0 wm fuel k m i F w:=LM.callW hsk _ hm hwi hi hg hc hn hen hf h

theorem mk  {α:Type}{U:Ty α}{Rs:List Res}(z:α) (hS:St W w Rs){kk mm ii:Nat}(hsk:skOf ops=sk∧ops.length=kk){m':Nat}{t e:Nat}{l c:Operand}{i j:TI}{k1 k2:IntKind}{m:Int}(hz9:0≤m∧m≤4294967296){zz9:List Value}(hz:∀ w',U.own w' zz9 z []){d:Nat}(h:∀ A k w',Ext w w'→St W w' (Own (tSl e U) [.slice A (List.replicate m.toNat z).length k] (List.replicate m.toNat z)::Rs)→DM P n ops Q W w0 wm fuel kk m' ((d,.slice A (List.replicate m.toNat z).length k)::F) w') (ht:TTok P T:=by exact ttok) (hm':mm ||| 2 ^ ii=m':=by exact rfl) (hwi:wm.testBit ii=false:=by kernel_rfl) (hni:nthv ops ii=some o:=by exact rfl) (hg:guardOf ops F o=some true:=by exact rfl) (ho:o.op=.makeSlice t l c:=by exact rfl) (hi:T.get t=some i:=by exact rfl) (hd:i.d=.slice e:=by exact rfl) (hj:T.get e=some j:=by exact rfl) (hs:U.size=j.size:=by exact rfl) (hl:F.ev l=some (.int k1 m):=by exact rfl) (hc:F.ev c=some (.int k2 m):=by exact rfl) (G:Nat.ble j.bytes 65536=true:=by exact rfl) (hzz9:j.zero=zz9:=by exact rfl) (hd':o.dst=some d:=by exact rfl) (hn:Nat.blt d n=true:=by exact rfl):LM P n ops Q W w0 wm fuel kk mm ii F w:=LM.make ht z hS hsk _ hm' hwi hni hg ho hi hd hj hs hl hc hz9.1 (zf6 hz9 G) (by have:=hz9.2;simp only [maxLen];omega) (by intro v;rw [hzz9];exact hz v) hd' hn h

theorem m0  {α:Type}{U:Ty α}{Rs:List Res}{t e:Nat}{i j:TI}(hS:St W w Rs){kk mm ii:Nat}(hsk:skOf ops=sk∧ops.length=kk){m':Nat}{d:Nat}(h:∀ A k w',Ext w w'→St W w' (Own (tSl e U) [.slice A ([]:List α).length k] []::Rs)→DM P n ops Q W w0 wm fuel kk m' ((d,.slice A ([]:List α).length k)::F) w') (ht:TTok P T:=by exact ttok) (hm':mm ||| 2 ^ ii=m':=by exact rfl) (hwi:wm.testBit ii=false:=by kernel_rfl) (hni:nthv ops ii=some o:=by exact rfl) (hg:guardOf ops F o=some true:=by exact rfl) (ho:o.op=.buildSlice t 0 #[]:=by exact rfl) (hi:T.get t=some i:=by exact rfl) (hd:i.d=.slice e:=by exact rfl) (hj:T.get e=some j:=by exact rfl) (hd':o.dst=some d:=by exact rfl) (hn:Nat.blt d n=true:=by exact rfl):LM P n ops Q W w0 wm fuel kk mm ii F w:=LM.newSlice0 ht hS hsk _ hm' hwi hni hg ho hi hd hj hd' hn h

theorem mn  {α:Type}{U:Ty α}{Rs:List Res}{t e m:Nat}{ps:List (Nat × Operand)}{vs:List (Nat × Value)}{els:List Value}{ys:List α}{i j:TI}(hS:St W w (OwnEls U els ys::Rs)){kk mm ii:Nat}(hsk:skOf ops=sk∧ops.length=kk){m':Nat}{d:Nat}(h:∀ A k w',Ext w w'→St W w' (Own (tSl e U) [.slice A ys.length k] ys::Rs)→DM P n ops Q W w0 wm fuel kk m' ((d,.slice A ys.length k)::F) w') (ht:TTok P T:=by exact ttok) (hm':mm ||| 2 ^ ii=m':=by exact rfl) (hwi:wm.testBit ii=false:=by kernel_rfl) (hni:nthv ops ii=some o:=by exact rfl) (hg:guardOf ops F o=some true:=by exact rfl) (ho:o.op=.buildSlice t m ⟨ps⟩:=by exact rfl) (hi:T.get t=some i:=by exact rfl) (hd:i.d=.slice e:=by exact rfl) (hj:T.get e=some j:=by exact rfl) (hv:partsOf F ps=some vs:=by exact rfl) (hf:fillV (slots j.size 0 m) (chunks m j.zero) vs=some els:=by exact rfl) (hm:ys.length=m:=by exact rfl) (hpos:Nat.ble 1 (m*j.size)=true:=by exact rfl) (hsm:Nat.ble (m*j.size) 16777216=true:=by exact rfl) (hd':o.dst=some d:=by exact rfl) (hn:Nat.blt d n=true:=by exact rfl):LM P n ops Q W w0 wm fuel kk mm ii F w:=LM.newSlice ht hS hsk _ hm' hwi hni hg ho hi hd hj hv hf hm hpos hsm hd' hn h

theorem mp  {α:Type}{U:Ty α}(hfl:Flat U){B:List Res}{e:Nat}{A:Option Addr}{k:Nat}{xs ys:List α}(hS:St W w (Own (tSl e U) [.slice A xs.length k] xs::B)){kk mm ii:Nat}(hsk:skOf ops=sk∧ops.length=kk){m':Nat}{t:Nat}{s x:Operand}{i j:TI}{A2:Option Addr}{k2:Nat}{e':Nat}(hr:(tSl e' U).ro w [.slice A2 ys.length k2] ys) (z:decide ((xs.length:Int)+ys.length≤4294967296)=true){d:Nat}(h:∀ A' k' w',St W w' (Own (tSl e U) [.slice A' (xs++ys).length k'] (xs++ys)::B)→DM P n ops Q W w0 wm fuel kk m' ((d,.slice A' (xs++ys).length k')::F) w') (ht:TTok P T:=by exact ttok) (hm':mm ||| 2 ^ ii=m':=by exact rfl) (hwi:wm.testBit ii=true:=by kernel_rfl) (hni:nthv ops ii=some o:=by exact rfl) (hg:guardOf ops F o=some true:=by exact rfl) (ho:o.op=.call { callee:=.builtin .append,args:=#[s,x],argTypes:=#[t,t] }:=by exact rfl) (hi:T.get t=some i:=by exact rfl) (hd:i.d=.slice e:=by exact rfl) (hj:T.get e=some j:=by exact rfl) (hs:U.size=j.size:=by exact rfl) (hpos:0<U.size:=by decide) (hx:F.ev s=some (.slice A xs.length k):=by exact rfl) (hy:F.ev x=some (.slice A2 ys.length k2):=by exact rfl) (hb:j.bytes≤32768:=by decide) (hd':o.dst=some d:=by exact rfl) (hn:Nat.blt d n=true:=by exact rfl):LM P n ops Q W w0 wm fuel kk mm ii F w:=LM.appendRo ht hfl hS hsk _ hm' hwi hni hg ho hi hd hj hs hpos hx hy hr (of_decide_eq_true z) hb hd' hn h

theorem mo  {α:Type}{U:Ty α}{B:List Res}{e e':Nat}{A A2:Option Addr}{k k2:Nat}{xs ys:List α}(hS:St W w (Own (tSl e' U) [.slice A2 ys.length k2] ys::Own (tSl e U) [.slice A xs.length k] xs::B)){kk mm ii:Nat}(hsk:skOf ops=sk∧ops.length=kk){m':Nat}{t:Nat}{s x:Operand}{i j:TI}(z:decide ((xs.length:Int)+ys.length≤4294967296)=true){d:Nat}(h:∀ A' k' w',St W w' (Own (tSl e U) [.slice A' (xs++ys).length k'] (xs++ys)::B)→DM P n ops Q W w0 wm fuel kk m' ((d,.slice A' (xs++ys).length k')::F) w') (ht:TTok P T:=by exact ttok) (hm':mm ||| 2 ^ ii=m':=by exact rfl) (hwi:wm.testBit ii=true:=by kernel_rfl) (hni:nthv ops ii=some o:=by exact rfl) (hg:guardOf ops F o=some true:=by exact rfl) (ho:o.op=.call { callee:=.builtin .append,args:=#[s,x],argTypes:=#[t,t] }:=by exact rfl) (hi:T.get t=some i:=by exact rfl) (hd:i.d=.slice e:=by exact rfl) (hj:T.get e=some j:=by exact rfl) (hs:U.size=j.size:=by exact rfl) (hpos:0<U.size:=by decide) (hx:F.ev s=some (.slice A xs.length k):=by exact rfl) (hy:F.ev x=some (.slice A2 ys.length k2):=by exact rfl) (hb:j.bytes≤32768:=by decide) (hd':o.dst=some d:=by exact rfl) (hn:Nat.blt d n=true:=by exact rfl):LM P n ops Q W w0 wm fuel kk mm ii F w:=LM.appendOwn ht hS hsk _ hm' hwi hni hg ho hi hd hj hs hpos hx hy (of_decide_eq_true z) hb hd' hn h

theorem ms  {A B:List Res}{g:Nat}{cs cs':List Value}{e:TypeId}(hS:St W w (A++Box g cs e::B)){kk mm ii:Nat}(hsk:skOf ops=sk∧ops.length=kk){m':Nat}{t:Nat}{x y:Operand}{i:TI}{q:Addr}(off:Nat){v:Value}(h:∀ w',St W w' (A++Box g cs' e::B)→DM P n ops Q W w0 wm fuel kk m' F w') (ht:TTok P T:=by exact ttok) (hm':mm ||| 2 ^ ii=m':=by exact rfl) (hwi:wm.testBit ii=true:=by kernel_rfl) (hni:nthv ops ii=some o:=by exact rfl) (hg:guardOf ops F o=some true:=by exact rfl) (ho:o.op=.store t x y:=by exact rfl) (hd:o.dst=none:=by exact rfl) (hi:T.get t=some i:=by exact rfl) (hx:F.ev x=some (.pointer (some q)):=by exact rfl) (hq:q=⟨g,off,none⟩:=by exact rfl) (hy:F.ev y=some v:=by exact rfl) (hl:Nat.beq (cellsV v).length i.size=true:=by exact rfl) (h1:oneCells (cellsV v)=true:=by exact rfl) (hs:setAt cs off (cellsV v)=some cs':=by exact rfl):LM P n ops Q W w0 wm fuel kk mm ii F w:=LM.store ht hS hsk _ hm' hwi hni hg ho hd hi hx off hq hy hl h1 hs h

theorem da  {kk mm:Nat}(hsk:skOf ops=sk∧ops.length=kk) (rs:List Nat) (hne:rs≠[]) (h:∀ i,i∈rs→LM P n ops Q W9 w0 wm fuel kk mm i F w) (hr:readyM sk kk mm=rs:=by kernel_rfl):DM P n ops Q W9 w0 wm (fuel+1) kk mm F w:=DM.all hsk rs hr hne h

theorem mq  {kk mm:Nat}(hsk:skOf ops=sk∧ops.length=kk){v:Value}{ii:Nat}{m':Nat}(hni:nthv ops ii=some o) (hq:Quiet P n F w o v){d:Nat}(h:DM P n ops Q W9 w0 wm fuel kk m' ((d,v)::F) w) (hm':mm ||| 2 ^ ii=m':=by exact rfl) (hwi:wm.testBit ii=false:=by kernel_rfl) (hg:guardOf ops F o=some true:=by exact rfl) (hd:o.dst=some d:=by exact rfl) (hn:Nat.blt d n=true:=by exact rfl):LM P n ops Q W9 w0 wm fuel kk mm ii F w:=LM.quietL hsk _ hm' hwi hni hg hq hd hn h

theorem df {w1:World}{kk mm:Nat}{α:Type}{U:Ty α}{B:List Res}{e:Nat}{A:Option Addr}{k ln:Nat}{xs:List α}{a:α}(hS:St W w1 (Own (tSl e U) [.slice A ln k] xs::B)) (hsk:skOf ops=sk∧ops.length=kk) (ii:Nat){m':Nat}{t e':Nat}{x ix:Operand}{i j:TI}{kd:IntKind}{m:Int}(z:idx xs m=some a){d:Nat}(h:∀ q es,ElAt U A m.toNat q→St W w1 (Hole U e (.slice A ln k) xs m.toNat es::Own U es a::B)→DM P n ops Q W w0 wm fuel kk m' ((d,.pointer (some q))::F) w) (ht:TTok P T:=by exact ttok) (hmm:mm ||| 2 ^ ii=m':=by exact rfl) (hwi:wm.testBit ii=false:=by kernel_rfl) (hni:nthv ops ii=some o:=by exact rfl) (hf:freeM sk (2 ^ kk - 1) mm ii=true:=by kernel_rfl) (hg:guardOf ops F o=some true:=by exact rfl) (ho:o.op=.indexAddr t x ix:=by exact rfl) (hi:T.get t=some i:=by exact rfl) (hd:i.d=.slice e':=by exact rfl) (hj:T.get e'=some j:=by exact rfl) (hs:U.size=j.size:=by exact rfl) (hx:F.ev x=some (.slice A ln k):=by exact rfl) (hm:F.ev ix=some (.int kd m):=by exact rfl) (hd':o.dst=some d:=by exact rfl) (hn:Nat.blt d n=true:=by exact rfl):DM P n ops Q W w0 wm (fuel+1) kk mm F w:=DM.focus ht hS hsk ii _ hmm hwi hni hf hg ho hi hd hj hs hx hm (z5 z).1 (z5 z).2 hd' hn h

theorem do9 {w1:World}{kk mm:Nat}{α:Type}{U:Ty α}{B:List Res}{e:Nat}{A:Option Addr}{k ln:Nat}{xs:List α}(hS:St W w1 (Own (tSl e U) [.slice A ln k] xs::B)) (hsk:skOf ops=sk∧ops.length=kk) (ii:Nat){m':Nat}{t e':Nat}{x ix:Operand}{i j:TI}{kd:IntKind}{m:Int}(h0:0≤m) (hlt:m.toNat<xs.length){d:Nat}(h:∀ q,(∃ g,A=some ⟨g,0,none⟩∧q=⟨g,m.toNat*U.size,none⟩)→DM P n ops Q W w0 wm fuel kk m' ((d,.pointer (some q))::F) w) (ht:TTok P T:=by exact ttok) (hmm:mm ||| 2 ^ ii=m':=by exact rfl) (hwi:wm.testBit ii=false:=by kernel_rfl) (hni:nthv ops ii=some o:=by exact rfl) (hf:freeM sk (2 ^ kk - 1) mm ii=true:=by kernel_rfl) (hg:guardOf ops F o=some true:=by exact rfl) (ho:o.op=.indexAddr t x ix:=by exact rfl) (hi:T.get t=some i:=by exact rfl) (hd:i.d=.slice e':=by exact rfl) (hj:T.get e'=some j:=by exact rfl) (hs:U.size=j.size:=by exact rfl) (hx:F.ev x=some (.slice A ln k):=by exact rfl) (hm:F.ev ix=some (.int kd m):=by exact rfl) (hd':o.dst=some d:=by exact rfl) (hn:Nat.blt d n=true:=by exact rfl):DM P n ops Q W w0 wm (fuel+1) kk mm F w:=DM.idxOwnN ht hS hsk ii _ hmm hwi hni hf hg ho hi hd hj hs hx hm h0 hlt hd' hn h

theorem me {kk mm:Nat}{α:Type}{U:Ty α}{B:List Res}{e:Nat}{A:Option Addr}{k ln:Nat}{xs:List α}{y:α}{es':List Value}(hS:St W w (Own (tSl e U) [.slice A ln k] xs::Own U es' y::B)) (hsk:skOf ops=sk∧ops.length=kk){ii:Nat}{m':Nat}{t:Nat}{x yv:Operand}{j:TI}{q:Addr}{m:Nat}(hlt:m<xs.length) (hq:∃ g,A=some ⟨g,0,none⟩∧q=⟨g,m*U.size,none⟩){v:Value}(h:∀ w',St W w' (Own (tSl e U) [.slice A ln k] (xs.set m y)::B)→DM P n ops Q W w0 wm fuel kk m' F w') (ht:TTok P T:=by exact ttok) (hm':mm ||| 2 ^ ii=m':=by exact rfl) (hwi:wm.testBit ii=true:=by kernel_rfl) (hni:nthv ops ii=some o:=by exact rfl) (hg:guardOf ops F o=some true:=by exact rfl) (ho:o.op=.store t x yv:=by exact rfl) (hd:o.dst=none:=by exact rfl) (hj:T.get t=some j:=by exact rfl) (hs:U.size=j.size:=by exact rfl) (hx:F.ev x=some (.pointer (some q)):=by exact rfl) (hy:F.ev yv=some v:=by exact rfl) (hc:cellsV v=es':=by exact rfl):LM P n ops Q W w0 wm fuel kk mm ii F w:=LM.storeElN ht hS hsk _ hm' hwi hni hg ho hd hj hs hx hlt hq hy hc h

theorem mh {kk mm:Nat}{α:Type}{U:Ty α}{e:Nat}{A:Option Addr}{k m ln:Nat}{xs:List α}{es es':List Value}{B:List Res}(hS:St W w (Hole U e (.slice A ln k) xs m es::B)){q:Addr}(hq:ElAt U A m q) (hsk:skOf ops=sk∧ops.length=kk){ii:Nat}{m':Nat}{t:Nat}{x y:Operand}{i:TI}{q':Addr}(off:Nat){v:Value}(h:∀ w',St W w' (Hole U e (.slice A ln k) xs m es'::B)→DM P n ops Q W w0 wm fuel kk m' F w') (ht:TTok P T:=by exact ttok) (hm':mm ||| 2 ^ ii=m':=by exact rfl) (hwi:wm.testBit ii=true:=by kernel_rfl) (hni:nthv ops ii=some o:=by exact rfl) (hg:guardOf ops F o=some true:=by exact rfl) (ho:o.op=.store t x y:=by exact rfl) (hd:o.dst=none:=by exact rfl) (hi:T.get t=some i:=by exact rfl) (hx:F.ev x=some (.pointer (some q')):=by exact rfl) (hq':q'=q.add off:=by exact rfl) (hy:F.ev y=some v:=by exact rfl) (hl:Nat.beq (cellsV v).length i.size=true:=by exact rfl) (h1:oneCells (cellsV v)=true:=by exact rfl) (hs:setAt es off (cellsV v)=some es':=by exact rfl):LM P n ops Q W w0 wm fuel kk mm ii F w:=LM.storeHoleN ht hS hq hsk _ hm' hwi hni hg ho hd hi hx off hq' hy hl h1 hs h

theorem kn  (i:Nat){v u:Value}(hg:F.get i=some v) (e:v=u) (h:RW P n ops Q rest ((i,u)::F) w) :RW P n ops Q rest F w:=RW.know i hg e h

theorem ra  {a:Tmp}{t:Nat}{q:Addr}{i:TI}{cs:List Value}(hat:At w q cs) (ht:TTok P T:=by exact ttok) (h:F.get a=some (.pointer (some q)):=by exact rfl) (hi:T.get t=some i:=by exact rfl) (hag:i.agg=true:=by exact rfl) (hl:Nat.beq cs.length i.size=true:=by exact rfl):ResIs P F w (.cell a t) (.agg ⟨cs⟩):=ResIs.agg ht h hi hag hat hl

theorem r1  {a:Tmp}{t:Nat}{q:Addr}(h:F.get a=some (.pointer (some q))){i:TI}{c:Value}(hat:At w q [c]) (ht:TTok P T:=by exact ttok) (hi:T.get t=some i:=by exact rfl) (hag:i.agg=false:=by exact rfl):ResIs P F w (.cell a t) c:=ResIs.one ht h hi hag hat

end Go.E


