/- The law's reading is the plain one: variables, the node's shape. Conditions: the net is valid. -/
import Derived.Test.YtngggnjnenfgbaaGreatDoorRdSpec
import Derived.Test.YtngggnjnenfgbaaGreatDoorLoops
namespace Go.E
open Go.RowKit Go.Proofs
set_option linter.unusedSimpArgs false
set_option linter.unusedVariables false


def binS (l:List D.Agent) (bs:BS):List D.l16Binder:=(bs.map fun b=>(⟨b.1,(rev b.2).take (levelAt l b.1)⟩:D.l16Binder)).reverse
theorem z76 {l:List D.Agent}{bs:BS}:(binS l bs).length=bs.length:=by simp [binS]
theorem zbD {l:List D.Agent}{b:Int × SS}{bs:BS}:binS l (b::bs)=binS l bs++[⟨b.1,(rev b.2).take (levelAt l b.1)⟩]:=by simp [binS]

theorem zbH {fuel:Nat}{w:D.l16Walk}{lam:Int}{a:D.Agent}{ss:SS}{bs:BS}(hf:18446744073709551616≤fuel) (ha:idx w.n.Agents lam=some a) (h0:0≤a.Level) (h8:a.Level≤8) (hs:ss.length=9) (hb:∀ b,b∈bs→SsOk 4000 b.2) (hl:bs.length≤1000):
    z1f fuel w lam (rev ss) (binS w.n.Agents bs)=some ((match varM w.n.Agents lam ss bs 0 with | some k=>k | none=>-1),w):=by
  have hlev:levelAt w.n.Agents lam=a.Level.toNat:=by unfold levelAt;rw [ha]

  have key:∀ (bs pre:BS) (k:Nat) (fu:Nat),(∀ b,b∈bs→SsOk 4000 b.2)→bs.length<fu→k+bs.length≤1000→pre.length=k→
      iter (zq fuel w lam (binS w.n.Agents (pre++bs)) ((rev ss).take a.Level.toNat)) fu ((bs.length:Int) - 1)=some (match varM w.n.Agents lam ss bs k with | some k'=>.inr (k',w) | none=>.inl ()):=by
    intro bs
    induction bs with
    | nil=>
      intro pre k fu _ hfu _ _
      obtain⟨fu,rfl⟩:∃ f',fu=f'+1:=⟨fu - 1,by simp at hfu;omega⟩
      have:zq fuel w lam (binS w.n.Agents (pre++[])) ((rev ss).take a.Level.toNat) ((([]:BS).length:Int) - 1)=some (.brk ()):=by
        unfold zq
        rw [if_neg (by simp)]
      simp only [iter,this]
      rfl
    | cons b bs ih=>
      intro pre k fu hb hfu hk hpk
      simp only [List.length_cons] at hfu hk
      obtain⟨fu,rfl⟩:∃ f',fu=f'+1:=⟨fu - 1,by omega⟩
      have hat:(binS w.n.Agents (pre++b::bs))[bs.length]? = some ⟨b.1,(rev b.2).take (levelAt w.n.Agents b.1)⟩:=by
        unfold binS
        rw [List.map_append,List.reverse_append,List.map_cons,List.reverse_cons,List.append_assoc]
        rw [List.getElem?_append_right (by simp)]
        simp
      have hlen:(binS w.n.Agents (pre++b::bs)).length=k+bs.length+1:=by rw [z76];simp;omega
      have hbody:zq fuel w lam (binS w.n.Agents (pre++b::bs)) ((rev ss).take a.Level.toNat) ((((b::bs).length:Nat):Int) - 1)=if b.1=lam∧ss.take a.Level.toNat=b.2.take a.Level.toNat then some (.ret ((k:Int),w)) else some (.next ((bs.length:Int) - 1)):=by
        have hi:(((b::bs).length:Nat):Int) - 1=(bs.length:Int):=by simp
        rw [hi]
        unfold zq
        rw [if_pos (decide_eq_true (by omega)),z21 hat,Option.bind_some]
        have j2:∀ t,zK fuel w (binS w.n.Agents (pre++b::bs)) (bs.length:Int) t=if t=true then some (.ret ((k:Int),w)) else some (.next ((bs.length:Int) - 1)):=fun t=>by
          unfold zK
          rw [hlen,z8 (n:=((k+bs.length+1:Nat):Int) - 1) (by omega) (by omega),z8 (n:=((k+bs.length+1:Nat):Int) - 1 - (bs.length:Int)) (by omega) (by omega),z8 (n:=(bs.length:Int) - 1) (by omega) (by omega)]
          rw [show((k+bs.length+1:Nat):Int) - 1 - (bs.length:Int)=(k:Int) by omega]
        by_cases h1:b.1=lam
        · rw [if_pos (by simpa using h1),Option.bind_some]
          have hb':=hb b (by simp)
          rw [z9q hf (by simp only [List.length_take,z7q,hb'.1,maxLen];omega) (fun s h=>by
            have h2:=List.mem_of_mem_take h
            unfold rev at h2
            obtain⟨u,h3,rfl⟩:=List.mem_map.1 h2
            have:=(hb'.2 u h3).1
            simp only [List.length_reverse,maxLen];omega),Option.bind_some,j2,h1,hlev]
          by_cases h2:ss.take a.Level.toNat=b.2.take a.Level.toNat
          · rw [if_pos (decide_eq_true (by rw [z71,z71,h2])),if_pos (show lam=lam∧_ from⟨rfl,h2⟩)]
          · rw [if_neg (show ¬ decide _=true from fun h=>h2 (by have:=of_decide_eq_true h;rw [z71,z71] at this;exact(zd0 this).symm)),if_neg (show ¬ (lam=lam∧_) from fun h=>h2 h.2)]
        · rw [if_neg (by simpa using h1),j2,if_neg (by simp),if_neg (fun h=>h1 h.1)]
      simp only [iter,hbody]
      unfold varM
      rw [hlev]
      by_cases h:b.1=lam∧ss.take a.Level.toNat=b.2.take a.Level.toNat
      · rw [if_pos h,if_pos h]
      · rw [if_neg h,if_neg h]
        dsimp only
        have:=ih (pre++[b]) (k+1) fu (fun b' hb'=>hb b' (by simp [hb'])) (by omega) (by omega) (by simp [hpk])
        rw [List.append_assoc] at this
        exact_mod_cast this
  unfold z1f
  rw [ha,Option.bind_some,z7Z (by rw [z7q];exact hs) h0 h8,Option.bind_some,z76,z8 (by omega) (by omega)]
  have:=key bs [] 0 fuel hb (by omega) (by omega) rfl
  rw [List.nil_append] at this
  rw [this,Option.bind_some]
  cases varM w.n.Agents lam ss bs 0<;>rfl


theorem zcP {fuel:Nat}{a:D.Agent}(hf:18446744073709551616≤fuel) (h1:1≤a.Ports.length) (h2:a.Ports.length≤4):iter (z23 fuel a) fuel (1,([]:List Int))=some (.inl (numsFrom (a.Ports.length - 1))):=by
  obtain⟨o,e1,e2⟩:=z1A (body:=z23 fuel a) (fun i s=>s.2=numsFrom i∧s.1=(i:Int)+1) (a.Ports.length - 1) (fun o=>o=.inl (numsFrom (a.Ports.length - 1))) (by
    rintro i ⟨j,s⟩ hi ⟨g1,g2⟩
    dsimp only at g1 g2
    subst g1;subst g2
    refine .inl ⟨(w64 ((i:Int)+1+1),numsFrom i++[(i:Int)+1]),?_,?_,?_⟩
    · unfold z23
      dsimp only
      rw [if_pos (decide_eq_true (by omega)),if_pos (decide_eq_true (by rw [z8n];simp;omega))]
    · unfold numsFrom;rw [List.range_succ,List.map_append];rfl
    · dsimp only;rw [z8 (by omega) (by omega)];omega) (by
    rintro⟨j,s⟩ ⟨g1,g2⟩
    dsimp only at g1 g2
    subst g1;subst g2
    refine .inr ⟨_,?_,rfl⟩
    unfold z23
    dsimp only
    rw [if_neg (by simp;omega)]) (fuel:=fuel) (i:=0) (s:=(1,[])) (Nat.zero_le _) (by omega) ⟨rfl,rfl⟩
  rw [e1,e2]


def planM (a:D.Agent) (sl:Int):Int × List Int:=
  if a.Kind=2 then(if sl=0 then(4,[2]) else if sl=1 then(1,[]) else(0,[]))
  else if a.Kind=3 then(if sl=2 then(5,[0,1]) else(0,[]))
  else if a.Kind=6 then(2,[])
  else if a.Kind=7 then(if sl=2 then(3,[0,1]) else(0,[]))
  else if a.Kind=8 then(if sl=1 then(3,[0]) else(0,[]))
  else if a.Kind=9 then(if sl=0 then(8,numsFrom (a.Ports.length - 1)) else(0,[]))
  else if a.Kind=10 then(if sl=1 then(9,[0]) else(0,[]))
  else if a.Kind=11 then(if sl=1 then(10,[0]) else(0,[]))
  else if a.Kind=12 then(11,[])
  else(0,[])
theorem z7s {fuel:Nat}{a:D.Agent}{sl:Int}(hf:18446744073709551616≤fuel) (hag:agN a=true):z40 fuel a sl=some (planM a sl):=by
  have hfa:=z4f hag
  have hpos:1≤a.Ports.length:=by
    unfold agN at hag
    rw [Bool.and_eq_true] at hag
    have:=of_decide_eq_true hag.1
    omega
  have hcon:=zcP (fuel:=fuel) (a:=a) hf hpos hfa.2.2.2.2.2.2.2.2.2.2
  unfold planM z40 z2O z2N z2M z2L z2K z2J z2H z2G
  rw [hcon]
  generalize hN:numsFrom (a.Ports.length - 1)=N
  unfold z4C
  by_cases k2:a.Kind=2
  · by_cases s0:sl=0<;>by_cases s1:sl=1<;>simp [k2,s0,s1]
  by_cases k3:a.Kind=3
  · by_cases s0:sl=2<;>simp [k3,s0]
  by_cases k6:a.Kind=6
  · simp [k6]
  by_cases k7:a.Kind=7
  · by_cases s0:sl=2<;>simp [k7,s0]
  by_cases k8:a.Kind=8
  · by_cases s0:sl=1<;>simp [k8,s0]
  by_cases k9:a.Kind=9
  · by_cases s0:sl=0<;>simp [k9,s0,aft]
  by_cases b:a.Kind=10
  · by_cases s0:sl=1<;>simp [b,s0]
  by_cases d:a.Kind=11
  · by_cases s0:sl=1<;>simp [d,s0]
  by_cases o:a.Kind=12
  · simp [o]
  simp [k2,k3,k6,k7,k8,k9,b,d,o]

def orNone {α β:Type}(o:Option α) (x:β) (f:α→β):β:=match o with
  | none=>x
  | some a=>f a
theorem z1H {α β:Type}{x:β}{f:α→β}:orNone none x f=x:=rfl
theorem z1r {α β:Type}{a:α}{x:β}{f:α→β}:orNone (some a) x f=f a:=rfl

theorem zd9 {fuel:Nat}{n:D.Net}{z:Z}{L:List ByteArray}{z0:Z}{a:D.Agent}{p:D.Port}{ss:SS}{bs:BS}{lab:ByteArray}{x4:Int}{recf:D.l16Walk→D.Port→(List (List Int))→(List D.l16Binder)→Int→Option (D.Core × D.l16Walk)}
    (hf:18446744073709551616≤fuel) (ha:idx n.Agents p.Agent=some a) (hag:agN a=true) (hs:ss.length=9) (hb:∀ b,b∈bs→SsOk 4000 b.2) (hl:bs.length≤1000) (ho:z.org=z0.org):
    zo fuel (imgS n z0 L) (binS n.Agents bs) x4 recf (rev ss,lab,p.Agent,p.Slot,(z.st:Int),z.ent)=
      orNone (shapeM n.Agents a p ss bs) (some ((⟨0,0,[],[]⟩:D.Core),⟨n,z.st,z.org.length,z.ent,z.org,L,13⟩))
      fun y=>zF fuel (imgS n z0 L) x4 recf (rev ss,lab,p.Agent,p.Slot,(z.st:Int),z.ent) a (y.1,y.2.2.2)
          (binS n.Agents (if y.1=4 then(p.Agent,ss)::bs else bs),y.2.1,y.2.2.1,(z.st:Int),(z.org.length:Int),0,z.ent,z.org,L):=by
  have hfa:=z4f hag
  have hlev:levelAt n.Agents p.Agent=a.Level.toNat:=by unfold levelAt;rw [ha]
  have hn0:(imgS n z0 L).n=n:=rfl
  have hI:(imgS n z0 L).code=0∧(imgS n z0 L).nodes=(z.org.length:Int)∧(imgS n z0 L).origins=z.org∧(imgS n z0 L).labels=L:=by rw [ho];exact⟨rfl,rfl,rfl,rfl⟩
  obtain⟨i1,i2,i3,i4⟩:=hI
  have nop:planM a p.Slot=(0,[])→zo fuel (imgS n z0 L) (binS n.Agents bs) x4 recf (rev ss,lab,p.Agent,p.Slot,(z.st:Int),z.ent)=some ((⟨0,0,[],[]⟩:D.Core),⟨n,z.st,z.org.length,z.ent,z.org,L,13⟩):=fun hp=>by
    unfold zo
    dsimp only
    rw [hn0,ha,Option.bind_some,z7s hf hag,Option.bind_some,hp]
    dsimp only
    rw [if_pos (by simp),i1,i2,i3,i4,z5H,Option.bind_some]
  have own:z2k fuel a.Data=some a.Data:=z8m (by have:=hfa.2.2.2.2.2.2.2.2.2.1;omega)
  have yes:∀ kd slots v d,planM a p.Slot=(kd,slots)→(kd=2∨kd=3∨kd=8∨kd=11)∧v=a.Value∧d=[]∨(kd=9∨kd=10)∧v=0∧d=a.Data∨(kd=4∨kd=5)∧v=0∧d=[]→zo fuel (imgS n z0 L) (binS n.Agents bs) x4 recf (rev ss,lab,p.Agent,p.Slot,(z.st:Int),z.ent)=
      zF fuel (imgS n z0 L) x4 recf (rev ss,lab,p.Agent,p.Slot,(z.st:Int),z.ent) a (kd,slots)
          (binS n.Agents (if kd=4 then(p.Agent,ss)::bs else bs),v,d,(z.st:Int),(z.org.length:Int),0,z.ent,z.org,L):=fun kd slots v d hp hk=>by
    unfold zo
    dsimp only
    rw [hn0,ha,Option.bind_some,z7s hf hag,Option.bind_some,hp]
    dsimp only
    rcases hk with⟨hk,rfl,rfl⟩ | ⟨hk,rfl,rfl⟩ | ⟨hk,rfl,rfl⟩
    · rw [if_neg (show ¬ kd=4 by omega)]
      rcases hk with rfl | rfl | rfl | rfl
      · rw [if_neg (by decide),if_neg (by decide),if_pos (by decide)]
        unfold zb
        rw [if_pos (by decide)]
        unfold za
        rw [i1,i2,i3,i4]
      · rw [if_neg (by decide),if_neg (by decide),if_neg (by decide),if_pos (by decide)]
        unfold zd zb
        rw [if_pos (by decide)]
        unfold za
        rw [i1,i2,i3,i4]
      · rw [if_neg (by decide),if_neg (by decide),if_neg (by decide),if_neg (by decide),if_pos (by decide)]
        unfold zj zd zb
        rw [if_pos (by decide)]
        unfold za
        rw [i1,i2,i3,i4]
      · rw [if_neg (by decide),if_neg (by decide),if_neg (by decide),if_neg (by decide),if_neg (by decide)]
        unfold zj zd zb
        rw [if_pos (by decide)]
        unfold za
        rw [i1,i2,i3,i4]
    · rw [if_neg (show ¬ kd=4 by omega)]
      rcases hk with rfl | rfl
      · rw [if_neg (by decide),if_neg (by decide),if_neg (by decide),if_neg (by decide),if_neg (by decide)]
        unfold zj zd zb
        dsimp only
        rw [if_neg (by decide),if_pos (by decide)]
        unfold zE
        rw [if_pos (by decide),own,Option.bind_some]
        unfold zD za
        rw [i1,i2,i3,i4]
      · rw [if_neg (by decide),if_neg (by decide),if_neg (by decide),if_neg (by decide),if_neg (by decide)]
        unfold zj zd zb
        dsimp only
        rw [if_neg (by decide),if_neg (by decide)]
        unfold zE
        rw [if_pos (by decide),own,Option.bind_some]
        unfold zD za
        rw [i1,i2,i3,i4]
    · rcases hk with rfl | rfl
      · have hlow:=z7Z (fuel:=fuel) (xs:=rev ss) (i:=a.Level) (by rw [z7q];exact hs) hfa.1 hfa.2.1
        have hc1:(binS n.Agents bs).length≤4294967296:=by rw [z76];omega
        have hc2:((binS n.Agents bs).length:Int)+1≤4294967296:=by rw [z76];omega
        rw [if_pos rfl,zbD,hlev]
        rw [if_neg (by decide),if_neg (by decide),if_neg (by decide),if_neg (by decide),if_neg (by decide)]
        unfold zj zd zb zE
        dsimp only
        rw [if_neg (by decide),if_neg (by decide),if_neg (by decide),if_pos (by decide),if_pos (decide_eq_true (by simp only [List.length_nil];omega)),hlow,Option.bind_some,List.nil_append,if_pos (decide_eq_true (by simp only [List.length_cons,List.length_nil];omega))]
        unfold z1X zZ zD za
        rw [i1,i2,i3,i4]
      · rw [if_neg (show ¬ (5:Int)=4 by omega)]
        rw [if_neg (by decide),if_neg (by decide),if_neg (by decide),if_neg (by decide),if_neg (by decide)]
        unfold zj zd zb
        dsimp only
        rw [if_neg (by decide),if_neg (by decide)]
        unfold zE
        dsimp only
        rw [if_neg (by decide),if_neg (by decide)]
        unfold zZ zD za
        rw [i1,i2,i3,i4]
  have vark:planM a p.Slot=(1,[])→zo fuel (imgS n z0 L) (binS n.Agents bs) x4 recf (rev ss,lab,p.Agent,p.Slot,(z.st:Int),z.ent)=
      orNone (varM n.Agents p.Agent ss bs 0) (some ((⟨0,0,[],[]⟩:D.Core),⟨n,z.st,z.org.length,z.ent,z.org,L,13⟩))
      fun k=>zF fuel (imgS n z0 L) x4 recf (rev ss,lab,p.Agent,p.Slot,(z.st:Int),z.ent) a (1,[])
          (binS n.Agents bs,k,[],(z.st:Int),(z.org.length:Int),0,z.ent,z.org,L):=fun hp=>by
    unfold zo
    dsimp only
    rw [hn0,ha,Option.bind_some,z7s hf hag,Option.bind_some,hp]
    dsimp only
    rw [if_neg (by simp),if_pos (by simp),i1,i2,i3,i4]
    have hv:=zbH (fuel:=fuel) (w:=⟨n,z.st,z.org.length,z.ent,z.org,L,0⟩) (lam:=p.Agent) (ss:=ss) (bs:=bs) hf ha hfa.1 hfa.2.1 hs hb hl
    rw [hv,Option.bind_some]
    cases hvar:varM n.Agents p.Agent ss bs 0 with
    | none=>
      dsimp only
      rw [if_pos (by simp),z5H,Option.bind_some,z1H]
    | some k=>
      dsimp only
      rw [if_neg (by have:=z6w hvar;simp;omega),z1r]
  unfold shapeM
  unfold planM at nop yes vark
  by_cases k2:a.Kind=2
  · rw [if_pos k2] at nop yes vark ⊢
    by_cases s0:p.Slot=0
    · rw [if_pos s0] at yes ⊢
      rw [z1r]
      exact yes _ _ _ _ rfl (by simp)
    rw [if_neg s0] at nop vark ⊢
    by_cases s1:p.Slot=1
    · rw [if_pos s1] at vark ⊢
      rw [vark rfl]
      cases varM n.Agents p.Agent ss bs 0 with
      | none=>rw [Option.map_none,z1H,z1H]
      | some k=>rw [Option.map_some,z1r,z1r,if_neg (show ¬ (1:Int)=4 by omega)]
    rw [if_neg s1] at nop ⊢
    rw [z1H]
    exact nop rfl
  rw [if_neg k2] at nop yes ⊢
  by_cases k3:a.Kind=3
  · rw [if_pos k3] at nop yes ⊢
    by_cases s0:p.Slot=2
    · rw [if_pos s0] at yes ⊢
      rw [z1r]
      exact yes _ _ _ _ rfl (by simp)
    · rw [if_neg s0] at nop ⊢
      rw [z1H]
      exact nop rfl
  rw [if_neg k3] at nop yes ⊢
  by_cases k6:a.Kind=6
  · rw [if_pos k6] at yes ⊢
    rw [z1r]
    exact yes _ _ _ _ rfl (by simp)
  rw [if_neg k6] at nop yes ⊢
  by_cases k7:a.Kind=7
  · rw [if_pos k7] at nop yes ⊢
    by_cases s0:p.Slot=2
    · rw [if_pos s0] at yes ⊢
      rw [z1r]
      exact yes _ _ _ _ rfl (by simp)
    · rw [if_neg s0] at nop ⊢
      rw [z1H]
      exact nop rfl
  rw [if_neg k7] at nop yes ⊢
  by_cases k8:a.Kind=8
  · rw [if_pos k8] at nop yes ⊢
    by_cases s0:p.Slot=1
    · rw [if_pos s0] at yes ⊢
      rw [z1r]
      exact yes _ _ _ _ rfl (by simp)
    · rw [if_neg s0] at nop ⊢
      rw [z1H]
      exact nop rfl
  rw [if_neg k8] at nop yes ⊢
  by_cases k9:a.Kind=9
  · rw [if_pos k9] at nop yes ⊢
    by_cases s0:p.Slot=0
    · rw [if_pos s0] at yes ⊢
      rw [z1r]
      exact yes _ _ _ _ rfl (by simp)
    · rw [if_neg s0] at nop ⊢
      rw [z1H]
      exact nop rfl
  rw [if_neg k9] at nop yes ⊢
  by_cases o:a.Kind=10
  · rw [if_pos o] at nop yes ⊢
    by_cases s0:p.Slot=1
    · rw [if_pos s0] at yes ⊢
      rw [z1r]
      exact yes _ _ _ _ rfl (by simp)
    · rw [if_neg s0] at nop ⊢
      rw [z1H]
      exact nop rfl
  rw [if_neg o] at nop yes ⊢
  by_cases G:a.Kind=11
  · rw [if_pos G] at nop yes ⊢
    by_cases s0:p.Slot=1
    · rw [if_pos s0] at yes ⊢
      rw [z1r]
      exact yes _ _ _ _ rfl (by simp)
    · rw [if_neg s0] at nop ⊢
      rw [z1H]
      exact nop rfl
  rw [if_neg G] at nop yes ⊢
  by_cases H:a.Kind=12
  · rw [if_pos H] at yes ⊢
    rw [z1r]
    exact yes _ _ _ _ rfl (by simp)
  rw [if_neg H] at nop ⊢
  rw [z1H]
  exact nop rfl
end Go.E


namespace Go.E
open Go.RowKit Go.Proofs
set_option linter.unusedSimpArgs false
set_option linter.unusedVariables false


def OutS (n:D.Net) (st:Nat) (o:Option (D.Core × D.l16Walk)):Int ⊕ (D.Core × Z)→Prop
  | .inl c=>c≠0∧∃ co w',o=some (co,w')∧w'.code=c
  | .inr (co,z')=>ZOk n.Agents z'∧st≤z'.st∧∃ L':List ByteArray,L'.length=z'.org.length∧o=some (co,imgS n z' L')

def DeadS (f:D.l16Walk→D.Port→SS→List D.l16Binder→Int→Option (D.Core × D.l16Walk)):Prop:=
  ∀ w p ss bs d,w.code≠0→f w p ss bs d=some ((⟨0,0,[],[]⟩:D.Core),w)

theorem zdj {fuel:Nat}{n:D.Net}{z0:Z}{L0:List ByteArray}{x4:Int}{recf:D.l16Walk→D.Port→SS→List D.l16Binder→Int→Option (D.Core × D.l16Walk)}{s1:SS}{t:ByteArray × Int × Int × Int × (List Int)}{a:D.Agent}{kd:Int}{slots:List Int}{bsS:List D.l16Binder}{t2:Int × (List Int) × Int × Int × Int × (List Int) × (List Int) × (List ByteArray)}
    {i st no code:Int}{cs:List D.Core}{en og:List Int}{la:List ByteArray}{s:Int}{q:D.Port}{co:D.Core}{w':D.l16Walk}
    (hi:i<slots.length) (hat:idx slots i=some s) (hq:idx a.Ports s=some q) (hr:recf ⟨n,st,no,en,og,la,code⟩ q s1 bsS (w64 (x4+1))=some (co,w')) (hc:cs.length≤10):
    zg fuel (imgS n z0 L0) x4 recf (s1,t) a (kd,slots) (bsS,t2) (i,cs,st,no,code,en,og,la)=some (.next (w64 (i+1),cs++[co],w'.steps,w'.nodes,w'.code,w'.entered,w'.origins,w'.labels)):=by
  have hn0:(imgS n z0 L0).n=n:=rfl
  unfold zg
  rw [if_pos (decide_eq_true hi),hat,Option.bind_some,hq,Option.bind_some,hn0,hr,Option.bind_some,if_pos (decide_eq_true (by simp only [List.length_cons,List.length_nil];omega))]
  unfold z2g
  rfl
theorem zcX {fuel:Nat}{x0:D.l16Walk}{x4:Int}{recf:D.l16Walk→D.Port→SS→List D.l16Binder→Int→Option (D.Core × D.l16Walk)}{d:(List (List Int)) × ByteArray × Int × Int × Int × (List Int)}{a:D.Agent}{kd:Int}{slots:List Int}{b:(List D.l16Binder) × Int × (List Int) × Int × Int × Int × (List Int) × (List Int) × (List ByteArray)}
    {i st no code:Int}{cs:List D.Core}{en og:List Int}{la:List ByteArray}(hi:¬ i<slots.length):
    zg fuel x0 x4 recf d a (kd,slots) b (i,cs,st,no,code,en,og,la)=some (.brk (cs,st,no,code,en,og,la)):=by
  unfold zg
  rw [if_neg (by simpa using hi)]

theorem zbb {fuel:Nat}{n:D.Net}{z0:Z}{L0:List ByteArray}{x4:Int}{recf:D.l16Walk→D.Port→SS→List D.l16Binder→Int→Option (D.Core × D.l16Walk)}{s1:SS}{t:ByteArray × Int × Int × Int × (List Int)}{a:D.Agent}{kd:Int}{slots:List Int}{bsS:List D.l16Binder}{t2:Int × (List Int) × Int × Int × Int × (List Int) × (List Int) × (List ByteArray)}
    (hd:DeadS recf) (hsl:slots.length≤3){st no code:Int}{en og:List Int}{la:List ByteArray}(hc:code≠0):
    ∀ (rest pre:List Int) (cs:List D.Core) (fu:Nat),slots=pre++rest→(∀ s,s∈rest→0≤s∧s<a.Ports.length)→cs.length+rest.length≤10→rest.length<fu→
      ∃ cs',iter (zg fuel (imgS n z0 L0) x4 recf (s1,t) a (kd,slots) (bsS,t2)) fu ((pre.length:Int),cs,st,no,code,en,og,la)=some (.inl (cs',st,no,code,en,og,la)):=by
  intro rest
  induction rest with
  | nil=>
    intro pre cs fu he _ _ hfu
    obtain⟨fu,rfl⟩:∃ f',fu=f'+1:=⟨fu - 1,by simp at hfu;omega⟩
    refine⟨cs,?_⟩
    simp only [iter]
    rw [zcX (by rw [he];simp)]
  | cons s rest ih=>
    intro pre cs fu he hs hl hfu
    simp only [List.length_cons] at hfu hl
    obtain⟨fu,rfl⟩:∃ f',fu=f'+1:=⟨fu - 1,by omega⟩
    obtain⟨g0,g1⟩:=hs s (by simp)
    obtain⟨q,hq⟩:=z3p (xs:=a.Ports) (i:=s.toNat) (by omega)
    have hqi:idx a.Ports s=some q:=by rw [z3O g0,hq]
    have hat:idx slots (pre.length:Int)=some s:=by rw [z3O (by omega),he];simp
    have hlen:pre.length<slots.length:=by rw [he];simp
    have hb:=zdj (fuel:=fuel) (n:=n) (z0:=z0) (L0:=L0) (x4:=x4) (s1:=s1) (t:=t) (kd:=kd) (bsS:=bsS) (t2:=t2) (i:=(pre.length:Int)) (cs:=cs) (by omega) hat hqi (hd ⟨n,st,no,en,og,la,code⟩ q s1 bsS (w64 (x4+1)) hc) (by omega)
    rw [z8 (by omega) (by omega)] at hb
    obtain⟨cs',h⟩:=ih (pre++[s]) (cs++[⟨0,0,[],[]⟩]) fu (by rw [he];simp) (fun s' h'=>hs s' (by simp [h'])) (by simp;omega) (by omega)
    have hc1:(((pre++[s]).length:Nat):Int)=(pre.length:Int)+1:=by simp
    rw [hc1] at h
    refine⟨cs',?_⟩
    simp only [iter,hb]
    exact h

theorem zb9 {fuel:Nat}{n:D.Net}(hn:netN n=true){a:D.Agent}{s1:SS}{bs1:BS}{M:Z→D.Port→Int ⊕ (D.Core × Z)}{recf:D.l16Walk→D.Port→SS→List D.l16Binder→Int→Option (D.Core × D.l16Walk)}{z0:Z}{L0:List ByteArray}{x4:Int}{st0:Nat}{pa:Int}(ha:idx n.Agents pa=some a)
    {t:ByteArray × Int × Int × Int × (List Int)}{kd:Int}{slots:List Int}{t2:Int × (List Int) × Int × Int × Int × (List Int) × (List Int) × (List ByteArray)}
    (hd:DeadS recf) (hsl:slots.length≤3)
    (hrec:∀ z q L,hasN n.Agents q=true→st0≤z.st→ZOk n.Agents z→L.length=z.org.length→OutS n z.st (recf (imgS n z L) q (rev s1) (binS n.Agents bs1) (w64 (x4+1))) (M z q)):
    ∀ (rest pre:List Int) (z:Z) (L:List ByteArray) (cs:List D.Core) (fu:Nat),slots=pre++rest→(∀ s,s∈rest→0≤s∧s<a.Ports.length)→st0≤z.st→ZOk n.Agents z→L.length=z.org.length→cs.length+rest.length≤10→rest.length<fu→
      match kidsM M a rest z cs with
      | .inl c=>c≠0∧∃ cs' st no en og la,iter (zg fuel (imgS n z0 L0) x4 recf (rev s1,t) a (kd,slots) (binS n.Agents bs1,t2)) fu ((pre.length:Int),cs,(z.st:Int),(z.org.length:Int),0,z.ent,z.org,L)=some (.inl (cs',st,no,c,en,og,la))
      | .inr (cs',z')=>ZOk n.Agents z'∧z.st≤z'.st∧∃ L':List ByteArray,L'.length=z'.org.length∧iter (zg fuel (imgS n z0 L0) x4 recf (rev s1,t) a (kd,slots) (binS n.Agents bs1,t2)) fu ((pre.length:Int),cs,(z.st:Int),(z.org.length:Int),0,z.ent,z.org,L)=some (.inl (cs',(z'.st:Int),(z'.org.length:Int),0,z'.ent,z'.org,L')):=by
  intro rest
  induction rest with
  | nil=>
    intro pre z L cs fu he _ hst hz hL hc hfu
    obtain⟨fu,rfl⟩:∃ f',fu=f'+1:=⟨fu - 1,by simp at hfu;omega⟩
    refine⟨hz,Nat.le_refl _,L,hL,?_⟩
    simp only [iter]
    rw [zcX (by rw [he];simp)]
  | cons s rest ih=>
    intro pre z L cs fu he hs hst hz hL hc hfu
    simp only [List.length_cons] at hfu hc
    obtain⟨fu,rfl⟩:∃ f',fu=f'+1:=⟨fu - 1,by omega⟩
    obtain⟨g0,g1⟩:=hs s (by simp)
    obtain⟨q,hq⟩:=z3p (xs:=a.Ports) (i:=s.toNat) (by omega)
    have hqi:idx a.Ports s=some q:=by rw [z3O g0,hq]
    have hat:idx slots (pre.length:Int)=some s:=by rw [z3O (by omega),he];simp
    have hlen:pre.length<slots.length:=by rw [he];simp
    have hR:=hrec z q L (z6A hn ha hqi) hst hz hL
    have hc1:(((pre++[s]).length:Nat):Int)=(pre.length:Int)+1:=by simp
    have hw1:w64 ((pre.length:Int)+1)=(pre.length:Int)+1:=z8 (by omega) (by omega)
    have hb:=fun co w' (hr:recf (imgS n z L) q (rev s1) (binS n.Agents bs1) (w64 (x4+1))=some (co,w'))=>zdj (fuel:=fuel) (n:=n) (z0:=z0) (L0:=L0) (x4:=x4) (s1:=rev s1) (t:=t) (kd:=kd) (bsS:=binS n.Agents bs1) (t2:=t2) (i:=(pre.length:Int)) (cs:=cs) (by omega) hat hqi hr (by omega)
    rw [hw1] at hb
    unfold kidsM
    rw [hqi]
    dsimp only
    cases hM:M z q with
    | inl c=>
      rw [hM] at hR
      obtain⟨c0',co,w',e,e2⟩:=hR
      have b:=hb co w' e
      rw [e2] at b
      obtain⟨cs',h⟩:=zbb (fuel:=fuel) (n:=n) (z0:=z0) (L0:=L0) (x4:=x4) (s1:=rev s1) (t:=t) (a:=a) (kd:=kd) (slots:=slots) (bsS:=binS n.Agents bs1) (t2:=t2) hd hsl (st:=w'.steps) (no:=w'.nodes) (en:=w'.entered) (og:=w'.origins) (la:=w'.labels) c0' rest (pre++[s]) (cs++[co]) fu (by rw [he];simp) (fun s' h'=>hs s' (by simp [h'])) (by simp;omega) (by omega)
      rw [hc1] at h
      refine⟨c0',cs',w'.steps,w'.nodes,w'.entered,w'.origins,w'.labels,?_⟩
      simp only [iter,b]
      exact h
    | inr x=>
      obtain⟨co,z'⟩:=x
      rw [hM] at hR
      obtain⟨hz',hle,L',hL',e⟩:=hR
      have b:=hb co _ e
      have hp1:(imgS n z' L').steps=(z'.st:Int):=rfl
      have hp2:(imgS n z' L').nodes=(z'.org.length:Int):=rfl
      have hp3:(imgS n z' L').code=0:=rfl
      have hp4:(imgS n z' L').entered=z'.ent:=rfl
      have hp5:(imgS n z' L').origins=z'.org:=rfl
      have hp6:(imgS n z' L').labels=L':=rfl
      rw [hp1,hp2,hp3,hp4,hp5,hp6] at b
      simp only [iter,b]
      have:=ih (pre++[s]) z' L' (cs++[co]) fu (by rw [he];simp) (fun s' h'=>hs s' (by simp [h'])) (by omega) hz' hL' (by simp;omega) (by omega)
      rw [hc1] at this
      cases hk:kidsM M a rest z' (cs++[co]) with
      | inl c=>
        rw [hk] at this
        exact this
      | inr y=>
        obtain⟨cs',z''⟩:=y
        rw [hk] at this
        obtain⟨h1,h2,L'',h3,h4⟩:=this
        exact⟨h1,by omega,L'',h3,h4⟩

theorem z90 {fuel:Nat}{n:D.Net}{z:Z}{L:List ByteArray}{ag dep:Int}{lab:ByteArray}(ho:z.org.length≤400) (hL:L.length≤400):
    z1s fuel ⟨n,z.st,z.org.length,z.ent,z.org,L,0⟩ ag dep lab=some (decide (z.org.length<400∧dep≤80),imgS n ⟨z.st,z.ent,z.org++[ag]⟩ (L++[lab])):=by
  have hnode:w64 ((z.org.length:Int)+1)=(((z.org++[ag]).length:Nat):Int):=by rw [z8 (by omega) (by omega)];simp
  have hlen:(z.org++[ag]).length=z.org.length+1:=by simp
  unfold z1s imgS
  dsimp only
  rw [if_pos (decide_eq_true (by simp only [List.length_cons,List.length_nil];omega)),if_pos (decide_eq_true (by simp only [List.length_cons,List.length_nil];omega)),hnode,hlen]
  by_cases h:z.org.length<400
  · rw [if_pos (decide_eq_true (by omega))]
    have:decide (z.org.length<400∧dep≤80)=decide (dep≤80):=by simp [h]
    rw [this]
  · rw [if_neg (by simp;omega)]
    have:decide (z.org.length<400∧dep≤80)=false:=by simp [h]
    rw [this]
end Go.E


namespace Go.E
open Go.RowKit Go.Proofs
set_option linter.unusedSimpArgs false
set_option linter.unusedVariables false


def GoodS (n:D.Net) (k:Nat) (M:SS→BS→Z→D.Port→Int ⊕ (D.Core × Z)) (f:D.l16Walk→D.Port→SS→List D.l16Binder→Int→Option (D.Core × D.l16Walk)):Prop:=
  ∀ ss bs z p L,hasN n.Agents p=true→SsOk z.st ss→BsOk n.Agents bs→bs.length+k≤81→ZOk n.Agents z→L.length=z.org.length→OutS n z.st (f (imgS n z L) p (rev ss) (binS n.Agents bs) (81 - (k:Int))) (M ss bs z p)

theorem zbx {fuel:Nat}{recf:D.l16Walk→D.Port→SS→List D.l16Binder→Int→Option (D.Core × D.l16Walk)}(hf:18446744073709551616≤fuel):DeadS (zJ fuel recf):=by
  intro w p ss bs d hc
  unfold zJ
  obtain⟨fu,hfu⟩:∃ fu,fuel=fu+1:=⟨fuel - 1,by omega⟩
  have hb:z7 fuel w (ss,(⟨#[]⟩:ByteArray),p.Agent,p.Slot,w.steps,w.entered)=some (.ret ((⟨0,0,[],[]⟩:D.Core),w)):=by
    unfold z7
    rw [if_pos (by simpa using hc)]
  have hi:iter (z7 fuel w) fuel (ss,(⟨#[]⟩:ByteArray),p.Agent,p.Slot,w.steps,w.entered)=some (.inr ((⟨0,0,[],[]⟩:D.Core),w)):=by
    generalize z7 fuel w=b at hb ⊢
    subst hfu
    simp only [iter,hb]
  rw [hi,Option.bind_some]
  rfl

theorem z8M {fuel:Nat}{n:D.Net}(hn:netN n=true) (hf:18446744073709551616≤fuel){k:Nat}{M:SS→BS→Z→D.Port→Int ⊕ (D.Core × Z)}{recf:D.l16Walk→D.Port→SS→List D.l16Binder→Int→Option (D.Core × D.l16Walk)}
    (hk:k≤81) (hrec:k=0∨GoodS n (k - 1) M recf∧DeadS recf):GoodS n k (stepM n.Agents k M) (zJ fuel recf):=by
  rintro ss bs z p L hp hs hbs hbl hz hL
  have hlen:=z7U hn
  unfold stepM zJ
  have hW:=zaF (fuel:=fuel) hn hf (z0:=z) (L:=L) (4000 - z.st) z p ss (⟨#[]⟩:ByteArray) fuel (by have:=hz.st;omega) hp hs hz.len (Nat.zero_le _) (by omega)
  have hO:=z9m hn (4000 - z.st) z p ss (by have:=hz.st;omega) hp hs hz.ent
  have hLn:=@z6X n.Agents (4000 - z.st) z p ss hz.len
  have a0:(imgS n z L).steps=(z.st:Int):=rfl
  have hs1':(imgS n z L).entered=z.ent:=rfl
  rw [a0,hs1']
  cases hw:walkM n.Agents (4000 - z.st) z p ss with
  | inl c=>
    rw [hw] at hW hO
    obtain⟨co,w',e,e2⟩:=hW
    rw [e,Option.bind_some]
    exact⟨by rcases hO with h | h<;>omega,co,w',rfl,e2⟩
  | inr x=>
    obtain⟨z1,p1,s1⟩:=x
    rw [hw] at hW hO
    obtain⟨lab,hlab,e⟩:=hW
    obtain⟨hp1,H,hst1,hlt1,he1,G,a,ha,h4⟩:=hO
    have hz1:ZOk n.Agents z1:=⟨hst1,hLn hw,he1,by rw [G];exact hz.org⟩
    have hL1:L.length=z1.org.length:=by rw [G];exact hL
    rw [e,Option.bind_some,zx]
    clear e
    have hag:=z4X hn ha
    have hfa:=z4f hag
    have hSh:=zd9 (fuel:=fuel) (n:=n) (z:=z1) (L:=L) (z0:=z) (lab:=lab) (x4:=81 - (k:Int)) (recf:=recf) hf ha hag H.1 (fun b hb=>(hbs b hb).1) (show bs.length≤1000 by omega) G
    rw [hSh]
    clear hSh
    dsimp only
    rw [ha]
    dsimp only
    cases hsh:shapeM n.Agents a p1 s1 bs with
    | none=>
      rw [z1H]
      exact⟨by decide,_,_,rfl,rfl⟩
    | some y=>
      obtain⟨kd,v,d,slots⟩:=y
      rw [z1r]
      obtain⟨q1,q2,q3,q4,q5,q6,q7⟩:=z7k hag hsh
      have hn0:(imgS n z L).n=n:=rfl

      have fin:∀ (bs1:BS) (rest2:Int × (List Int) × Int × Int × Int × (List Int) × (List Int) × (List ByteArray)) (z2:Z) (L2:List ByteArray) (cs:List D.Core),k≠0→rest2.1=v→rest2.2.1=d→BsOk n.Agents bs1→bs1.length≤bs.length+1→z1.st≤z2.st→ZOk n.Agents z2→L2.length=z2.org.length→cs.length≤5→
          OutS n z.st (z19 fuel (imgS n z L) (81 - (k:Int)) recf (rev s1,lab,p1.Agent,p1.Slot,(z1.st:Int),z1.ent) a (kd,slots) (binS n.Agents bs1,rest2) ((z2.st:Int),(z2.org.length:Int),0,z2.ent,z2.org,L2,cs))
            (match kidsM (M s1 bs1) a slots z2 cs with
            | .inl c=>.inl c
            | .inr (cs,z2)=>.inr (⟨kd,v,d,cs⟩,z2)):=fun bs1 rest2 z2 L2 cs o hv hd Y hb1l O hz2 hL2 hcs=>by
        obtain⟨hgood,hdead⟩:=hrec.resolve_left o
        have hdep:w64 (81 - (k:Int)+1)=81 - ((k - 1:Nat):Int):=by
          rw [z8 (by omega) (by omega)]
          have:((k - 1:Nat):Int)=(k:Int) - 1:=by omega
          omega
        have:=zb9 (fuel:=fuel) hn (st0:=z1.st) (s1:=s1) (bs1:=bs1) (M:=M s1 bs1) (recf:=recf) (z0:=z) (L0:=L) (x4:=81 - (k:Int)) ha (t:=(lab,p1.Agent,p1.Slot,(z1.st:Int),z1.ent)) (kd:=kd) (t2:=rest2) hdead q1 (fun z' q L' h1 h2 h3 h4'=>by
            rw [hdep]
            exact hgood s1 bs1 z' q L' h1 (H.mono h2) Y (by omega) h3 h4') slots [] z2 L2 cs fuel rfl q2 O hz2 hL2 (by omega) (by omega)
        unfold z19
        cases hkk:kidsM (M s1 bs1) a slots z2 cs with
        | inl c=>
          rw [hkk] at this
          obtain⟨h1,cs',st,no,en,og,la,h2⟩:=this
          have h2':iter (zg fuel (imgS n z L) (81 - (k:Int)) recf (rev s1,lab,p1.Agent,p1.Slot,(z1.st:Int),z1.ent) a (kd,slots) (binS n.Agents bs1,rest2)) fuel ((0:Int),cs,(z2.st:Int),(z2.org.length:Int),0,z2.ent,z2.org,L2)=_:=h2
          dsimp only
          rw [h2',Option.bind_some,zx]
          unfold z2h
          exact⟨h1,_,_,rfl,rfl⟩
        | inr y=>
          obtain⟨cs',z'⟩:=y
          rw [hkk] at this
          obtain⟨h1,h2,L',h3,h4'⟩:=this
          have h2':iter (zg fuel (imgS n z L) (81 - (k:Int)) recf (rev s1,lab,p1.Agent,p1.Slot,(z1.st:Int),z1.ent) a (kd,slots) (binS n.Agents bs1,rest2)) fuel ((0:Int),cs,(z2.st:Int),(z2.org.length:Int),0,z2.ent,z2.org,L2)=_:=h4'
          dsimp only
          rw [h2',Option.bind_some,zx]
          unfold z2h
          dsimp only
          rw [hn0,hv,hd]
          exact⟨h1,by omega,L',h3,rfl⟩
      unfold zF
      dsimp only
      rw [hn0,z90 hz1.org (by rw [hL1];exact hz1.org),Option.bind_some]
      by_cases hfull:z1.org.length≥400∨k=0
      · rw [if_pos hfull,decide_eq_false (by rintro⟨h1,h2⟩;rcases hfull with h | h<;>omega),if_pos (by simp)]
        unfold imgS
        dsimp only
        rw [z5H,Option.bind_some]
        exact⟨by decide,_,_,rfl,rfl⟩
      · have hnf:=not_or.1 hfull
        have o:=hnf.2
        rw [if_neg hfull,decide_eq_true (by omega),if_neg (by simp)]
        have hz2:ZOk n.Agents ⟨z1.st,z1.ent,z1.org++[p1.Agent]⟩:=⟨hz1.st,hz1.len,hz1.ent,by simp;omega⟩
        by_cases h8:a.Kind=8
        · have hkd:kd≠4:=(q4 h8).1
          rw [if_pos h8,if_pos (show(a.Kind == 8)=true by simpa using h8),if_neg (show ¬ kd=4 from hkd)]
          obtain⟨_,_,_,_,g3,_,_,_,g7,_⟩:=z65 hp1
          have hpa:=(z65 hp1).1
          obtain⟨t,t1,t2⟩:=z8y (fuel:=fuel) (x:=p1.Agent) hf (by omega) (by omega)
          have d1:(⟨#[46,120,59]⟩:ByteArray).size=3:=rfl
          have hdep:w64 (81 - (k:Int)+1)=82 - (k:Int):=by rw [z8 (by omega) (by omega)];omega
          rw [t1,Option.bind_some,if_pos (decide_eq_true (by rw [d1];omega))]
          have hI2:(⟨n,(imgS n ⟨z1.st,z1.ent,z1.org++[p1.Agent]⟩ (L++[lab])).steps,(imgS n ⟨z1.st,z1.ent,z1.org++[p1.Agent]⟩ (L++[lab])).nodes,(imgS n ⟨z1.st,z1.ent,z1.org++[p1.Agent]⟩ (L++[lab])).entered,(imgS n ⟨z1.st,z1.ent,z1.org++[p1.Agent]⟩ (L++[lab])).origins,(imgS n ⟨z1.st,z1.ent,z1.org++[p1.Agent]⟩ (L++[lab])).labels,(imgS n ⟨z1.st,z1.ent,z1.org++[p1.Agent]⟩ (L++[lab])).code⟩:D.l16Walk)=⟨n,(Z.mk z1.st z1.ent (z1.org++[p1.Agent])).st,((Z.mk z1.st z1.ent (z1.org++[p1.Agent])).org.length:Int),(Z.mk z1.st z1.ent (z1.org++[p1.Agent])).ent,(Z.mk z1.st z1.ent (z1.org++[p1.Agent])).org,L++[lab],0⟩:=rfl
          rw [hI2,z90 hz2.org (by have:=hz2.org;simp at this ⊢;omega),Option.bind_some,hdep]
          have hlen2:(Z.mk z1.st z1.ent (z1.org++[p1.Agent])).org.length=z1.org.length+1:=by simp
          rw [hlen2]
          by_cases hfull2:z1.org.length≥399∨k≤1
          · rw [if_pos hfull2,decide_eq_false (by rintro⟨h1,h2⟩;rcases hfull2 with h | h<;>omega),if_pos (by simp)]
            unfold imgS
            dsimp only
            rw [z5H,Option.bind_some]
            exact⟨by decide,_,_,rfl,rfl⟩
          · have hn2:=not_or.1 hfull2
            rw [if_neg hfull2,decide_eq_true (by omega),if_neg (by simp)]
            obtain⟨x,hx⟩:=z3p (xs:=a.Data) (i:=0) (by have:=(q4 h8).2;omega)
            have hxi:idx a.Data 0=some x:=by rw [z3O (by omega)];exact hx
            rw [hxi,Option.bind_some]
            unfold z5M
            rw [Option.bind_some,if_pos (decide_eq_true (by simp))]
            dsimp only
            exact fin bs _ ⟨z1.st,z1.ent,z1.org++[p1.Agent]++[-1]⟩ (L++[lab]++[t++⟨#[46,120,59]⟩]) [⟨2,x,[],[]⟩] o rfl rfl hbs (by omega) (Nat.le_refl _) ⟨hz1.st,hz1.len,hz1.ent,by simp;omega⟩ (by simp [hL1]) (by simp)
        · rw [if_neg h8,if_neg (show ¬ (a.Kind == 8)=true by simpa using h8)]
          refine fin (if kd=4 then(p1.Agent,s1)::bs else bs) _ ⟨z1.st,z1.ent,z1.org++[p1.Agent]⟩ (L++[lab]) [] o rfl rfl (fun b hb=>?_) (by split<;>simp) (Nat.le_refl _) hz2 (by simp [hL1]) (by simp)
          split at hb
          · rcases List.mem_cons.1 hb with rfl | hb
            · exact⟨H.mono hst1,a,ha⟩
            · exact hbs b hb
          · exact hbs b hb

theorem zby {fuel:Nat}(hf:18446744073709551616≤fuel) (d:Nat):DeadS (zW fuel (d+1)):=zbx hf
theorem z8V {fuel:Nat}{n:D.Net}(hn:netN n=true) (hf:18446744073709551616≤fuel):∀ (k d:Nat),k≤81→k<d→GoodS n k (readM n.Agents k) (zW fuel d)
  | 0,0,_,h=>by omega
  | k+1,0,_,h=>by omega
  | 0,d+1,_,_=>z8M hn hf (by omega) (.inl rfl)
  | k+1,d+1,hk,h=>by
    obtain⟨d,rfl⟩:∃ d',d=d'+1:=⟨d - 1,by omega⟩
    exact z8M hn hf hk (.inr ⟨z8V hn hf k (d+1) (by omega) (by omega),zby hf d⟩)
end Go.E


namespace Go.E
open Go.RowKit
set_option linter.unusedVariables false

def D.Port.wf (x:D.Port):Prop:=I64 x.Agent∧I64 x.Slot∧True
def D.Port.sz (x:D.Port):Nat:=0
def D.Agent.wf (x:D.Agent):Prop:=I64 x.Kind∧I64 x.Level∧I64 x.Value∧WfL I64 x.Data∧WfL D.Port.wf x.Ports∧True
def D.Agent.sz (x:D.Agent):Nat:=x.Data.length+(x.Ports.length+(0))
def D.Net.wf (x:D.Net):Prop:=WfL D.Agent.wf x.Agents∧True
def D.Net.sz (x:D.Net):Nat:=szL D.Agent.sz x.Agents+(0)
end Go.E


