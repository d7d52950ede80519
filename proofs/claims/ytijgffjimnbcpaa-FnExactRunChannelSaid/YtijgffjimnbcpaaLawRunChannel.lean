/- RunChannel: the plain law. Conditions: none but the arguments' own size. -/
import Derived.Test.YtijgffjimnbcpaaLawDoEvent
namespace Go.E
open Go.RowKit Go.Proofs
set_option linter.unusedSimpArgs false
set_option linter.unusedVariables false

theorem z6V {fuel:Nat}{s:List Int}(hf:18446744073709551616≤fuel) (hs:s.length≤1048576):∃ b,z1B fuel s=some b∧z2m fuel s=some b∧(b=true→s.length≤200):=by
  have hm:maxLen=9223372036854775807:=rfl
  unfold z1B z2m
  by_cases c:(s.length:Int)≤200
  · rw [if_neg (by simp;omega),if_pos (decide_eq_true c)]
    have A:=z4t (xs:=s) (body:=zA fuel s) (fuel:=fuel) (t:=()) (p:=fun y=>!decide (0≤y∧y≤600)) (g:=fun _=>false) (by omega) hf (by
      intro i y hy
      have hi:=(List.getElem?_eq_some_iff.1 hy).1
      simp only [zA,z1z hy,lt_t (show(i:Int)<s.length by omega),if_true,Option.bind_some,z4N]) (by simp [zA])
    have B:=z4t (xs:=s) (body:=zO fuel s (fun y0=>z1g fuel y0)) (fuel:=fuel) (t:=()) (p:=fun y=>!decide (0≤y∧y≤600)) (g:=fun i=>i) (by omega) hf (by
      intro i y hy
      have hi:=(List.getElem?_eq_some_iff.1 hy).1
      have hc:z1g fuel y=some (!decide (0≤y∧y≤600)):=by
        unfold z1g
        by_cases a:y<0
        · rw [if_pos (decide_eq_true a),decide_eq_false (by omega)];rfl
        · rw [if_neg (by simpa using a)]
          by_cases b:y>600
          · rw [decide_eq_true b,decide_eq_false (by omega)];rfl
          · rw [decide_eq_false b,decide_eq_true (by omega)];rfl
      simp only [zO,z1z hy,lt_t (show(i:Int)<s.length by omega),if_true,Option.bind_some,hc]) (by simp [zO])
    unfold z16 z1k
    rcases A with⟨a1,a2⟩ | ⟨a1,i,a2⟩<;>rcases B with⟨b1,b2⟩ | ⟨b1,j,b2⟩
    · exact⟨true,by rw [a2];rfl,by rw [b2];rfl,fun _=>by omega⟩
    · rw [a1] at b1;cases b1
    · rw [a1] at b1;cases b1
    · refine⟨false,by rw [a2];rfl,?_,fun h=>by cases h⟩
      rw [b2]
      show some (!decide ((j:Int)≥0))=some false
      simp
  · rw [if_pos (by simp;omega),if_neg (by simpa using c)]
    exact⟨false,rfl,rfl,fun h=>by cases h⟩

theorem z5g {fuel:Nat}{n:Int}:zZ fuel n 0 2000=some (decide (0≤n∧n≤2000))∧z1S fuel n=some (decide (0≤n∧n≤2000)):=by
  refine⟨z4N _ _ _,?_⟩
  unfold z1S
  by_cases h:n≥0<;>simp [h]


def pkS (x:D.Channel):Int × Int × Int × Int × (List ByteArray) × (List D.Packet) × (List ByteArray) × (List D.Packet):=(x.Window,x.Base,x.Next,x.Expected,x.Messages,x.Early,x.Delivered,x.Flight)
def pkI (x:D.Channel):(List D.Packet) × Int × Int × Int × Int × (List ByteArray) × (List ByteArray) × (List D.Packet):=(x.Early,x.Window,x.Base,x.Next,x.Expected,x.Messages,x.Delivered,x.Flight)

theorem z8V {fuel:Nat}{s:List Int}{n:Int}{i:Nat}{x:D.Channel}(hf:18446744073709551616≤fuel) (hi:(i:Int)<n) (hn:n≤2000) (hs:s.length≤200) (hx:CInv x) (hp:∀ y∈s,I64 y∧0≤y):
    (∃ y,CInv y∧zf fuel s n ((i:Int),pkS x)=some (.next (((i+1:Nat):Int),pkS y))∧zy fuel s n ((i:Int),pkI x)=some (.next (((i+1:Nat):Int),pkI y)))∨
    (zf fuel s n ((i:Int),pkS x)=some (.ret (x,0))∧zy fuel s n ((i:Int),pkI x)=some (.brk (pkI x))):=by
  have hw:w64 ((i:Int)+1)=((i+1:Nat):Int):=by rw [zp (by omega) (by omega)];simp
  obtain⟨l,e1,e2,e3⟩:=z6M hf hx
  unfold zf zy pkS pkI
  dsimp only
  rw [if_pos (decide_eq_true hi),if_pos (decide_eq_true hi),z6h,e1,Option.bind_some,Option.bind_some]
  by_cases c:l.length=0
  · right
    rw [if_pos (by simp [c]),if_pos (by simp [c])]
    exact⟨rfl,rfl⟩
  left
  have hc:¬ ((l.length:Int) == 0)=true:=by simpa using c
  rw [if_neg hc,if_neg hc]
  have go:∀ t:Int,0≤t→∃ e,idx l (t.tmod (l.length:Int))=some e∧Ev x e:=fun t ht=>by
    have h1:t.tmod (l.length:Int)=t % (l.length:Int):=Int.tmod_eq_emod_of_nonneg ht
    obtain⟨e,e4,e5⟩:=z7w (xs:=l) (i:=t.tmod (l.length:Int)) (by rw [h1];exact Int.emod_nonneg _ (by omega)) (by rw [h1];exact Int.emod_lt_of_pos _ (by omega))
    exact⟨e,e4,e3 e e5⟩
  have fin:∀ e,Ev x e→∃ y,CInv y∧z2G fuel x e=some y∧zo fuel x e=some y:=fun e he=>by
    obtain⟨y,y1,y2,y3⟩:=z7J hf hx he
    exact⟨y,y3,y1,y2⟩
  have j:((l.length:Int)≠0):=by omega
  by_cases d:(s.length:Int)>0
  · have hz:((s.length:Int)≠0):=by omega
    have h1:(i:Int).tmod (s.length:Int)=(i:Int) % (s.length:Int):=Int.tmod_eq_emod_of_nonneg (by omega)
    obtain⟨t,t1,t2⟩:=z7w (xs:=s) (i:=(i:Int).tmod (s.length:Int)) (by rw [h1];exact Int.emod_nonneg _ (by omega)) (by rw [h1];exact Int.emod_lt_of_pos _ (by omega))
    obtain⟨e,e4,e5⟩:=go t (hp t t2).2
    obtain⟨y,y1,y2,y3⟩:=fin e e5
    refine⟨y,y1,?_,?_⟩
    · rw [if_pos (decide_eq_true d),if_pos (decide_eq_true hz),t1,Option.bind_some,if_pos (decide_eq_true j)]
      unfold z1G
      dsimp only
      rw [e4,Option.bind_some,y2,Option.bind_some,hw]
    · rw [if_pos (decide_eq_true d),if_pos (decide_eq_true hz),t1,Option.bind_some]
      unfold z1H
      dsimp only
      rw [if_pos (decide_eq_true j),e4,Option.bind_some,y3,Option.bind_some,hw]
  · obtain⟨e,e4,e5⟩:=go 0 (Int.le_refl _)
    obtain⟨y,y1,y2,y3⟩:=fin e e5
    have h0:(0:Int).tmod (l.length:Int)=0:=Int.zero_tmod _
    have e6:idx l 0=some e:=by rwa [h0] at e4
    have hd:¬ decide ((s.length:Int)>0)=true:=by simpa using d
    refine⟨y,y1,?_,?_⟩
    · rw [if_neg hd]
      unfold z1G
      dsimp only
      rw [e6,Option.bind_some,y2,Option.bind_some,hw]
    · rw [if_neg hd]
      unfold z1H
      dsimp only
      rw [if_pos (decide_eq_true j),e4,Option.bind_some,y3,Option.bind_some,hw]

theorem z8W {fuel0:Nat}{s:List Int}{n:Int}(hf0:18446744073709551616≤fuel0) (hn:n≤2000) (hs:s.length≤200) (hp:∀ y∈s,I64 y∧0≤y) (d:Nat):∀ (i:Nat) (x:D.Channel) (fuel:Nat),n - i≤d→d<fuel→CInv x→
    ∃ y,CInv y∧(iter (zf fuel0 s n) fuel ((i:Int),pkS x)=some (.inl (pkS y))∨iter (zf fuel0 s n) fuel ((i:Int),pkS x)=some (.inr (y,0)))∧iter (zy fuel0 s n) fuel ((i:Int),pkI x)=some (.inl (pkI y)):=by
  induction d with
  | zero=>
    intro i x fuel h1 h2 hx
    cases fuel with
    | zero=>exact absurd h2 (by simp)
    | succ fuel=>
    refine⟨x,hx,.inl ?_,?_⟩
    · have hb:zf fuel0 s n ((i:Int),pkS x)=some (.brk (pkS x)):=by
        unfold zf pkS
        dsimp only
        rw [if_neg (by simp;omega)]
      simp only [iter,hb]
    · have hb:zy fuel0 s n ((i:Int),pkI x)=some (.brk (pkI x)):=by
        unfold zy pkI
        dsimp only
        rw [if_neg (by simp;omega)]
      simp only [iter,hb]
  | succ d ih=>
    intro i x fuel h1 h2 hx
    cases fuel with
    | zero=>exact absurd h2 (by simp)
    | succ fuel=>
    by_cases c:(i:Int)<n
    · rcases z8V hf0 c hn hs hx hp with⟨y,y1,y2,y3⟩ | ⟨y2,y3⟩
      · obtain⟨z,z1,z2,z3⟩:=ih (i+1) y fuel (by omega) (by omega) y1
        refine⟨z,z1,?_,by simp only [iter,y3];exact z3⟩
        rcases z2 with z2 | z2
        · exact .inl (by simp only [iter,y2];exact z2)
        · exact .inr (by simp only [iter,y2];exact z2)
      · exact⟨x,hx,.inr (by simp only [iter,y2]),by simp only [iter,y3]⟩
    · refine⟨x,hx,.inl ?_,?_⟩
      · have hb:zf fuel0 s n ((i:Int),pkS x)=some (.brk (pkS x)):=by
          unfold zf pkS
          dsimp only
          rw [if_neg (by simpa using c)]
        simp only [iter,hb]
      · have hb:zy fuel0 s n ((i:Int),pkI x)=some (.brk (pkI x)):=by
          unfold zy pkI
          dsimp only
          rw [if_neg (by simpa using c)]
        simp only [iter,hb]

theorem z6f {fuel:Nat}{s:List Int}(hs:s.length≤1048576) (h:z1B fuel s=some true):∀ y∈s,0≤y:=by
  unfold z1B at h
  split at h
  · cases h
  · obtain⟨o,h1,h2⟩:=bind_some h
    cases o with
    | inr b=>
      have hb:b=true:=by cases h2;rfl
      have:=z1V (b:=zA fuel s) (fun t r hr=>by
        unfold zA at hr
        split at hr
        · obtain⟨y,_,hr⟩:=bind_some hr
          obtain⟨z,_,hr⟩:=bind_some hr
          split at hr<;>cases hr<;>rfl
        · cases hr) fuel 0 b h1
      rw [hb] at this;cases this
    | inl u=>
      have:=z5H (xs:=s) (b:=zA fuel s) (P:=fun y=>0≤y) hs (by
        intro i m s' hm hb
        have hi:=(List.getElem?_eq_some_iff.1 hm).1
        unfold zA at hb
        rw [if_pos (decide_eq_true (by omega)),z1z hm,Option.bind_some,z4N,Option.bind_some] at hb
        by_cases c:0≤m∧m≤600
        · rw [decide_eq_true c,if_neg (by decide)] at hb;cases hb
          exact⟨rfl,c.1⟩
        · rw [decide_eq_false c,if_pos (by decide)] at hb;cases hb) (by
        intro i m t hm hb
        have hi:=(List.getElem?_eq_some_iff.1 hm).1
        unfold zA at hb
        rw [if_pos (decide_eq_true (by omega)),z1z hm,Option.bind_some,z4N,Option.bind_some] at hb
        split at hb<;>cases hb) fuel 0 u h1
      simpa using this

theorem z6i {fuel:Nat}{x:D.Channel}{s:List Int}{n:Int}(hf:18446744073709551616≤fuel) (hw:x.wf) (hw2:WfL I64 s) (hn:I64 n) (hs:x.sz≤1048576) (j:s.length≤1048576):
    ∃ r:D.Channel × Int,z2S fuel x s n=some r∧z2q fuel x s n=some r∧r.1.sz≤1048576:=by
  obtain⟨b,h1,h2⟩:=z8A hf hw hs
  unfold z2S z2q
  rw [h1,h2,Option.bind_some,Option.bind_some]
  cases b with
  | false=>
    rw [if_pos (by decide),if_pos (by decide)]
    exact⟨_,rfl,rfl,z5s⟩
  | true=>
    have hx:=z8B hs h1
    rw [if_neg (by decide),if_neg (by decide)]
    have no:∃ r:D.Channel × Int,z1i fuel x s n true=some r∧z1j fuel x s n true=some r∧r.1.sz≤1048576:=by
      unfold z1i z1j
      rw [if_pos rfl,if_pos rfl]
      exact⟨_,rfl,rfl,z5s⟩
    obtain⟨c,c1,c2,c3⟩:=z6V hf j
    rw [c1,c2,Option.bind_some,Option.bind_some]
    cases c with
    | false=>
      rw [if_pos (by decide),if_pos (by decide)]
      exact no
    | true=>
    rw [if_neg (by decide),if_neg (by decide),z5g.1,z5g.2,Option.bind_some,Option.bind_some]
    by_cases d:0≤n∧n≤2000
    · rw [decide_eq_true d,show(!true)=false from rfl]
      unfold z1i z1j
      obtain⟨d1,d2⟩:=z4c (x:=x) (fuel:=fuel) hs
      rw [if_neg Bool.false_ne_true,if_neg Bool.false_ne_true,d1,d2,Option.bind_some,Option.bind_some]
      obtain⟨y,y1,y2,y3⟩:=z8W (s:=s) hf d.2 (c3 rfl) (fun y hy=>⟨hw2.2 y hy,z6f j c1 y hy⟩) 2000 0 x fuel (by omega) (by omega) hx
      have y3':iter (zy fuel s n) fuel (0,x.Early,x.Window,x.Base,x.Next,x.Expected,x.Messages,x.Delivered,x.Flight)=some (.inl (y.Early,y.Window,y.Base,y.Next,y.Expected,y.Messages,y.Delivered,y.Flight)):=y3
      rw [y3',z4T]
      unfold z3x
      dsimp only
      rw [(z4c (x:=y) (fuel:=fuel) y1.sz).2,Option.bind_some]
      refine⟨_,?_,rfl,y1.sz⟩
      rcases y2 with y2 | y2
      · have y2':iter (zf fuel s n) fuel (0,x.Window,x.Base,x.Next,x.Expected,x.Messages,x.Early,x.Delivered,x.Flight)=some (.inl (y.Window,y.Base,y.Next,y.Expected,y.Messages,y.Early,y.Delivered,y.Flight)):=y2
        rw [y2',z4T]
        unfold z3w
        rfl
      · have y2':iter (zf fuel s n) fuel (0,x.Window,x.Base,x.Next,x.Expected,x.Messages,x.Early,x.Delivered,x.Flight)=some (.inr (y,0)):=y2
        rw [y2',z77]
    · rw [decide_eq_false d]
      exact no

theorem lawRunChannel {x0:D.Channel}{x1:(List Int)}{x2:Int}(h0:D.Channel.wf x0) (h1:(WfL I64) x1) (h2:I64 x2):∃ fuel,z2a fuel x0 x1 x2=some true:=by
  obtain⟨fuel,hf⟩:∃ n:Nat,18446744073709551616≤n:=⟨_,Nat.le_refl _⟩
  refine⟨fuel,?_⟩
  unfold z2a
  by_cases q1:(x1.length:Int)>1048576
  · rw [if_pos (decide_eq_true q1)]
  rw [if_neg (by simpa using q1)]
  obtain⟨r0,e0,s0⟩:=z4w (l:=(1048576:Int)) hf h0 (by decide) (by omega)
  rw [e0,Option.bind_some]
  rcases s0 with s0 | ⟨s0,t0⟩
  · rw [if_pos (by simp [s0])]
  rw [if_neg (by simp [s0])]
  have z1:x1.length≤1048576:=by omega
  have z0:D.Channel.sz x0≤1048576:=by omega
  obtain⟨r,a0,a1,b0⟩:=z6i hf h0 h1 h2 z0 z1
  have m0:=fun {β:Type}(g:_→Option β)=>z1K (g:=g) a0
  have m1:=fun {β:Type}(g:_→Option β)=>z1K (g:=g) a1
  have m2:=fun {β:Type}(g:_→Option β)=>z1K (g:=g) (z4v hf z0)
  have m3:=fun {β:Type}(g:_→Option β)=>z1K (g:=g) (z3d hf z0)
  have m4:=fun {β:Type}(g:_→Option β) (k:Int) (h0:0≤k) (h1:k+(ctChannel x0:Nat)≤2147483648)=>z1K (g:=g) (z2z hf z0 h0 h1)
  have c0:=z3J (x:=x0)
  have m5:=fun {β:Type}(g:_→Option β)=>z1K (g:=g) (z6R hf z1)
  have m6:=fun {β:Type}(g:_→Option β)=>z1K (g:=g) (z71 hf z1)
  have m7:=fun {β:Type}(g:_→Option β) (k:Int) (h0:0≤k) (h1:k+(z64 x1:Nat)≤2147483648)=>z1K (g:=g) (z6s hf z1 h0 h1)
  have c1:=z7K (xs:=x1)
  have m8:=fun {β:Type}(g:_→Option β)=>z1K (g:=g) (z3d hf b0)
  have m9:=fun {β:Type}(g:_→Option β) (k:Int) (h0:0≤k) (h1:k+(ctChannel r.1:Nat)≤2147483648)=>z1K (g:=g) (z2z hf b0 h0 h1)
  have m10:=fun {β:Type}(g:_→Option β) (k:Int) (h0:0≤k) (h1:k+(ctChannel r.1:Nat)≤2147483648)=>z1K (g:=g) (z46 hf b0 h0 h1)
  have d0:=z3J (x:=r.1)
  simp (disch:=omega) only [↓reduceIte,↓m0,↓m1,↓m2,↓m3,↓m4,↓m5,↓m6,↓m7,↓m8,↓m9,↓m10,lt_f,Bool.not_true,Bool.false_eq_true,bne_self_eq_false,z10]
  simp (disch:=omega) only [↓reduceIte,↓z1f,↓m0,↓m1,↓m2,↓m3,↓m4,↓m5,↓m6,↓m7,↓m8,↓m9,↓m10,lt_f,Bool.not_true,Bool.false_eq_true,bne_self_eq_false,z10]
  simp (disch:=omega) only [↓reduceIte,↓zT,↓m0,↓m1,↓m2,↓m3,↓m4,↓m5,↓m6,↓m7,↓m8,↓m9,↓m10,lt_f,Bool.not_true,Bool.false_eq_true,bne_self_eq_false,z10]
  simp (disch:=omega) only [↓reduceIte,↓z1e,↓m0,↓m1,↓m2,↓m3,↓m4,↓m5,↓m6,↓m7,↓m8,↓m9,↓m10,lt_f,Bool.not_true,Bool.false_eq_true,bne_self_eq_false,z10]
end Go.E


