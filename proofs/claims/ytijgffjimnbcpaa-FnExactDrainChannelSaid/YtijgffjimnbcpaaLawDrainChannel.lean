/- DrainChannel: the plain law. Conditions: none but the arguments' own size. -/
import Derived.Test.YtijgffjimnbcpaaLawRunChannel
namespace Go.E
open Go.RowKit Go.Proofs
set_option linter.unusedSimpArgs false
set_option linter.unusedVariables false

theorem z6N {fuel:Nat}{n:Int}{i:Nat}{x:D.Channel}(hf:18446744073709551616≤fuel) (hi:(i:Int)≤n) (hn:n≤2000) (hx:CInv x):
    (∃ y,CInv y∧(i:Int)<n∧zt fuel n ((i:Int),pkS x)=some (.next (((i+1:Nat):Int),pkS y))∧zv fuel n ((i:Int),pkI x)=some (.next (((i+1:Nat):Int),pkI y)))∨
    (zt fuel n ((i:Int),pkS x)=some (.ret ((⟨0,[],0,0,0,[],[],[]⟩:D.Channel),0,12))∧zv fuel n ((i:Int),pkI x)=some (.ret ((⟨0,[],0,0,0,[],[],[]⟩:D.Channel),0,12)))∨
    (zt fuel n ((i:Int),pkS x)=some (.brk ((i:Int),pkS x))∧zv fuel n ((i:Int),pkI x)=some (.brk ((i:Int),pkI x))):=by
  have q1:=hx.b0;have q2:=hx.be;have q3:=hx.en;have q4:=hx.nm;have q5:=hx.m30;have q9:=hx.w1
  have hw:w64 ((i:Int)+1)=((i+1:Nat):Int):=by rw [zp (by omega) (by omega)];simp
  have fin:∀ e,Ev x e→∃ y,CInv y∧z2G fuel x e=some y∧zo fuel x e=some y:=fun e he=>by
    obtain⟨y,y1,y2,y3⟩:=z7J hf hx he
    exact⟨y,y3,y1,y2⟩
  have hcs:z1N fuel x=some (decide (x.Next<x.Messages.length∧x.Next<x.Base+x.Window∧x.Flight.length<60)):=z5S (fuel:=fuel) hx
  unfold zt zv pkS pkI z3X z2M
  dsimp only
  rw [Option.bind_some,Option.bind_some]
  by_cases c:x.Base=(x.Messages.length:Int)
  · right;right
    rw [show(x.Base == (x.Messages.length:Int))=true by simpa using c,if_neg (c:=(!true)=true) (by decide),if_neg (c:=(!true)=true) (by decide)]
    exact⟨rfl,rfl⟩
  rw [show(x.Base == (x.Messages.length:Int))=false by simpa using c,if_pos (c:=(!false)=true) rfl,if_pos (c:=(!false)=true) rfl]
  by_cases d:(i:Int)=n
  · right;left
    rw [show((i:Int) == n)=true by simpa using d,if_pos (c:=true=true) rfl,if_pos (c:=true=true) rfl]
    exact⟨rfl,rfl⟩
  left
  rw [show((i:Int) == n)=false by simpa using d,if_neg Bool.false_ne_true,if_neg Bool.false_ne_true]
  unfold z3W
  rw [z5S hx,hcs]
  dsimp only
  by_cases f:(x.Flight.length:Int)>0
  · obtain⟨y,y1,y2,y3⟩:=fin ⟨3,0⟩ (.inr (.inr (.inl ⟨.inl rfl,Int.le_refl _,f⟩)))
    refine⟨y,y1,by omega,?_,?_⟩
    · rw [if_pos (decide_eq_true f),Option.bind_some,y2,Option.bind_some,hw]
    · rw [if_pos (decide_eq_true f),y3,Option.bind_some]
      unfold z14
      dsimp only
      rw [hw]
  · rw [if_neg (by simpa using f),if_neg (by simpa using f),Option.bind_some,Option.bind_some]
    by_cases g:x.Next<x.Messages.length∧x.Next<x.Base+x.Window∧x.Flight.length<60
    · obtain⟨y,y1,y2,y3⟩:=fin ⟨1,0⟩ (.inl ⟨rfl,g⟩)
      refine⟨y,y1,by omega,?_,?_⟩
      · rw [if_pos (decide_eq_true g),Option.bind_some,y2,Option.bind_some,hw]
      · rw [if_pos (decide_eq_true g),y3,Option.bind_some]
        unfold z1n z14
        dsimp only
        rw [hw]
    · have hg:¬ decide (x.Next<x.Messages.length∧x.Next<x.Base+x.Window∧x.Flight.length<60)=true:=by simpa using g
      obtain⟨y,y1,y2,y3⟩:=fin ⟨2,0⟩ (.inr (.inl ⟨rfl,Int.le_refl _,by show(0:Int)<_;omega,by omega⟩))
      refine⟨y,y1,by omega,?_,?_⟩
      · rw [if_neg hg,Option.bind_some,y2,Option.bind_some,hw]
      · rw [if_neg hg,y3,Option.bind_some]
        unfold z1n z14
        dsimp only
        rw [hw]

theorem z8k {fuel0:Nat}{n:Int}(hf0:18446744073709551616≤fuel0) (hn:n≤2000) (d:Nat):∀ (i:Nat) (x:D.Channel) (fuel:Nat),(i:Int)≤n→n - i≤d→d<fuel→CInv x→
    (∃ (j:Nat) (y:D.Channel),CInv y∧iter (zt fuel0 n) fuel ((i:Int),pkS x)=some (.inl ((j:Int),pkS y))∧iter (zv fuel0 n) fuel ((i:Int),pkI x)=some (.inl ((j:Int),pkI y)))∨
    (iter (zt fuel0 n) fuel ((i:Int),pkS x)=some (.inr ((⟨0,[],0,0,0,[],[],[]⟩:D.Channel),0,12))∧iter (zv fuel0 n) fuel ((i:Int),pkI x)=some (.inr ((⟨0,[],0,0,0,[],[],[]⟩:D.Channel),0,12))):=by
  induction d with
  | zero=>
    intro i x fuel hi h1 h2 hx
    cases fuel with
    | zero=>exact absurd h2 (by simp)
    | succ fuel=>
    rcases z6N hf0 hi hn hx with⟨y,y1,y4,y2,y3⟩ | ⟨y2,y3⟩ | ⟨y2,y3⟩
    · omega
    · exact .inr ⟨by simp only [iter,y2],by simp only [iter,y3]⟩
    · exact .inl ⟨i,x,hx,by simp only [iter,y2],by simp only [iter,y3]⟩
  | succ d ih=>
    intro i x fuel hi h1 h2 hx
    cases fuel with
    | zero=>exact absurd h2 (by simp)
    | succ fuel=>
    rcases z6N hf0 hi hn hx with⟨y,y1,y4,y2,y3⟩ | ⟨y2,y3⟩ | ⟨y2,y3⟩
    · rcases ih (i+1) y fuel (by omega) (by omega) (by omega) y1 with⟨j,z,z1,z2,z3⟩ | ⟨z2,z3⟩
      · exact .inl ⟨j,z,z1,by simp only [iter,y2];exact z2,by simp only [iter,y3];exact z3⟩
      · exact .inr ⟨by simp only [iter,y2];exact z2,by simp only [iter,y3];exact z3⟩
    · exact .inr ⟨by simp only [iter,y2],by simp only [iter,y3]⟩
    · exact .inl ⟨i,x,hx,by simp only [iter,y2],by simp only [iter,y3]⟩

theorem z5K {fuel:Nat}{x:D.Channel}{n:Int}(hf:18446744073709551616≤fuel) (hw:x.wf) (hn:I64 n) (hs:x.sz≤1048576):
    ∃ r:D.Channel × Int × Int,z2v fuel x n=some r∧z1T fuel x n=some r∧r.1.sz≤1048576:=by
  obtain⟨b,h1,h2⟩:=z8A hf hw hs
  unfold z2v z1T
  rw [h1,h2,Option.bind_some,Option.bind_some]
  cases b with
  | false=>
    rw [if_pos (by decide),if_pos (by decide)]
    exact⟨_,rfl,rfl,z5s⟩
  | true=>
    have hx:=z8B hs h1
    rw [if_neg (by decide),if_neg (by decide),z5g.1,z5g.2,Option.bind_some,Option.bind_some]
    by_cases d:0≤n∧n≤2000
    · obtain⟨d1,d2⟩:=z4c (x:=x) (fuel:=fuel) hs
      rw [decide_eq_true d,if_neg (by decide),if_neg (by decide),d1,d2,Option.bind_some,Option.bind_some]
      rcases z8k (n:=n) hf d.2 2000 0 x fuel d.1 (by omega) (by omega) hx with⟨j,y,y1,y2,y3⟩ | ⟨y2,y3⟩
      · have y3':iter (zv fuel n) fuel (0,x.Early,x.Window,x.Base,x.Next,x.Expected,x.Messages,x.Delivered,x.Flight)=some (.inl ((j:Int),y.Early,y.Window,y.Base,y.Next,y.Expected,y.Messages,y.Delivered,y.Flight)):=y3
        have y2':iter (zt fuel n) fuel (0,x.Window,x.Base,x.Next,x.Expected,x.Messages,x.Early,x.Delivered,x.Flight)=some (.inl ((j:Int),y.Window,y.Base,y.Next,y.Expected,y.Messages,y.Early,y.Delivered,y.Flight)):=y2
        rw [y3',y2',z4T,z4T]
        unfold z3f z3e
        dsimp only
        rw [(z4c (x:=y) (fuel:=fuel) y1.sz).2,Option.bind_some]
        exact⟨_,rfl,rfl,y1.sz⟩
      · have y3':iter (zv fuel n) fuel (0,x.Early,x.Window,x.Base,x.Next,x.Expected,x.Messages,x.Delivered,x.Flight)=some (.inr ((⟨0,[],0,0,0,[],[],[]⟩:D.Channel),0,12)):=y3
        have y2':iter (zt fuel n) fuel (0,x.Window,x.Base,x.Next,x.Expected,x.Messages,x.Early,x.Delivered,x.Flight)=some (.inr ((⟨0,[],0,0,0,[],[],[]⟩:D.Channel),0,12)):=y2
        rw [y3',y2',z77,z77]
        exact⟨_,rfl,rfl,z5s⟩
    · rw [decide_eq_false d,if_pos (by decide),if_pos (by decide)]
      exact⟨_,rfl,rfl,z5s⟩

theorem lawDrainChannel {x0:D.Channel}{x1:Int}(h0:D.Channel.wf x0) (h1:I64 x1):∃ fuel,z1L fuel x0 x1=some true:=by
  obtain⟨fuel,hf⟩:∃ n:Nat,18446744073709551616≤n:=⟨_,Nat.le_refl _⟩
  refine⟨fuel,?_⟩
  unfold z1L
  obtain⟨r0,e0,s0⟩:=z4w (l:=(1048576:Int)) hf h0 (by decide) (by omega)
  rw [e0,Option.bind_some]
  rcases s0 with s0 | ⟨s0,t0⟩
  · rw [if_pos (by simp [s0])]
  rw [if_neg (by simp [s0])]
  have z0:D.Channel.sz x0≤1048576:=by omega
  obtain⟨r,a0,a1,b0⟩:=z5K hf h0 h1 z0
  have m0:=fun {β:Type}(g:_→Option β)=>z1K (g:=g) a0
  have m1:=fun {β:Type}(g:_→Option β)=>z1K (g:=g) a1
  have m2:=fun {β:Type}(g:_→Option β)=>z1K (g:=g) (z4v hf z0)
  have m3:=fun {β:Type}(g:_→Option β)=>z1K (g:=g) (z3d hf z0)
  have m4:=fun {β:Type}(g:_→Option β) (k:Int) (h0:0≤k) (h1:k+(ctChannel x0:Nat)≤2147483648)=>z1K (g:=g) (z2z hf z0 h0 h1)
  have c0:=z3J (x:=x0)
  have m5:=fun {β:Type}(g:_→Option β)=>z1K (g:=g) (z3d hf b0)
  have m6:=fun {β:Type}(g:_→Option β) (k:Int) (h0:0≤k) (h1:k+(ctChannel r.1:Nat)≤2147483648)=>z1K (g:=g) (z2z hf b0 h0 h1)
  have m7:=fun {β:Type}(g:_→Option β) (k:Int) (h0:0≤k) (h1:k+(ctChannel r.1:Nat)≤2147483648)=>z1K (g:=g) (z46 hf b0 h0 h1)
  have d0:=z3J (x:=r.1)
  simp (disch:=omega) only [↓reduceIte,↓m0,↓m1,↓m2,↓m3,↓m4,↓m5,↓m6,↓m7,lt_f,Bool.not_true,Bool.false_eq_true,bne_self_eq_false,z10]
  simp (disch:=omega) only [↓reduceIte,↓zK,↓m0,↓m1,↓m2,↓m3,↓m4,↓m5,↓m6,↓m7,lt_f,Bool.not_true,Bool.false_eq_true,bne_self_eq_false,z10]
  simp (disch:=omega) only [↓reduceIte,↓zw,↓m0,↓m1,↓m2,↓m3,↓m4,↓m5,↓m6,↓m7,lt_f,Bool.not_true,Bool.false_eq_true,bne_self_eq_false,z10]
  simp (disch:=omega) only [↓reduceIte,↓zJ,↓m0,↓m1,↓m2,↓m3,↓m4,↓m5,↓m6,↓m7,lt_f,Bool.not_true,Bool.false_eq_true,bne_self_eq_false,z10]
end Go.E


