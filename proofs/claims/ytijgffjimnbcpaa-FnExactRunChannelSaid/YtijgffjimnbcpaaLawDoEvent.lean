/- A packet arrives: the reference and the program do the same. Conditions: a valid channel. -/
import Derived.Test.YtijgffjimnbcpaaInvK
namespace Go.E
open Go.RowKit Go.Proofs
set_option linter.unusedSimpArgs false
set_option linter.unusedVariables false


theorem z8H {fuel0:Nat}{W B N E:Int}{M Dl:List ByteArray}{F:List D.Packet}{p:D.Packet}{ps:List D.Packet}(h0:0≤E) (h1:E≤30) (hl:ps.length≤30) (hd:(Dl.length:Int)=E) (c:p.Number=E):
    z1h fuel0 (E,Dl,p::ps)=some (.next (E+1,Dl++[p.Text],ps))∧zU fuel0 (W,B,N,E,M,p::ps,Dl,F)=some (.next (W,B,N,E+1,M,ps,Dl++[p.Text],F)):=by
  have hi:idx (p::ps) 0=some p:=rfl
  have j:((p::ps).length:Int)>0:=by simp only [List.length_cons];omega
  have hw:w64 (E+1)=E+1:=zp (by omega) (by omega)
  have g1:((Dl.length:Int)+(([p.Text]:List ByteArray).length:Int)≤4294967296):=by simp only [List.length_cons,List.length_nil];omega
  have g2:(0≤(1:Int)∧1≤((p::ps).length:Int)∧((p::ps).length:Int)≤((p::ps).length:Int)):=⟨by decide,by omega,Int.le_refl _⟩
  have g3:((p::ps).take (p::ps).length).drop (1:Int).toNat=ps:=by rw [List.take_length];rfl
  have g4:((([]:List D.Packet).length:Int)+(ps.length:Int)≤4294967296):=by simp only [List.length_nil];omega
  have hc:(p.Number == E)=true:=by rw [c];exact beq_self_eq_true _
  constructor
  · unfold z1h
    dsimp only
    rw [if_pos (decide_eq_true j),hi,Option.bind_some,hc]
    unfold z2k
    dsimp only
    rw [if_pos rfl,hi,Option.bind_some,if_pos (decide_eq_true g1),if_pos (decide_eq_true g2),g3,if_pos (decide_eq_true g4),hw,List.nil_append]
  · unfold zU
    dsimp only
    rw [if_pos (decide_eq_true j),hi,Option.bind_some,hc]
    unfold z1x z1o
    dsimp only
    rw [if_pos rfl,hi,Option.bind_some,if_pos (decide_eq_true g1),Option.bind_some]
    dsimp only
    rw [if_pos (decide_eq_true g2),g3,hw]

theorem z7r {fuel0:Nat}{W B N E:Int}{M Dl:List ByteArray}{F:List D.Packet}{Ea:List D.Packet}(c:∀ p ps,Ea=p::ps→p.Number≠E):
    z1h fuel0 (E,Dl,Ea)=some (.brk (E,Dl,Ea))∧zU fuel0 (W,B,N,E,M,Ea,Dl,F)=some (.brk (W,B,N,E,M,Ea,Dl,F)):=by
  cases Ea with
  | nil=>exact⟨rfl,rfl⟩
  | cons p ps=>
    have hi:idx (p::ps) 0=some p:=rfl
    have j:((p::ps).length:Int)>0:=by simp only [List.length_cons];omega
    have hc:(p.Number == E)=false:=by have:=c p ps rfl;simpa using this
    constructor
    · unfold z1h
      dsimp only
      rw [if_pos (decide_eq_true j),hi,Option.bind_some,hc]
      rfl
    · unfold zU
      dsimp only
      rw [if_pos (decide_eq_true j),hi,Option.bind_some,hc]
      rfl

theorem z8J {fuel0:Nat}{W B N:Int}{M:List ByteArray}{F:List D.Packet}(hN:N≤30) (Ea:List D.Packet):∀ (fuel:Nat) (E:Int) (Dl:List ByteArray),Ea.length≤30→Ea.length<fuel→0≤E→E≤N→asc (E - 1) Ea→
    (∀ p∈Ea,p.Text.size≤40∧p.Number<N)→(Dl.length:Int)=E→(∀ m∈Dl,m.size≤40)→
    ∃ E' Dl' Ea',iter (z1h fuel0) fuel (E,Dl,Ea)=some (.inl (E',Dl',Ea'))∧iter (zU fuel0) fuel (W,B,N,E,M,Ea,Dl,F)=some (.inl (W,B,N,E',M,Ea',Dl',F))∧
      E≤E'∧E'≤N∧asc E' Ea'∧(∀ p∈Ea',p.Text.size≤40∧p.Number<N)∧(Dl'.length:Int)=E'∧(∀ m∈Dl',m.size≤40):=by
  induction Ea with
  | nil=>
    intro fuel E Dl _ hf h0 hE ha hp hd hm
    obtain⟨s1,s2⟩:=z7r (fuel0:=fuel0) (W:=W) (B:=B) (N:=N) (E:=E) (M:=M) (Dl:=Dl) (F:=F) (Ea:=[]) (fun _ _ h=>by cases h)
    cases fuel with
    | zero=>exact absurd hf (by simp)
    | succ fuel=>exact⟨E,Dl,[],by simp only [iter,s1],by simp only [iter,s2],Int.le_refl _,hE,trivial,hp,hd,hm⟩
  | cons p ps ih=>
    intro fuel E Dl hl hf h0 hE ha hp hd hm
    cases fuel with
    | zero=>exact absurd hf (by simp)
    | succ fuel=>
    obtain⟨o,j⟩:=ha
    have hp1:=hp p (by simp)
    have hp2:∀ q∈ps,q.Text.size≤40∧q.Number<N:=fun q hq=>hp q (by simp [hq])
    simp only [List.length_cons] at hl hf
    by_cases c:p.Number=E
    · obtain⟨s1,s2⟩:=z8H (fuel0:=fuel0) (W:=W) (B:=B) (N:=N) (M:=M) (F:=F) h0 (by omega) (show ps.length≤30 by omega) hd c
      obtain⟨E',Dl',Ea',e1,e2,f1,f2,f3,f4,f5,f6⟩:=ih fuel (E+1) (Dl++[p.Text]) (by omega) (by omega) (by omega) (by omega)
        (by rw [c] at j;rwa [show E+1 - 1=E by omega]) hp2 (by simp;omega) (by
          intro m hm'
          rcases List.mem_append.1 hm' with h | h
          · exact hm m h
          · rw [List.mem_singleton.1 h];exact hp1.1)
      exact⟨E',Dl',Ea',by simp only [iter,s1];exact e1,by simp only [iter,s2];exact e2,by omega,f2,f3,f4,f5,f6⟩
    · obtain⟨s1,s2⟩:=z7r (fuel0:=fuel0) (W:=W) (B:=B) (N:=N) (E:=E) (M:=M) (Dl:=Dl) (F:=F) (Ea:=p::ps) (fun _ _ h=>by cases h;exact c)
      exact⟨E,Dl,p::ps,by simp only [iter,s1],by simp only [iter,s2],Int.le_refl _,hE,⟨by omega,j⟩,hp,hd,hm⟩


def ins (p:D.Packet):List D.Packet→List D.Packet
  | []=>[p]
  | q::qs=>if q.Number≥p.Number then(if q.Number>p.Number then p::q::qs else q::qs) else q::ins p qs

theorem z8E {p:D.Packet}:∀ (qs:List D.Packet),∀ a∈ins p qs,a=p∨a∈qs
  | [],a,h=>.inl (by simpa [ins] using h)
  | q::qs,a,h=>by
    unfold ins at h
    split at h
    · split at h
      · rcases List.mem_cons.1 h with h | h
        · exact .inl h
        · exact .inr h
      · exact .inr h
    · rcases List.mem_cons.1 h with h | h
      · exact .inr (by simp [h])
      · rcases z8E qs a h with h | h
        · exact .inl h
        · exact .inr (by simp [h])

theorem z8G {p:D.Packet}:∀ (qs:List D.Packet) (l:Int),asc l qs→l<p.Number→asc l (ins p qs)
  | [],l,_,h=>⟨h,trivial⟩
  | q::qs,l,⟨h1,h2⟩,h=>by
    unfold ins
    split
    · split
      · rename_i c;exact⟨h,c,h2⟩
      · exact⟨h1,h2⟩
    · exact⟨h1,z8G qs q.Number h2 (by omega)⟩

theorem z8Z {fuel0:Nat}{x:D.Channel}{p q:D.Packet}{rest:List D.Packet}{i:Nat}{b:Bool}{out:List D.Packet}(hl:x.Early.length≤30) (hq:x.Early[i]? = some q) (ho:out.length≤i+(if b then 1 else 0)):
    ∃ b1 out1,zR fuel0 x p (b,(i:Int),out)=some (.next (b1,((i+1:Nat):Int),out1++[q]))∧out1.length≤i+(if b1 then 1 else 0)∧
      (if b1 then(out1++[q])++rest else(out1++[q])++ins p rest)=(if b then out++(q::rest) else out++ins p (q::rest)):=by
  have hi2:=(List.getElem?_eq_some_iff.1 hq).1
  have hw:w64 ((i:Int)+1)=((i+1:Nat):Int):=by rw [zp (by omega) (by omega)];simp
  have put:∀ (b1:Bool) (out1:List D.Packet),out1.length≤i+(if b1 then 1 else 0)→z1D fuel0 x (b,(i:Int),out) (b1,out1)=some (.next (b1,((i+1:Nat):Int),out1++[q])):=fun b1 out1 h1=>by
    have h2:out1.length≤i+1:=by cases b1<;>simp at h1<;>omega
    have g1:((out1.length:Int)+(([q]:List D.Packet).length:Int)≤4294967296):=by simp only [List.length_cons,List.length_nil];omega
    unfold z1D
    dsimp only
    rw [z1z hq,Option.bind_some,if_pos (decide_eq_true g1),hw]
  have hh:zR fuel0 x p (b,(i:Int),out)=if decide (q.Number≥p.Number)=true then zG fuel0 x p (b,(i:Int),out) (!b) else zG fuel0 x p (b,(i:Int),out) false:=by
    unfold zR
    dsimp only
    rw [if_pos (decide_eq_true (by omega)),z1z hq,Option.bind_some]
  rw [hh]
  by_cases c:q.Number≥p.Number
  · rw [if_pos (decide_eq_true c)]
    cases b with
    | true=>
      refine⟨true,out,?_,ho,by simp⟩
      unfold zG
      rw [if_neg (by decide)]
      exact put true out ho
    | false=>
      have j:out.length≤i:=by simpa using ho
      by_cases c2:q.Number>p.Number
      · refine⟨true,out++[p],?_,by simp;omega,by simp [ins,c,c2]⟩
        have g1:((out.length:Int)+(([p]:List D.Packet).length:Int)≤4294967296):=by simp only [List.length_cons,List.length_nil];omega
        unfold zG z1C
        dsimp only
        rw [if_pos (by decide),z1z hq,Option.bind_some,if_pos (decide_eq_true c2),if_pos (decide_eq_true g1)]
        exact put true (out++[p]) (by simp;omega)
      · refine⟨true,out,?_,by simp;omega,by simp [ins,c,c2]⟩
        unfold zG z1C
        dsimp only
        rw [if_pos (by decide),z1z hq,Option.bind_some,if_neg (by simpa using c2)]
        exact put true out (by simp;omega)
  · rw [if_neg (by simpa using c)]
    refine⟨b,out,?_,ho,by cases b<;>simp [ins,c]⟩
    unfold zG
    rw [if_neg (by decide)]
    exact put b out ho

theorem z90 {fuel0:Nat}{x:D.Channel}{p:D.Packet}(hl:x.Early.length≤30) (rest:List D.Packet):∀ (fuel i:Nat) (b:Bool) (out:List D.Packet),x.Early.drop i=rest→i≤x.Early.length→rest.length<fuel→out.length≤i+(if b then 1 else 0)→
    ∃ b' out',iter (zR fuel0 x p) fuel (b,(i:Int),out)=some (.inl (b',out'))∧out'.length≤x.Early.length+1∧(if b' then out' else out'++[p])=(if b then out++rest else out++ins p rest):=by
  induction rest with
  | nil=>
    intro fuel i b out hd hi hf ho
    have hi2:i=x.Early.length:=by
      have:=List.drop_eq_nil_iff.1 hd;omega
    cases fuel with
    | zero=>exact absurd hf (by simp)
    | succ fuel=>
    refine⟨b,out,?_,by cases b<;>simp at ho<;>omega,by cases b<;>simp [ins]⟩
    have hb:zR fuel0 x p (b,(i:Int),out)=some (.brk (b,out)):=by
      unfold zR
      dsimp only
      rw [if_neg (by simp;omega)]
    simp only [iter,hb]
  | cons q rest ih=>
    intro fuel i b out hd hi hf ho
    have hi2:i<x.Early.length:=by
      rcases Nat.lt_or_ge i x.Early.length with h | h
      · exact h
      · rw [List.drop_eq_nil_of_le h] at hd;cases hd
    have hq:x.Early[i]? = some q:=by
      have h1:(x.Early.drop i)[0]? = some q:=by rw [hd];rfl
      rw [List.getElem?_drop] at h1
      simpa using h1
    have hd2:x.Early.drop (i+1)=rest:=by
      have h1:(x.Early.drop i).tail=rest:=by rw [hd];rfl
      rw [List.tail_drop] at h1
      exact h1
    cases fuel with
    | zero=>exact absurd hf (by simp)
    | succ fuel=>
    simp only [List.length_cons] at hf
    obtain⟨b1,out1,s1,s2,s3⟩:=z8Z (fuel0:=fuel0) (p:=p) (rest:=rest) hl hq ho
    obtain⟨b',out',e1,e2,e3⟩:=ih fuel (i+1) b1 (out1++[q]) hd2 (by omega) (by omega) (by simp;omega)
    exact⟨b',out',by simp only [iter,s1];exact e1,e2,e3.trans s3⟩


theorem z8P {n:Int}:∀ {qs:List D.Packet}{l:Int}{i j:Nat}{a b:D.Packet},asc l qs→qs[i]? = some a→qs[j]? = some b→i<j→a.Number<b.Number
  | [],_,i,_,_,_,_,h,_,_=>by simp at h
  | q::qs,l,0,j+1,a,b,⟨_,h2⟩,h,h',_=>by
    simp at h h'
    subst h
    have:∀ {qs:List D.Packet}{l:Int}{j:Nat},asc l qs→qs[j]? = some b→l<b.Number:=by
      intro qs
      induction qs with
      | nil=>intro l j _ h;simp at h
      | cons q qs ih=>
        intro l j ⟨h1,h2⟩ h
        cases j with
        | zero=>simp at h;subst h;exact h1
        | succ j=>simp at h;have:=ih h2 h;omega
    exact this h2 h'
  | q::qs,l,i+1,j+1,a,b,⟨_,h2⟩,h,h',hij=>by
    simp at h h'
    exact z8P (n:=n) h2 h h' (by omega)

theorem z6t {fuel0:Nat}{xs:List D.Packet}{n l:Int}(hl:xs.length≤30) (ha:asc l xs) (o:-1≤l) (hn:0≤n∧n≤30) (hp:∀ p∈xs,p.Number<30):∀ (d i j fuel:Nat),j - i≤d→i≤j→j≤xs.length→d<fuel→
    (∀ (k:Nat) a,k<i→xs[k]? = some a→a.Number<n)→(∀ (k:Nat) a,j≤k→xs[k]? = some a→n≤a.Number)→
    ∃ k:Nat,iter (z4 fuel0 xs n (fun y0 y1=>zh fuel0 y0 y1)) fuel ((i:Int),(j:Int))=some (.inl (k:Int))∧k≤xs.length∧
      (∀ (m:Nat) a,m<k→xs[m]? = some a→a.Number<n)∧(∀ (m:Nat) a,k≤m→xs[m]? = some a→n≤a.Number)
  | d,i,j,0,_,_,_,hf,_,_=>by omega
  | d,i,j,fuel+1,hd,hij,hj,hf,h1,h2=>by
    rcases Nat.lt_or_ge i j with c | c
    · have hm:w64 ((IntKind.u64.wrap (w64 ((i:Int)+(j:Int)))).fdiv 2)=(((i+j) / 2:Nat):Int):=by
        rw [zp (n:=(i:Int)+j) (by omega) (by omega)]
        have hw:IntKind.u64.wrap ((i:Int)+(j:Int))=(i:Int)+j:=by
          unfold IntKind.wrap
          simp [IntKind.bits,IntKind.signed]
          omega
        rw [hw,Int.fdiv_eq_ediv_of_nonneg _ (by omega),zp (by omega) (by omega)]
        omega
      obtain⟨m,y⟩:∃ m,m=(i+j) / 2:=⟨_,rfl⟩
      rw [← y] at hm
      obtain⟨q,hq⟩:=z51 (xs:=xs) (i:=m) (by omega)
      have hqn:=hp q (List.mem_of_getElem? hq)
      have hq0:l<q.Number:=by
        have:∀ {qs:List D.Packet}{l:Int}{j:Nat},asc l qs→qs[j]? = some q→l<q.Number:=by
          intro qs
          induction qs with
          | nil=>intro l j _ h;simp at h
          | cons q qs ih=>
            intro l j ⟨h1,h2⟩ h
            cases j with
            | zero=>simp at h;subst h;exact h1
            | succ j=>simp at h;have:=ih h2 h;omega
        exact this ha hq
      have hsub:w64 (q.Number - n)=q.Number - n:=zp (by omega) (by omega)
      have hb:z4 fuel0 xs n (fun y0 y1=>zh fuel0 y0 y1) ((i:Int),(j:Int))=if decide (q.Number - n<0)=true then some (.next (((m+1:Nat):Int),(j:Int))) else some (.next ((i:Int),(m:Int))):=by
        unfold z4
        dsimp only
        rw [if_pos (decide_eq_true (by omega)),hm,z1z hq,Option.bind_some]
        unfold zh
        rw [Option.bind_some,hsub,zp (n:=(m:Int)+1) (by omega) (by omega)]
        rfl
      by_cases e:q.Number - n<0
      · obtain⟨k,e1,e2,e3,e4⟩:=z6t (fuel0:=fuel0) hl ha o hn hp (d - 1) (m+1) j fuel (by omega) (by omega) hj (by omega) (by
          intro k a hk hka
          rcases Nat.lt_or_ge k m with h | h
          · have:=z8P (n:=0) ha hka hq h;omega
          · obtain rfl:k=m:=by omega
            rw [hq] at hka;cases hka;omega) h2
        refine⟨k,?_,e2,e3,e4⟩
        unfold iter
        rw [hb,if_pos (decide_eq_true e)]
        exact e1
      · obtain⟨k,e1,e2,e3,e4⟩:=z6t (fuel0:=fuel0) hl ha o hn hp (d - 1) i m fuel (by omega) (by omega) (by omega) (by omega) h1 (by
          intro k a hk hka
          rcases Nat.lt_or_ge m k with h | h
          · have:=z8P (n:=0) ha hq hka h;omega
          · obtain rfl:k=m:=by omega
            rw [hq] at hka;cases hka;omega)
        refine⟨k,?_,e2,e3,e4⟩
        unfold iter
        rw [hb,if_neg (by simpa using e)]
        exact e1
    · obtain rfl:i=j:=by omega
      refine⟨i,?_,hj,h1,h2⟩
      unfold iter z4
      dsimp only
      rw [if_neg (by simp)]

theorem z8F {p:D.Packet}:∀ (xs:List D.Packet) (k:Nat),k≤xs.length→(∀ (m:Nat) a,m<k→xs[m]? = some a→a.Number<p.Number)→ins p xs=xs.take k++ins p (xs.drop k)
  | xs,0,_,_=>by simp
  | q::xs,k+1,hk,h=>by
    have h0:=h 0 q (by omega) rfl
    simp only [List.take_succ_cons,List.drop_succ_cons,List.cons_append]
    rw [← z8F xs k (by simp at hk;omega) (fun m a hm ha=>h (m+1) a (by omega) (by simpa using ha))]
    show(if _ then _ else _)=_
    rw [if_neg (by omega)]

theorem z8K {fuel:Nat}{xs:List D.Packet}{p:D.Packet}{l:Int}(hf:18446744073709551616≤fuel) (hl:xs.length≤30) (ha:asc l xs) (j:-1≤l) (hn:0≤p.Number∧p.Number≤30) (hp:∀ p∈xs,p.Number<30):
    ∃ (k:Nat) (b:Bool),z6 fuel xs p.Number (fun y0 y1=>zh fuel y0 y1)=some ((k:Int),b)∧k≤xs.length∧(if b then xs else xs.take k++([p]++xs.drop k))=ins p xs:=by
  obtain⟨k,e1,e2,e3,e4⟩:=z6t (fuel0:=fuel) hl ha j hn hp xs.length 0 xs.length fuel (by omega) (by omega) (by omega) (by omega) (fun k a h=>by omega) (fun k a h ha=>by
    have:=(List.getElem?_eq_some_iff.1 ha).1;omega)
  have hc:=z8F (p:=p) xs k e2 e3
  unfold z6
  have e1':iter (z4 fuel xs p.Number (fun y0 y1=>zh fuel y0 y1)) fuel (0,(xs.length:Int))=some (.inl (k:Int)):=e1
  rw [e1',Option.bind_some]
  show ∃ (k':Nat) (b:Bool),zb fuel xs p.Number (fun y0 y1=>zh fuel y0 y1) (k:Int)=_∧_
  unfold zb
  rcases Nat.lt_or_ge k xs.length with c | c
  · obtain⟨q,hq⟩:=z51 c
    have h1:=e4 k q (Nat.le_refl _) hq
    have h2:=hp q (List.mem_of_getElem? hq)
    have hd:xs.drop k=q::xs.drop (k+1):=by
      have h2:=(List.getElem?_eq_some_iff.1 hq).2
      rw [← h2,← List.drop_eq_getElem_cons c]
    rw [if_pos (decide_eq_true (by omega)),z1z hq,Option.bind_some]
    unfold zh
    rw [Option.bind_some,zp (by omega) (by omega)]
    refine⟨k,_,rfl,e2,?_⟩
    rw [hc]
    by_cases e:q.Number=p.Number
    · rw [show(q.Number - p.Number == 0)=true by simp;omega,if_pos rfl,hd]
      show _=_++(if _ then _ else _)
      rw [if_pos (by omega),if_neg (by omega),← hd,List.take_append_drop]
    · rw [show(q.Number - p.Number == 0)=false by simp;omega,if_neg Bool.false_ne_true,hd]
      show _=_++(if _ then _ else _)
      rw [if_pos (by omega),if_pos (by omega)]
      rfl
  · rw [if_neg (by simp;omega)]
    refine⟨k,false,rfl,e2,?_⟩
    rw [hc,List.drop_eq_nil_of_le c]
    rfl
end Go.E


namespace Go.E
open Go.RowKit Go.Proofs
set_option linter.unusedSimpArgs false
set_option linter.unusedVariables false

theorem z4T {τ A:Type}{t:τ}{k:τ→Option A}:((some (Sum.inl t):Option (τ ⊕ A)).bind fun o=>aft o k)=k t:=rfl
theorem z77 {τ A:Type}{a:A}{k:τ→Option A}:((some (Sum.inr a):Option (τ ⊕ A)).bind fun o=>aft o k)=some a:=rfl
theorem z4M {α:Type}{xs:List α}{a:α}(h:xs.length≤1048576):((xs.length:Int)+(([a]:List α).length:Int)≤4294967296):=by simp only [List.length_cons,List.length_nil];omega

set_option maxRecDepth 100000 in
theorem z7j {fuel:Nat}{x:D.Channel}{p:D.Packet}(hf:18446744073709551616≤fuel) (hx:CInv x) (hF:x.Flight.length≤59) (hp:p.Text.size≤40∧0≤p.Number∧p.Number<x.Next) (ha:p.Ack=false):
    ∃ c,z2Q fuel x p=some c∧z1y fuel x p=some c∧CInv c:=by
  have hE:=hx.early
  have q1:=hx.b0;have q2:=hx.be;have q3:=hx.en;have q4:=hx.nm;have q5:=hx.m30;have q6:=hx.dl
  have keep:∀ {E:Int}{Ea:List D.Packet}{Dl:List ByteArray},x.Expected≤E→E≤x.Next→asc E Ea→(∀ p∈Ea,p.Text.size≤40∧p.Number<x.Next)→(Dl.length:Int)=E→(∀ m∈Dl,m.size≤40)→
      CInv (⟨x.Window,x.Messages,x.Base,x.Next,E,Ea,Dl,x.Flight++[⟨true,E,⟨#[]⟩⟩]⟩:D.Channel):=fun {E Ea Dl} h1 h2 h3 h4 h5 h6=>by
    refine⟨hx.w1,hx.w8,hx.b0,Int.le_trans hx.be h1,h2,hx.nm,hx.m30,hx.nb,hx.ms,by simp;omega,?_,h3,h4,h5,h6⟩
    intro r hr
    rcases List.mem_append.1 hr with h | h
    · obtain⟨g1,g2,g3,g4⟩:=hx.fp r h
      exact⟨g1,g2,fun e=>Int.le_trans (g3 e) h1,g4⟩
    · rw [List.mem_singleton.1 h]
      exact⟨(by decide:(⟨#[]⟩:ByteArray).size≤40),by show 0≤E;omega,fun _=>Int.le_refl _,fun e=>(by cases e)⟩
  have spec_end:∀ (E:Int) (Ea:List D.Packet) (Dl:List ByteArray),z1F fuel x (E,Ea,Dl)=some (⟨x.Window,x.Messages,x.Base,x.Next,E,Ea,Dl,x.Flight++[⟨true,E,⟨#[]⟩⟩]⟩:D.Channel):=fun E Ea Dl=>by
    unfold z1F
    dsimp only
    rw [if_pos (decide_eq_true (z4M (xs:=x.Flight) (by omega)))]
  have impl_end:∀ (E:Int) (Ea:List D.Packet) (Dl:List ByteArray),z1a fuel (x.Window,x.Base,x.Next,E,x.Messages,Ea,Dl,x.Flight)=some (⟨x.Window,x.Messages,x.Base,x.Next,E,Ea,Dl,x.Flight++[⟨true,E,⟨#[]⟩⟩]⟩:D.Channel):=fun E Ea Dl=>by
    unfold z1a
    dsimp only
    rw [if_pos (decide_eq_true (z4M (xs:=x.Flight) (by omega)))]
  unfold z2Q z1y
  rw [ha,if_neg Bool.false_ne_true]
  by_cases c:p.Number=x.Expected
  · rw [show(p.Number == x.Expected)=true by simpa using c,if_pos rfl,if_pos rfl,if_pos (decide_eq_true (z4M (xs:=x.Delivered) (a:=p.Text) (by omega)))]
    have hw:w64 (x.Expected+1)=x.Expected+1:=zp (by omega) (by omega)
    unfold z1o
    rw [if_pos (decide_eq_true (z4M (xs:=x.Delivered) (a:=p.Text) (by omega))),Option.bind_some]
    dsimp only
    rw [hw]
    obtain⟨E',Dl',Ea',e1,e2,f1,f2,f3,f4,f5,f6⟩:=z8J (fuel0:=fuel) (W:=x.Window) (B:=x.Base) (N:=x.Next) (M:=x.Messages) (F:=x.Flight) (by omega) x.Early fuel (x.Expected+1) (x.Delivered++[p.Text]) hE (by omega) (by omega) (by omega)
      (by rw [show x.Expected+1 - 1=x.Expected by omega];exact hx.ea) hx.ep (by simp;omega) (by
        intro m hm'
        rcases List.mem_append.1 hm' with h | h
        · exact hx.ds m h
        · rw [List.mem_singleton.1 h];exact hp.1)
    rw [e1,e2]
    refine⟨_,?_,?_,keep (by omega) f2 f3 f4 f5 f6⟩
    · rw [z4T]
      unfold z3v
      exact spec_end E' Ea' Dl'
    · rw [z4T]
      unfold z2V
      exact impl_end E' Ea' Dl'
  · rw [show(p.Number == x.Expected)=false by simpa using c,if_neg Bool.false_ne_true,if_neg Bool.false_ne_true]
    by_cases c2:p.Number>x.Expected
    · rw [if_pos (decide_eq_true c2),if_pos (decide_eq_true c2)]
      have hi1:asc x.Expected (ins p x.Early):=z8G _ _ hx.ea c2
      have hi2:∀ q∈ins p x.Early,q.Text.size≤40∧q.Number<x.Next:=fun q hq=>by
        rcases z8E _ q hq with rfl | h
        · exact⟨hp.1,hp.2.2⟩
        · exact hx.ep q h
      obtain⟨b',out',e1,e2,e3⟩:=z90 (fuel0:=fuel) (p:=p) hE x.Early fuel 0 false [] rfl (Nat.zero_le _) (by omega) (by simp)
      have e1':iter (zR fuel x p) fuel (false,0,[])=some (.inl (b',out')):=e1
      have e3':(if b' then out' else out'++[p])=ins p x.Early:=by simpa using e3
      obtain⟨k,b,s1,s2,s3⟩:=z8K hf hE hx.ea (by omega) (show 0≤p.Number∧p.Number≤30 by omega) (fun q hq=>by have:=(hx.ep q hq).2;omega)
      rw [e1',s1]
      refine⟨_,?_,?_,keep (Int.le_refl _) q3 hi1 hi2 q6 hx.ds⟩
      · rw [z4T]
        unfold z3u z2j z1E
        cases b' with
        | true=>
          dsimp only
          rw [if_neg (by decide),spec_end,show out'=ins p x.Early from e3']
        | false=>
          dsimp only
          rw [if_pos (by decide),if_pos (decide_eq_true (z4M (xs:=out') (a:=p) (by omega))),spec_end,show out'++[p]=ins p x.Early from e3']
      · rw [Option.bind_some]
        unfold z1w z19
        cases b with
        | true=>
          have s4:x.Early=ins p x.Early:=s3
          dsimp only
          rw [if_neg (by decide),impl_end,← s4]
        | false=>
          have s4:x.Early.take (k:Int).toNat++([p]++x.Early.drop (k:Int).toNat)=ins p x.Early:=by rw [Int.toNat_natCast];exact s3
          dsimp only
          rw [if_pos (by decide)]
          unfold zN
          have g:(0≤(k:Int)∧(k:Int)≤(x.Early.length:Int)∧([p]:List D.Packet).length=1∧(x.Early.length:Int)≤4294967295):=⟨by omega,by omega,rfl,by omega⟩
          rw [if_pos (decide_eq_true g),Option.bind_some,s4,impl_end]
    · rw [if_neg (by simpa using c2),if_neg (by simpa using c2)]
      unfold z1E z19
      exact⟨_,spec_end _ _ _,impl_end _ _ _,keep (Int.le_refl _) q3 hx.ea hx.ep q6 hx.ds⟩


def Ev (x:D.Channel) (e:D.ChannelEvent):Prop:=
  (e.Kind=1∧x.Next<x.Messages.length∧x.Next<x.Base+x.Window∧x.Flight.length<60)∨(e.Kind=2∧0≤e.Index∧e.Index<x.Next - x.Base∧x.Flight.length<60)∨
  ((e.Kind=3∨e.Kind=4)∧0≤e.Index∧e.Index<x.Flight.length)∨(e.Kind=5∧0≤e.Index∧e.Index<x.Flight.length∧x.Flight.length<60)

theorem z7w {α:Type}{xs:List α}{i:Int}(h0:0≤i) (h1:i<xs.length):∃ a,idx xs i=some a∧a∈xs:=by
  obtain⟨a,ha⟩:=z51 (xs:=xs) (i:=i.toNat) (by omega)
  have:=z1z ha
  rw [Int.toNat_of_nonneg h0] at this
  exact⟨a,this,List.mem_of_getElem? ha⟩

theorem z8r {fuel:Nat}{x:D.Channel}{n:Int}:z3N fuel x n=z1r fuel x n:=rfl

theorem z6G {fuel:Nat}{x:D.Channel}{n:Int}(hx:CInv x) (h0:0≤n) (h1:n<x.Messages.length) (hF:x.Flight.length<60):
    ∃ t:ByteArray,t.size≤40∧z1r fuel x n=some (⟨x.Window,x.Messages,x.Base,x.Next,x.Expected,x.Early,x.Delivered,x.Flight++[⟨false,n,t⟩]⟩:D.Channel):=by
  obtain⟨t,h2,h3⟩:=z7w h0 h1
  refine⟨t,hx.ms t h3,?_⟩
  unfold z1r
  rw [h2,Option.bind_some,if_pos (decide_eq_true (z4M (by omega)))]

theorem z7J {fuel:Nat}{x:D.Channel}{e:D.ChannelEvent}(hf:18446744073709551616≤fuel) (hx:CInv x) (he:Ev x e):
    ∃ c,z2G fuel x e=some c∧zo fuel x e=some c∧CInv c:=by
  have q1:=hx.b0;have q2:=hx.be;have q3:=hx.en;have q4:=hx.nm;have q5:=hx.m30;have q6:=hx.fl;have q7:=hx.nb;have q8:=hx.w8
  have more:∀ {N:Int}{p:D.Packet},x.Next≤N→N≤x.Messages.length→N - x.Base≤30→x.Flight.length<60→(p.Text.size≤40∧0≤p.Number∧(p.Ack=true→p.Number≤x.Expected)∧(p.Ack=false→p.Number<N))→
      CInv (⟨x.Window,x.Messages,x.Base,N,x.Expected,x.Early,x.Delivered,x.Flight++[p]⟩:D.Channel):=fun {N p} h1 h2 h3 h4 h5=>by
    refine⟨hx.w1,hx.w8,hx.b0,hx.be,Int.le_trans q3 h1,h2,q5,h3,hx.ms,by simp;omega,?_,hx.ea,fun q hq=>⟨(hx.ep q hq).1,by have:=(hx.ep q hq).2;show q.Number<N;omega⟩,hx.dl,hx.ds⟩
    intro r hr
    rcases List.mem_append.1 hr with h | h
    · obtain⟨g1,g2,g3,g4⟩:=hx.fp r h
      exact⟨g1,g2,g3,fun e=>by have:=g4 e;show r.Number<N;omega⟩
    · rw [List.mem_singleton.1 h]
      exact h5
  unfold z2G zo
  simp only [z8r]
  rcases he with⟨hk,h1,h2,h3⟩ | ⟨hk,h1,h2,h3⟩ | ⟨hk,h1,h2⟩ | ⟨hk,h1,h2,h3⟩
  · obtain⟨t,t1,t2⟩:=z6G (fuel:=fuel) (n:=x.Next) hx (by omega) h1 h3
    have hw:w64 (x.Next+1)=x.Next+1:=zp (by omega) (by omega)
    rw [hk,show((1:Int) == 1)=true by decide,if_pos rfl,if_pos rfl,t2,Option.bind_some]
    dsimp only
    rw [hw]
    exact⟨_,rfl,rfl,more (by omega) (by omega) (by omega) h3 ⟨t1,by show 0≤x.Next;omega,fun e=>(by cases e),fun _=>by show x.Next<x.Next+1;omega⟩⟩
  · have hw:w64 (x.Base+e.Index)=x.Base+e.Index:=zp (by omega) (by omega)
    obtain⟨t,t1,t2⟩:=z6G (fuel:=fuel) (n:=x.Base+e.Index) hx (by omega) (by omega) h3
    rw [hk,show((2:Int) == 1)=false by decide,show((2:Int) == 2)=true by decide,if_neg Bool.false_ne_true,if_neg Bool.false_ne_true,if_pos rfl,if_pos rfl,hw,t2,Option.bind_some]
    exact⟨_,rfl,rfl,more (Int.le_refl _) q4 q7 h3 ⟨t1,by show 0≤x.Base+e.Index;omega,fun e=>(by cases e),fun _=>by show x.Base+e.Index<x.Next;omega⟩⟩
  · obtain⟨p,p1,p2⟩:=z7w h1 h2
    have hw:w64 (e.Index+1)=e.Index+1:=zp (by omega) (by omega)
    have k1:(e.Kind == 1)=false:=by rcases hk with h | h<;>rw [h]<;>rfl
    have k2:(e.Kind == 2)=false:=by rcases hk with h | h<;>rw [h]<;>rfl
    have k5:(e.Kind == 5)=false:=by rcases hk with h | h<;>rw [h]<;>rfl
    obtain⟨i,hi⟩:∃ i:Nat,e.Index=i:=⟨e.Index.toNat,by omega⟩
    have hcut:((([]:List D.Packet)++((x.Flight.take e.Index.toNat).drop 0))++((x.Flight.take x.Flight.length).drop (e.Index+1).toNat))=x.Flight.eraseIdx e.Index.toNat:=by
      rw [List.nil_append,List.drop_zero,List.take_length,List.eraseIdx_eq_take_drop_succ,show(e.Index+1).toNat=e.Index.toNat+1 by omega]
    have hlen:(x.Flight.eraseIdx e.Index.toNat).length≤59:=by
      rw [List.length_eraseIdx,if_pos (by omega)];omega
    have hmem:∀ r∈x.Flight.eraseIdx e.Index.toNat,r∈x.Flight:=fun r hr=>List.mem_of_mem_eraseIdx hr
    have l1:((x.Flight.take e.Index.toNat).drop 0).length≤60:=by simp;omega
    have l2:((([]:List D.Packet)++((x.Flight.take e.Index.toNat).drop 0)).length)≤60:=by simpa using l1
    have l3:((x.Flight.take x.Flight.length).drop (e.Index+1).toNat).length≤60:=by simp;omega
    have hdel:zn fuel x.Flight e.Index (e.Index+1)=some (x.Flight.eraseIdx e.Index.toNat):=by
      unfold zn
      rw [if_pos (decide_eq_true ⟨h1,rfl,h2,by omega⟩)]
    have hy:CInv (⟨x.Window,x.Messages,x.Base,x.Next,x.Expected,x.Early,x.Delivered,x.Flight.eraseIdx e.Index.toNat⟩:D.Channel):=
      ⟨hx.w1,hx.w8,hx.b0,hx.be,hx.en,hx.nm,hx.m30,hx.nb,hx.ms,by show(x.Flight.eraseIdx e.Index.toNat).length≤60;omega,fun r hr=>hx.fp r (hmem r hr),hx.ea,hx.ep,hx.dl,hx.ds⟩
    have hpf:=hx.fp p p2
    simp only [k1,k2,k5,Bool.false_eq_true,if_false]
    rw [p1,Option.bind_some,Option.bind_some,hw,hdel,Option.bind_some,if_pos (decide_eq_true ⟨Int.le_refl _,h1,by omega⟩),if_pos (decide_eq_true (by simp only [List.length_nil];omega)),if_pos (decide_eq_true ⟨by omega,by omega,Int.le_refl _⟩),if_pos (decide_eq_true (by omega)),hcut]
    unfold z3O
    rcases hk with hk | hk
    · rw [hk,show((3:Int) == 4)=false by decide,show((3:Int) == 3)=true by decide,if_neg Bool.false_ne_true,if_pos rfl]
      cases ha:p.Ack with
      | false=>
        obtain⟨c,c1,c2,c3⟩:=z7j (p:=p) hf hy hlen ⟨hpf.1,hpf.2.1,hpf.2.2.2 ha⟩ ha
        rw [if_pos (by decide),c1,c2]
        exact⟨c,rfl,rfl,c3⟩
      | true=>
        rw [if_neg (by decide)]
        unfold z1y z31
        rw [ha,if_pos rfl,Option.bind_some]
        dsimp only
        have hn:=hpf.2.2.1 ha
        by_cases c:p.Number>x.Base
        · have hnot:¬ x.Base>p.Number:=by omega
          rw [if_pos c,if_neg (by simpa using hnot),Option.bind_some]
          exact⟨_,rfl,rfl,hy.w1,hy.w8,by show 0≤p.Number;omega,hn,hy.en,hy.nm,hy.m30,by show x.Next - p.Number≤30;omega,hy.ms,hy.fl,hy.fp,hy.ea,hy.ep,hy.dl,hy.ds⟩
        · rw [if_neg c]
          have:z31 fuel x.Base p.Number=some x.Base:=by
            unfold z31
            by_cases d:x.Base>p.Number
            · rw [if_pos (decide_eq_true d)]
            · rw [if_neg (by simpa using d)]
              congr 1;omega
          unfold z31 at this
          rw [this]
          exact⟨_,rfl,rfl,hy⟩
    · rw [hk,show((4:Int) == 4)=true by decide,show((4:Int) == 3)=false by decide,if_pos rfl,if_neg Bool.false_ne_true]
      exact⟨_,rfl,rfl,hy⟩
  · obtain⟨p,p1,p2⟩:=z7w h1 h2
    have k1:(e.Kind == 1)=false:=by rw [hk];rfl
    have k2:(e.Kind == 2)=false:=by rw [hk];rfl
    have k5:(e.Kind == 5)=true:=by rw [hk];rfl
    simp only [k1,k2,k5,Bool.false_eq_true,if_false,if_true]
    rw [p1,Option.bind_some,if_pos (decide_eq_true (z4M (by omega)))]
    exact⟨_,rfl,rfl,more (Int.le_refl _) q4 q7 h3 (hx.fp p p2)⟩


theorem z6h {fuel:Nat}{x:D.Channel}:z24 fuel x=z1J fuel x:=rfl

theorem z5S {fuel:Nat}{x:D.Channel}(hx:CInv x):z2p fuel x=some (decide (x.Next<x.Messages.length∧x.Next<x.Base+x.Window∧x.Flight.length<60)):=by
  have q1:=hx.b0;have q8:=hx.w8;have q2:=hx.be;have q3:=hx.en;have q4:=hx.nm;have q5:=hx.m30;have q9:=hx.w1
  unfold z2p
  rw [zp (n:=x.Base+x.Window) (by omega) (by omega)]
  by_cases a:x.Next<x.Messages.length<;>by_cases b:x.Next<x.Base+x.Window<;>by_cases c:(x.Flight.length:Int)<60<;>simp [a,b,c]
  all_goals omega

theorem z6M {fuel:Nat}{x:D.Channel}(hf:18446744073709551616≤fuel) (hx:CInv x):∃ l,z1J fuel x=some l∧l.length≤1000∧∀ e∈l,Ev x e:=by
  have q1:=hx.b0;have q2:=hx.be;have q3:=hx.en;have q4:=hx.nm;have q5:=hx.m30;have q6:=hx.fl;have q7:=hx.nb
  have hw:w64 (x.Next - x.Base)=x.Next - x.Base:=zp (by omega) (by omega)
  have add:∀ {l m:List D.ChannelEvent},(∀ e∈l,Ev x e)→(∀ e∈m,Ev x e)→∀ e∈l++m,Ev x e:=fun h1 h2 e he=>by
    rcases List.mem_append.1 he with h | h
    · exact h1 e h
    · exact h2 e h
  have e2:∀ t:List D.ChannelEvent,t.length≤100→(∀ e∈t,Ev x e)→∃ l,z30 fuel x t=some l∧l.length≤1000∧∀ e∈l,Ev x e:=fun t ht ht2=>by
    unfold z30
    obtain⟨o,a1,a2⟩:=z2W (body:=z2t fuel x) (fun i s=>s.1=(i:Int)∧s.2.length≤100+3*i∧∀ e∈s.2,Ev x e) x.Flight.length (fun o=>∃ l,o=.inl l∧l.length≤1000∧∀ e∈l,Ev x e) (by
      rintro i ⟨s,l⟩ hi ⟨g1,g2,g3⟩
      dsimp only at g1 g2 g3
      subst g1
      have hw:w64 ((i:Int)+1)=((i+1:Nat):Int):=by rw [zp (by omega) (by omega)];simp
      have g4:∀ e∈l++([(⟨3,(i:Int)⟩:D.ChannelEvent),(⟨4,(i:Int)⟩:D.ChannelEvent)]:List D.ChannelEvent),Ev x e:=add g3 (by
        intro e he
        right;right;left
        rcases List.mem_cons.1 he with rfl | he
        · exact⟨.inl rfl,by show 0≤(i:Int);omega,by show(i:Int)<_;omega⟩
        · rw [List.mem_singleton.1 he]
          exact⟨.inr rfl,by show 0≤(i:Int);omega,by show(i:Int)<_;omega⟩)
      left
      unfold z2t
      dsimp only
      rw [if_pos (decide_eq_true (by omega)),if_pos (by simp;omega)]
      by_cases hr:(x.Flight.length:Int)<60
      · rw [if_pos (decide_eq_true hr),if_pos (by simp;omega)]
        refine⟨_,rfl,hw,by simp;omega,add g4 ?_⟩
        intro e he
        rw [List.mem_singleton.1 he]
        exact .inr (.inr (.inr ⟨rfl,by show 0≤(i:Int);omega,by show(i:Int)<_;omega,by omega⟩))
      · rw [if_neg (by simpa using hr)]
        exact⟨_,rfl,hw,by simp;omega,g4⟩) (by
      rintro⟨s,l⟩ ⟨g1,g2,g3⟩
      dsimp only at g1 g2 g3
      subst g1
      refine .inr ⟨l,?_,l,rfl,by omega,g3⟩
      unfold z2t
      rw [if_neg (by simp)]) (fuel:=fuel) (i:=0) (s:=(0,t)) (Nat.zero_le _) (by omega) ⟨rfl,by simpa using ht,ht2⟩
    obtain⟨l,rfl,h⟩:=a2
    exact⟨l,by rw [a1];rfl,h⟩
  have e1:∀ t:List D.ChannelEvent,t.length≤1→(∀ e∈t,Ev x e)→∃ l,z1Q fuel x t=some l∧l.length≤1000∧∀ e∈l,Ev x e:=fun t ht ht2=>by
    unfold z1Q
    obtain⟨k,hk⟩:∃ k:Nat,x.Next - x.Base=k:=⟨(x.Next - x.Base).toNat,by omega⟩
    obtain⟨o,a1,a2⟩:=z2W (body:=z2u fuel x) (fun i s=>s.1=(i:Int)∧s.2.length≤1+i∧∀ e∈s.2,Ev x e) k (fun o=>∃ l,o=.inl l∧l.length≤100∧∀ e∈l,Ev x e) (by
      rintro i ⟨s,l⟩ hi ⟨g1,g2,g3⟩
      dsimp only at g1 g2 g3
      subst g1
      have hw2:w64 ((i:Int)+1)=((i+1:Nat):Int):=by rw [zp (by omega) (by omega)];simp
      unfold z2u z1P
      dsimp only
      rw [hw,if_pos (decide_eq_true (by omega))]
      by_cases hr:(x.Flight.length:Int)<60
      · rw [decide_eq_true hr,if_pos rfl,if_pos (by simp;omega)]
        refine .inl ⟨_,rfl,hw2,by simp;omega,add g3 ?_⟩
        intro e he
        rw [List.mem_singleton.1 he]
        exact .inr (.inl ⟨rfl,by show 0≤(i:Int);omega,by show(i:Int)<_;omega,by omega⟩)
      · rw [decide_eq_false hr,if_neg Bool.false_ne_true]
        exact .inr (.inr ⟨_,rfl,l,rfl,by omega,g3⟩)) (by
      rintro⟨s,l⟩ ⟨g1,g2,g3⟩
      dsimp only at g1 g2 g3
      subst g1
      refine .inr ⟨l,?_,l,rfl,by omega,g3⟩
      unfold z2u z1P
      rw [hw,if_neg (by simp;omega),if_neg Bool.false_ne_true]) (fuel:=fuel) (i:=0) (s:=(0,t)) (Nat.zero_le _) (by omega) ⟨rfl,by simpa using ht,ht2⟩
    obtain⟨l,rfl,h,h'⟩:=a2
    rw [a1,Option.bind_some]
    exact e2 l h h'
  unfold z1J
  rw [z5S hx,Option.bind_some]
  by_cases c:x.Next<x.Messages.length∧x.Next<x.Base+x.Window∧x.Flight.length<60
  · rw [if_pos (decide_eq_true c),if_pos (by decide)]
    refine e1 _ (by simp) ?_
    intro e he
    rw [List.nil_append] at he
    rw [List.mem_singleton.1 he]
    exact .inl ⟨rfl,c.1,c.2.1,c.2.2⟩
  · rw [if_neg (by simpa using c)]
    exact e1 _ (by simp) (by intro e he;cases he)


theorem z4c {x:D.Channel}{fuel:Nat}(hs:x.sz≤1048576):z2Y fuel x=some x∧zX fuel x=some x:=by
  unfold D.Channel.sz at hs
  have l1:x.Messages.length≤1048576:=z2P (f:=ByteArray.size) (by omega)
  have l2:x.Early.length≤1048576:=z2P (f:=D.Packet.sz) (by omega)
  have l3:x.Delivered.length≤1048576:=z2P (f:=ByteArray.size) (by omega)
  have l4:x.Flight.length≤1048576:=z2P (f:=D.Packet.sz) (by omega)
  have g:∀ {α:Type}{xs:List α},xs.length≤1048576→((([]:List α).length:Int)+(xs.length:Int)≤4294967296):=fun h=>by simp only [List.length_nil];omega
  constructor
  · unfold z2Y
    rw [if_pos (decide_eq_true (g l1)),if_pos (decide_eq_true (g l3)),if_pos (decide_eq_true (g l2)),if_pos (decide_eq_true (g l4))]
    rfl
  · unfold zX z17 zr
    rw [if_pos (decide_eq_true (g l1)),if_pos (decide_eq_true (g l3)),if_pos (decide_eq_true (g l2)),if_pos (decide_eq_true (g l4))]
    rfl
end Go.E


namespace Go.E
open Go.RowKit Go.Proofs
set_option linter.unusedSimpArgs false
set_option linter.unusedVariables false

theorem z5s:(⟨0,[],0,0,0,[],[],[]⟩:D.Channel).sz≤1048576:=by unfold D.Channel.sz szL;simp [sumL]

theorem z94 {a b:D.ChannelEvent}(h:(((a.Kind:Int) == b.Kind) && (((a.Index:Int) == b.Index) && true))=true):a=b:=by
  cases a;cases b
  simp at h
  obtain⟨h1,h2⟩:=h
  subst h1;subst h2;rfl

theorem z9D {fuel:Nat}{x:D.Channel}{e:D.ChannelEvent}{l:List D.ChannelEvent}(hf:18446744073709551616≤fuel) (hl:l.length≤1000) (he:z1J fuel x=some l):
    ∃ b,z3P fuel x e=some b∧z8 fuel l e=some b∧(b=true→e∈l):=by
  have hm:maxLen=9223372036854775807:=rfl
  have A:=z4t (xs:=l) (body:=z3a fuel e l) (fuel:=fuel) (t:=()) (p:=fun y=>(((y.Kind:Int) == e.Kind) && (((y.Index:Int) == e.Index) && true))) (g:=fun _=>true) (by omega) hf (by
    intro i y hy
    have hi:=(List.getElem?_eq_some_iff.1 hy).1
    simp only [z3a,z1z hy,lt_t (show(i:Int)<l.length by omega),if_true,Option.bind_some]) (by simp [z3a])
  have B:=z4t (xs:=l) (body:=z7 fuel l e) (fuel:=fuel) (t:=()) (p:=fun y=>(((e.Kind:Int) == y.Kind) && (((e.Index:Int) == y.Index) && true))) (g:=fun i=>i) (by omega) hf (by
    intro i y hy
    have hi:=(List.getElem?_eq_some_iff.1 hy).1
    simp only [z7,z1z hy,lt_t (show(i:Int)<l.length by omega),if_true,Option.bind_some]) (by simp [z7])
  have hp:(fun y:D.ChannelEvent=>(((e.Kind:Int) == y.Kind) && (((e.Index:Int) == y.Index) && true)))=fun y=>(((y.Kind:Int) == e.Kind) && (((y.Index:Int) == e.Index) && true)):=by
    funext y
    rw [Bool.beq_comm (a:=e.Kind),Bool.beq_comm (a:=e.Index)]
  rw [hp] at B
  unfold z3P z8 zg
  rw [he,Option.bind_some]
  rcases A with⟨a1,a2⟩ | ⟨a1,i,a2⟩<;>rcases B with⟨b1,b2⟩ | ⟨b1,j,b2⟩
  · refine⟨false,?_,?_,fun h=>by cases h⟩
    · rw [a2];rfl
    · rw [b2];rfl
  · rw [a1] at b1;cases b1
  · rw [a1] at b1;cases b1
  · refine⟨true,?_,?_,fun _=>?_⟩
    · rw [a2];rfl
    · rw [b2]
      show some (decide ((j:Int)≥0))=some true
      simp
    · obtain⟨y,hy,hy2⟩:=List.any_eq_true.1 a1
      rwa [← z94 hy2]

theorem z7e {fuel:Nat}{x:D.Channel}{e:D.ChannelEvent}(hf:18446744073709551616≤fuel) (hw:x.wf) (hw2:e.wf) (hs:x.sz≤1048576):
    ∃ r:D.Channel × Int,z3B fuel x e=some r∧z3c fuel x e=some r∧r.1.sz≤1048576:=by
  obtain⟨b,h1,h2⟩:=z8A hf hw hs
  unfold z3B z3c
  rw [h1,h2,Option.bind_some,Option.bind_some]
  cases b with
  | false=>
    rw [if_pos (by decide),if_pos (by decide)]
    exact⟨_,rfl,rfl,z5s⟩
  | true=>
    have hx:=z8B hs h1
    rw [if_neg (by decide),if_neg (by decide),z6h]
    obtain⟨l,e1,e2,e3⟩:=z6M hf hx
    obtain⟨c,c1,c2,c3⟩:=z9D (e:=e) hf e2 e1
    rw [c1,e1,Option.bind_some,Option.bind_some,c2,Option.bind_some]
    cases c with
    | false=>
      rw [if_pos (by decide),if_pos (by decide)]
      exact⟨_,rfl,rfl,z5s⟩
    | true=>
      obtain⟨d1,d2⟩:=z4c (x:=x) (fuel:=fuel) hs
      rw [if_neg (by decide),if_neg (by decide),d1,d2,Option.bind_some,Option.bind_some]
      obtain⟨y,y1,y2,y3⟩:=z7J hf hx (e3 e (c3 rfl))
      rw [y1,y2,Option.bind_some,Option.bind_some,(z4c (x:=y) (fuel:=fuel) y3.sz).2,Option.bind_some]
      exact⟨_,rfl,rfl,y3.sz⟩

theorem lawDoEvent {x0:D.Channel}{x1:D.ChannelEvent}(h0:D.Channel.wf x0) (h1:D.ChannelEvent.wf x1):∃ fuel,z2L fuel x0 x1=some true:=by
  obtain⟨fuel,hf⟩:∃ n:Nat,18446744073709551616≤n:=⟨_,Nat.le_refl _⟩
  refine⟨fuel,?_⟩
  unfold z2L
  obtain⟨r0,e0,s0⟩:=z4w (l:=(1048576:Int)) hf h0 (by decide) (by omega)
  rw [e0,Option.bind_some]
  rcases s0 with s0 | ⟨s0,t0⟩
  · rw [if_pos (by simp [s0])]
  rw [if_neg (by simp [s0])]
  have z0:D.Channel.sz x0≤1048576:=by omega
  obtain⟨r,a0,a1,b0⟩:=z7e hf h0 h1 z0
  have m0:=fun {β:Type}(g:_→Option β)=>z1K (g:=g) a0
  have m1:=fun {β:Type}(g:_→Option β)=>z1K (g:=g) a1
  have m2:=fun {β:Type}(g:_→Option β)=>z1K (g:=g) (z4v hf z0)
  have m3:=fun {β:Type}(g:_→Option β)=>z1K (g:=g) (z3d hf z0)
  have m4:=fun {β:Type}(g:_→Option β) (k:Int) (h0:0≤k) (h1:k+(ctChannel x0:Nat)≤2147483648)=>z1K (g:=g) (z2z hf z0 h0 h1)
  have c0:=z3J (x:=x0)
  have m5:=fun {β:Type}(g:_→Option β)=>z1K (g:=g) (z5t hf (x:=x1) (Nat.zero_le _))
  have m6:=fun {β:Type}(g:_→Option β)=>z1K (g:=g) (z3d hf b0)
  have m7:=fun {β:Type}(g:_→Option β) (k:Int) (h0:0≤k) (h1:k+(ctChannel r.1:Nat)≤2147483648)=>z1K (g:=g) (z2z hf b0 h0 h1)
  have m8:=fun {β:Type}(g:_→Option β) (k:Int) (h0:0≤k) (h1:k+(ctChannel r.1:Nat)≤2147483648)=>z1K (g:=g) (z46 hf b0 h0 h1)
  have d0:=z3J (x:=r.1)
  simp (disch:=omega) only [↓reduceIte,↓m0,↓m1,↓m2,↓m3,↓m4,↓m5,↓m6,↓m7,↓m8,lt_f,Bool.not_true,Bool.false_eq_true,bne_self_eq_false,z10]
  simp (disch:=omega) only [↓reduceIte,↓z2d,↓m0,↓m1,↓m2,↓m3,↓m4,↓m5,↓m6,↓m7,↓m8,lt_f,Bool.not_true,Bool.false_eq_true,bne_self_eq_false,z10]
  simp (disch:=omega) only [↓reduceIte,↓z2c,↓m0,↓m1,↓m2,↓m3,↓m4,↓m5,↓m6,↓m7,↓m8,lt_f,Bool.not_true,Bool.false_eq_true,bne_self_eq_false,z10]
  simp (disch:=omega) only [↓reduceIte,↓z1u,↓m0,↓m1,↓m2,↓m3,↓m4,↓m5,↓m6,↓m7,↓m8,lt_f,Bool.not_true,Bool.false_eq_true,bne_self_eq_false,z10]
  simp (disch:=omega) only [↓reduceIte,↓z18,↓m0,↓m1,↓m2,↓m3,↓m4,↓m5,↓m6,↓m7,↓m8,lt_f,Bool.not_true,Bool.false_eq_true,bne_self_eq_false,z10]
  simp (disch:=omega) only [↓reduceIte,↓z2b,↓m0,↓m1,↓m2,↓m3,↓m4,↓m5,↓m6,↓m7,↓m8,lt_f,Bool.not_true,Bool.false_eq_true,bne_self_eq_false,z10]
  simp (disch:=omega) only [↓reduceIte,↓z1t,↓m0,↓m1,↓m2,↓m3,↓m4,↓m5,↓m6,↓m7,↓m8,lt_f,Bool.not_true,Bool.false_eq_true,bne_self_eq_false,z10]
end Go.E


