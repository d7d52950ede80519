/- A field of a struct that is no place; several pieces picked at once. Conditions: none (rules). -/
import Derived.Test.YtijgffjimnbcpaaGreatShort
import Derived.Test.YtijgffjimnbcpaaGreatLoops
namespace Go.E
open Go.RowKit
set_option linter.unusedVariables false
set_option linter.unusedSimpArgs false

def pickL (Rs:List Res):List Nat→Option (List Res)
  | []=>some []
  | i::l=>match nthv Rs i,pickL Rs l with
    | some R,some S=>some (R::S)
    | _,_=>none
def notIn (i:Nat):List Nat→Bool
  | []=>true
  | j::l=>match Nat.beq i j with
    | true=>false
    | false=>notIn i l
def unlike:List Nat→Bool
  | []=>true
  | i::l=>notIn i l && unlike l
theorem z9L:∀ {i:Nat}{l:List Nat},notIn i l=true→∀ j,j∈l→j≠i
  | i,[],_,j,h=>by cases h
  | i,k::l,h,j,hj=>by
    unfold notIn at h
    split at h
    · cases h
    · rename_i hb
      rcases List.mem_cons.1 hj with rfl | hj
      · rintro rfl;rw [Nat.beq_refl] at hb;cases hb
      · exact z9L h j hj
theorem z9G {Rs:List Res}{i:Nat}:∀ {l:List Nat}{S:List Res},(∀ j,j∈l→j≠i)→pickL Rs l=some S→pickL (Rs.eraseIdx i) (l.map fun j=>if j<i then j else j - 1)=some S
  | [],S,_,h=>h
  | j::l,S,hn,h=>by
    have hj:=hn j (by simp)
    unfold pickL at h
    split at h
    · rename_i R S' h1 h2
      simp only [Option.some.injEq] at h
      subst h
      have ih:=z9G (fun k hk=>hn k (by simp [hk])) h2
      have he:nthv (Rs.eraseIdx i) (if j<i then j else j - 1)=some R:=by
        rw [z2n] at h1 ⊢
        rw [List.getElem?_eraseIdx]
        by_cases hlt:j<i
        · rw [if_pos hlt,if_pos hlt];exact h1
        · rw [if_neg hlt,if_neg (by omega),Nat.sub_add_cancel (by omega)];exact h1
      simp only [List.map_cons,pickL,he,ih]
    · cases h
theorem z8X {i:Nat}:∀ {l:List Nat},(∀ j,j∈l→j≠i)→unlike l=true→unlike (l.map fun j=>if j<i then j else j - 1)=true
  | [],_,_=>rfl
  | j::l,hn,h=>by
    simp only [unlike,Bool.and_eq_true] at h
    have ih:=z8X (fun k hk=>hn k (by simp [hk])) h.2
    have hj:=hn j (by simp)
    simp only [List.map_cons,unlike,Bool.and_eq_true]
    refine⟨?_,ih⟩
    have key:∀ m:List Nat,(∀ k,k∈m→k≠i)→(∀ k,k∈m→k≠j)→notIn (if j<i then j else j - 1) (m.map fun j=>if j<i then j else j - 1)=true:=by
      intro m
      induction m with
      | nil=>exact fun _ _=>rfl
      | cons k m ihm=>
        intro a b
        have a1:=a k (by simp)
        have b1:=b k (by simp)
        have hne:Nat.beq (if j<i then j else j - 1) (if k<i then k else k - 1)=false:=by
          rw [Bool.eq_false_iff]
          intro hb
          have:=Nat.eq_of_beq_eq_true hb
          by_cases h1:j<i<;>by_cases h2:k<i<;>simp only [h1,h2,if_true,if_false] at this<;>omega
        simp only [List.map_cons,notIn,hne]
        exact ihm (fun k hk=>a k (by simp [hk])) (fun k hk=>b k (by simp [hk]))
    exact key l (fun k hk=>hn k (by simp [hk])) (z9L h.1)
theorem zah:∀ {n:Nat}{l:List Nat}{Rs S:List Res},l.length=n→unlike l=true→pickL Rs l=some S→∃ T,Rs.Perm (S++T)
  | 0,l,Rs,S,hl,_,h=>by
    have:l=[]:=List.eq_nil_of_length_eq_zero hl
    subst this
    simp only [pickL,Option.some.injEq] at h
    subst h
    exact⟨Rs,List.Perm.refl _⟩
  | n+1,[],Rs,S,hl,_,h=>by cases hl
  | n+1,i::l,Rs,S,hl,hu,h=>by
    simp only [unlike,Bool.and_eq_true] at hu
    have hn:=z9L hu.1
    unfold pickL at h
    split at h
    · rename_i R S' h1 h2
      simp only [Option.some.injEq] at h
      subst h
      obtain⟨T,hT⟩:=zah (n:=n) (Rs:=Rs.eraseIdx i) (by simpa using hl) (z8X hn hu.2) (z9G hn h2)
      exact⟨T,(z8N Rs i R h1).trans (hT.cons R)⟩
    · cases h
section
variable {W w:World}{Rs S:List Res}
theorem St.sel (h:St W w Rs) (l:List Nat) (hu:unlike l=true:=by exact rfl) (hp:pickL Rs l=some S:=by exact rfl):St W w S:=by
  obtain⟨T,hT⟩:=zah rfl hu hp
  have:=(h.perm hT).taken S.length
  rwa [List.take_left'] at this
  rfl
end


def tEi {α:Type}(W0:World) (T:Ty α):Ty α where
  size:=T.size
  ro:=T.ro
  own:=fun w cs x G=>T.own w cs x G∨(T.ro W0 cs x∧G=[])
  req:=fun w=>T.req w∧Ext W0 w
  len:=T.len
  lenO:=fun h=>h.elim (fun h=>T.lenO h) fun h=>T.len h.1
  ext:=T.ext
  own_ro:=fun h hq=>h.elim (fun h=>T.own_ro h hq.1) fun h=>T.ext hq.2 h.1
  loc:=fun h hs=>h.elim (fun h=>.inl (T.loc h hs)) fun h=>.inr h
  lt:=by
    rintro _ _ _ _ (h | ⟨h,rfl⟩) g hg
    · exact T.lt h g hg
    · cases hg
  one:=T.one
  oneO:=fun h=>h.elim (fun h=>T.oneO h) fun h=>T.one h.1
instance {W:World}{α:Type}{T:Ty α}[Reads W T]:Reads W (tEi W T):=⟨fun h=>⟨Reads.req h,h⟩⟩
section
variable {α:Type}{T:Ty α}{W0 W w:World}{B:List Res}{cs:List Value}{x:α}
end


section
variable {P:Program}{md:Region.Mode}{ops:Array Oper}{Q:Exit→Act→World→Prop}{wr:Nat→Bool}{T V:World→Prop}
end
section
variable {P:Program}{n:Nat}{Q:Post}{F:Fr}{w:World}{ops:List Oper}{o:Oper}{wm fuel:Nat}{sk:List (List Nat × Nat)}{w0 W9:World}{k m:Nat}
end


def Tail {α:Type}(U:Ty α) (e:Nat) (v:Value) (xs:List α) (k:Int):Res where
  A:=fun w G=>(xs=[]∧∀ b,b∈G→b<w.heap.size)∨∃ g cap c1 c2 rest G2,v=.slice (some ⟨g,0,none⟩) xs.length cap∧w.heap[g]? = some (.cells ⟨(c1++c2)++rest⟩ e (0,0))∧xs.length≤maxLen∧c1.length=k.toNat*U.size∧
    ElsO U w c2 (xs.drop k.toNat) G2∧G=g::G2
  loc:=by
    rintro w w' G (h | ⟨g,cap,c1,c2,rest,G2,hv,hh,a1,a2,a3,rfl⟩) hs
    · refine .inl ⟨h.1,fun b hb=>?_⟩
      rcases Nat.lt_or_ge b w'.heap.size with h1 | h1
      · exact h1
      · have h2:=hs b hb
        rw [Array.getElem?_eq_none h1,Array.getElem?_eq_getElem (h.2 b hb)] at h2
        cases h2
    · exact .inr ⟨g,cap,c1,c2,rest,G2,hv,by rw [hs g (by simp)];exact hh,a1,a2,a3.loc fun b hb=>hs b (by simp [hb]),rfl⟩
  lt:=by
    rintro w G (⟨_,h⟩ | ⟨g,cap,c1,c2,rest,G2,hv,hh,a1,a2,a3,rfl⟩) b hb
    · exact h b hb
    · rcases List.mem_cons.1 hb with rfl | hb
      · rcases Nat.lt_or_ge b w.heap.size with h | h
        · exact h
        · rw [Array.getElem?_eq_none h] at hh;cases hh
      · exact a3.lt b hb
def zgT {α:Type}(U:Ty α) (e:Nat) (v:Value) (xs:List α) (i:Nat) (es:List Value):Res where
  A:=fun w G=>∃ g cap c1 c2 rest G2,v=.slice (some ⟨g,0,none⟩) xs.length cap∧w.heap[g]? = some (.cells ⟨(c1++(es++c2))++rest⟩ e (0,0))∧xs.length≤maxLen∧c1.length=i*U.size∧es.length=U.size∧i<xs.length∧
    ElsO U w c2 (xs.drop (i+1)) G2∧G=g::G2
  loc:=by
    rintro w w' G ⟨g,cap,c1,c2,rest,G2,hv,hh,a1,a2,a3,a4,a5,rfl⟩ hs
    exact⟨g,cap,c1,c2,rest,G2,hv,by rw [hs g (by simp)];exact hh,a1,a2,a3,a4,a5.loc fun b hb=>hs b (by simp [hb]),rfl⟩
  lt:=by
    rintro w G ⟨g,cap,c1,c2,rest,G2,hv,hh,a1,a2,a3,a4,a5,rfl⟩ b hb
    rcases List.mem_cons.1 hb with rfl | hb
    · rcases Nat.lt_or_ge b w.heap.size with h | h
      · exact h
      · rw [Array.getElem?_eq_none h] at hh;cases hh
    · exact a5.lt b hb
section
variable {α:Type}{U:Ty α}{e:Nat}{W w:World}{B:List Res}{A:Option Addr}{k n i:Nat}{xs:List α}{a:α}{es:List Value}{v:Value}{m j:Int}
theorem St.tailFocus (h:St W w (Tail U e (.slice A n k) xs m::B)) (hx:xs[m.toNat]? = some a):∃ es,St W w (zgT U e (.slice A n k) xs m.toNat es::Own U es a::B)∧n=xs.length∧∃ g,A=some ⟨g,0,none⟩:=by
  obtain⟨he,G,hG,hnd,hlo,hrest⟩:=h
  have hi:=(List.getElem?_eq_some_iff.1 hx).1
  rcases hG with⟨rfl,_⟩ | ⟨g,cap,c1,c2,rest,G2,hv,hh,a1,a2,a3,rfl⟩
  · simp at hi
  · have hd:xs.drop m.toNat=a::xs.drop (m.toNat+1):=by
      rw [List.drop_eq_getElem_cons hi,(List.getElem?_eq_some_iff.1 hx).2]
    rw [hd] at a3
    obtain⟨es,d2,H,K,rfl,rfl,k1,k2⟩:=a3
    simp only [Value.slice.injEq] at hv
    refine⟨es,⟨he,g::K,⟨g,cap,c1,d2,rest,K,by rw [hv.1,hv.2.1,hv.2.2],hh,a1,a2,U.lenO k1,hi,k2,rfl⟩,?_,fun b hb=>⟨(hlo b ?_).1,by simp⟩,H,k1,?_,fun b hb=>⟨(hlo b (by simp [hb])).1,?_⟩,hrest.congr fun b hb=>?_⟩,hv.2.1,g,hv.1⟩
    · simp only [List.nodup_cons,List.mem_append,List.nodup_append,not_or] at hnd ⊢
      exact⟨hnd.1.2,hnd.2.2.1⟩
    · rcases List.mem_cons.1 hb with rfl | hb<;>simp [*]
    · simp only [List.nodup_cons,List.nodup_append] at hnd
      exact hnd.2.1
    · simp only [List.nodup_cons,List.mem_append,List.nodup_append,not_or,List.append_nil,List.mem_cons] at hnd ⊢
      exact⟨fun hbg=>hnd.1.1 (hbg ▸ hb),fun d=>hnd.2.2.2 b hb b d rfl⟩
    · simp only [List.mem_append,List.mem_cons,List.append_nil] at hb ⊢
      rcases hb with hb | hb | hb<;>simp [hb]
end

theorem RW.tail {P:Program}{n:Nat}{Q:Post}{F:Fr}{W w:World}{ops rest:List Oper}{o:Oper}{T:TT}(ht:TTok P T){α:Type}{U:Ty α}{B:List Res}{e:Nat}{A:Option Addr}{k ln:Nat}{xs:List α}{a:α}{m:Int}(hS:St W w (Tail U e (.slice A ln k) xs m::B)) (hg:guardOf ops F o=some true){t e':Nat}{x ix:Operand}{i j:TI}
    {kd:IntKind}(ho:o.op=.indexAddr t x ix) (hi:T.get t=some i) (hd:i.d=.slice e') (hj:T.get e'=some j) (hs:U.size=j.size) (hx:F.ev x=some (.slice A ln k)) (hm:F.ev ix=some (.int kd m))
    (h0:0≤m) (ha:xs[m.toNat]? = some a){d:Nat}(hd':o.dst=some d) (hn:Nat.blt d n=true)
    (h:∀ q es,ElAt U A m.toNat q→St W w (zgT U e (.slice A ln k) xs m.toNat es::Own U es a::B)→RW P n ops Q rest ((d,.pointer (some q))::F) w):RW P n ops Q (o::rest) F w:=by
  have hlt:=(List.getElem?_eq_some_iff.1 ha).1
  obtain⟨es,h1,hl,hA⟩:=hS.tailFocus ha
  exact RW.idxHole ht (U:=U) hA hg ho hi hd hj hs hx hm h0 (by omega) hd' hn fun q hq=>h q es hq h1
end Go.E


