/- A field of a struct that is no place; several pieces picked at once. Conditions: none (rules). -/
import Derived.Test.YteommboffflkbaaGreatShort
namespace Go.E
open Go.RowKit
set_option linter.unusedVariables false
set_option linter.unusedSimpArgs false

theorem Quiet.fieldV {P:Program}{T:TT}(ht:TTok P T){n:Nat}{F:Fr}{w:World}{o:Oper}{v:Value}{t f:Nat}{x:Operand}{i j:TI}{gs:List (Nat × Nat × Bool × Nat)}{g:Nat × Nat × Bool × Nat}{cs:List Value}(ho:o.op=.field t x f)
  (hi:T.get t=some i) (hd:i.d=.struct gs) (hg:gs[f]? = some g) (hj:T.get g.2.2.2=some j) (hx:F.ev x=some (.agg ⟨cs⟩)) (hv:isVal j ((cs.drop g.1).take j.size) v):Quiet P n F w o v:=by
 intro a w' ha _
 obtain⟨d,h1,h2,_⟩:=ht.desc hi
 rw [hd] at h2
 cases d<;>simp only [descOk,Bool.false_eq_true] at h2
 rename_i fs _
 obtain⟨fl,hf,hok⟩:=zcX h2 hg
 simp only [fieldOk,Bool.and_eq_true] at hok
 have e1:=Nat.eq_of_beq_eq_true hok.1.1.1.1.1
 have e2:=Nat.eq_of_beq_eq_true hok.1.1.1.1.2
 have hr:=ze0 (P:=P) ht hj hv w'
 rw [← e1,← e2] at hr
 have hf':fs[f]? = some fl:=by simpa using hf
 have hr':(part fl.type (Array.mk cs) fl.offset).run P w'=.ok v w':=hr
 unfold execOp
 rw [ho]
 simp [ha.ev hx,Instr.field,Go.underlying,h1,hf',asAgg,hr']

def pickL (Rs:List Res):List Nat→Option (List Res)
 | []=>some []
 | i::l=>match nthv Rs i,pickL Rs l with
  | some R,some S=>some (R::S)
  | _,_=>none
def notIn (i:Nat):List Nat→Bool
 | []=>true
 | j::l=>match Nat.beq i j with
  | true=>false
  | false=>notIn i l
def unlike:List Nat→Bool
 | []=>true
 | i::l=>notIn i l && unlike l
def below (n:Nat):List Nat→Bool
 | []=>true
 | i::l=>Nat.blt i n && below n l
def selF (Rs:List Res) (l:List Nat) (n:Nat):Option (List Res):=match pickL Rs l with
 | some S=>some (S++Rs.drop n)
 | none=>none
theorem zfW:∀ {i:Nat}{l:List Nat},notIn i l=true→∀ j,j∈l→j≠i
 | i,[],_,j,h=>by cases h
 | i,k::l,h,j,hj=>by
  unfold notIn at h
  split at h
  ·cases h
  ·rename_i hb
   rcases List.mem_cons.1 hj with rfl | hj
   ·rintro rfl;rw [Nat.beq_refl] at hb;cases hb
   ·exact zfW h j hj
theorem zfT {Rs:List Res}{i:Nat}:∀ {l:List Nat}{S:List Res},(∀ j,j∈l→j≠i)→pickL Rs l=some S→pickL (Rs.eraseIdx i) (l.map fun j=>if j<i then j else j - 1)=some S
 | [],S,_,h=>h
 | j::l,S,hn,h=>by
  have hj:=hn j (by simp)
  unfold pickL at h
  split at h
  ·rename_i R S' h1 h2
   simp only [Option.some.injEq] at h
   subst h
   have ih:=zfT (fun k hk=>hn k (by simp [hk])) h2
   have he:nthv (Rs.eraseIdx i) (if j<i then j else j - 1)=some R:=by
    rw [z3x] at h1 ⊢
    rw [List.getElem?_eraseIdx]
    by_cases hlt:j<i
    ·rw [if_pos hlt,if_pos hlt];exact h1
    ·rw [if_neg hlt,if_neg (by omega),Nat.sub_add_cancel (by omega)];exact h1
   simp only [List.map_cons,pickL,he,ih]
  ·cases h
theorem zeM {i:Nat}:∀ {l:List Nat},(∀ j,j∈l→j≠i)→unlike l=true→unlike (l.map fun j=>if j<i then j else j - 1)=true
 | [],_,_=>rfl
 | j::l,hn,h=>by
  simp only [unlike,Bool.and_eq_true] at h
  have ih:=zeM (fun k hk=>hn k (by simp [hk])) h.2
  have hj:=hn j (by simp)
  simp only [List.map_cons,unlike,Bool.and_eq_true]
  refine⟨?_,ih⟩
  have key:∀ m:List Nat,(∀ k,k∈m→k≠i)→(∀ k,k∈m→k≠j)→notIn (if j<i then j else j - 1) (m.map fun j=>if j<i then j else j - 1)=true:=by
   intro m
   induction m with
   | nil=>exact fun _ _=>rfl
   | cons k m ihm=>
    intro a b
    have a1:=a k (by simp)
    have b1:=b k (by simp)
    have hne:Nat.beq (if j<i then j else j - 1) (if k<i then k else k - 1)=false:=by
     rw [Bool.eq_false_iff]
     intro hb
     have:=Nat.eq_of_beq_eq_true hb
     by_cases h1:j<i<;>by_cases h2:k<i<;>simp only [h1,h2,if_true,if_false] at this<;>omega
    simp only [List.map_cons,notIn,hne]
    exact ihm (fun k hk=>a k (by simp [hk])) (fun k hk=>b k (by simp [hk]))
  exact key l (fun k hk=>hn k (by simp [hk])) (zfW h.1)
theorem zeA:∀ {n:Nat}{l:List Nat}{Rs S:List Res},l.length=n→unlike l=true→pickL Rs l=some S→∃ T,Rs.Perm (S++T)
 | 0,l,Rs,S,hl,_,h=>by
  have:l=[]:=List.eq_nil_of_length_eq_zero hl
  subst this
  simp only [pickL,Option.some.injEq] at h
  subst h
  exact⟨Rs,List.Perm.refl _⟩
 | n+1,[],Rs,S,hl,_,h=>by cases hl
 | n+1,i::l,Rs,S,hl,hu,h=>by
  simp only [unlike,Bool.and_eq_true] at hu
  have hn:=zfW hu.1
  unfold pickL at h
  split at h
  ·rename_i R S' h1 h2
   simp only [Option.some.injEq] at h
   subst h
   obtain⟨T,hT⟩:=zeA (n:=n) (Rs:=Rs.eraseIdx i) (by simpa using hl) (zeM hn hu.2) (zfT hn h2)
   exact⟨T,(zeB Rs i R h1).trans (hT.cons R)⟩
  ·cases h
theorem zh6 {Rs:List Res}{n:Nat}:∀ {l:List Nat}{S:List Res},below n l=true→pickL Rs l=some S→pickL (Rs.take n) l=some S
 | [],S,_,h=>h
 | j::l,S,hb,h=>by
  simp only [below,Bool.and_eq_true] at hb
  have hj:j<n:=by simpa using hb.1
  unfold pickL at h
  split at h
  ·rename_i R S' h1 h2
   simp only [Option.some.injEq] at h
   subst h
   have ih:=zh6 hb.2 h2
   have he:nthv (Rs.take n) j=some R:=by
    rw [z3x] at h1 ⊢
    rw [List.getElem?_take,if_pos hj];exact h1
   simp only [pickL,he,ih]
  ·cases h
section
variable {W w:World}{Rs S:List Res}
theorem St.sel (h:St W w Rs) (l:List Nat) (hu:unlike l=true:=by exact rfl) (hp:pickL Rs l=some S:=by exact rfl):St W w S:=by
 obtain⟨T,hT⟩:=zeA rfl hu hp
 have:=(h.perm hT).taken S.length
 rwa [List.take_left'] at this
 rfl
theorem St.selR (h:St W w Rs) (l:List Nat) (n:Nat) (hu:unlike l=true:=by exact rfl) (hb:below n l=true:=by exact rfl) (hp:selF Rs l n=some S:=by exact rfl):St W w S:=by
 unfold selF at hp
 split at hp
 ·rename_i S' h1
  simp only [Option.some.injEq] at hp
  subst hp
  obtain⟨T,hT⟩:=zeA rfl hu (zh6 hb h1)
  have e:Rs.Perm ((S'++Rs.drop n)++T):=by
   have:=(hT.append_right (Rs.drop n))
   rw [List.take_append_drop] at this
   refine this.trans ?_
   rw [List.append_assoc,List.append_assoc]
   exact(List.perm_append_comm).append_left S'
  have:=(h.perm e).taken (S'++Rs.drop n).length
  rwa [List.take_left'] at this
  rfl
 ·cases hp
end


def tEi {α:Type}(W0:World) (T:Ty α):Ty α where
 size:=T.size
 ro:=T.ro
 own:=fun w cs x G=>T.own w cs x G∨(T.ro W0 cs x∧G=[])
 req:=fun w=>T.req w∧Ext W0 w
 len:=T.len
 lenO:=fun h=>h.elim (fun h=>T.lenO h) fun h=>T.len h.1
 ext:=T.ext
 own_ro:=fun h hq=>h.elim (fun h=>T.own_ro h hq.1) fun h=>T.ext hq.2 h.1
 loc:=fun h hs=>h.elim (fun h=>.inl (T.loc h hs)) fun h=>.inr h
 lt:=by
  rintro _ _ _ _ (h | ⟨h,rfl⟩) g hg
  ·exact T.lt h g hg
  ·cases hg
 one:=T.one
 oneO:=fun h=>h.elim (fun h=>T.oneO h) fun h=>T.one h.1
instance {W:World}{α:Type}{T:Ty α}[Reads W T]:Reads W (tEi W T):=⟨fun h=>⟨Reads.req h,h⟩⟩
section
variable {α:Type}{T:Ty α}{W0 W w:World}{B:List Res}{cs:List Value}{x:α}
end
end Go.E


