/- How structs of plain data are opened to cells and shut again. Conditions: none (rules). -/
import Derived.Test.YtfndicpnccabkaaGreatDraw
import Derived.OwnWalk
import Derived.Laws.Tables
import Derived.Great.BuildSlice
import Derived.Laws.BytesArg
import Derived.Laws.Concat
set_option linter.unusedVariables false
set_option linter.unusedSimpArgs false
namespace Go.E
open Go.RowKit

def Emp:Res where
 A:=fun _ G=>G=[]
 loc:=fun h _=>h
 lt:=by rintro w G h g hg;rw[h] at hg;cases hg

def All:List Res→Res
 | []=>Emp
 | R::Rs=>Both R (All Rs)

theorem zqx:∀ {Rs Ss:List Res}{w:World}{G H:List Nat},(All Rs).A w G→(All Ss).A w H→(All (Rs++Ss)).A w (G++H)
 | [],_,_,_,_,h,k=>by rw[show _=[] from h];exact k
 | _::_,_,_,_,_,⟨A,B,h,h1,h2⟩,k=>⟨A,B++_,by rw[h,List.append_assoc],h1,zqx h2 k⟩

section
variable {W:Base}{w:World}{B:List Res}

theorem St.ofEmp (h:St W w (Emp::B)):St W w B:=h.drop
theorem St.toEmp (h:St W w B):St W w (Emp::B):=⟨h.ext,⟨[],rfl,by simp,by simp,h.sep⟩⟩

theorem St.splitAll:∀ {Rs:List Res}{B:List Res},St W w (All Rs::B)→St W w (Rs++B)
 | [],_,h=>h.ofEmp
 | R::Rs,B,h=>by
  have h1:St W w (All Rs::R::B):=(St.split h).perm (List.Perm.swap _ _ _)
  have h2:=St.splitAll h1
  exact h2.perm List.perm_middle

theorem St.fuseAll:∀ {Rs:List Res}{B:List Res},St W w (Rs++B)→St W w (All Rs::B)
 | [],_,h=>h.toEmp
 | R::Rs,B,h=>by
  have h1:St W w (Rs++R::B):=h.perm List.perm_middle.symm
  have h2:=St.fuseAll h1
  exact(h2.perm (List.Perm.swap _ _ _)).fuse

theorem z9J {α:Type}{T:Ty α}{e:Nat}{cs:List Value}{xs:List α}(h:(tSl e T).ro w cs xs):∃ A c,cs=[.slice A xs.length c]:=by
 obtain⟨A,c,els,h1,_⟩:=h
 exact⟨A,c,h1⟩

theorem zc1 {α:Type}{T:Ty α}{e:Nat}{w:World}{cs:List Value}{xs:List α}{G:List Nat}(h:(tSl e T).own w cs xs G):∃ A c,cs=[.slice A xs.length c]:=by
 obtain⟨v,els,rfl,ho,_⟩:=h
 rcases ho.2 with⟨rfl,hn⟩ | ⟨g,cap,o,rfl,_⟩
 ·exact⟨none,0,by rw[hn]⟩
 ·exact⟨_,_,rfl⟩
theorem St.form {α:Type}{T:Ty α}{e:Nat}{W:Base}{w:World}{B:List Res}{cs:List Value}{xs:List α}(h:St W w (Own (tSl e T) cs xs::B)):∃ A c,cs=[.slice A xs.length c]:=by
 obtain⟨G,hA,_⟩:=h.sep.head
 exact zc1 hA
theorem zqy {α:Type}{T U:Ty α}(h:T.ro=U.ro){w:World}:∀ {xs:List α}{cs:List Value},Els T w cs xs=Els U w cs xs
 | [],_=>rfl
 | x::xs,cs=>by simp only[Els,h,zqy h (xs:=xs)]
theorem zxD {α:Type}{T U:Ty α}{e:Nat}(h:T.ro=U.ro):(tSl e T).ro=(tSl e U).ro:=by
 funext w cs xs
 simp only[tSl,zqy h]
theorem zy6 {α:Type}{T U:Ty α}(h:T.ro=U.ro){w:World}{cs:List Value}{x:α}(k:T.ro w cs x):U.ro w cs x:=h ▸ k

theorem St.ownE {α:Type}{T:Ty α}{W0 W:Base}{w:World}{B:List Res}{cs:List Value}{x:α}[Reads W0 T](he:Ext W0 W)(h:St W w (Own T cs x::B)):T.ro w cs x:=by
 obtain⟨G,hA,_⟩:=h.sep.head
 exact T.own_ro hA (Reads.req (W:=W0) (he.trans h.ext))

theorem St.bor {α:Type}{T:Ty α}{W0 W:Base}{w:World}{B:List Res}{cs:List Value}{x:α}(h:St W w B)(hr:T.ro W0 cs x):St W w (Own (zv5 W0 T) cs x::B):=
 h.toEmp.conv fun G hG=>⟨hr,hG⟩
theorem zp1 {α:Type}(T:Ty α)(e:Nat)(w:World):(tSl e T).ro w [.slice none 0 0] []:=⟨none,0,[],rfl,Nat.le_refl _,rfl,fun h=>absurd rfl h⟩
theorem z9s {α:Type}(T:Ty α)(e:Nat)(w:World):(tSl e T).own w [.slice none 0 0] [] []:=
 ⟨_,[],rfl,⟨by simp,.inl ⟨rfl,rfl⟩⟩,[],⟨rfl,rfl⟩,by simp[Value.ownBlock]⟩
theorem St.nilSl {α:Type}(T:Ty α)(e:Nat)(h:St W w B):St W w (Own (tSl e T) [.slice none 0 0] []::B):=
 h.toEmp.conv fun G hG=>by rw[show G=[] from hG];exact z9s T e w
end
end Go.E



namespace Go.E
open Go.RowKit


theorem zgK {α:Type}:∀ (l:List α) (i:Nat) (a:α),nthv l i=some a→l.Perm (a::l.eraseIdx i)
 | [],_,_,h=>by simp[nthv] at h
 | b::l,0,a,h=>by simp only[nthv,Option.some.injEq] at h;subst h;simp
 | b::l,i+1,a,h=>by
  simp only[nthv] at h
  exact((zgK l i a h).cons b).trans (by simpa using List.Perm.swap a b (l.eraseIdx i))

section
variable {W:Base}{w w':World}{B Rs:List Res}
theorem St.b (i:Nat){R:Res}(h:St W w Rs)(hi:nthv Rs i=some R):St W w (R::Rs.eraseIdx i):=h.perm (zgK Rs i R hi)
theorem St.t (k:Nat)(h:St W w Rs):St W w (Rs.take k):=by
 induction Rs generalizing k with
 | nil=>simpa using h
 | cons R Rs ih=>
  cases k with
  | zero=>exact⟨h.ext,trivial⟩
  | succ k=>
   have key:∀ {Rs:List Res}{U:List Nat}(k:Nat),zct w W.fr Rs U→zct w W.fr (Rs.take k) U:=by
    intro Rs
    induction Rs with
    | nil=>intro U k h;simpa using h
    | cons S Ss ih2=>
     intro U k h
     cases k with
     | zero=>trivial
     | succ k=>obtain⟨G,h1,h2,h3,h4⟩:=h;exact⟨G,h1,h2,h3,ih2 k h4⟩
   exact⟨h.ext,key (k+1) h.sep⟩


theorem St.flat {α:Type}{T:Ty α}{cs:List Value}{x:α}(h:St W w B)(hf:T.own w cs x []):St W w (Own T cs x::B):=
 h.toEmp.conv fun G hG=>by rw[show G=[] from hG];exact hf
end

theorem zaD.split {α:Type}{T:Ty α}{w:World}:∀ {xs:List α}{cs:List Value}{G:List Nat},zaD T w cs xs G→∀ {i:Nat}{x:α},xs[i]? = some x→
  ∃ c1 es c2 G1 H G2,cs=c1++(es++c2)∧G=G1++(H++G2)∧c1.length=i*T.size∧zaD T w c1 (xs.take i) G1∧T.own w es x H∧zaD T w c2 (xs.drop (i+1)) G2
 | [],_,_,_,i,x,hx=>by simp at hx
 | y::xs,_,_,⟨c,d,H,K,h,hG,h1,h2⟩,i,x,hx=>by
  subst h;subst hG
  cases i with
  | zero=>
   simp only[List.getElem?_cons_zero,Option.some.injEq] at hx
   subst hx
   exact⟨[],c,d,[],H,K,rfl,rfl,by simp,⟨rfl,rfl⟩,h1,h2⟩
  | succ i=>
   simp only[List.getElem?_cons_succ] at hx
   obtain⟨c1,es,c2,G1,H',G2,rfl,rfl,hl,k1,k2,k3⟩:=h2.split hx
   refine⟨c++c1,es,c2,H++G1,H',G2,by simp,by simp,?_,⟨c,c1,H,G1,rfl,rfl,h1,k1⟩,k2,k3⟩
   rw[List.length_append,hl,T.lenO h1,Nat.succ_mul];omega

theorem zei:∀ (vs cs cs':List Value) (i:Nat),z9Q cs i vs=some cs'→cs'.length=cs.length
 | [],cs,cs',i,h=>by simp only[z9Q,Option.some.injEq] at h;rw[h]
 | v::vs,cs,cs',i,h=>by
  unfold z9Q at h
  split at h
  ·rw[zei vs _ cs' _ h];simp
  ·cases h

theorem znb:∀ (es' c1 es c2:List Value),es'.length=es.length→z9Q (c1++(es++c2)) c1.length es'=some (c1++(es'++c2))
 | [],c1,es,c2,h=>by
  have:es=[]:=by simpa using h.symm
  subst this;rfl
 | v::es',c1,[],c2,h=>by simp at h
 | v::es',c1,u::es,c2,h=>by
  unfold z9Q
  have q:Nat.blt c1.length (c1++(u::es++c2)).length=true:=by simp
  rw[q]
  have:(c1++(u::es++c2)).set c1.length v=(c1++[v])++(es++c2):=by simp
  simp only[this]
  have:=znb es' (c1++[v]) es c2 (by simpa using h)
  simpa using this

theorem ziV:∀ (cs:List Value),(∀ u,u∈cs→u.oneCell'=true)→z9W cs=true
 | [],_=>rfl
 | v::vs,h=>by
  unfold z9W
  rw[h v (by simp)]
  exact ziV vs fun u hu=>h u (List.mem_cons_of_mem _ hu)

theorem zcA:∀ (vs cs ds:List Value) (i:Nat){cs':List Value},z9Q cs i vs=some cs'→z9Q (cs++ds) i vs=some (cs'++ds)
 | [],cs,ds,i,cs',h=>by simp only[z9Q,Option.some.injEq] at h ⊢;rw[h]
 | v::vs,cs,ds,i,cs',h=>by
  unfold z9Q at h ⊢
  split at h
  ·rename_i q
   have h1:i<cs.length:=by simpa using q
   have h2:Nat.blt i (cs++ds).length=true:=by simp;omega
   rw[h2]
   have:(cs++ds).set i v=cs.set i v++ds:=by rw[List.set_append_left _ _ h1]
   simp only[this]
   exact zcA vs _ ds (i+1) h
  ·cases h

section
variable {P:Program}{α:Type}{U:Ty α}{W:Base}{w:World}{B:List Res}{e:Nat}{A:Option Addr}{n k:Nat}{xs:List α}


theorem z9d {v:Value}{G:List Nat}(h:(tSl e U).own w [v] xs G)(X:xs≠[]):
  ∃ g cap els rest K,v=.slice (some ⟨g,0,none⟩) xs.length cap∧w.heap[g]? = some (.cells ⟨els++rest⟩ e (0,0))∧xs.length≤cap∧cap≤maxLen∧(els++rest).length=cap*U.size∧els.length=xs.length*U.size∧
   zaD U w els xs K∧G=g::K:=by
 obtain⟨v',els,hv,ho,K,hk,rfl⟩:=h
 simp only[List.cons.injEq,and_true] at hv
 subst hv
 rcases ho.2 with⟨rfl,hn⟩ | ⟨g,cap,cur,rfl,_,hh,O,q,Y,H⟩
 ·exact absurd (List.eq_nil_of_length_eq_zero hn) X
 ·refine⟨g,cap,els,cur.toList.drop (xs.length*U.size),K,rfl,?_,O,q,?_,ho.1,hk,rfl⟩
  ·rw[hh,← H,List.take_append_drop]
  ·rw[← H,List.take_append_drop];simpa using Y

theorem zc3 {g cap:Nat}{els rest:List Value}{K:List Nat}(hh:w.heap[g]? = some (.cells ⟨els++rest⟩ e (0,0)))(hc:xs.length≤cap)(hm:cap≤maxLen)(hl:(els++rest).length=cap*U.size)
  (he:els.length=xs.length*U.size)(hk:zaD U w els xs K):(tSl e U).own w [.slice (some ⟨g,0,none⟩) xs.length cap] xs (g::K):=by
 refine⟨_,els,rfl,⟨he,.inr ⟨g,cap,_,rfl,Nat.zero_le _,hh,hc,hm,by simpa using hl,?_⟩⟩,K,hk,rfl⟩
 simp[← he]
end

section
variable {P:Program}{n:Nat}{Q:Post}{F:Fr}{W:Base}{w:World}{ops rest:List Oper}{o:Oper}{T:TT}(ht:TTok P T)
include ht


theorem ziG {α:Type}{U:Ty α}{B:List Res}{e:Nat}{A:Option Addr}{k:Nat}{xs:List α}{y:α}{es':List Value}(hS:St W w (Own (tSl e U) [.slice A xs.length k] xs::Own U es' y::B))
  {i:Nat}(hi:i<xs.length){q:Addr}(hq:∃ g,A=some ⟨g,0,none⟩∧q=⟨g,i*U.size,none⟩){t:Nat}{j:TI}(hj:T.get t=some j)(hs:U.size=j.size):
  ∃ w',(∀ v:Value,z3c v=es'→(storeVar t q v).run P w=.ok () w')∧St W w' (Own (tSl e U) [.slice A xs.length k] (xs.set i y)::B):=by
 obtain⟨G,hG,v1,i1⟩:=hS.fuse.sep.head
 obtain⟨H,K',T0,hA,hy⟩:=hG
 obtain⟨g,cap,els,F0,K,hv,hh,hc,hm,hl,Y0,hk,hH⟩:=z9d hA (by rintro rfl;simp at hi)
 obtain⟨g',O0,rfl⟩:=hq
 subst O0
 simp only[Value.slice.injEq,Option.some.injEq,Addr.mk.injEq,and_true,true_and] at hv
 obtain⟨rfl,rfl⟩:=hv
 have hx:xs[i]? = some xs[i]:=List.getElem?_eq_getElem hi
 obtain⟨c1,es,c2,G1,H',G2,e0,u1,X,k1,k2,k3⟩:=hk.split hx
 have C0:es'.length=es.length:=by rw[U.lenO hy,U.lenO k2]
 have E0:z9Q (els++F0) (i*U.size+0) es'=some ((c1++(es'++c2))++F0):=by
  rw[Nat.add_zero,e0,← X]
  exact zcA _ _ _ _ (znb es' c1 es c2 C0)
 obtain⟨w',r1,r2,r3,r4,r5,r6,r7,r8⟩:=z3F (P:=P) g' (i*U.size) e es' 0 w _ _ (ziV _ (U.oneO hy)) hh E0
 have a1:g'∈G:=by rw[T0,hH];simp
 have b1:W.fr g':=i1 g' a1
 refine⟨w',fun v hv=>?_,⟨r5.trans hS.ext.os,r6.trans hS.ext.tape,r7.trans hS.ext.output,by rw[r8];exact hS.ext.drawn,by rw[r4];exact hS.le,fun b hb=>by show w'.heap[b]? = _;rw[r3 b (fun e=>hb (e ▸ b1))];exact hS.ext.block b hb⟩,?_⟩
 ·have p1:v.cells.size=j.size:=by rw[← Array.length_toList,z7X,hv,U.lenO hy,hs]
  unfold storeVar
  simp[ht.sizeOf hj,p1,z7X,hv,r1]
 ·refine hS.fuse.sep.upd hS.up fun G' Q0 b0 _=>?_
  obtain⟨H1,K1,rfl,P0,s1⟩:=Q0
  obtain⟨g1,N0,r0,o0,L1,M0,e1,V0,Z,B0,f0,Y,J0⟩:=z9d P0 (by rintro rfl;simp at hi)
  simp only[Value.slice.injEq,Option.some.injEq,Addr.mk.injEq,and_true,true_and] at M0
  obtain⟨rfl,rfl⟩:=M0

  rw[e1] at hh
  simp only[Option.some.injEq,Obj.cells.injEq,Array.mk.injEq,and_true] at hh
  have y0:r0=els:=by
   have:=congrArg (List.take els.length) hh
   rw[List.take_left' rfl] at this
   rw[← this,List.take_left' (by rw[f0,Y0])]
  subst y0
  have D0:o0=F0:=by simpa using hh
  subst D0
  obtain⟨H0,O,p0,c0,G0,a0,hcs',t0,g0,m1,m2,m3⟩:=Y.split hx
  have i0:=b0
  subst J0;subst t0
  have d1:g' ∉ c0++(G0++a0)++K1:=by
   simp only[List.cons_append,List.nodup_cons] at i0
   exact i0.1
  have same:∀ b,b∈c0++(G0++a0)++K1→w'.heap[b]? = w.heap[b]?:=fun b hb=>r3 b (by rintro rfl;exact d1 hb)
  have v0:H0=c1:=by
   have h1:=hcs'.symm.trans e0
   have:=congrArg (List.take c1.length) h1
   rwa [List.take_left' rfl,List.take_left' (by rw[g0,X])] at this
  subst v0
  have A0:O++p0=es++c2:=by simpa using hcs'.symm.trans e0
  have u0:p0=c2:=by
   have f1:O.length=es.length:=by rw[U.lenO m2,U.lenO k2]
   have:=congrArg (List.drop es.length) A0
   rwa [List.drop_left' rfl,List.drop_left' f1] at this
  subst u0
  refine⟨g'::(c0++(K1++a0)),?_,?_,fun b hb=>?_,fun b hb hn=>r3 b (by rintro rfl;exact hn (by simp))⟩
  ·have k0:xs.set i y=xs.take i++(y::xs.drop (i+1)):=by rw[List.set_eq_take_append_cons_drop,if_pos hi]
   have j1:xs.length=(xs.set i y).length:=by simp
   have j0:(tSl e U).own w' [.slice (some ⟨g',0,none⟩) (xs.set i y).length k] (xs.set i y) (g'::(c0++(K1++a0))):=by
    refine zc3 (els:=H0++(es'++p0)) (rest:=o0) r2 (by simpa using V0) Z ?_ ?_ ?_
    ·have h5:=congrArg List.length e0
     simp only[List.length_append] at B0 h5 ⊢
     omega
    ·have h5:=congrArg List.length e0
     simp only[List.length_append,List.length_set] at f0 h5 ⊢
     omega
    ·rw[k0]
     refine(m1.loc fun b hb=>same b (by simp[hb])).append ⟨es',p0,K1,a0,rfl,rfl,U.loc s1 (fun b hb=>same b (by simp[hb])),m3.loc fun b hb=>same b (by simp[hb])⟩
   rw[← j1] at j0
   exact j0
  ·have hp:(g'::(c0++(K1++a0))).Sublist (g'::(c0++(K1++a0))):=List.Sublist.refl _
   simp only[List.cons_append,List.nodup_cons,List.nodup_append,List.mem_append,not_or] at b0 ⊢
   obtain⟨⟨L0,n1⟩,⟨R0,⟨J0,S0,t1⟩,X0⟩,U0,K0⟩:=b0
   refine⟨⟨L0.1,n1,L0.2.2⟩,R0,⟨U0,S0,fun a ha b hb q0=>?_⟩,fun a ha b hb q0=>?_⟩
   ·exact K0 b (.inr (.inr hb)) a ha q0.symm
   ·rcases hb with hb | hb
    ·exact K0 a (.inl ha) b hb q0
    ·exact X0 a ha b (.inr hb) q0
  ·left
   simp only[List.mem_cons,List.mem_append] at hb
   rcases hb with hb | hb | hb | hb<;>simp[hb]

theorem RW.idxOwn {α:Type}{U:Ty α}{B:List Res}{e:Nat}{A:Option Addr}{k:Nat}{xs:List α}(hS:St W w (Own (tSl e U) [.slice A xs.length k] xs::B))(hg:zc ops F o=some true){t e':Nat}{x ix:Operand}{i j:TI}
  {kd:IntKind}{m:Int}(ho:o.op=.indexAddr t x ix)(hi:T.get t=some i)(hd:i.d=.slice e')(hj:T.get e'=some j)(hs:U.size=j.size)(hx:F.ev x=some (.slice A xs.length k))(hm:F.ev ix=some (.int kd m))
  (h0:0≤m)(O:m.toNat<xs.length){d:Nat}(H:o.dst=some d)(hn:Nat.blt d n=true)
  (h:∀ q,(∃ g,A=some ⟨g,0,none⟩∧q=⟨g,m.toNat*U.size,none⟩)→RW P n ops Q rest ((d,.pointer (some q))::F) w):RW P n ops Q (o::rest) F w:=by
 obtain⟨G,hG,_,_⟩:=hS.sep.head
 obtain⟨g,cap,els,a0,K,hv,hh,hc,Z,hl,Y,hk,_⟩:=z9d hG (by rintro rfl;simp at O)
 simp only[Value.slice.injEq,true_and] at hv
 obtain⟨rfl,rfl⟩:=hv
 refine RW.ok (v:=.pointer (some ⟨g,m.toNat*U.size,none⟩)) hg (fun a ha=>?_) H hn (h _ ⟨g,rfl,rfl⟩)
 unfold execOp
 rw[ho]
 have X:m<xs.length:=by omega
 simp[ha.ev hx,ha.ev hm,Instr.indexAt,asIntOf,Go.underlying,ht.slice hi hd,h0,X,ht.sizeOf hj,zpy,hs]

theorem RW.storeEl {α:Type}{U:Ty α}{B:List Res}{e:Nat}{A:Option Addr}{k:Nat}{xs:List α}{y:α}{es':List Value}(hS:St W w (Own (tSl e U) [.slice A xs.length k] xs::Own U es' y::B))(hg:zc ops F o=some true)
  {t:Nat}{x yv:Operand}(ho:o.op=.store t x yv)(hd:o.dst=none){j:TI}(hj:T.get t=some j)(hs:U.size=j.size){q:Addr}(hx:F.ev x=some (.pointer (some q))){m:Nat}(G:m<xs.length)
  (hq:∃ g,A=some ⟨g,0,none⟩∧q=⟨g,m*U.size,none⟩){v:Value}(hy:F.ev yv=some v)(hc:z3c v=es')
  (h:∀ (w':World),St W w' (Own (tSl e U) [.slice A (xs.set m y).length k] (xs.set m y)::B)→RW P n ops Q rest F w'):RW P n ops Q (o::rest) F w:=by
 obtain⟨w',h1,h2⟩:=ziG (P:=P) ht hS G hq hj hs
 refine RW.unit (w':=w') hg (fun a ha=>?_) hd (h w' (by simpa using h2))
 unfold execOp
 rw[ho]
 simp[ha.ev hx,ha.ev hy,Instr.storeAt,Instr.sureAddr,h1 v hc]

omit ht in
theorem zc4 (z:List Value):∀ k:Nat,(madeCells ⟨z⟩ (k*z.length)).toList=chunks k z
 | 0=>by simp[madeCells,chunks]
 | k+1=>by
  have ih:=zc4 z k
  unfold madeCells at ih ⊢
  simp only[Array.toList_map,Array.toList_range] at ih ⊢
  rw[show(k+1)*z.length=z.length+k*z.length from by rw[Nat.succ_mul];omega,List.range_add,List.map_append,chunks,← ih,List.map_map]
  congr 1
  ·apply List.ext_getElem
   ·simp
   ·intro i h1 h2
    simp only[List.length_map,List.length_range] at h1
    simp only[List.getElem_map,List.getElem_range,Nat.mod_eq_of_lt h1,List.size_toArray]
    rw[getElem!_pos _ _ (by simpa using h1)]
    rfl
  ·apply List.map_congr_left
   intro i _
   simp

omit ht in
theorem zh1 {α:Type}{U:Ty α}{z:α}{zs:List Value}{w:World}(hz:U.own w zs z []):∀ k:Nat,zaD U w (chunks k zs) (List.replicate k z) []
 | 0=>⟨rfl,rfl⟩
 | k+1=>⟨zs,chunks k zs,[],[],rfl,rfl,hz,zh1 hz k⟩


theorem RW.make {α:Type}{U:Ty α}{Rs:List Res}(z:α)(hS:St W w Rs)(hg:zc ops F o=some true){t e:Nat}{l c:Operand}{i j:TI}{k1 k2:IntKind}{m:Int}(ho:o.op=.makeSlice t l c)(hi:T.get t=some i)(hd:i.d=.slice e)
  (hj:T.get e=some j)(hs:U.size=j.size)(hl:F.ev l=some (.int k1 m))(hc:F.ev c=some (.int k2 m))(h0:0≤m)(hb:m*(j.bytes:Int)≤281474976710656)(q:m≤maxLen)(hz:∀ w',U.own w' j.zero z [])
  {d:Nat}(a0:o.dst=some d)(hn:Nat.blt d n=true)
  (h:∀ A k (w':World),Ext w w'→St W w' (Own (tSl e U) [.slice A (List.replicate m.toNat z).length k] (List.replicate m.toNat z)::Rs)→RW P n ops Q rest ((d,.slice A (List.replicate m.toNat z).length k)::F) w'):RW P n ops Q (o::rest) F w:=by
 obtain⟨jj,b0,e0,Z,zz,g0,f0⟩:=ht.info hj
 have c0:m≤9223372036854775807:=by simpa [maxLen] using q
 have hr:=run_make (P:=P) w t e jj zz (ht.slice hi hd) b0 g0 k1 k2 m m h0 (Int.le_refl _) (by rw[Z,Int.mul_comm];exact hb) c0
 have Y:j.zero.length=U.size:=U.lenO (hz w)
 have G:madeCells zz.cells (m.toNat*jj.size)=⟨chunks m.toNat j.zero⟩:=by
  rw[← zc4 j.zero m.toNat,Y,hs,e0,show zz.cells=⟨j.zero⟩ from by rw[← f0]]
 rw[G] at hr
 have H:(List.replicate m.toNat z).length=m.toNat:=by simp
 refine RW.ok (v:=.slice (some ⟨w.heap.size,0,none⟩) (List.replicate m.toNat z).length m.toNat) hg (fun a ha=>?_) a0 hn (h _ _ _ (Ext.alloc w (.cells ⟨chunks m.toNat j.zero⟩ e)) ?_)
 ·unfold execOp
  rw[ho,H]
  simp[ha.ev hl,ha.ev hc,hr]
 ·have X:∀ k:Nat,(chunks k j.zero).length=k*U.size:=fun k=>by
   induction k with
   | zero=>simp[chunks]
   | succ k ih=>simp[chunks,ih,Y,Nat.succ_mul,Nat.add_comm]
  have O:=zc3 (w:=w.alloc (.cells ⟨chunks m.toNat j.zero⟩ e)) (e:=e) (U:=U) (xs:=List.replicate m.toNat z) (g:=w.heap.size) (cap:=m.toNat) (els:=chunks m.toNat j.zero) (rest:=[]) (K:=[])
   (by rw[List.append_nil];exact heap_alloc_new w _) (by simp) (by have:(m.toNat:Int)=m:=Int.toNat_of_nonneg h0;omega) (by simp[X]) (by simp[X]) (zh1 (hz _) _)
  exact hS.join (Ns:=[Own (tSl e U) [.slice (some ⟨w.heap.size,0,none⟩) (List.replicate m.toNat z).length m.toNat] (List.replicate m.toNat z)])
   ⟨Ext.alloc _ _,⟨[w.heap.size],O,by simp,fun g hg=>by simp at hg;subst hg;exact⟨.inl (Nat.le_refl _),by simp⟩,trivial⟩⟩


def OwnEls {α:Type}(U:Ty α)(els:List Value)(ys:List α):Res where
 A:=fun w G=>zaD U w els ys G
 loc:=zaD.loc
 lt:=zaD.lt

omit ht in
omit ht in
theorem St.noEl {α:Type}(U:Ty α){B:List Res}(h:St W w B):St W w (OwnEls U [] []::B):=
 h.toEmp.conv fun G hG=>⟨rfl,hG⟩
omit ht in
theorem St.consEl {α:Type}{U:Ty α}{B:List Res}{es els:List Value}{y:α}{ys:List α}(h:St W w (Own U es y::OwnEls U els ys::B)):St W w (OwnEls U (es++els) (y::ys)::B):=
 h.fuse.conv fun G hG=>by
  obtain⟨G1,G2,rfl,h1,h2⟩:=hG
  exact⟨es,els,G1,G2,rfl,rfl,h1,h2⟩

omit ht in
theorem St.flatEls {α:Type}{U:Ty α}{B:List Res}{els:List Value}{ys:List α}(h:St W w B)(he:zaD U w els ys []):St W w (OwnEls U els ys::B):=
 h.toEmp.conv fun G hG=>by rw[show G=[] from hG];exact he

omit ht in
theorem ziK {v:Value}{n':Nat}{cells:List Value}{e size:Nat}{w:World}(q:w.ownsRow 0 e size v n' cells){t ty:TypeId}{jj:TypeInfo}(hu:P.underlying t=some (.slice e))(hi:P.info? e=some jj)(c:Nat):
  (Builtin.append_ #[t,t] ty #[v,.slice none 0 c]).run P w=.ok v w:=by
 rcases q.2 with⟨rfl,rfl⟩ | ⟨g,cap,H,rfl,_,_,G,_⟩
 ·simp[Builtin.append_,run_underlying hu,sizeOf,typeInfo,hi,Builtin.lenOf,Builtin.firstCells]
 ·simp[Builtin.append_,run_underlying hu,sizeOf,typeInfo,hi,Builtin.lenOf,Builtin.firstCells,G,storeCells]


theorem zfV {α:Type}{U:Ty α}{B:List Res}{e:Nat}{A:Option Addr}{k:Nat}{xs ys:List α}{els:List Value}(hS:St W w (Own (tSl e U) [.slice A xs.length k] xs::OwnEls U els ys::B)){t ty:Nat}{i j:TI}
  (hi:T.get t=some i)(hd:i.d=.slice e)(hj:T.get e=some j)(hs:U.size=j.size)(hpos:0<U.size){A2:Option Addr}{k2:Nat}(v0:els≠[]→∃ p,A2=some p∧At w p els)
  (Y:xs.length+ys.length≤maxLen)(hb:(xs.length+ys.length)*j.bytes≤140737488355328):
  ∃ A' k' w',(Builtin.append_ #[t,t] ty #[.slice A xs.length k,.slice A2 ys.length k2]).run P w=.ok (.slice A' (xs++ys).length k') w'∧St W w' (Own (tSl e U) [.slice A' (xs++ys).length k'] (xs++ys)::B):=by
 obtain⟨jj,y0,N0,H0,zz,R0,Q0⟩:=ht.info hj
 obtain⟨G,⟨H,K2,u0,⟨v,cells,hv,ho,K,hk,hH⟩,q⟩,q0,J0⟩:=hS.fuse.sep.head
 simp only[List.cons.injEq,and_true] at hv
 subst hv
 have Z:=q.length

 have key:∃ v' w',(Builtin.append_ #[t,t] ty #[.slice A xs.length k,.slice A2 ys.length k2]).run P w=.ok v' w'∧w'.ownsRow 0 e U.size v' (xs.length+ys.length) (cells++els)∧w.grownBy w' (Value.slice A xs.length k).ownBlock∧
   (v'.ownBlock=(Value.slice A xs.length k).ownBlock∨v'.ownBlock=some w.heap.size):=by
  cases A2 with
  | none=>
   have r0:els=[]:=by
    cases els with
    | nil=>rfl
    | cons u r=>obtain⟨p,hp,_⟩:=v0 (by simp);cases hp
   subst r0
   have hy:ys.length=0:=by
    have:ys.length*U.size=0:=by simpa using Z.symm
    rcases Nat.mul_eq_zero.1 this with h | h
    ·exact h
    ·omega
   rw[hy]
   exact⟨_,w,ziK ho (ht.slice hi hd) y0 k2,by simpa using ho,World.grownBy.refl w _,.inl rfl⟩
  | some a=>
   have i0:∀ m u,els[m]? = some u→w.cell? (a.add m)=some u:=by
    intro m u hu
    obtain⟨p,hp,M0⟩:=v0 (by rintro rfl;simp at hu)
    simp only[Option.some.injEq] at hp
    subst hp
    exact M0 m u hu
   obtain⟨v',w',h1,h2,h3,_,h5⟩:=run_append_own_at (P:=P) w 0 t ty e jj zz U.size j.bytes (ht.slice hi hd) y0 R0 (by rw[N0,hs]) H0
    (by rw[← Array.length_toList,Q0,ht.zlen hj,hs]) hpos
    (.slice A xs.length k) xs.length cells ho a ys.length k2 els Z i0 (zaD.one q) Y hb (Nat.zero_le _)
   exact⟨v',w',h1,h2,h3,h5⟩
 obtain⟨v',w',h1,h2,h3,h5⟩:=key
 have j0:∃ A' k',v'=.slice A' (xs++ys).length k':=by
  rw[List.length_append]
  rcases h2.2 with⟨rfl,h0⟩ | ⟨g,cap,C0,rfl,_⟩
  ·exact⟨none,0,by rw[h0]⟩
  ·exact⟨_,cap,rfl⟩
 obtain⟨A',k',rfl⟩:=j0

 have F0:∀ b,b∈K++K2→some b≠(Value.slice A xs.length k).ownBlock:=fun b hb b0=>by
  subst u0;subst hH
  rw[← b0] at q0
  simp only[Option.toList,List.cons_append,List.nil_append,List.nodup_cons] at q0
  exact q0.1 hb
 have K0:∀ b,b∈K++K2→b<w.heap.size:=fun b hb=>by
  rcases List.mem_append.1 hb with h | h
  ·exact hk.lt b h
  ·exact zaD.lt q b h
 have same:∀ b,b∈K++K2→w'.heap[b]? = w.heap[b]?:=fun b hb=>h3.block b (K0 b hb) (F0 b hb)
 have g0:∀ b,(Value.slice A xs.length k).ownBlock=some b→W.fr b:=fun b hb=>J0 b (by rw[u0,hH,hb];simp)
 have L0:(tSl e U).own w' [.slice A' (xs++ys).length k'] (xs++ys) ((Value.slice A' (xs++ys).length k').ownBlock.toList++(K++K2)):=
  ⟨_,cells++els,rfl,by rw[List.length_append];rw[List.length_append] at h2;exact h2,K++K2,(hk.loc fun b hb=>same b (List.mem_append_left _ hb)).append (zaD.loc q fun b hb=>same b (List.mem_append_right _ hb)),rfl⟩
 refine⟨A',k',w',h1,⟨h3.os.trans hS.ext.os,h3.tape.trans hS.ext.tape,h3.output.trans hS.ext.output,Nat.le_trans hS.ext.drawn (zsa _ h1),Nat.le_trans hS.le h3.size,fun b hb=>?_⟩,?_⟩
 ·show w'.heap[b]? = _
  rw[h3.block b (Nat.lt_of_not_le fun e=>hb (hS.up b e)) (fun b0=>hb (g0 b b0.symm))]
  exact hS.ext.block b hb
 ·refine hS.fuse.sep.upd hS.up fun G' E0 hnd' _=>?_
  obtain⟨H1,L2,rfl,⟨v1,cells1,A0,O,L,hl,f0⟩,X⟩:=E0
  simp only[List.cons.injEq,and_true] at A0
  subst A0

  have o0:∀ b,b∈L++L2→some b≠(Value.slice A xs.length k).ownBlock:=fun b hb b0=>by
   subst f0
   rw[← b0] at hnd'
   simp only[Option.toList,List.cons_append,List.nil_append,List.nodup_cons] at hnd'
   exact hnd'.1 hb
  have k0:∀ b,b∈L++L2→b<w.heap.size:=fun b hb=>by
   rcases List.mem_append.1 hb with h | h
   ·exact hl.lt b h
   ·exact zaD.lt X b h
  have a0:∀ b,b∈L++L2→w'.heap[b]? = w.heap[b]?:=fun b hb=>h3.block b (k0 b hb) (o0 b hb)
  have c0:cells1=cells:=by
   rcases ho.2 with⟨hn,h0⟩ | ⟨g,cap,C0,P0,_,hh,_,_,_,O0⟩
   ·have e1:cells.length=0:=by rw[ho.1,h0];simp
    have e2:cells1.length=0:=by rw[O.1,h0];simp
    rw[List.eq_nil_of_length_eq_zero e1,List.eq_nil_of_length_eq_zero e2]
   ·rcases O.2 with⟨hn,h0⟩ | ⟨g',B0,D0,e0,_,p0,_,_,_,t0⟩
    ·have e1:cells.length=0:=by rw[ho.1,h0];simp
     have e2:cells1.length=0:=by rw[O.1,h0];simp
     rw[List.eq_nil_of_length_eq_zero e1,List.eq_nil_of_length_eq_zero e2]
    ·rw[P0] at e0
     simp only[Value.slice.injEq,Option.some.injEq,Addr.mk.injEq,and_true,true_and] at e0
     obtain⟨rfl,rfl⟩:=e0
     rw[hh] at p0
     simp only[Option.some.injEq,Obj.cells.injEq,and_true] at p0
     subst p0
     rw[← O0,← t0]
  subst c0
  refine⟨(Value.slice A' (xs++ys).length k').ownBlock.toList++(L++L2),?_,?_,fun b hb=>?_,fun b hb hn=>h3.block b hb fun b0=>hn ?_⟩
  ·exact⟨_,cells1++els,rfl,by rw[List.length_append];rw[List.length_append] at h2;exact h2,L++L2,(hl.loc fun b hb=>a0 b (List.mem_append_left _ hb)).append (zaD.loc X fun b hb=>a0 b (List.mem_append_right _ hb)),rfl⟩
  ·have G0:(L++L2).Nodup:=by
    subst f0
    rw[List.append_assoc] at hnd'
    exact(List.nodup_append.1 hnd').2.1
   rcases h5 with h5 | h5
   ·rw[h5,← List.append_assoc,← f0];exact hnd'
   ·rw[h5]
    simp only[Option.toList,List.cons_append,List.nil_append,List.nodup_cons]
    exact⟨fun hb=>by have:=k0 _ hb;omega,G0⟩
  ·rcases List.mem_append.1 hb with hb | hb
   ·rcases h5 with h5 | h5
    ·rw[h5] at hb;left;rw[f0];simp only[List.mem_append];exact .inl (.inl hb)
    ·rw[h5] at hb;simp only[Option.toList,List.mem_singleton] at hb;right;omega
   ·left;rw[f0];simp only[List.mem_append] at hb ⊢;rcases hb with hb | hb
    ·exact .inl (.inr hb)
    ·exact .inr hb
  ·rw[f0,← b0];simp
end

section
variable {P:Program}{n:Nat}{Q:Post}{F:Fr}{W:Base}{w:World}{ops rest:List Oper}{o:Oper}{T:TT}(ht:TTok P T)
include ht


theorem RW.append {α:Type}{U:Ty α}{B:List Res}{e:Nat}{A:Option Addr}{k:Nat}{xs ys:List α}{els:List Value}(hS:St W w (Own (tSl e U) [.slice A xs.length k] xs::OwnEls U els ys::B))(hg:zc ops F o=some true)
  {t:Nat}{s x:Operand}{i j:TI}(ho:o.op=.call { callee:=.builtin .append,args:=#[s,x],argTypes:=#[t,t] })(hi:T.get t=some i)(hd:i.d=.slice e)(hj:T.get e=some j)(hs:U.size=j.size)(hpos:0<U.size)
  (hx:F.ev s=some (.slice A xs.length k)){A2:Option Addr}{k2:Nat}(hy:F.ev x=some (.slice A2 ys.length k2))(G:els≠[]→∃ p,A2=some p∧At w p els)
  (q:xs.length+ys.length≤maxLen)(hb:(xs.length+ys.length)*j.bytes≤140737488355328){d:Nat}(H:o.dst=some d)(hn:Nat.blt d n=true)
  (h:∀ A' k' (w':World),St W w' (Own (tSl e U) [.slice A' (xs++ys).length k'] (xs++ys)::B)→RW P n ops Q rest ((d,.slice A' (xs++ys).length k')::F) w'):RW P n ops Q (o::rest) F w:=by
 obtain⟨A',k',w',h1,h2⟩:=zfV (P:=P) (ty:=o.type) ht hS hi hd hj hs hpos (k2:=k2) G q hb
 refine RW.ok (w':=w') hg (fun a ha=>?_) H hn (h A' k' w' h2)
 unfold execOp
 rw[ho]
 simp[resolve,invoke,builtin,ha.ev hx,ha.ev hy]
 rw[h1]
 simp
end
end Go.E



namespace Go.E
open Go.RowKit


def zpm (fs:List (Nat×Nat×Bool×Nat)):List Value→List (Nat×Value)→Option (List Value)
 | cs,[]=>some cs
 | cs,(i,v)::r=>match nthv fs i with
  | some g=>match Nat.beq (z3c v).length g.2.1,z9Q cs g.1 (z3c v) with
   | true,some cs'=>zpm fs cs' r
   | _,_=>none
  | none=>none

def zeq (F:Fr):List (Nat×Operand)→Option (List (Nat×Value))
 | []=>some []
 | (i,x)::r=>match F.ev x,zeq F r with
  | some v,some l=>some ((i,v)::l)
  | _,_=>none

theorem zde {F:Fr}{n:Nat}{a:Act}(ha:Fits n F a):∀ {l:List (Nat×Operand)}{vs:List (Nat×Value)},zeq F l=some vs→l.map (fun p=>(p.1,a.eval p.2))=vs
 | [],vs,h=>by simp only[zeq,Option.some.injEq] at h;subst h;rfl
 | (i,x)::r,vs,h=>by
  unfold zeq at h
  split at h
  ·rename_i v l hv hl
   simp only[Option.some.injEq] at h;subst h
   simp only[List.map_cons,ha.ev hv,zde ha hl]
  ·cases h

theorem zks:∀ (vs cs cs':List Value) (off k:Nat),z9Q cs (off+k) vs=some cs'→
  ((vs.zipIdx k).foldl (fun(c:Array Value) (p:Value×Nat)=>c.setIfInBounds (off+p.2) p.1) ⟨cs⟩)=⟨cs'⟩∧(vs≠[]→off+k+vs.length≤cs.length)∧cs'.length=cs.length
 | [],cs,cs',off,k,h=>by
  simp only[z9Q,Option.some.injEq] at h;subst h
  exact⟨rfl,fun h=>absurd rfl h,rfl⟩
 | v::vs,cs,cs',off,k,h=>by
  unfold z9Q at h
  split at h
  ·rename_i o
   have q:off+k<cs.length:=by simpa using o
   obtain⟨h1,h2,h3⟩:=zks vs (cs.set (off+k) v) cs' off (k+1) h
   refine⟨?_,fun _=>?_,by simpa using h3⟩
   ·rw[List.zipIdx_cons,List.foldl_cons]
    have:(⟨cs⟩:Array Value).setIfInBounds (off+k) v=⟨cs.set (off+k) v⟩:=by simp
    rw[this]
    exact h1
   ·cases vs with
    | nil=>simp;omega
    | cons u us=>
     have:=h2 (by simp)
     simp only[List.length_set,List.length_cons] at this ⊢
     omega
  ·cases h

theorem znm {P:Program}:∀ {fs:List Field}{gs:List (Nat×Nat×Bool×Nat)},z5j P fs gs=true→
  ∃ o,fs.mapM (fun f=>(P.info? f.type).map fun i=>(f.offset,i.size))=some o∧∀ (j:Nat) g,gs[j]? = some g→o[j]? = some (g.1,g.2.1)
 | [],[],_=>⟨[],rfl,fun j g h=>by simp at h⟩
 | [],_::_,h=>by simp[z5j] at h
 | _::_,[],h=>by simp[z5j] at h
 | f::fs,g::gs,h=>by
  unfold z5j zgY at h
  cases hi:P.info? f.type with
  | none=>simp[hi] at h
  | some i=>
   simp only[hi,Bool.and_eq_true,Nat.beq_eq] at h
   obtain⟨o,h1,h2⟩:=znm (fs:=fs) (gs:=gs) h.2
   refine⟨(f.offset,i.size)::o,by simp[List.mapM_cons,hi,h1],fun j g' hg=>?_⟩
   cases j with
   | zero=>
    simp only[List.getElem?_cons_zero,Option.some.injEq] at hg
    subst hg
    simp[h]
   | succ j=>simpa using h2 j g' (by simpa using hg)

theorem zmn {gs:List (Nat×Nat×Bool×Nat)}{place:Nat→Option (Nat×Nat)}(hp:∀ (j:Nat) g,gs[j]? = some g→place j=some (g.1,g.2.1))(hpos:∀ (j:Nat) g,gs[j]? = some g→g.2.1≠0):
  ∀ (o:List (Nat×Value)) (cs cs':List Value),zpm gs cs o=some cs'→Instr.fill place ⟨cs⟩ o=some ⟨cs'⟩
 | [],cs,cs',h=>by simp only[zpm,Option.some.injEq] at h;subst h;rfl
 | (i,v)::r,cs,cs',h=>by
  unfold zpm at h
  split at h
  ·rename_i g hg
   rw[z2U] at hg
   split at h
   ·rename_i q hl hs
    obtain⟨h1,h2,h3⟩:=zks (z3c v) cs q g.1 0 hs
    have G:(z3c v).length=g.2.1:=by simpa using hl
    have O:z3c v≠[]:=fun hn=>hpos i g hg (by rw[← G,hn];rfl)
    have hc:v.cells=⟨z3c v⟩:=by rw[← z7X]
    unfold Instr.fill
    simp only[hp i g hg]
    rw[if_neg (by
     have:=h2 O
     simp[hc,G];omega)]
    rw[hc]
    have H:Array.foldl (fun(c:Array Value) (p:Value×Nat)=>c.setIfInBounds (g.1+p.2) p.1) (⟨cs⟩:Array Value) (Array.zipIdx (⟨z3c v⟩:Array Value))=⟨q⟩:=by
     simpa using h1
    exact Eq.trans (congrArg (fun c=>Instr.fill place c r) H) (zmn hp hpos r q cs' h)
   ·cases h
  ·cases h

theorem St.boxSl {α:Type}{U:Ty α}{W:Base}{w:World}{B:List Res}{g e:Nat}{els:List Value}{ys:List α}(hS:St W w (Box g els e::OwnEls U els ys::B))(o:ys.length≤maxLen):
  St W w (Own (tSl e U) [.slice (some ⟨g,0,none⟩) ys.length ys.length] ys::B):=
 hS.fuse.conv fun G hG=>by
  obtain⟨H,K,rfl,⟨rfl,hh⟩,hk⟩:=hG
  have hl:els.length=ys.length*U.size:=zaD.length hk
  exact zc3 (w:=w) (e:=e) (U:=U) (xs:=ys) (g:=g) (cap:=ys.length) (els:=els) (rest:=[]) (K:=K) (by rw[List.append_nil];exact hh) (Nat.le_refl _) o (by rw[List.append_nil];exact hl) hl hk

theorem zek {P:Program}{t e:TypeId}{i:TypeInfo}(w:World)(hu:P.underlying t=some (.slice e))(hi:P.info? e=some i):
  (Instr.buildSlice t 0 #[]).run P w=.ok (.slice (some ⟨w.heap.size,0,none⟩) 0 0) (w.alloc (.cells #[] e)):=by
 simp[Instr.buildSlice,run_underlying hu,sizeOf,typeInfo,hi,newRow,Instr.fill]
 rw[show Array.range 0 = #[] from by simp[Array.range],Array.map_empty]

def Flat {α:Type}(T:Ty α):Prop:=∀ {w:World}{cs:List Value}{x:α},T.ro w cs x→T.own w cs x []
theorem Flat.int:Flat z2z:=fun h=>⟨h,rfl⟩
theorem Flat.bool:Flat zbY:=fun h=>⟨h,rfl⟩
theorem Flat.str:Flat zxX:=fun h=>⟨h,rfl⟩
theorem Flat.unit:Flat z2W:=fun h=>⟨h,rfl⟩
theorem Flat.pair {α β:Type}{T:Ty α}{U:Ty β}(h:Flat T)(k:Flat U):Flat (zd T U):=by
 rintro w _ x ⟨c,d,rfl,h1,h2⟩
 exact⟨c,d,[],[],rfl,rfl,h h1,k h2⟩
theorem Flat.map {α β:Type}{f:β→α}{T:Ty α}(h:Flat T):Flat (zb4 f T):=fun k=>h k

theorem Els.flat {α:Type}{T:Ty α}(hf:Flat T){w:World}:∀ {xs:List α}{cs:List Value},Els T w cs xs→zaD T w cs xs []
 | [],_,h=>⟨h,rfl⟩
 | _::_,_,⟨c,d,h,h1,h2⟩=>⟨c,d,[],[],h,rfl,hf h1,Els.flat hf h2⟩


theorem RW.appendRo {α:Type}{U:Ty α}{P:Program}{T:TT}(ht:TTok P T)(O:Flat U){n:Nat}{ops rest:List Oper}{Q:Post}{F:Fr}{W:Base}{w:World}{B:List Res}{o:Oper}{e:Nat}{A:Option Addr}{k:Nat}{xs ys:List α}
  (hS:St W w (Own (tSl e U) [.slice A xs.length k] xs::B))(hg:zc ops F o=some true)
  {t:Nat}{s x:Operand}{i j:TI}(ho:o.op=.call { callee:=.builtin .append,args:=#[s,x],argTypes:=#[t,t] })(hi:T.get t=some i)(hd:i.d=.slice e)(hj:T.get e=some j)(hs:U.size=j.size)(hpos:0<U.size)
  (hx:F.ev s=some (.slice A xs.length k)){A2:Option Addr}{k2:Nat}(hy:F.ev x=some (.slice A2 ys.length k2)){e':Nat}(hr:(tSl e' U).ro w [.slice A2 ys.length k2] ys)
  (G:(xs.length:Int)+ys.length≤4294967296)(hb:j.bytes≤32768){d:Nat}(H:o.dst=some d)(hn:Nat.blt d n=true)
  (h:∀ A' k' (w':World),St W w' (Own (tSl e U) [.slice A' (xs++ys).length k'] (xs++ys)::B)→RW P n ops Q rest ((d,.slice A' (xs++ys).length k')::F) w'):RW P n ops Q (o::rest) F w:=by
 obtain⟨A3,c3,els,he,hc,h1,h2⟩:=hr
 simp only[List.cons.injEq,Value.slice.injEq,and_true] at he
 obtain⟨rfl,_,rfl⟩:=he
 have q:=(hS.flatEls (U:=U) (els:=els) (ys:=ys) (Els.flat O h1)).b 1 rfl
 have hm:(xs.length+ys.length)*j.bytes≤4294967296*32768:=Nat.mul_le_mul (by omega) hb
 exact RW.append ht q hg ho hi hd hj hs hpos hx hy h2 (by simp only[maxLen];omega) (by omega) H hn h


theorem zs9 {P:Program}{t e:TypeId}(w:World)(A:Option Addr)(n c:Nat)(ht:P.underlying t=some (.slice e)):(binOp .eql t (.slice A n c) (.slice none 0 0)).run P w=.ok (.bool A.isNone) w:=by
 have h:∀ d,(Op.equalIn (d+1) t (.slice A n c) (.slice none 0 0)).run P w=.ok A.isNone w:=fun d=>by cases A<;>simp[Op.equalIn,run_underlying ht]
 simp only[binOp,Op.equal,Op.maxDepth]
 simp[h 9999]

theorem zs3 {α:Type}{U:Ty α}{e:Nat}{w:World}{xs:List α}{n c:Nat}(hpos:0<U.size)(hr:(tSl e U).ro w [.slice none n c] xs):xs=[]:=by
 obtain⟨A,c',els,he,_,h1,h2⟩:=hr
 simp only[List.cons.injEq,Value.slice.injEq,and_true] at he
 obtain⟨rfl,_,_⟩:=he
 have hl:=h1.length
 by_cases hn:els=[]
 ·subst hn
  have h0:xs.length*U.size=0:=by simpa using hl.symm
  rcases Nat.mul_eq_zero.1 h0 with h | h
  ·exact List.eq_nil_of_length_eq_zero h
  ·omega
 ·obtain⟨p,hp,_⟩:=h2 hn
  cases hp


def slots (size:Nat):Nat→Nat→List (Nat×Nat×Bool×Nat)
 | _,0=>[]
 | i,k+1=>(i*size,size,false,0)::slots size (i+1) k

theorem zfR (size:Nat):∀ (k i j:Nat) g,(slots size i k)[j]? = some g→g=((i+j)*size,size,false,0)
 | 0,i,j,g,h=>by simp[slots] at h
 | k+1,i,0,g,h=>by simp[slots] at h;simp[h]
 | k+1,i,j+1,g,h=>by
  have:=zfR size k (i+1) j g (by simpa [slots] using h)
  rw[this,show i+1+j=i+(j+1) by omega]

theorem St.els {α:Type}{U:Ty α}{W:Base}{w:World}{B:List Res}{e:Nat}{A:Option Addr}{k l:Nat}{ys:List α}(h:St W w (Own (tSl e U) [.slice A l k] ys::B)):
  ∃ els,St W w (OwnEls U els ys::B)∧(els≠[]→∃ p,A=some p∧At w p els):=by
 obtain⟨he,G,hG,X,H,o⟩:=h
 obtain⟨v,els,hv,ho,K,hk,rfl⟩:=hG
 simp only[List.cons.injEq,and_true] at hv
 subst hv
 refine⟨els,⟨he,K,hk,(List.nodup_append.1 X).2.1,fun g hg=>H g (List.mem_append_right _ hg),o.congr fun g hg=>?_⟩,fun hn=>?_⟩
 ·rcases List.mem_append.1 hg with hg | hg
  ·exact List.mem_append_left _ (List.mem_append_right _ hg)
  ·exact List.mem_append_right _ hg
 ·rcases ho.2 with⟨_,O⟩ | ⟨g,cap,q,hv,_,hh,Z,_,a0,Y⟩
  ·have:=hk.length
   rw[O,Nat.zero_mul] at this
   exact absurd (List.eq_nil_of_length_eq_zero this) hn
  ·simp only[Value.slice.injEq] at hv
   obtain⟨rfl,_,_⟩:=hv
   refine⟨_,rfl,fun j u hu=>?_⟩
   have:Addr.add ⟨g,0,none⟩ j=⟨g,j,none⟩:=by unfold Addr.add;by_cases hj:j=0<;>simp[hj]
   rw[this,cell_of_row w g j q e (0,0) hh]
   rw[← Y] at hu
   rw[List.getElem?_take] at hu
   split at hu
   ·simpa using hu
   ·cases hu


theorem RW.appendOwn {α:Type}{U:Ty α}{P:Program}{T:TT}(ht:TTok P T){n:Nat}{ops rest:List Oper}{Q:Post}{F:Fr}{W:Base}{w:World}{B:List Res}{o:Oper}{e e':Nat}{A A2:Option Addr}{k k2:Nat}{xs ys:List α}
  (hS:St W w (Own (tSl e' U) [.slice A2 ys.length k2] ys::Own (tSl e U) [.slice A xs.length k] xs::B))(hg:zc ops F o=some true)
  {t:Nat}{s x:Operand}{i j:TI}(ho:o.op=.call { callee:=.builtin .append,args:=#[s,x],argTypes:=#[t,t] })(hi:T.get t=some i)(hd:i.d=.slice e)(hj:T.get e=some j)(hs:U.size=j.size)(hpos:0<U.size)
  (hx:F.ev s=some (.slice A xs.length k))(hy:F.ev x=some (.slice A2 ys.length k2))
  (q:(xs.length:Int)+ys.length≤4294967296)(hb:j.bytes≤32768){d:Nat}(G:o.dst=some d)(hn:Nat.blt d n=true)
  (h:∀ A' k' (w':World),St W w' (Own (tSl e U) [.slice A' (xs++ys).length k'] (xs++ys)::B)→RW P n ops Q rest ((d,.slice A' (xs++ys).length k')::F) w'):RW P n ops Q (o::rest) F w:=by
 obtain⟨els,h1,h2⟩:=hS.els
 have hm:(xs.length+ys.length)*j.bytes≤4294967296*32768:=Nat.mul_le_mul (by omega) hb
 exact RW.append ht (h1.b 1 rfl) hg ho hi hd hj hs hpos hx hy h2 (by simp only[maxLen];omega) (by omega) G hn h
end Go.E



namespace Go.E
open Go.RowKit


def Hole {α:Type}(U:Ty α)(e:Nat)(v:Value)(xs:List α)(i:Nat)(es:List Value):Res where
 A:=fun w G=>∃ g cap c1 c2 rest G1 G2,v=.slice (some ⟨g,0,none⟩) xs.length cap∧w.heap[g]? = some (.cells ⟨(c1++(es++c2))++rest⟩ e (0,0))∧xs.length≤cap∧cap≤maxLen∧
  ((c1++(es++c2))++rest).length=cap*U.size∧c1.length=i*U.size∧es.length=U.size∧i<xs.length∧zaD U w c1 (xs.take i) G1∧zaD U w c2 (xs.drop (i+1)) G2∧G=g::(G1++G2)
 loc:=by
  rintro w w' G ⟨g,cap,c1,c2,rest,G1,G2,hv,hh,a1,a2,a3,a4,a5,a6,k1,k2,rfl⟩ hs
  exact⟨g,cap,c1,c2,rest,G1,G2,hv,by rw[hs g (by simp)];exact hh,a1,a2,a3,a4,a5,a6,k1.loc fun b hb=>hs b (by simp[hb]),k2.loc fun b hb=>hs b (by simp[hb]),rfl⟩
 lt:=by
  rintro w G ⟨g,cap,c1,c2,rest,G1,G2,hv,hh,a1,a2,a3,a4,a5,a6,k1,k2,rfl⟩ b hb
  simp only[List.mem_cons,List.mem_append] at hb
  rcases hb with rfl | hb | hb
  ·rcases Nat.lt_or_ge b w.heap.size with h | h
   ·exact h
   ·rw[Array.getElem?_eq_none h] at hh;cases hh
  ·exact k1.lt b hb
  ·exact k2.lt b hb

theorem zdH {c1 es c2 rest es' vs:List Value}{off:Nat}(h:z9Q es off vs=some es'):z9Q ((c1++(es++c2))++rest) (c1.length+off) vs=some ((c1++(es'++c2))++rest):=by
 refine zcA _ _ _ _ ?_
 have key:∀ (vs es es':List Value) (off:Nat),z9Q es off vs=some es'→z9Q (c1++es) (c1.length+off) vs=some (c1++es'):=by
  intro vs
  induction vs with
  | nil=>intro es es' off h;simp only[z9Q,Option.some.injEq] at h ⊢;rw[h]
  | cons v vs ih=>
   intro es es' off h
   unfold z9Q at h ⊢
   split at h
   ·rename_i q
    have h1:off<es.length:=by simpa using q
    have h2:Nat.blt (c1.length+off) (c1++es).length=true:=by simp;omega
    rw[h2]
    have:(c1++es).set (c1.length+off) v=c1++es.set off v:=by rw[List.set_append_right _ _ (by omega)];simp
    simp only[this]
    exact ih _ _ (off+1) h
   ·cases h
 exact key _ _ _ _ (zcA _ _ _ _ h)

section
variable {α:Type}{U:Ty α}{e:Nat}{W:Base}{w:World}{B:List Res}{A:Option Addr}{k n i:Nat}{xs:List α}{a:α}{es:List Value}

theorem St.focus (h:St W w (Own (tSl e U) [.slice A xs.length k] xs::B))(hx:xs[i]? = some a):∃ es,St W w (Hole U e (.slice A xs.length k) xs i es::Own U es a::B):=by
 obtain⟨he,G,hG,Y,a0,Z⟩:=h
 have hi:=(List.getElem?_eq_some_iff.1 hx).1
 obtain⟨g,cap,els,c0,K,hv,hh,hc,hm,hl,e0,hk,rfl⟩:=z9d hG (by rintro rfl;simp at hi)
 obtain⟨c1,es,c2,G1,H,G2,rfl,rfl,X,k1,k2,k3⟩:=hk.split hx
 refine⟨es,he,g::(G1++G2),⟨g,cap,c1,c2,c0,G1,G2,hv,hh,hc,hm,hl,X,U.lenO k2,hi,k1,k3,rfl⟩,?_,fun b hb=>⟨(a0 b ?_).1,by simp⟩,H,k2,?_,fun b hb=>⟨(a0 b (by simp[hb])).1,?_⟩,Z.congr fun b hb=>?_⟩
 ·simp only[List.nodup_cons,List.mem_append,List.nodup_append,not_or] at Y ⊢
  obtain⟨⟨h1,h2,h3⟩,h4,⟨h5,h6,h7⟩,h8⟩:=Y
  exact⟨⟨h1,h3⟩,h4,h6,fun a ha b hb=>h8 a ha b (.inr hb)⟩
 ·simp only[List.mem_cons,List.mem_append] at hb ⊢
  rcases hb with hb | hb | hb<;>simp[hb]
 ·simp only[List.nodup_cons,List.nodup_append] at Y
  exact Y.2.2.1.1
 ·simp only[List.nodup_cons,List.mem_append,List.nodup_append,not_or,List.append_nil,List.mem_cons] at Y ⊢
  obtain⟨⟨h1,h2,h3⟩,h4,⟨h5,h6,h7⟩,h8⟩:=Y
  exact⟨fun b0=>h2 (b0 ▸ hb),fun q=>h8 b q b (.inl hb) rfl,fun O=>h7 b hb b O rfl⟩
 ·simp only[List.mem_append,List.mem_cons,List.append_nil] at hb ⊢
  rcases hb with hb | hb | hb | hb<;>simp[hb]

theorem St.turn {R R':Res}(h:St W w (R::B))(hc:∀ G,R.A w G→G.Nodup→∃ G',R'.A w G'∧G'.Nodup∧∀ g,g∈G'→g∈G):St W w (R'::B):=
 ⟨h.ext,h.sep.upd h.up fun G hG hn _=>by
  obtain⟨G',h1,h2,h3⟩:=hc G hG hn
  exact⟨G',h1,h2,fun g hg=>.inl (h3 g hg),fun _ _ _=>rfl⟩⟩

theorem St.unfocus (h:St W w (Hole U e (.slice A xs.length k) xs i es::Own U es a::B)):St W w (Own (tSl e U) [.slice A (xs.set i a).length k] (xs.set i a)::B):=
 h.fuse.turn fun G hG Y=>by
  obtain⟨H,K,rfl,⟨g,cap,c1,c2,rest,G1,G2,hv,hh,a1,a2,a3,a4,a5,a6,k1,k2,rfl⟩,hk⟩:=hG
  simp only[Value.slice.injEq,true_and] at hv
  obtain⟨rfl,rfl⟩:=hv
  have X:xs.set i a=xs.take i++(a::xs.drop (i+1)):=by rw[List.set_eq_take_append_cons_drop,if_pos a6]
  have q:zaD U w (c1++(es++c2)) (xs.set i a) (G1++(K++G2)):=by
   rw[X]
   exact k1.append ⟨es,c2,K,G2,rfl,rfl,hk,k2⟩
  have O:=zc3 (w:=w) (e:=e) (U:=U) (xs:=xs.set i a) (g:=g) (els:=c1++(es++c2)) (rest:=rest) (K:=G1++(K++G2)) hh (by simpa using a1) a2 a3 q.length q
  refine⟨_,O,?_,fun b hb=>?_⟩
  ·simp only[List.cons_append,List.nodup_cons,List.mem_append,List.nodup_append,not_or] at Y ⊢
   obtain⟨⟨⟨h1,h2⟩,h3⟩,⟨h4,h5,h6⟩,h7,h8⟩:=Y
   refine⟨⟨h1,h3,h2⟩,h4,⟨h7,h5,fun x hx y hy Z=>h8 y (.inr hy) x hx Z.symm⟩,fun x hx y hy=>?_⟩
   rcases hy with hy | hy
   ·exact h8 x (.inl hx) y hy
   ·exact h6 x hx y hy
  ·simp only[List.mem_append,List.mem_cons,List.cons_append] at hb ⊢
   rcases hb with hb | hb | hb | hb<;>simp[hb]


theorem St.unfocus0 (h:St W w (Hole U e (.slice A xs.length k) xs i es::Own U es a::B))(hx:xs[i]? = some a):St W w (Own (tSl e U) [.slice A xs.length k] xs::B):=by
 have h1:=h.unfocus
 have:xs.set i a=xs:=by
  obtain⟨hi,rfl⟩:=List.getElem?_eq_some_iff.1 hx
  exact List.set_getElem_self hi
 rwa [this] at h1


def zmP (U:Ty α)(A:Option Addr)(i:Nat)(q:Addr):Prop:=∃ g,A=some ⟨g,0,none⟩∧q=⟨g,i*U.size,none⟩

theorem St.hole_at (h:St W w (Hole U e (.slice A xs.length k) xs i es::B)){q:Addr}(hq:zmP U A i q):At w q es:=by
 obtain⟨G,⟨g,cap,c1,c2,rest,G1,G2,hv,hh,a1,a2,a3,a4,a5,a6,k1,k2,rfl⟩,_⟩:=h.sep.head
 obtain⟨g',rfl,rfl⟩:=hq
 simp only[Value.slice.injEq,Option.some.injEq,Addr.mk.injEq,and_true,true_and] at hv
 obtain⟨rfl,rfl⟩:=hv
 intro j u hu
 have hj:=(List.getElem?_eq_some_iff.1 hu).1
 rw[zi9,cell_of_row w g' _ _ e (0,0) hh]
 simp only[List.getElem?_toArray]
 rw[List.append_assoc,List.getElem?_append_right (by omega),a4,Nat.add_sub_cancel_left,List.append_assoc,List.getElem?_append_left hj]
 exact hu

theorem St.openSl {β:Type}{V:Ty β}{e':Nat}{x:List β}{cs:List Value}(h:St W w (Own (tSl e' V) cs x::B)):∃ A c,cs=[.slice A x.length c]∧St W w (Own (tSl e' V) [.slice A x.length c] x::B):=by
 obtain⟨A,c,rfl⟩:=h.form
 exact⟨A,c,rfl,h⟩
end

section
variable {P:Program}{n:Nat}{Q:Post}{F:Fr}{W:Base}{w:World}{ops rest:List Oper}{o:Oper}{T:TT}(ht:TTok P T)
include ht


theorem RW.idxHole {α:Type}{U:Ty α}{A:Option Addr}{k ln:Nat}(hA:∃ g,A=some ⟨g,0,none⟩)(hg:zc ops F o=some true){t e':Nat}{x ix:Operand}{i j:TI}
  {kd:IntKind}{m:Int}(ho:o.op=.indexAddr t x ix)(hi:T.get t=some i)(hd:i.d=.slice e')(hj:T.get e'=some j)(hs:U.size=j.size)(hx:F.ev x=some (.slice A ln k))(hm:F.ev ix=some (.int kd m))
  (h0:0≤m)(O:m.toNat<ln){d:Nat}(G:o.dst=some d)(hn:Nat.blt d n=true)
  (h:∀ q,zmP U A m.toNat q→RW P n ops Q rest ((d,.pointer (some q))::F) w):RW P n ops Q (o::rest) F w:=by
 obtain⟨g,rfl⟩:=hA
 refine RW.ok (v:=.pointer (some ⟨g,m.toNat*U.size,none⟩)) hg (fun a ha=>?_) G hn (h _ ⟨g,rfl,rfl⟩)
 unfold execOp
 rw[ho]
 have H:m<ln:=by omega
 simp[ha.ev hx,ha.ev hm,Instr.indexAt,asIntOf,Go.underlying,ht.slice hi hd,h0,H,ht.sizeOf hj,zpy,hs]


theorem RW.storeHole {α:Type}{U:Ty α}{e:Nat}{A:Option Addr}{k m:Nat}{xs:List α}{es es':List Value}{B:List Res}(hS:St W w (Hole U e (.slice A xs.length k) xs m es::B)){q:Addr}(hq:zmP U A m q)
  (hg:zc ops F o=some true){t:Nat}{x y:Operand}(ho:o.op=.store t x y)(hd:o.dst=none)
  {i:TI}(hi:T.get t=some i){q':Addr}(hx:F.ev x=some (.pointer (some q')))(off:Nat)(i0:q'=q.add off){v:Value}(hy:F.ev y=some v)(hl:Nat.beq (z3c v).length i.size=true)
  (h1:z9W (z3c v)=true)(hs:z9Q es off (z3c v)=some es')(h:∀ (w':World),St W w' (Hole U e (.slice A xs.length k) xs m es'::B)→RW P n ops Q rest F w'):RW P n ops Q (o::rest) F w:=by
 obtain⟨G,⟨g,cap,c1,c2,Y,G1,G2,hv,hh,a1,a2,a3,a4,a5,a6,k1,k2,hG⟩,_,g0⟩:=hS.sep.head
 obtain⟨g',rfl,rfl⟩:=hq
 simp only[Value.slice.injEq,Option.some.injEq,Addr.mk.injEq,and_true,true_and] at hv
 obtain⟨rfl,rfl⟩:=hv
 have H:=zdH (c1:=c1) (c2:=c2) (rest:=Y) hs
 rw[a4] at H
 obtain⟨w',r1,r2,r3,r4,r5,r6,r7,r8⟩:=z3F (P:=P) g' (m*U.size+off) e (z3c v) 0 w _ ((c1++(es'++c2))++Y) h1 hh (by rw[Nat.add_zero];exact H)
 have e0:W.fr g':=g0 g' (by rw[hG];simp)
 refine RW.unit (w':=w') hg (fun a ha=>?_) hd (h w' ⟨⟨r5.trans hS.ext.os,r6.trans hS.ext.tape,r7.trans hS.ext.output,by rw[r8];exact hS.ext.drawn,by rw[r4];exact hS.le,fun b hb=>?_⟩,?_⟩)
 ·unfold execOp
  rw[ho]
  have j0:v.cells.size=i.size:=by
   rw[← Array.length_toList,z7X];exact Nat.eq_of_beq_eq_true hl
  simp[ha.ev hx,ha.ev hy,Instr.storeAt,Instr.sureAddr,storeVar,ht.sizeOf hi,j0,z7X,i0,zi9,r1]
 ·show w'.heap[b]? = _;rw[r3 b (fun e=>hb (e ▸ e0))];exact hS.ext.block b hb
 ·refine hS.sep.upd hS.up fun G' c0 hnd' _=>?_
  obtain⟨g1,b0,d1,d2,X,H1,H2,a0,f0,b1,b2,b3,b4,b5,b6,l1,l2,rfl⟩:=c0
  simp only[Value.slice.injEq,Option.some.injEq,Addr.mk.injEq,and_true,true_and] at a0
  obtain⟨rfl,rfl⟩:=a0
  rw[f0] at hh
  simp only[Option.some.injEq,Obj.cells.injEq,Array.mk.injEq,and_true] at hh
  have O:=zdH (c1:=d1) (c2:=d2) (rest:=X) hs
  have e1:d1.length=c1.length:=by rw[b4,a4]
  rw[hh,e1] at O
  rw[← a4] at H
  have e2:(c1++(es'++c2))++Y=(d1++(es'++d2))++X:=Option.some.inj (H.symm.trans O)
  have Z:=zei _ _ _ _ hs
  simp only[List.nodup_cons,List.mem_append,not_or] at hnd'
  refine⟨g'::(H1++H2),⟨g',k,d1,d2,X,H1,H2,rfl,by rw[r2,e2],b1,b2,?_,b4,by rw[Z];exact b5,b6,l1.loc fun b hb=>r3 b (by rintro rfl;exact hnd'.1.1 hb),l2.loc fun b hb=>r3 b (by rintro rfl;exact hnd'.1.2 hb),rfl⟩,by simpa using hnd',fun b hb=>.inl hb,fun b hb hn=>r3 b (by rintro rfl;exact hn (by simp))⟩
  rw[← b3]
  simp only[List.length_append,Z]
end
end Go.E



namespace Go.E
open Go.RowKit

section
variable {α:Type}{U:Ty α}{e:Nat}{W:Base}{w:World}{B:List Res}{A:Option Addr}{k n i:Nat}{xs:List α}{a:α}{es:List Value}

theorem St.lenEq (h:St W w (Own (tSl e U) [.slice A n k] xs::B)):n=xs.length:=by
 obtain⟨A',c',he⟩:=h.form
 simp only[List.cons.injEq,Value.slice.injEq,and_true] at he
 exact he.2.1

theorem St.reLen {n':Nat}(h:St W w (Own (tSl e U) [.slice A n k] xs::B))(hn:n=n'):St W w (Own (tSl e U) [.slice A n' k] xs::B):=hn ▸ h
theorem St.reBox {g:Nat}{t:TypeId}{cs cs':List Value}(h:St W w (Box g cs t::B))(hc:cs=cs'):St W w (Box g cs' t::B):=hc ▸ h
theorem St.reHole {v:Value}{es':List Value}(h:St W w (Hole U e v xs i es::B))(hc:es=es'):St W w (Hole U e v xs i es'::B):=hc ▸ h

theorem St.focusN (h:St W w (Own (tSl e U) [.slice A n k] xs::B))(hx:xs[i]? = some a):∃ es,St W w (Hole U e (.slice A n k) xs i es::Own U es a::B):=by
 have hn:=h.lenEq
 subst hn
 exact h.focus hx

theorem St.hole_len (h:St W w (Hole U e (.slice A n k) xs i es::B)):n=xs.length∧i<xs.length∧∃ g,A=some ⟨g,0,none⟩:=by
 obtain⟨G,⟨g,cap,c1,c2,rest,G1,G2,hv,hh,a1,a2,a3,a4,a5,a6,k1,k2,rfl⟩,_⟩:=h.sep.head
 simp only[Value.slice.injEq] at hv
 exact⟨hv.2.1,a6,g,hv.1⟩

theorem St.unfocusN (h:St W w (Hole U e (.slice A n k) xs i es::Own U es a::B)):St W w (Own (tSl e U) [.slice A n k] (xs.set i a)::B):=by
 obtain⟨hn,_,_⟩:=h.hole_len
 subst hn
 have h1:=h.unfocus
 rwa [List.length_set] at h1

theorem St.unfocusN0 (h:St W w (Hole U e (.slice A n k) xs i es::Own U es a::B))(hx:xs[i]? = some a):St W w (Own (tSl e U) [.slice A n k] xs::B):=by
 obtain⟨hn,_,_⟩:=h.hole_len
 subst hn
 exact h.unfocus0 hx

theorem St.ownAddr (h:St W w (Own (tSl e U) [.slice A n k] xs::B))(hi:i<xs.length):∃ g,A=some ⟨g,0,none⟩:=by
 obtain⟨es,h1⟩:=h.focusN (List.getElem?_eq_getElem hi)
 exact h1.hole_len.2.2

theorem St.hole_atN (h:St W w (Hole U e (.slice A n k) xs i es::B)){q:Addr}(hq:zmP U A i q):At w q es:=by
 obtain⟨hn,_,_⟩:=h.hole_len
 subst hn
 exact h.hole_at hq
end

section
variable {P:Program}{n:Nat}{Q:Post}{F:Fr}{W:Base}{w:World}{ops rest:List Oper}{o:Oper}{T:TT}(ht:TTok P T)
include ht


theorem RW.focus {α:Type}{U:Ty α}{B:List Res}{e:Nat}{A:Option Addr}{k ln:Nat}{xs:List α}{a:α}(hS:St W w (Own (tSl e U) [.slice A ln k] xs::B))(hg:zc ops F o=some true){t e':Nat}{x ix:Operand}{i j:TI}
  {kd:IntKind}{m:Int}(ho:o.op=.indexAddr t x ix)(hi:T.get t=some i)(hd:i.d=.slice e')(hj:T.get e'=some j)(hs:U.size=j.size)(hx:F.ev x=some (.slice A ln k))(hm:F.ev ix=some (.int kd m))
  (h0:0≤m)(ha:xs[m.toNat]? = some a){d:Nat}(G:o.dst=some d)(hn:Nat.blt d n=true)
  (h:∀ q es,zmP U A m.toNat q→St W w (Hole U e (.slice A ln k) xs m.toNat es::Own U es a::B)→RW P n ops Q rest ((d,.pointer (some q))::F) w):RW P n ops Q (o::rest) F w:=by
 have H:=(List.getElem?_eq_some_iff.1 ha).1
 obtain⟨es,h1⟩:=hS.focusN ha
 have hl:=hS.lenEq
 exact RW.idxHole ht (U:=U) (hS.ownAddr H) hg ho hi hd hj hs hx hm h0 (by omega) G hn fun q hq=>h q es hq h1


end
end Go.E



namespace Go.E
open Go.RowKit


def zwM (A:Option Addr)(c l s:Nat):Option Addr:=if c=l then A else A.map (·.add (l*s))

theorem zxE {α:Type}{U:Ty α}{w:World}{e':Nat}{A:Option Addr}{len c l h:Nat}{xs:List α}(hr:(tSl e' U).ro w [.slice A len c] xs)(h1:l≤h)(h2:h≤xs.length):(tSl e' U).ro w [.slice (zwM A c l U.size) (h - l) (c - l)] ((xs.take h).drop l):=by
 obtain⟨A',c',els,he,hc,q,O⟩:=hr
 simp only[List.cons.injEq,Value.slice.injEq,and_true] at he
 obtain⟨rfl,rfl,rfl⟩:=he
 have o:((xs.take h).drop l).length=h - l:=by simp[Nat.min_eq_left h2]
 refine⟨_,c - l,(els.take (h*U.size)).drop (l*U.size),by rw[o],by rw[o];omega,?_,fun H=>?_⟩
 ·exact Els.drop (Els.take q h h2) l (by simp[Nat.min_eq_left h2];exact h1)
 ·have G:els≠[]:=by rintro rfl;simp at H
  have X:l<h:=by
   rcases Nat.lt_or_ge l h with h' | h'
   ·exact h'
   ·have:l=h:=by omega
    subst this
    exact absurd (by rw[List.drop_eq_nil_iff,List.length_take];exact Nat.min_le_left _ _) H
  obtain⟨p,rfl,hp⟩:=O G
  unfold zwM
  rw[if_neg (by omega)]
  refine⟨p.add (l*U.size),rfl,?_⟩
  refine hp.part fun m u hu=>?_
  rw[List.getElem?_drop,List.getElem?_take] at hu
  split at hu
  ·exact hu
  ·cases hu

theorem zxb {α:Type}{U:Ty α}{w:World}{e':Nat}{A:Option Addr}{len c l h:Nat}{xs:List α}(hr:(tSl e' U).ro w [.slice A len c] xs)(h1:l≤h)(h2:h≤xs.length){m:Nat}(hm:h - l=m):(tSl e' U).ro w [.slice (zwM A c l U.size) m (c - l)] ((xs.take h).drop l):=hm ▸ zxE hr h1 h2

theorem Quiet.cutX {P:Program}{T:TT}(ht:TTok P T){n:Nat}{F:Fr}{w:Base}{w7:World}{o:Oper}{α:Type}{U:Ty α}{t e:Nat}{x:Operand}{lo hi:Option Operand}{i j:TI}{A:Option Addr}{len c:Nat}{xs:List α}(ho:o.op=.slice t x lo hi none)
  (H:T.get t=some i)(hd:i.d=.slice e)(hj:T.get e=some j)(hs:U.size=j.size)(hx:F.ev x=some (.slice A len c)){e':Nat}
  (hr:(tSl e' U).ro w7 [.slice A len c] xs){l h:Nat}(hl:(lo=none∧l=0)∨∃ y k,lo=some y∧F.ev y=some (.int k (l:Int)))(hh:(hi=none∧h=xs.length)∨∃ y k,hi=some y∧F.ev y=some (.int k (h:Int)))
  (h1:l≤h)(h2:h≤xs.length):Quiet P n F w o (.slice (zwM A c l U.size) (h - l) (c - l)):=by
 obtain⟨A',c',els,he,hc,X,Z⟩:=hr
 simp only[List.cons.injEq,Value.slice.injEq,and_true] at he
 obtain⟨rfl,rfl,rfl⟩:=he
 intro a w' ha _
 unfold execOp zwM
 rw[ho,hs]
 have G:h≤c:=Nat.le_trans h2 hc
 have q:∀ (k:IntKind) (m y:Nat) (cd:BoundsCode),m≤y→(Instr.sliceBound (.int k (m:Int)) y cd).run P w'=.ok m w':=fun k m y cd Y=>by
  simp[Instr.sliceBound,asIntOf,Y]
 rcases hl with⟨rfl,rfl⟩ | ⟨y,k,rfl,hy⟩<;>rcases hh with⟨rfl,rfl⟩ | ⟨y',k',rfl,O⟩
 ·simp[ha.ev hx,Instr.sliceAt,Instr.slice,Go.underlying,ht.slice H hd,Instr.sliceBounds,ht.sizeOf hj]
 ·simp[ha.ev hx,ha.ev O,Instr.sliceAt,Instr.slice,Go.underlying,ht.slice H hd,Instr.sliceBounds,ht.sizeOf hj,q,G]
 ·simp[ha.ev hx,ha.ev hy,Instr.sliceAt,Instr.slice,Go.underlying,ht.slice H hd,Instr.sliceBounds,ht.sizeOf hj,q,h1]
 ·simp[ha.ev hx,ha.ev hy,ha.ev O,Instr.sliceAt,Instr.slice,Go.underlying,ht.slice H hd,Instr.sliceBounds,ht.sizeOf hj,q,G,h1]

theorem Quiet.arrIdx {P:Program}{T:TT}(ht:TTok P T){n:Nat}{F:Fr}{w:Base}{o:Oper}{t e len:Nat}{x ix:Operand}{j:TI}{cs:List Value}{xs:List Int}{k kd:IntKind}{m a:Int}(ho:o.op=.index t x ix)
  (hu:P.underlying t=some (.array len e))(hj:T.get e=some j)(q:j.agg=false)(hs:j.size=1)(hx:F.ev x=some (.agg ⟨cs⟩))(hc:cs=xs.map (Value.int kd))(hm:F.ev ix=some (.int k m))(h0:0≤m)(ha:xs[m.toNat]? = some a)(hl:xs.length=len:=by rfl):Quiet P n F w o (.int kd a):=by
 intro b w' hb _
 have H:=(List.getElem?_eq_some_iff.1 ha).1
 have hr:=zhS (P:=P) ht hj (xs:=cs) (off:=m.toNat*1) (x:=.int kd a) (.inr ⟨q,by
  rw[hs,Nat.mul_one,hc]
  have h1:(xs.map (Value.int kd))[m.toNat]? = some (.int kd a):=by rw[List.getElem?_map,ha];rfl
  have h2:=(List.getElem?_eq_some_iff.1 h1)
  rw[List.drop_eq_getElem_cons h2.1,h2.2];rfl⟩) w'
 unfold execOp
 rw[ho]
 have G:m<len:=by omega
 rw[Nat.mul_one] at hr
 simp[hb.ev hx,hb.ev hm,Instr.index,asIntOf,Go.underlying,hu,h0,G,ht.sizeOf hj,hs,hr]

end Go.E



namespace Go.E
open Go.RowKit

section
variable {P:Program}{n:Nat}{Q:Post}{F:Fr}{W:Base}{w w0:World}{W9:Base}{ops:List Oper}{wm fu kk mm:Nat}{sk:List (List Nat×Nat)}{o:Oper}

theorem LM.okD (G:z97 ops=sk∧ops.length=kk){v:Value}{w':World}{ii:Nat}(m':Nat)(q:mm ||| 2 ^ ii=m')(H:wm.testBit ii=false)(hni:nthv ops ii=some o)(hg:zc ops F o=some true)(hr:∀ a,Fits n F a→(execOp a.eval o).run P w=.ok (.value v) w'){d:Nat}(hd:o.dst=some d)(hn:Nat.blt d n=true)(hw:Ext w w')
  (h:DM P n ops Q W9 w0 wm fu kk m' ((d,v)::F) w'):LM P n ops Q W9 w0 wm fu kk mm ii F w:=by
 refine LM.ok G m' q H hni hg hr hw (by rw[hd];exact hn) ?_
 rw[hd]
 exact h

theorem LM.okWD (G:z97 ops=sk∧ops.length=kk){v:Value}{w':World}{ii:Nat}(m':Nat)(q:mm ||| 2 ^ ii=m')(H:wm.testBit ii=true)(hni:nthv ops ii=some o)(hg:zc ops F o=some true)(hr:∀ a,Fits n F a→(execOp a.eval o).run P w=.ok (.value v) w'){d:Nat}(hd:o.dst=some d)(hn:Nat.blt d n=true)(hW:Ext W9 w')
  (h:DM P n ops Q W9 w0 wm fu kk m' ((d,v)::F) w'):LM P n ops Q W9 w0 wm fu kk mm ii F w:=by
 refine LM.okW G m' q H hni hg hr (by rw[hd];exact hn) hW ?_
 rw[hd]
 exact h
end

theorem DW.quietP {P:Program}{n:Nat}{Q:Post}{F:Fr}{w w0:World}{W9:Base}{ops:List Oper}{wr:Nat→Bool}{fu:Nat}{listed:Array Bool}{o:Oper}{v:Value}(i:Nat)(q:wr i=false)(hi:nthv ops i=some o)(hf:zhi ops listed i=true)(hg:zc ops F o=some true)(hq:∀ w:World,Quiet P n F w o v){d:Nat}(hd:o.dst=some d)(hn:Nat.blt d n=true)
  (h:DW P n ops Q W9 w0 wr fu (listed.setIfInBounds i true) ((d,v)::F) w):DW P n ops Q W9 w0 wr (fu+1) listed F w:=fun hs he hv a ha=>by
 rw[z2U] at hi
 obtain⟨h1,h2⟩:=zcn hf
 refine z9G (oi:=o) (v:=v) (by simpa using hi) hs h1 h2 (zes v _) q (.inl ⟨zq hg ha,fun w' _=>hq w' a w' ha (Ext.refl w')⟩) he hv ?_
 rw[hd]
 exact h hs (fun hn'=>he (hn'.back q)) hv _ (ha.put hn v)

theorem DM.quietP {P:Program}{n:Nat}{Q:Post}{F:Fr}{w w0:World}{W9:Base}{ops:List Oper}{wm fu k m:Nat}{sk:List (List Nat×Nat)}{o:Oper}{v:Value}(q:z97 ops=sk∧ops.length=k)(i m':Nat)(hm:m ||| 2 ^ i=m')(G:wm.testBit i=false)(hi:nthv ops i=some o)(hf:zd2 sk (2 ^ k - 1) m i=true)(hg:zc ops F o=some true)(hq:∀ w:World,Quiet P n F w o v){d:Nat}(hd:o.dst=some d)(hn:Nat.blt d n=true)
  (h:DM P n ops Q W9 w0 wm fu k m' ((d,v)::F) w):DM P n ops Q W9 w0 wm (fu+1) k m F w:=fun l hl=>
 DW.quietP i G hi (zdq q.1 q.2 hl (by rw[← z2U];exact hi) hf) hg hq hd hn (h _ (hl.set (zcC q.2 hi) hm))

theorem LW.callW {P:Program}{n:Nat}{Q:Post}{F:Fr}{w w0:World}{W9:Base}{ops:List Oper}{wr:Nat→Bool}{fu:Nat}{listed:Array Bool}{o:Oper}{i:Nat}(Y:wr i=true)(X:i<listed.size)(hi:nthv ops i=some o)(hg:zc ops F o=some true){f:FuncId}{vs:List Value}(hc:zjA F o.op=some (f,vs))(hn:zhM n o.dst=true)(H:Enters P f)
  {R:Value→World→Prop}(hf:Calls P f ⟨vs⟩ w (Ret R))(h:∀ v w',R v w'→Ext W9 w'∧DW P n ops Q W9 w0 wr fu (listed.setIfInBounds i true) (F.putO o.dst v) w'):LW P n ops Q W9 w0 wr fu listed i F w:=fun hs he hv a ha=>by
 rw[z2U] at hi
 have O:ops.toArray[i]? = some o:=by simpa using hi
 have G:¬ zhQ wr (listed.setIfInBounds i true):=fun q=>by
  have:=q i Y
  simp[Array.getD_eq_getD_getElem?,X] at this
 unfold wpOp
 simp only[O]
 rw[if_pos (zq hg ha)]
 refine .inl ?_
 unfold Oper.wp
 rw[zgH H hc ha,Oper.upon_enter]
 refine hf.mono fun e w' hr=>?_
 cases e with
 | returned v=>exact⟨⟨fun q=>absurd q G,(h v w' hr).1⟩,(h v w' hr).2 hs (fun q=>absurd q G) (h v w' hr).1 _ (ha.putO hn v)⟩
 | panicked _=>exact hr.elim
 | outgrown=>exact hr.elim

theorem LM.make {P:Program}{n:Nat}{Q:Post}{F:Fr}{W:Base}{w:World}{ops:List Oper}{o:Oper}{T:TT}(ht:TTok P T){α:Type}{U:Ty α}{Rs:List Res}(z:α)(hS:St W w Rs){wm fu kk mm ii:Nat}{w0:World}{sk:List (List Nat×Nat)}(f0:z97 ops=sk∧ops.length=kk)(m':Nat)(c0:mm ||| 2 ^ ii=m')(i0:wm.testBit ii=false)(hni:nthv ops ii=some o)(hg:zc ops F o=some true){t e:Nat}{l c:Operand}{i j:TI}{k1 k2:IntKind}{m:Int}(ho:o.op=.makeSlice t l c)(hi:T.get t=some i)(hd:i.d=.slice e)
  (hj:T.get e=some j)(hs:U.size=j.size)(hl:F.ev l=some (.int k1 m))(hc:F.ev c=some (.int k2 m))(h0:0≤m)(hb:m*(j.bytes:Int)≤281474976710656)(q:m≤maxLen)(hz:∀ w',U.own w' j.zero z [])
  {d:Nat}(a0:o.dst=some d)(hn:Nat.blt d n=true)
  (h:∀ A k (w':World),Ext w w'→St W w' (Own (tSl e U) [.slice A (List.replicate m.toNat z).length k] (List.replicate m.toNat z)::Rs)→DM P n ops Q W w0 wm fu kk m' ((d,.slice A (List.replicate m.toNat z).length k)::F) w'):LM P n ops Q W w0 wm fu kk mm ii F w:=by
 obtain⟨jj,b0,g0,Z,zz,k0,j0⟩:=ht.info hj
 have e0:m≤9223372036854775807:=by simpa [maxLen] using q
 have hr:=run_make (P:=P) w t e jj zz (ht.slice hi hd) b0 k0 k1 k2 m m h0 (Int.le_refl _) (by rw[Z,Int.mul_comm];exact hb) e0
 have Y:j.zero.length=U.size:=U.lenO (hz w)
 have G:madeCells zz.cells (m.toNat*jj.size)=⟨chunks m.toNat j.zero⟩:=by
  rw[← zc4 j.zero m.toNat,Y,hs,g0,show zz.cells=⟨j.zero⟩ from by rw[← j0]]
 rw[G] at hr
 have H:(List.replicate m.toNat z).length=m.toNat:=by simp
 refine LM.okD f0 m' c0 i0 hni hg (v:=.slice (some ⟨w.heap.size,0,none⟩) (List.replicate m.toNat z).length m.toNat) (fun a ha=>?_) a0 hn (Ext.alloc w (.cells ⟨chunks m.toNat j.zero⟩ e)) (h _ _ _ (Ext.alloc w (.cells ⟨chunks m.toNat j.zero⟩ e)) ?_)
 ·unfold execOp
  rw[ho,H]
  simp[ha.ev hl,ha.ev hc,hr]
 ·have X:∀ k:Nat,(chunks k j.zero).length=k*U.size:=fun k=>by
   induction k with
   | zero=>simp[chunks]
   | succ k ih=>simp[chunks,ih,Y,Nat.succ_mul,Nat.add_comm]
  have O:=zc3 (w:=w.alloc (.cells ⟨chunks m.toNat j.zero⟩ e)) (e:=e) (U:=U) (xs:=List.replicate m.toNat z) (g:=w.heap.size) (cap:=m.toNat) (els:=chunks m.toNat j.zero) (rest:=[]) (K:=[])
   (by rw[List.append_nil];exact heap_alloc_new w _) (by simp) (by have:(m.toNat:Int)=m:=Int.toNat_of_nonneg h0;omega) (by simp[X]) (by simp[X]) (zh1 (hz _) _)
  exact hS.join (Ns:=[Own (tSl e U) [.slice (some ⟨w.heap.size,0,none⟩) (List.replicate m.toNat z).length m.toNat] (List.replicate m.toNat z)])
   ⟨Ext.alloc _ _,⟨[w.heap.size],O,by simp,fun g hg=>by simp at hg;subst hg;exact⟨.inl (Nat.le_refl _),by simp⟩,trivial⟩⟩

theorem LM.append {P:Program}{n:Nat}{Q:Post}{F:Fr}{W:Base}{w:World}{ops:List Oper}{o:Oper}{T:TT}(ht:TTok P T){α:Type}{U:Ty α}{B:List Res}{e:Nat}{A:Option Addr}{k:Nat}{xs ys:List α}{els:List Value}(hS:St W w (Own (tSl e U) [.slice A xs.length k] xs::OwnEls U els ys::B)){wm fu kk mm ii:Nat}{w0:World}{sk:List (List Nat×Nat)}(X:z97 ops=sk∧ops.length=kk)(m':Nat)(O:mm ||| 2 ^ ii=m')(Y:wm.testBit ii=true)(hni:nthv ops ii=some o)(hg:zc ops F o=some true)
  {t:Nat}{s x:Operand}{i j:TI}(ho:o.op=.call { callee:=.builtin .append,args:=#[s,x],argTypes:=#[t,t] })(hi:T.get t=some i)(hd:i.d=.slice e)(hj:T.get e=some j)(hs:U.size=j.size)(hpos:0<U.size)
  (hx:F.ev s=some (.slice A xs.length k)){A2:Option Addr}{k2:Nat}(hy:F.ev x=some (.slice A2 ys.length k2))(G:els≠[]→∃ p,A2=some p∧At w p els)
  (q:xs.length+ys.length≤maxLen)(hb:(xs.length+ys.length)*j.bytes≤140737488355328){d:Nat}(H:o.dst=some d)(hn:Nat.blt d n=true)
  (h:∀ A' k' (w':World),St W w' (Own (tSl e U) [.slice A' (xs++ys).length k'] (xs++ys)::B)→DM P n ops Q W w0 wm fu kk m' ((d,.slice A' (xs++ys).length k')::F) w'):LM P n ops Q W w0 wm fu kk mm ii F w:=by
 obtain⟨A',k',w',h1,h2⟩:=zfV (P:=P) (ty:=o.type) ht hS hi hd hj hs hpos (k2:=k2) G q hb
 refine LM.okWD X m' O Y hni hg (w':=w') (fun a ha=>?_) H hn h2.ext (h A' k' w' h2)
 unfold execOp
 rw[ho]
 simp[resolve,invoke,builtin,ha.ev hx,ha.ev hy]
 rw[h1]
 simp

theorem LM.appendRo {α:Type}{U:Ty α}{P:Program}{T:TT}(ht:TTok P T)(O:Flat U){n:Nat}{ops:List Oper}{Q:Post}{F:Fr}{W:Base}{w:World}{B:List Res}{o:Oper}{e:Nat}{A:Option Addr}{k:Nat}{xs ys:List α}
  (hS:St W w (Own (tSl e U) [.slice A xs.length k] xs::B)){wm fu kk mm ii:Nat}{w0:World}{sk:List (List Nat×Nat)}(Y:z97 ops=sk∧ops.length=kk)(m':Nat)(X:mm ||| 2 ^ ii=m')(Z:wm.testBit ii=true)(hni:nthv ops ii=some o)(hg:zc ops F o=some true)
  {t:Nat}{s x:Operand}{i j:TI}(ho:o.op=.call { callee:=.builtin .append,args:=#[s,x],argTypes:=#[t,t] })(hi:T.get t=some i)(hd:i.d=.slice e)(hj:T.get e=some j)(hs:U.size=j.size)(hpos:0<U.size)
  (hx:F.ev s=some (.slice A xs.length k)){A2:Option Addr}{k2:Nat}(hy:F.ev x=some (.slice A2 ys.length k2)){e':Nat}(hr:(tSl e' U).ro w [.slice A2 ys.length k2] ys)
  (G:(xs.length:Int)+ys.length≤4294967296)(hb:j.bytes≤32768){d:Nat}(H:o.dst=some d)(hn:Nat.blt d n=true)
  (h:∀ A' k' (w':World),St W w' (Own (tSl e U) [.slice A' (xs++ys).length k'] (xs++ys)::B)→DM P n ops Q W w0 wm fu kk m' ((d,.slice A' (xs++ys).length k')::F) w'):LM P n ops Q W w0 wm fu kk mm ii F w:=by
 obtain⟨A3,c3,els,he,hc,h1,h2⟩:=hr
 simp only[List.cons.injEq,Value.slice.injEq,and_true] at he
 obtain⟨rfl,_,rfl⟩:=he
 have q:=(hS.flatEls (U:=U) (els:=els) (ys:=ys) (Els.flat O h1)).b 1 rfl
 have hm:(xs.length+ys.length)*j.bytes≤4294967296*32768:=Nat.mul_le_mul (by omega) hb
 exact LM.append ht q Y m' X Z hni hg ho hi hd hj hs hpos hx hy h2 (by simp only[maxLen];omega) (by omega) H hn h

theorem LM.appendOwn {α:Type}{U:Ty α}{P:Program}{T:TT}(ht:TTok P T){n:Nat}{ops:List Oper}{Q:Post}{F:Fr}{W:Base}{w:World}{B:List Res}{o:Oper}{e e':Nat}{A A2:Option Addr}{k k2:Nat}{xs ys:List α}
  (hS:St W w (Own (tSl e' U) [.slice A2 ys.length k2] ys::Own (tSl e U) [.slice A xs.length k] xs::B)){wm fu kk mm ii:Nat}{w0:World}{sk:List (List Nat×Nat)}(O:z97 ops=sk∧ops.length=kk)(m':Nat)(H:mm ||| 2 ^ ii=m')(X:wm.testBit ii=true)(hni:nthv ops ii=some o)(hg:zc ops F o=some true)
  {t:Nat}{s x:Operand}{i j:TI}(ho:o.op=.call { callee:=.builtin .append,args:=#[s,x],argTypes:=#[t,t] })(hi:T.get t=some i)(hd:i.d=.slice e)(hj:T.get e=some j)(hs:U.size=j.size)(hpos:0<U.size)
  (hx:F.ev s=some (.slice A xs.length k))(hy:F.ev x=some (.slice A2 ys.length k2))
  (q:(xs.length:Int)+ys.length≤4294967296)(hb:j.bytes≤32768){d:Nat}(G:o.dst=some d)(hn:Nat.blt d n=true)
  (h:∀ A' k' (w':World),St W w' (Own (tSl e U) [.slice A' (xs++ys).length k'] (xs++ys)::B)→DM P n ops Q W w0 wm fu kk m' ((d,.slice A' (xs++ys).length k')::F) w'):LM P n ops Q W w0 wm fu kk mm ii F w:=by
 obtain⟨els,h1,h2⟩:=hS.els
 have hm:(xs.length+ys.length)*j.bytes≤4294967296*32768:=Nat.mul_le_mul (by omega) hb
 exact LM.append ht (h1.b 1 rfl) O m' H X hni hg ho hi hd hj hs hpos hx hy h2 (by simp only[maxLen];omega) (by omega) G hn h

end Go.E



