/- Shallow clones: lists whose elements' memory is borrowed, and lists some of whose elements are already one's own. Conditions: none (rules). -/
import Derived.Test.YteommboffflkbaaGreatParam
import Derived.Test.YteommboffflkbaaGreatFGe
import Derived.Test.YteommboffflkbaaGreatMixed
namespace Go.E
open Go.RowKit
set_option linter.unusedVariables false
set_option linter.unusedSimpArgs false


def Lends {α:Type}(W0:World) (U V:Ty α):Prop:=∀ {w:World}{cs:List Value}{x:α},U.ro W0 cs x→V.own w cs x []
section
variable {α β:Type}{W0:World}
theorem Lends.bor {T:Ty α}:Lends W0 T (tBor W0 T):=fun h=>⟨h,rfl⟩
theorem Lends.flat {T:Ty α}(h:∀ {w w':World}{cs:List Value}{x:α},T.ro w cs x→T.own w' cs x []):Lends W0 T T:=fun k=>h k
theorem Lends.int:Lends W0 tInt tInt:=fun h=>⟨h,rfl⟩
theorem Lends.bool:Lends W0 tBool tBool:=fun h=>⟨h,rfl⟩
theorem Lends.str:Lends W0 tStr tStr:=fun h=>⟨h,rfl⟩
theorem Lends.unit:Lends W0 tUnit tUnit:=fun h=>⟨h,rfl⟩
theorem Lends.pair {T T':Ty α}{U U':Ty β}(h:Lends W0 T T') (k:Lends W0 U U'):Lends W0 (tPair T U) (tPair T' U'):=by
 rintro w _ x ⟨c,d,rfl,h1,h2⟩
 exact⟨c,d,[],[],rfl,rfl,h h1,k h2⟩
theorem Lends.map {f:β→α}{T T':Ty α}(h:Lends W0 T T'):Lends W0 (tMap f T) (tMap f T'):=fun k=>h k
theorem Els.lend {U V:Ty α}(hl:Lends W0 U V){w:World}:∀ {xs:List α}{cs:List Value},Els U W0 cs xs→ElsO V w cs xs []
 | [],_,h=>⟨h,rfl⟩
 | _::_,_,⟨c,d,h,h1,h2⟩=>⟨c,d,[],[],h,rfl,hl h1,Els.lend hl h2⟩
theorem St.lendEls {U V:Ty α}{W w:World}{B:List Res}{els:List Value}{ys:List α}(hl:Lends W0 U V) (h:St W w B) (he:Els U W0 els ys):St W w (OwnEls V els ys::B):=
 h.toEmp.conv fun G hG=>by
  obtain rfl:G=[]:=hG
  exact Els.lend hl he

theorem RW.appendLend {U V:Ty α}(hl:Lends W0 U V){P:Program}{T:TT}(ht:TTok P T){n:Nat}{ops rest:List Oper}{Q:Post}{F:Fr}{W w:World}{B:List Res}{o:Oper}{e:Nat}{A:Option Addr}{k:Nat}{xs ys:List α}
  (hE:Ext W0 w) (hS:St W w (Own (tSl e V) [.slice A xs.length k] xs::B)) (hg:guardOf ops F o=some true)
  {t:Nat}{s x:Operand}{i j:TI}(ho:o.op=.call { callee:=.builtin .append,args:=#[s,x],argTypes:=#[t,t] }) (hi:T.get t=some i) (hd:i.d=.slice e) (hj:T.get e=some j) (hs:V.size=j.size) (hpos:0<V.size)
  (hx:F.ev s=some (.slice A xs.length k)){A2:Option Addr}{k2:Nat}(hy:F.ev x=some (.slice A2 ys.length k2)){e':Nat}(hr:(tSl e' U).ro W0 [.slice A2 ys.length k2] ys)
  (G:(xs.length:Int)+ys.length≤4294967296) (hb:j.bytes≤32768){d:Nat}(hd':o.dst=some d) (hn:Nat.blt d n=true)
  (h:∀ A' k' w',St W w' (Own (tSl e V) [.slice A' (xs++ys).length k'] (xs++ys)::B)→RW P n ops Q rest ((d,.slice A' (xs++ys).length k')::F) w'):RW P n ops Q (o::rest) F w:=by
 obtain⟨A3,c3,els,he,hc,h1,h2⟩:=hr
 simp only [List.cons.injEq,Value.slice.injEq,and_true] at he
 obtain⟨rfl,_,rfl⟩:=he
 have q:=(hS.lendEls (els:=els) (ys:=ys) hl h1).bring 1 rfl
 have hm:(xs.length+ys.length)*j.bytes≤4294967296*32768:=Nat.mul_le_mul (by omega) hb
 exact RW.append ht q hg ho hi hd hj hs hpos hx hy (fun hn=>by obtain⟨p,hp,ha⟩:=h2 hn;exact⟨p,hp,ha.ext hE⟩) (by simp only [maxLen];omega) (by omega) hd' hn h



def tTag (U V:Ty α) (hs:U.size=V.size) (hr:U.ro=V.ro):Ty (Bool × α) where
 size:=U.size
 ro:=fun w cs x=>U.ro w cs x.2
 own:=fun w cs x G=>if x.1=true then U.own w cs x.2 G else V.own w cs x.2 G
 req:=fun w=>U.req w∧V.req w
 len:=fun h=>U.len h
 lenO:=by
  rintro w cs ⟨b,x⟩ G h
  cases b
  ·exact(V.lenO h).trans hs.symm
  ·exact U.lenO h
 ext:=fun he h=>U.ext he h
 own_ro:=by
  rintro w cs ⟨b,x⟩ G h hq
  cases b
  ·rw [hr];exact V.own_ro h hq.2
  ·exact U.own_ro h hq.1
 loc:=by
  rintro w w' cs ⟨b,x⟩ G h hg
  cases b
  ·exact V.loc h hg
  ·exact U.loc h hg
 lt:=by
  rintro w cs ⟨b,x⟩ G h g hg
  cases b
  ·exact V.lt h g hg
  ·exact U.lt h g hg
 one:=fun h=>U.one h
 oneO:=by
  rintro w cs ⟨b,x⟩ G h
  cases b
  ·exact V.oneO h
  ·exact U.oneO h
variable {U V:Ty α}{hs:U.size=V.size}{hr:U.ro=V.ro}
theorem ElsO.tag {w:World}:∀ {xs:List α}{cs:List Value}{G:List Nat},ElsO V w cs xs G→ElsO (tTag U V hs hr) w cs (xs.map fun x=>(false,x)) G
 | [],_,_,h=>h
 | _::_,_,_,⟨c,d,H,K,h1,h2,h3,h4⟩=>⟨c,d,H,K,h1,h2,h3,ElsO.tag h4⟩
theorem ElsO.untag {w:World}:∀ {ys:List (Bool × α)}{cs:List Value}{G:List Nat},(∀ y,y∈ys→y.1=true)→ElsO (tTag U V hs hr) w cs ys G→ElsO U w cs (ys.map fun y=>y.2) G
 | [],_,_,_,h=>h
 | (b,x)::ys,_,_,hy,⟨c,d,H,K,h1,h2,h3,h4⟩=>by
  have hb:b=true:=hy (b,x) (by simp)
  subst hb
  exact⟨c,d,H,K,h1,h2,h3,ElsO.untag (fun y hm=>hy y (by simp [hm])) h4⟩
theorem St.tagged {W w:World}{B:List Res}{e:Nat}{v:List Value}{xs:List α}(h:St W w (Own (tSl e V) v xs::B)):St W w (Own (tSl e (tTag U V hs hr)) v (xs.map fun x=>(false,x))::B):=
 h.conv fun G hG=>by
  obtain⟨c,els,rfl,ho,K,hk,rfl⟩:=hG
  exact⟨c,els,rfl,by rw [List.length_map];show World.ownsRow w 0 e U.size c xs.length els;rw [hs];exact ho,K,ElsO.tag hk,rfl⟩
theorem St.untagged {W w:World}{B:List Res}{e:Nat}{v:List Value}{ys:List (Bool × α)}(hy:∀ y,y∈ys→y.1=true) (h:St W w (Own (tSl e (tTag U V hs hr)) v ys::B)):St W w (Own (tSl e U) v (ys.map fun y=>y.2)::B):=
 h.conv fun G hG=>by
  obtain⟨c,els,rfl,ho,K,hk,rfl⟩:=hG
  exact⟨c,els,rfl,by rw [List.length_map];exact ho,K,ElsO.untag hy hk,rfl⟩
theorem St.tag0 {W w:World}{B:List Res}{es:List Value}{a:α}(h:St W w (Own (tTag U V hs hr) es (false,a)::B)):St W w (Own V es a::B):=h.conv fun G hG=>hG
theorem St.tag1 {W w:World}{B:List Res}{es:List Value}{a:α}(h:St W w (Own U es a::B)):St W w (Own (tTag U V hs hr) es (true,a)::B):=h.conv fun G hG=>hG
end
end Go.E


namespace Go.E
open Go.RowKit Go.Proofs
set_option linter.unusedVariables false
set_option linter.unusedSimpArgs false
set_option maxHeartbeats 2000000
set_option maxRecDepth 100000


def zbv (W0:World):Ty D.Qe:=tMap (fun c:D.Qe=>(c.Qj,c.Qz,c.A,c.B,())) (tPair tInt (tPair (zaA W0) (tPair ty35 (tPair ty35 tUnit))))
instance {W0:World}:Reads W0 (zbv W0):=inferInstanceAs (Reads W0 (tMap (fun c:D.Qe=>(c.Qj,c.Qz,c.A,c.B,())) (tPair tInt (tPair (zaA W0) (tPair ty35 (tPair ty35 tUnit))))))

def tcp (W0:World):Ty (Bool × D.Qe):=tTag z8K (zbv W0) rfl rfl
instance {W0:World}:Reads W0 (tcp W0):=⟨fun h=>⟨Reads.req (T:=z8K) h,Reads.req (T:=zbv W0) h⟩⟩
theorem zhb {W0:World}:Lends W0 ty35 ty35:=Lends.map (Lends.pair Lends.int (Lends.pair Lends.int (Lends.pair Lends.int Lends.unit)))
theorem zis {W0:World}:Lends W0 z8K (zbv W0):=Lends.map (Lends.pair Lends.int (Lends.pair (Lends.map (Lends.pair Lends.int (Lends.pair Lends.int (Lends.pair Lends.int (Lends.pair Lends.bor (Lends.pair Lends.bor Lends.unit)))))) (Lends.pair zhb (Lends.pair zhb Lends.unit))))
theorem zcA {W0 W w:World}(he:Ext W0 W){B:List Res}{cs:List Value}{c:D.Qe}(h:St W w (Own (zbv W0) cs c::B)):∃ A0 k0 A1 k1,cs=[iv c.Qj,iv c.Qz.Qj,iv c.Qz.QL,iv c.Qz.Value,.slice A0 c.Qz.Data.length k0,.slice A1 c.Qz.QX.length k1,iv c.A.Qg,iv c.A.Qj,iv c.A.Qs,iv c.B.Qg,iv c.B.Qj,iv c.B.Qs]∧St W w (Emp::Emp::B):=by
 have hr:z8K.ro w cs c:=St.ownE (T:=zbv W0) (W0:=W0) he h
 obtain⟨A0,k0,A1,k1,e,_⟩:=zC hr
 exact⟨A0,k0,A1,k1,e,h.drop.toEmp.toEmp⟩
theorem znh:EN 246:=en Tryz.func246
def zX (fu:Nat) (x0:(List D.Qe)):Option ((List D.Qe)):=(if decide ((([]:(List D.Qe)).length:Int)+(x0.length:Int)≤4294967296)=true then some (([]:(List D.Qe))++x0) else none)

theorem z8a {W w:World}(hE:Ext W w){d:Option Addr}{q:Nat}{x0:(List D.Qe)}(h:z7U.ro W [sl d x0 q] x0){fu:Nat}{r:(List D.Qe)}(hm:zX fu x0=some r):
  CL 246 ⟨[sl d x0 q]⟩ w (Ret fun v w8=>∃ A0 k0,v=sl A0 r k0∧St w w8 [Own (tSl 156 (zbv W)) [.slice A0 r.length k0] r]):=by
 refine into Tryz.func246 8 _ ?_;unfold zX at hm;have hS:=St.start w;refine sq<|rg<|rr 1 ?_;refine rn<|sq<|sq<|rg<|rr 1 ?_;refine qt (qNilEq) ?_;refine rn ?_;cases d with
 | none=>
  have e:=zey (by decide) h;subst e;refine cd true (fun _=>?_) (fun hc=>by cases hc);refine sq<|rg<|rr 1 ?_;refine rn<|rt ?_;have hr:r=[]:=by simpa using hm.symm
  subst hr;exact⟨_,tR rfl,none,0,rfl,hS.nilSl (zbv W) 156⟩
 | some p=>
  refine cd false (fun hc=>by cases hc) (fun _=>?_);refine sp<|sq<|rg<|n0 (U:=zbv W) hS (fun A1 k1 w1 e1 o=>?_);refine rr 1 ?_
  by_cases hk:decide ((([]:(List D.Qe)).length:Int)+(x0.length:Int)≤4294967296)=true
  case neg=>rw [if_neg hk] at hm;cases hm
  rw [if_pos hk] at hm;cases hm;refine RW.appendLend zis ttok (hE.trans o.ext) o rfl rfl rfl rfl rfl rfl (Nat.le_of_ble_eq_true rfl) rfl rfl h (of_decide_eq_true hk) (by decide) rfl rfl (fun A2 k2 w2 G=>?_);refine rr 1 ?_;refine rn<|rt ?_;exact⟨_,tR rfl,A2,k2,rfl,G⟩

theorem zeh:EN 245:=en Tryz.func245
def zr (fu:Nat) (x0:(List D.Qf)):Option ((List D.Qf)):=(if decide ((([]:(List D.Qf)).length:Int)+(x0.length:Int)≤4294967296)=true then some (([]:(List D.Qf))++x0) else none)

theorem z18 {W w:World}(hE:Ext W w){d:Option Addr}{q:Nat}{x0:(List D.Qf)}(h:z3r.ro W [sl d x0 q] x0){fu:Nat}{r:(List D.Qf)}(hm:zr fu x0=some r):
  CL 245 ⟨[sl d x0 q]⟩ w (Ret fun v w8=>∃ A0 k0,v=sl A0 r k0∧St w w8 [ow z3r A0 r k0]):=by
 refine into Tryz.func245 8 _ ?_;unfold zr at hm;have hS:=St.start w;refine sq<|rg<|rr 1 ?_;refine rn<|sq<|sq<|rg<|rr 1 ?_;refine qt (qNilEq) ?_;refine rn ?_;cases d with
 | none=>
  have e:=zey (by decide) h;subst e;refine cd true (fun _=>?_) (fun hc=>by cases hc);refine sq<|rg<|rr 1 ?_;refine rn<|rt ?_;have hr:r=[]:=by simpa using hm.symm
  subst hr;exact⟨_,tR rfl,none,0,rfl,hS.nilSl ty35 35⟩
 | some p=>
  refine cd false (fun hc=>by cases hc) (fun _=>?_);refine sp<|sq<|rg<|n0 (U:=ty35) hS (fun A1 k1 w1 e1 o=>?_);refine rr 1 ?_
  by_cases hk:decide ((([]:(List D.Qf)).length:Int)+(x0.length:Int)≤4294967296)=true
  case neg=>rw [if_neg hk] at hm;cases hm
  rw [if_pos hk] at hm;cases hm;refine ap (Flat.map fL0) o (z3r.ext (hE.trans o.ext) h) hk (fun A2 k2 w2 G=>?_);refine rr 1 ?_;refine rn<|rt ?_;exact⟨_,tR rfl,A2,k2,rfl,G⟩

theorem znC:EN 214:=en Tryz.func214
def z8o (fu:Nat) (d:(List (Bool × D.Qe))):Option (List D.Qe):=(if(d.all fun y=>y.1)=true then some (d.map fun y=>y.2) else none)
def z6d (fu:Nat) (d:Int × (List (Bool × D.Qe))) (h:(List (Bool × D.Qe))):Option (Rd (Int × (List (Bool × D.Qe))) ((List (Bool × D.Qe))) ((List D.Qe))):=some (.next (w64 (d.1+1),h))
def z3M (fu:Nat) (r1:(List D.Qe)) (d:Int × (List (Bool × D.Qe))):Option (Rd (Int × (List (Bool × D.Qe))) ((List (Bool × D.Qe))) ((List D.Qe))):=(if(decide (d.1<(r1.length:Int)))=true then((idx d.2 d.1).bind fun G=>((zp fu G.2.Qz.Data).bind fun o=>((idx d.2 d.1).bind fun H=>((zr fu H.2.Qz.QX).bind fun q=>((idx d.2 d.1).bind fun h=>(if h.1=true then none else z6d fu d (d.2.set d.1.toNat (true,(⟨h.2.Qj,(⟨h.2.Qz.Qj,h.2.Qz.QL,h.2.Qz.Value,o,q⟩:D.Qb),h.2.A,h.2.B⟩:D.Qe))))))))) else some (.brk d.2))
def z6e (fu:Nat) (x0:(List D.Qe)):Option ((List D.Qe)):=((zX fu x0).bind fun r1=>((iter (z3M fu r1) fu (0,r1.map fun x=>(false,x))).bind fun o=>aft o (z8o fu)))

theorem zdB {W w:World}(hE:Ext W w){p2:Option Addr}{y2:Nat}{x0:(List D.Qe)}(R2:z7U.ro W [sl p2 x0 y2] x0){fu:Nat}{r:(List D.Qe)}(hm:z6e fu x0=some r):
  CL 214 ⟨[sl p2 x0 y2]⟩ w (Ret fun v w8=>∃ A0 k0,v=sl A0 r k0∧St w w8 [ow z7U A0 r k0]):=by
 refine into Tryz.func214 38 _ ?_;unfold z6e at hm;have hS:=St.start w;refine sq<|rg<|rr 1 ?_;refine rn<|sq<|rg<|rr 1 ?_;obtain⟨r1,Y2,hm⟩:=bS hm;refine ca znh (z8a (hE.trans hS.ext) R2 Y2) (fun v3 w4 X2=>?_);obtain⟨A6,k7,rfl,U1⟩:=X2;have V1:=St.tagged (U:=z8K) (V:=zbv W) (hs:=rfl) (hr:=rfl) (hS.join U1);refine rr 1 ?_;refine rn<|sq<|sq<|rg<|rr 3 ?_;refine rn ?_;obtain⟨q3,d2,hm⟩:=bS hm;refine ct (fun(J1:(List (Bool × D.Qe))) F w9=>q3=.inl J1∧St w w9 [Own (tSl 156 (tcp W)) [sl A6 r1 k7] J1]∧F=[(3,sl A6 r1 k7)]) ?_ ?_
 ·rintro J1 F a4 ⟨e2,W1,rfl⟩;subst e2;rw [z8] at hm;unfold z8o at hm;refine sq<|rg<|rr 2 ?_;refine rn<|rt ?_;by_cases hall:(J1.all fun y=>y.1)=true;case neg=>rw [if_neg hall] at hm;cases hm
  rw [if_pos hall] at hm;cases hm;have Y0:=St.untagged (U:=z8K) (V:=zbv W) (hs:=rfl) (hr:=rfl) (fun y hy=>List.all_eq_true.1 hall y hy) W1;have hn20:=(Y0.bring 0 rfl).lenEq;have X1:=(Y0.bring 0 rfl).reLen hn20;exact⟨_,tR rfl,A6,k7,(by first | (simp only [sl,hn20];done) | (simp only [sl,hn20];rfl)),X1⟩
 ·refine bk<|wk [3,8,9] ?_;refine it (fun(O:Int × (List (Bool × D.Qe))) F w9=>St w w9 [Own (tSl 156 (tcp W)) [sl A6 r1 k7] O.2]∧F=[(3,sl A6 r1 k7),(8,iv (r1.length:Int)),(9,iv O.1)]) d2 ⟨V1,rfl⟩ ?_;rintro O F b4 _ r3 ⟨S,rfl⟩ h f2;unfold z3M at h;refine sq<|rg<|rr 1 ?_;refine rn<|sq<|ci h (fun h=>?_) (fun h=>?_)
  ·refine sp<|sq<|bk<|sq<|rg<|rr 2 ?_;refine rn<|ct (fun(o2:(List (Bool × D.Qe))) F w9=>z6d fu O o2=some r3∧St w w9 [Own (tSl 156 (tcp W)) [sl A6 r1 k7] o2]∧F=[(3,sl A6 r1 k7),(8,iv (r1.length:Int)),(9,iv O.1)]) ?_ ?_
   ·rintro o2 F c4 ⟨h,Y1,rfl⟩;unfold z6d at h;refine rg<|rr 2 ?_;refine rn ?_;cases h;exact⟨_,_,rfl,⟨Y1,rfl⟩,rfl⟩
   ·refine dn 35651584 mixed 26 [([],67108863),([],67108863),([],67108863),([],67108863),([],67108863),([],67108863),([4,5],67108815),([6],67108799),([7],67108735),([8],67108607),([9],67108351),([],67108863),([],67108863),([11,12],67102719),([13],67100671),([14],67092479),([15],67076095),([16,10],67043327),([0,1,0,1,4,5,6,7,8,9,10,16,17],67108860),([18,0,1,4,5,6,7,8,9,10,16,17],66846719),([19,0,1,4,5,6,7,8,9,10,16,17],66584575),([20,10,17,0,1,4,5,6,7,8,9,10,16,17],66059263),([2,3,0,1,2,3,4,5,6,7,8,9,10,11,12,13,14,15,16,17,18,19,20,21],67108851),([22,0,1,2,3,4,5,6,7,8,9,10,11,12,13,14,15,16,17,18,19,20,21],62914559),([23,0,1,2,3,4,5,6,7,8,9,10,11,12,13,14,15,16,17,18,19,20,21],58720255),([24,17,21,0,1,2,3,4,5,6,7,8,9,10,11,12,13,14,15,16,17,18,19,20,21],50200575)] S.ext (fun d=>?_);have X:=S.step (Ext.draw _);refine dr 18 d [0,1,2,3,4,5,11,12] ?_;obtain⟨R3,i2,h⟩:=bS h;refine dx (hpos:=Nat.le_of_ble_eq_true rfl) (Ext.refl _) d 6 (St.ownE (W0:=W) hE (S.bring 0 rfl)) i2 (fun Y3 Q2 a2 g2=>?_);obtain⟨S3,W3,T3,X3,P2,T1,U3⟩:=zC (c:=R3.2) g2;subst P2;refine dr 15 d [7,8] ?_;refine dw [3,8,9,12,13,14,15,20,23,24] ?_;refine dl d 9 a2 4 ?_;obtain⟨t0,q0,h⟩:=bS h;obtain⟨A2,H1,h⟩:=bS h;obtain⟨H,r0,h⟩:=bS h;obtain⟨o,G,h⟩:=bS h;obtain⟨y79,o⟩:=o;cases y79;case true=>cases h
    rw [if_neg (by simp)] at h;dsimp only at h;refine da d [10,13] (by simp) ?_;intro V3 hi100;simp only [List.mem_cons,List.not_mem_nil,or_false] at hi100
    rcases hi100 with rfl | rfl
    ·refine mc d z9U (zx (Ext.refl _) (ty29.ext (Ext.draw _) T1) q0) (fun u3 E3 v0=>?_);obtain⟨B2,b3,rfl,Y⟩:=v0;refine⟨Y.ext,?_⟩;have d0:=X.join Y;refine o1 d 13 (mx (hpos:=Nat.le_of_ble_eq_true rfl) (Ext.refl _) d (St.ownE (W0:=W) hE (d0.bring 1 rfl)) H1 (fun s3 q2 E1 F1=>?_));obtain⟨C2,c3,D2,d3,N1,S2,S1⟩:=zC (c:=A2.2) F1;subst N1;refine dr 10 d [14,15] ?_;refine dw [3,8,9,12,13,14,15,22,27] ?_;refine o1 d 16 (mq d rfl (q1 E1 5) ?_);refine o1 d 17 (mc d zeh (z18 (Ext.refl _) S1 r0) (fun y3 F3 y0=>?_));obtain⟨K1,j2,rfl,Z⟩:=y0;refine⟨Z.ext,?_⟩;have F0:=d0.join Z;have G0:=F0.bring 2 rfl;refine df G0 d 18 G (fun q127 r2 hq129 H0=>?_);obtain⟨E2,e3,F2,f3,O1,J0⟩:=zcA hE (St.tag0 (H0.bring 1 rfl));subst O1;refine dr 5 d [19,20] ?_;refine dw [3,8,9,14,15,22,29,32] ?_;have K0:=J0.bring 2 rfl;refine o1 d 21 (mh K0 hq129 d 4 (fun G3 e0=>?_));refine dg (e0.bring 0 rfl) d 22 (zi G).1 (fun q140 hq141=>?_);refine dr 1 d [23,24] ?_;refine dw [3,8,9,29,35] ?_;have L0:=e0.bring 0 rfl;refine o1 d 25 (mh L0 hq141 d 5 (fun H3 f0=>?_));refine dd d ?_;have T2:=(show z3r.ro _ [.slice K1 H.length j2] H from((f0.bring 3 rfl).own));have M0:=f0.bring 3 rfl;have N0:=M0.bring 4 rfl;have O0:=za9 (c:=(⟨o.Qj,(⟨o.Qz.Qj,o.Qz.QL,o.Qz.Value,t0,H⟩:D.Qb),o.A,o.B⟩:D.Qe)) (B:=_) N0;have P0:=(St.tag1 (U:=z8K) (V:=zbv W) (hs:=rfl) (hr:=rfl) O0).bring 1 rfl;have Q0:=St.unfocusN P0;exact⟨(O.2.set O.1.toNat (true,(⟨o.Qj,(⟨o.Qz.Qj,o.Qz.QL,o.Qz.Value,t0,H⟩:D.Qb),o.A,o.B⟩:D.Qe))),_,⟨h,(Q0.taken 1),rfl⟩,rfl⟩
    ·refine mx (hpos:=Nat.le_of_ble_eq_true rfl) (Ext.refl _) d (St.ownE (W0:=W) hE (X.bring 0 rfl)) H1 (fun t3 t2 p0 G1=>?_);obtain⟨G2,g3,H2,i3,P1,U2,u0⟩:=zC (c:=A2.2) G1;subst P1;refine dr 11 d [14,15] ?_;refine da d [10,16] (by simp) ?_;intro a3 hi163;simp only [List.mem_cons,List.not_mem_nil,or_false] at hi163
     rcases hi163 with rfl | rfl
     ·refine mc d z9U (zx (Ext.refl _) (ty29.ext (Ext.draw _) T1) q0) (fun A3 J3 B0=>?_);obtain⟨J2,j3,rfl,q⟩:=B0;refine⟨q.ext,?_⟩;have R0:=X.join q;refine o1 d 16 (mq d rfl (q1 (At.ext q.ext p0) 5) ?_);refine o1 d 17 (mc d zeh (z18 (Ext.refl _) (z3r.ext q.ext u0) r0) (fun B3 K3 C0=>?_));obtain⟨L1,m2,rfl,a0⟩:=C0;refine⟨a0.ext,?_⟩;have S0:=R0.join a0;have T0:=S0.bring 2 rfl;refine df T0 d 18 G (fun q179 u2 hq181 U0=>?_);obtain⟨K2,k3,L2,m3,Q1,V0⟩:=zcA hE (St.tag0 (U0.bring 1 rfl));subst Q1;refine dr 5 d [19,20] ?_;refine dw [3,8,9,14,15,22,29,32] ?_;have X0:=V0.bring 2 rfl;refine o1 d 21 (mh X0 hq181 d 4 (fun L3 g0=>?_));refine dg (g0.bring 0 rfl) d 22 (zi G).1 (fun q192 hq193=>?_);refine dr 1 d [23,24] ?_;refine dw [3,8,9,29,35] ?_;have a1:=g0.bring 0 rfl;refine o1 d 25 (mh a1 hq193 d 5 (fun M3 i0=>?_));refine dd d ?_;have V2:=(show z3r.ro _ [.slice L1 H.length m2] H from((i0.bring 3 rfl).own));have d1:=i0.bring 3 rfl;have e1:=d1.bring 4 rfl;have f1:=za9 (c:=(⟨o.Qj,(⟨o.Qz.Qj,o.Qz.QL,o.Qz.Value,t0,H⟩:D.Qb),o.A,o.B⟩:D.Qe)) (B:=_) e1;have g1:=(St.tag1 (U:=z8K) (V:=zbv W) (hs:=rfl) (hr:=rfl) f1).bring 1 rfl;have i1:=St.unfocusN g1;exact⟨(O.2.set O.1.toNat (true,(⟨o.Qj,(⟨o.Qz.Qj,o.Qz.QL,o.Qz.Value,t0,H⟩:D.Qb),o.A,o.B⟩:D.Qe))),_,⟨h,(i1.taken 1),rfl⟩,rfl⟩
     ·refine mq d rfl (q1 p0 5) ?_;refine o1 d 10 (mc d z9U (zx (Ext.refl _) (ty29.ext (Ext.draw _) T1) q0) (fun C3 N3 D0=>?_));obtain⟨M2,n3,rfl,M⟩:=D0;refine⟨M.ext,?_⟩;have j1:=X.join M;refine o1 d 17 (mc d zeh (z18 (Ext.refl _) (z3r.ext M.ext u0) r0) (fun D3 O3 E0=>?_));obtain⟨M1,n2,rfl,b0⟩:=E0;refine⟨b0.ext,?_⟩;have m1:=j1.join b0;have n1:=m1.bring 2 rfl;refine df n1 d 18 G (fun q218 v2 hq220 p1=>?_);obtain⟨N2,o3,O2,p3,R1,t1⟩:=zcA hE (St.tag0 (p1.bring 1 rfl));subst R1;refine dr 5 d [19,20] ?_;refine dw [3,8,9,14,15,22,29,32] ?_;have u1:=t1.bring 2 rfl;refine o1 d 21 (mh u1 hq220 d 4 (fun P3 j0=>?_));refine dg (j0.bring 0 rfl) d 22 (zi G).1 (fun q231 hq232=>?_);refine dr 1 d [23,24] ?_;refine dw [3,8,9,29,35] ?_;have v1:=j0.bring 0 rfl;refine o1 d 25 (mh v1 hq232 d 5 (fun Q3 o0=>?_));refine dd d ?_;have W2:=(show z3r.ro _ [.slice M1 H.length n2] H from((o0.bring 3 rfl).own));have y1:=o0.bring 3 rfl;have A1:=y1.bring 4 rfl;have B1:=za9 (c:=(⟨o.Qj,(⟨o.Qz.Qj,o.Qz.QL,o.Qz.Value,t0,H⟩:D.Qb),o.A,o.B⟩:D.Qe)) (B:=_) A1;have C1:=(St.tag1 (U:=z8K) (V:=zbv W) (hs:=rfl) (hr:=rfl) B1).bring 1 rfl;have D1:=St.unfocusN C1;exact⟨(O.2.set O.1.toNat (true,(⟨o.Qj,(⟨o.Qz.Qj,o.Qz.QL,o.Qz.Value,t0,H⟩:D.Qb),o.A,o.B⟩:D.Qe))),_,⟨h,(D1.taken 1),rfl⟩,rfl⟩
  ·refine xt ?_;cases h;exact⟨_,_,⟨f2,S,rfl⟩,rfl⟩

end Go.E


