/- Elements taken out, and stores into elements, in regions whose order is drawn. Conditions: none (rules; those of the text's order, carried over). -/
import Derived.Test.YtfndicpnccabkaaGreatMaps
namespace Go.E
open Go.RowKit
set_option linter.unusedVariables false
set_option linter.unusedSimpArgs false

theorem Quiet.idxAddr {P:Program}{T:TT}(ht:TTok P T){n:Nat}{F:Fr}{α:Type}{U:Ty α}{g k ln:Nat}{o:Oper}{t e':Nat}{x ix:Operand}{i j:TI}
    {kd:IntKind}{m:Int}(ho:o.op=.indexAddr t x ix) (hi:T.get t=some i) (hd:i.d=.slice e') (hj:T.get e'=some j) (hs:U.size=j.size) (hx:F.ev x=some (.slice (some ⟨g,0,none⟩) ln k)) (hm:F.ev ix=some (.int kd m))
    (h0:0≤m) (hlt:m.toNat<ln) (w:Base):Quiet P n F w o (.pointer (some ⟨g,m.toNat*U.size,none⟩)):=fun a w' ha _=>by
  unfold execOp
  rw [ho]
  have hmm:m<ln:=by omega
  simp [ha.ev hx,ha.ev hm,Instr.indexAt,asIntOf,Go.underlying,ht.slice hi hd,h0,hmm,ht.sizeOf hj,zhg,hs]

section
variable {P:Program}{n:Nat}{Q:Post}{F:Fr}{W:Base}{w w0 w1:World}{W9:Base}{ops:List Oper}{wm fuel kk mm:Nat}{sk:List (List Nat × Nat)}{o:Oper}{T:TT}

theorem DM.idxHole (ht:TTok P T){α:Type}{U:Ty α}{A:Option Addr}{k ln:Nat}(hA:∃ g,A=some ⟨g,0,none⟩) (hsk:skOf ops=sk∧ops.length=kk) (ii m':Nat) (hmm:mm ||| 2 ^ ii=m') (hwi:wm.testBit ii=false) (hni:nthv ops ii=some o) (hf:freeM sk (2 ^ kk - 1) mm ii=true) (hg:guardOf ops F o=some true){t e':Nat}{x ix:Operand}{i j:TI}
    {kd:IntKind}{m:Int}(ho:o.op=.indexAddr t x ix) (hi:T.get t=some i) (hd:i.d=.slice e') (hj:T.get e'=some j) (hs:U.size=j.size) (hx:F.ev x=some (.slice A ln k)) (hm:F.ev ix=some (.int kd m))
    (h0:0≤m) (hlt:m.toNat<ln){d:Nat}(hd':o.dst=some d) (hn:Nat.blt d n=true)
    (h:∀ q,ElAt U A m.toNat q→DM P n ops Q W9 w0 wm fuel kk m' ((d,.pointer (some q))::F) w):DM P n ops Q W9 w0 wm (fuel+1) kk mm F w:=by
  obtain⟨g,rfl⟩:=hA
  exact DM.quietP hsk ii m' hmm hwi hni hf hg (fun w=>Quiet.idxAddr ht ho hi hd hj hs hx hm h0 hlt w) hd' hn (h _ ⟨g,rfl,rfl⟩)

theorem DM.focus (ht:TTok P T){α:Type}{U:Ty α}{B:List Res}{e:Nat}{A:Option Addr}{k ln:Nat}{xs:List α}{a:α}(hS:St W w1 (Own (tSl e U) [.slice A ln k] xs::B)) (hsk:skOf ops=sk∧ops.length=kk) (ii m':Nat) (hmm:mm ||| 2 ^ ii=m') (hwi:wm.testBit ii=false) (hni:nthv ops ii=some o) (hf:freeM sk (2 ^ kk - 1) mm ii=true) (hg:guardOf ops F o=some true){t e':Nat}{x ix:Operand}{i j:TI}
    {kd:IntKind}{m:Int}(ho:o.op=.indexAddr t x ix) (hi:T.get t=some i) (hd:i.d=.slice e') (hj:T.get e'=some j) (hs:U.size=j.size) (hx:F.ev x=some (.slice A ln k)) (hm:F.ev ix=some (.int kd m))
    (h0:0≤m) (ha:xs[m.toNat]? = some a){d:Nat}(hd':o.dst=some d) (hn:Nat.blt d n=true)
    (h:∀ q es,ElAt U A m.toNat q→St W w1 (Hole U e (.slice A ln k) xs m.toNat es::Own U es a::B)→DM P n ops Q W w0 wm fuel kk m' ((d,.pointer (some q))::F) w):DM P n ops Q W w0 wm (fuel+1) kk mm F w:=by
  have hlt:=(List.getElem?_eq_some_iff.1 ha).1
  obtain⟨es,h1⟩:=hS.focusN ha
  have hl:=hS.lenEq
  exact DM.idxHole ht (U:=U) (hS.ownAddr hlt) hsk ii m' hmm hwi hni hf hg ho hi hd hj hs hx hm h0 (by omega) hd' hn fun q hq=>h q es hq h1

theorem DM.idxAgain (ht:TTok P T){α:Type}{U:Ty α}{B:List Res}{e:Nat}{A:Option Addr}{k ln:Nat}{xs:List α}{es:List Value}{m:Int}(hS:St W w1 (Hole U e (.slice A ln k) xs m.toNat es::B)) (hsk:skOf ops=sk∧ops.length=kk) (ii m':Nat) (hmm:mm ||| 2 ^ ii=m') (hwi:wm.testBit ii=false) (hni:nthv ops ii=some o) (hf:freeM sk (2 ^ kk - 1) mm ii=true) (hg:guardOf ops F o=some true){t e':Nat}{x ix:Operand}{i j:TI}
    {kd:IntKind}(ho:o.op=.indexAddr t x ix) (hi:T.get t=some i) (hd:i.d=.slice e') (hj:T.get e'=some j) (hs:U.size=j.size) (hx:F.ev x=some (.slice A ln k)) (hm:F.ev ix=some (.int kd m))
    (h0:0≤m){d:Nat}(hd':o.dst=some d) (hn:Nat.blt d n=true)
    (h:∀ q,ElAt U A m.toNat q→DM P n ops Q W w0 wm fuel kk m' ((d,.pointer (some q))::F) w):DM P n ops Q W w0 wm (fuel+1) kk mm F w:=by
  obtain⟨hl,hlt,hA⟩:=hS.hole_len
  exact DM.idxHole ht (U:=U) hA hsk ii m' hmm hwi hni hf hg ho hi hd hj hs hx hm h0 (by omega) hd' hn h

theorem DM.idxOwnN (ht:TTok P T){α:Type}{U:Ty α}{B:List Res}{e:Nat}{A:Option Addr}{k ln:Nat}{xs:List α}(hS:St W w1 (Own (tSl e U) [.slice A ln k] xs::B)) (hsk:skOf ops=sk∧ops.length=kk) (ii m':Nat) (hmm:mm ||| 2 ^ ii=m') (hwi:wm.testBit ii=false) (hni:nthv ops ii=some o) (hf:freeM sk (2 ^ kk - 1) mm ii=true) (hg:guardOf ops F o=some true){t e':Nat}{x ix:Operand}{i j:TI}
    {kd:IntKind}{m:Int}(ho:o.op=.indexAddr t x ix) (hi:T.get t=some i) (hd:i.d=.slice e') (hj:T.get e'=some j) (hs:U.size=j.size) (hx:F.ev x=some (.slice A ln k)) (hm:F.ev ix=some (.int kd m))
    (h0:0≤m) (hlt:m.toNat<xs.length){d:Nat}(hd':o.dst=some d) (hn:Nat.blt d n=true)
    (h:∀ q,(∃ g,A=some ⟨g,0,none⟩∧q=⟨g,m.toNat*U.size,none⟩)→DM P n ops Q W w0 wm fuel kk m' ((d,.pointer (some q))::F) w):DM P n ops Q W w0 wm (fuel+1) kk mm F w:=by
  have hl:=hS.lenEq
  exact DM.idxHole ht (U:=U) (hS.ownAddr hlt) hsk ii m' hmm hwi hni hf hg ho hi hd hj hs hx hm h0 (by omega) hd' hn h


theorem LM.idxHole (ht:TTok P T){α:Type}{U:Ty α}{A:Option Addr}{k ln:Nat}(hA:∃ g,A=some ⟨g,0,none⟩) (hsk:skOf ops=sk∧ops.length=kk){ii:Nat}(m':Nat) (hm':mm ||| 2 ^ ii=m') (hwi:wm.testBit ii=false) (hni:nthv ops ii=some o) (hg:guardOf ops F o=some true){t e':Nat}{x ix:Operand}{i j:TI}
    {kd:IntKind}{m:Int}(ho:o.op=.indexAddr t x ix) (hi:T.get t=some i) (hd:i.d=.slice e') (hj:T.get e'=some j) (hs:U.size=j.size) (hx:F.ev x=some (.slice A ln k)) (hm:F.ev ix=some (.int kd m))
    (h0:0≤m) (hlt:m.toNat<ln){d:Nat}(hd':o.dst=some d) (hn:Nat.blt d n=true)
    (h:∀ q,ElAt U A m.toNat q→DM P n ops Q W9 w0 wm fuel kk m' ((d,.pointer (some q))::F) w):LM P n ops Q W9 w0 wm fuel kk mm ii F w:=by
  obtain⟨g,rfl⟩:=hA
  exact LM.quietL hsk m' hm' hwi hni hg (Quiet.idxAddr ht ho hi hd hj hs hx hm h0 hlt w) hd' hn (h _ ⟨g,rfl,rfl⟩)

theorem LM.focus (ht:TTok P T){α:Type}{U:Ty α}{B:List Res}{e:Nat}{A:Option Addr}{k ln:Nat}{xs:List α}{a:α}(hS:St W w1 (Own (tSl e U) [.slice A ln k] xs::B)) (hsk:skOf ops=sk∧ops.length=kk){ii:Nat}(m':Nat) (hm':mm ||| 2 ^ ii=m') (hwi:wm.testBit ii=false) (hni:nthv ops ii=some o) (hg:guardOf ops F o=some true){t e':Nat}{x ix:Operand}{i j:TI}
    {kd:IntKind}{m:Int}(ho:o.op=.indexAddr t x ix) (hi:T.get t=some i) (hd:i.d=.slice e') (hj:T.get e'=some j) (hs:U.size=j.size) (hx:F.ev x=some (.slice A ln k)) (hm:F.ev ix=some (.int kd m))
    (h0:0≤m) (ha:xs[m.toNat]? = some a){d:Nat}(hd':o.dst=some d) (hn:Nat.blt d n=true)
    (h:∀ q es,ElAt U A m.toNat q→St W w1 (Hole U e (.slice A ln k) xs m.toNat es::Own U es a::B)→DM P n ops Q W w0 wm fuel kk m' ((d,.pointer (some q))::F) w):LM P n ops Q W w0 wm fuel kk mm ii F w:=by
  have hlt:=(List.getElem?_eq_some_iff.1 ha).1
  obtain⟨es,h1⟩:=hS.focusN ha
  have hl:=hS.lenEq
  exact LM.idxHole ht (U:=U) (hS.ownAddr hlt) hsk m' hm' hwi hni hg ho hi hd hj hs hx hm h0 (by omega) hd' hn fun q hq=>h q es hq h1

theorem LM.idxAgain (ht:TTok P T){α:Type}{U:Ty α}{B:List Res}{e:Nat}{A:Option Addr}{k ln:Nat}{xs:List α}{es:List Value}{m:Int}(hS:St W w1 (Hole U e (.slice A ln k) xs m.toNat es::B)) (hsk:skOf ops=sk∧ops.length=kk){ii:Nat}(m':Nat) (hm':mm ||| 2 ^ ii=m') (hwi:wm.testBit ii=false) (hni:nthv ops ii=some o) (hg:guardOf ops F o=some true){t e':Nat}{x ix:Operand}{i j:TI}
    {kd:IntKind}(ho:o.op=.indexAddr t x ix) (hi:T.get t=some i) (hd:i.d=.slice e') (hj:T.get e'=some j) (hs:U.size=j.size) (hx:F.ev x=some (.slice A ln k)) (hm:F.ev ix=some (.int kd m))
    (h0:0≤m){d:Nat}(hd':o.dst=some d) (hn:Nat.blt d n=true)
    (h:∀ q,ElAt U A m.toNat q→DM P n ops Q W w0 wm fuel kk m' ((d,.pointer (some q))::F) w):LM P n ops Q W w0 wm fuel kk mm ii F w:=by
  obtain⟨hl,hlt,hA⟩:=hS.hole_len
  exact LM.idxHole ht (U:=U) hA hsk m' hm' hwi hni hg ho hi hd hj hs hx hm h0 (by omega) hd' hn h

theorem LM.idxOwnN (ht:TTok P T){α:Type}{U:Ty α}{B:List Res}{e:Nat}{A:Option Addr}{k ln:Nat}{xs:List α}(hS:St W w1 (Own (tSl e U) [.slice A ln k] xs::B)) (hsk:skOf ops=sk∧ops.length=kk){ii:Nat}(m':Nat) (hm':mm ||| 2 ^ ii=m') (hwi:wm.testBit ii=false) (hni:nthv ops ii=some o) (hg:guardOf ops F o=some true){t e':Nat}{x ix:Operand}{i j:TI}
    {kd:IntKind}{m:Int}(ho:o.op=.indexAddr t x ix) (hi:T.get t=some i) (hd:i.d=.slice e') (hj:T.get e'=some j) (hs:U.size=j.size) (hx:F.ev x=some (.slice A ln k)) (hm:F.ev ix=some (.int kd m))
    (h0:0≤m) (hlt:m.toNat<xs.length){d:Nat}(hd':o.dst=some d) (hn:Nat.blt d n=true)
    (h:∀ q,(∃ g,A=some ⟨g,0,none⟩∧q=⟨g,m.toNat*U.size,none⟩)→DM P n ops Q W w0 wm fuel kk m' ((d,.pointer (some q))::F) w):LM P n ops Q W w0 wm fuel kk mm ii F w:=by
  have hl:=hS.lenEq
  exact LM.idxHole ht (U:=U) (hS.ownAddr hlt) hsk m' hm' hwi hni hg ho hi hd hj hs hx hm h0 (by omega) hd' hn h

theorem LM.storeElN (ht:TTok P T){α:Type}{U:Ty α}{B:List Res}{e:Nat}{A:Option Addr}{k ln:Nat}{xs:List α}{y:α}{es':List Value}(hS:St W w (Own (tSl e U) [.slice A ln k] xs::Own U es' y::B)) (hsk:skOf ops=sk∧ops.length=kk){ii:Nat}(m':Nat) (hm':mm ||| 2 ^ ii=m') (hwi:wm.testBit ii=true) (hni:nthv ops ii=some o) (hg:guardOf ops F o=some true)
    {t:Nat}{x yv:Operand}(ho:o.op=.store t x yv) (hd:o.dst=none){j:TI}(hj:T.get t=some j) (hs:U.size=j.size){q:Addr}(hx:F.ev x=some (.pointer (some q))){m:Nat}(hlt:m<xs.length)
    (hq:∃ g,A=some ⟨g,0,none⟩∧q=⟨g,m*U.size,none⟩){v:Value}(hy:F.ev yv=some v) (hc:cellsV v=es')
    (h:∀ (w':World),St W w' (Own (tSl e U) [.slice A ln k] (xs.set m y)::B)→DM P n ops Q W w0 wm fuel kk m' F w'):LM P n ops Q W w0 wm fuel kk mm ii F w:=by
  have hl:=hS.lenEq
  subst hl
  obtain⟨w',h1,h2⟩:=zd8 (P:=P) ht hS hlt hq hj hs
  have h3:St W w' (Own (tSl e U) [.slice A xs.length k] (xs.set m y)::B):=by simpa using h2
  refine LM.unitW hsk m' hm' hwi hni hg (w':=w') (fun a ha=>?_) hd h3.ext (h w' h3)
  unfold execOp
  rw [ho]
  simp [ha.ev hx,ha.ev hy,Instr.storeAt,Instr.sureAddr,h1 v hc]

theorem zeJ (ht:TTok P T){α:Type}{U:Ty α}{e:Nat}{A:Option Addr}{k m:Nat}{xs:List α}{es es':List Value}{B:List Res}(hS:St W w (Hole U e (.slice A xs.length k) xs m es::B)){q:Addr}(hq:ElAt U A m q)
    {t:Nat}{i:TI}(hi:T.get t=some i){q':Addr}(off:Nat) (hq':q'=q.add off){v:Value}(hl:Nat.beq (cellsV v).length i.size=true)
    (h1:oneCells (cellsV v)=true) (hs:setAt es off (cellsV v)=some es'):∃ w',(storeVar t q' v).run P w=.ok () w'∧St W w' (Hole U e (.slice A xs.length k) xs m es'::B):=by
  obtain⟨G,⟨g,cap,c1,c2,rst,G1,G2,hv,hh,a1,a2,a3,a4,a5,a6,k1,k2,hG⟩,_,hlo⟩:=hS.sep.head
  obtain⟨g',rfl,rfl⟩:=hq
  simp only [Value.slice.injEq,Option.some.injEq,Addr.mk.injEq,and_true,true_and] at hv
  obtain⟨rfl,rfl⟩:=hv
  have hset:=z9J (c1:=c1) (c2:=c2) (rest:=rst) hs
  rw [a4] at hset
  obtain⟨w',r1,r2,r3,r4,r5,r6,r7,r8⟩:=z2L (P:=P) g' (m*U.size+off) e (cellsV v) 0 w _ ((c1++(es'++c2))++rst) h1 hh (by rw [Nat.add_zero];exact hset)
  have hge:W.fr g':=hlo g' (by rw [hG];simp)
  refine⟨w',?_,⟨r5.trans hS.ext.os,r6.trans hS.ext.tape,r7.trans hS.ext.output,by rw [r8];exact hS.ext.drawn,by rw [r4];exact hS.le,fun b hb=>?_⟩,?_⟩
  · have hsz:v.cells.size=i.size:=by
      rw [← Array.length_toList,z5K];exact Nat.eq_of_beq_eq_true hl
    simp [storeVar,ht.sizeOf hi,hsz,z5K,hq',zcN,r1]
  · show w'.heap[b]? = _;rw [r3 b (fun e=>hb (e ▸ hge))];exact hS.ext.block b hb
  · refine hS.sep.upd hS.up fun G' hG' hnd' _=>?_
    obtain⟨g1,cap1,d1,d2,rst1,H1,H2,hv1,hh1,b1,b2,b3,b4,b5,b6,l1,l2,rfl⟩:=hG'
    simp only [Value.slice.injEq,Option.some.injEq,Addr.mk.injEq,and_true,true_and] at hv1
    obtain⟨rfl,rfl⟩:=hv1
    rw [hh1] at hh
    simp only [Option.some.injEq,Obj.cells.injEq,Array.mk.injEq,and_true] at hh
    have hset1:=z9J (c1:=d1) (c2:=d2) (rest:=rst1) hs
    have e1:d1.length=c1.length:=by rw [b4,a4]
    rw [hh,e1] at hset1
    rw [← a4] at hset
    have e2:(c1++(es'++c2))++rst=(d1++(es'++d2))++rst1:=Option.some.inj (hset.symm.trans hset1)
    have hle:=za1 _ _ _ _ hs
    simp only [List.nodup_cons,List.mem_append,not_or] at hnd'
    refine⟨g'::(H1++H2),⟨g',k,d1,d2,rst1,H1,H2,rfl,by rw [r2,e2],b1,b2,?_,b4,by rw [hle];exact b5,b6,l1.loc fun b hb=>r3 b (by rintro rfl;exact hnd'.1.1 hb),l2.loc fun b hb=>r3 b (by rintro rfl;exact hnd'.1.2 hb),rfl⟩,by simpa using hnd',fun b hb=>.inl hb,fun b hb hn=>r3 b (by rintro rfl;exact hn (by simp))⟩
    rw [← b3]
    simp only [List.length_append,hle]

theorem LM.storeHoleN (ht:TTok P T){α:Type}{U:Ty α}{e:Nat}{A:Option Addr}{k m ln:Nat}{xs:List α}{es es':List Value}{B:List Res}(hS:St W w (Hole U e (.slice A ln k) xs m es::B)){q:Addr}(hq:ElAt U A m q)
    (hsk:skOf ops=sk∧ops.length=kk){ii:Nat}(m':Nat) (hm':mm ||| 2 ^ ii=m') (hwi:wm.testBit ii=true) (hni:nthv ops ii=some o) (hg:guardOf ops F o=some true){t:Nat}{x y:Operand}(ho:o.op=.store t x y) (hd:o.dst=none)
    {i:TI}(hi:T.get t=some i){q':Addr}(hx:F.ev x=some (.pointer (some q'))) (off:Nat) (hq':q'=q.add off){v:Value}(hy:F.ev y=some v) (hl:Nat.beq (cellsV v).length i.size=true)
    (h1:oneCells (cellsV v)=true) (hs:setAt es off (cellsV v)=some es') (h:∀ (w':World),St W w' (Hole U e (.slice A ln k) xs m es'::B)→DM P n ops Q W w0 wm fuel kk m' F w'):LM P n ops Q W w0 wm fuel kk mm ii F w:=by
  obtain⟨hn,_,_⟩:=hS.hole_len
  subst hn
  obtain⟨w',r1,r2⟩:=zeJ (P:=P) ht hS hq hi off hq' hl h1 hs
  refine LM.unitW hsk m' hm' hwi hni hg (w':=w') (fun a ha=>?_) hd r2.ext (h w' r2)
  unfold execOp
  rw [ho]
  simp [ha.ev hx,ha.ev hy,Instr.storeAt,Instr.sureAddr,r1]


end
end Go.E


namespace Go.E
open Go.RowKit Go.MapKept
set_option linter.unusedVariables false
set_option linter.unusedSimpArgs false


abbrev Ent (κ α:Type):=κ × Value × List α × List Nat
def eHdr {κ α:Type}(l:Ent κ α):κ × Value:=(l.1,l.2.1)
def eDat {κ α:Type}(l:Ent κ α):κ × List α:=(l.1,l.2.2.1)
def eBlk {κ α:Type}(l:Ent κ α):List Nat:=l.2.2.2

section
variable {κ α:Type}[DecidableEq κ]

def eSet (L:List (Ent κ α)) (kk:κ) (h:Value) (x:List α) (G:List Nat):List (Ent κ α):=L.map fun l=>if l.1=kk then(kk,h,x,G) else l
theorem zcC {β:Type}{m:List (κ × β)}(hn:(m.map (·.1)).Nodup){kk:κ}(h:kk∈m.map (·.1)) (y:β):mput m kk y=m.map fun p=>if p.1=kk then(kk,y) else p:=by
  induction m with
  | nil=>simp at h
  | cons p m ih=>
    simp only [List.map_cons,List.nodup_cons,List.mem_cons] at hn h
    unfold mput
    by_cases e:p.1=kk
    · rw [if_pos e,List.map_cons,if_pos e]
      have:m.map (fun p=>if p.1=kk then(kk,y) else p)=m:=by
        conv=>rhs;rw [← List.map_id m]
        refine List.map_congr_left fun q hq=>?_
        rw [if_neg];rfl
        intro e2
        exact hn.1 (List.mem_map.2 ⟨q,hq,by rw [e2,e]⟩)
      rw [this]
    · rw [if_neg e,List.map_cons,if_neg e,ih hn.2 (h.resolve_left fun e2=>e e2.symm)]
theorem zhS (L:List (Ent κ α)) (kk:κ) (h:Value) (x:List α) (G:List Nat):(eSet L kk h x G).map eHdr=(L.map eHdr).map fun p=>if p.1=kk then(kk,h) else p:=by
  simp only [eSet,List.map_map]
  refine List.map_congr_left fun l _=>?_
  by_cases h9:l.1=kk<;>simp [eHdr,h9]
theorem zhT (L:List (Ent κ α)) (kk:κ) (h:Value) (x:List α) (G:List Nat):(eSet L kk h x G).map eDat=(L.map eDat).map fun p=>if p.1=kk then(kk,x) else p:=by
  simp only [eSet,List.map_map]
  refine List.map_congr_left fun l _=>?_
  by_cases h9:l.1=kk<;>simp [eDat,h9]
theorem zmu {L:List (Ent κ α)}{kk:κ}(h0:kk ∉ L.map (·.1)) (h:Value) (x:List α) (G:List Nat):eSet L kk h x G=L:=by
  unfold eSet
  conv=>rhs;rw [← List.map_id L]
  refine List.map_congr_left fun q hq=>?_
  rw [if_neg];rfl
  intro e2
  exact h0 (List.mem_map.2 ⟨q,hq,e2⟩)

theorem zhU {L:List (Ent κ α)}(hn:(L.map (·.1)).Nodup){kk:κ}{h1:Value}{x1:List α}{G1:List Nat}(hm:(kk,h1,x1,G1)∈L) (h:Value) (x:List α) (G:List Nat):
    (G1++(eSet L kk h x G).flatMap eBlk).Perm (G++L.flatMap eBlk):=by
  induction L with
  | nil=>simp at hm
  | cons l L ih=>
    simp only [List.map_cons,List.nodup_cons] at hn
    rcases List.mem_cons.1 hm with e | e
    · subst e
      have:eSet ((kk,h1,x1,G1)::L) kk h x G=(kk,h,x,G)::L:=by
        have h2:=zmu (L:=L) (kk:=kk) hn.1 h x G
        simp only [eSet,List.map_cons,if_true] at h2 ⊢
        rw [h2]
      rw [this]
      simp only [List.flatMap_cons,eBlk]
      rw [← List.append_assoc,← List.append_assoc]
      exact List.Perm.append_right _ List.perm_append_comm
    · have hne:l.1≠kk:=fun e2=>hn.1 (List.mem_map.2 ⟨_,e,e2.symm⟩)
      have h3:eSet (l::L) kk h x G=l::eSet L kk h x G:=by simp only [eSet,List.map_cons,if_neg hne]
      rw [h3]
      simp only [List.flatMap_cons]
      have:=ih hn.2 e
      have p1:(G1++(eBlk l++(eSet L kk h x G).flatMap eBlk)).Perm (eBlk l++(G1++(eSet L kk h x G).flatMap eBlk)):=by
        rw [← List.append_assoc,← List.append_assoc];exact List.Perm.append_right _ List.perm_append_comm
      have p2:(eBlk l++(G++L.flatMap eBlk)).Perm (G++(eBlk l++L.flatMap eBlk)):=by
        rw [← List.append_assoc,← List.append_assoc];exact List.Perm.append_right _ List.perm_append_comm
      exact p1.trans ((List.Perm.append_left _ this).trans p2)
end


section
variable {κ α:Type}
def tMpS (ek:κ→Value) (T:Ty (List α)):Ty (List (κ × List α)) where
  size:=1
  ro:=fun w cs m=>∃ g,∃ L:List (Ent κ α),cs=[.map (some g)]∧MapAt ek id w g (L.map eHdr)∧m=L.map eDat∧∀ l,l∈L→T.ro w [l.2.1] l.2.2.1
  own:=fun w cs m G=>∃ g,∃ L:List (Ent κ α),cs=[.map (some g)]∧MapAt ek id w g (L.map eHdr)∧m=L.map eDat∧(∀ l,l∈L→T.own w [l.2.1] l.2.2.1 l.2.2.2)∧G=g::L.flatMap eBlk
  req:=fun w=>T.req w
  len:=by rintro _ _ _ ⟨g,_,rfl,_⟩;rfl
  lenO:=by rintro _ _ _ _ ⟨g,_,rfl,_⟩;rfl
  ext:=by rintro _ _ _ _ he ⟨g,L,rfl,h,rfl,h2⟩;exact⟨g,L,rfl,h.ext he,rfl,fun l hl=>T.ext he (h2 l hl)⟩
  own_ro:=by rintro _ _ _ _ ⟨g,L,rfl,h,rfl,h2,_⟩ hq;exact⟨g,L,rfl,h,rfl,fun l hl=>T.own_ro (h2 l hl) hq⟩
  loc:=by
    rintro _ _ _ _ _ ⟨g,L,rfl,h,rfl,h2,rfl⟩ hs
    exact⟨g,L,rfl,h.same (hs g (by simp)),rfl,fun l hl=>T.loc (h2 l hl) (fun b hb=>hs b (List.mem_cons_of_mem _ (List.mem_flatMap.2 ⟨l,hl,hb⟩))),rfl⟩
  lt:=by
    rintro _ _ _ _ ⟨g,L,rfl,h,rfl,h2,rfl⟩ g' hg
    rcases List.mem_cons.1 hg with rfl | hg
    · exact h.lt
    · obtain⟨l,hl,hb⟩:=List.mem_flatMap.1 hg
      exact T.lt (h2 l hl) g' hb
  one:=by rintro _ _ _ ⟨g,_,rfl,_⟩ u hu;simp at hu;subst hu;rfl
  oneO:=by rintro _ _ _ _ ⟨g,_,rfl,_⟩ u hu;simp at hu;subst hu;rfl
end

instance {κ α:Type}{W:Base}{ek:κ→Value}{T:Ty (List α)}[h:Reads W T]:Reads W (tMpS ek T):=⟨h.1⟩
theorem mpsForm {κ α:Type}{ek:κ→Value}{T:Ty (List α)}{w:World}{cs:List Value}{m:List (κ × List α)}(h:(tMpS ek T).ro w cs m):∃ g,cs=[.map (some g)]:=by
  obtain⟨g,L,h1,_⟩:=h
  exact⟨g,h1⟩
section
variable {κ α:Type}

def Pile (T:Ty (List α)) (hs:List (κ × Value)) (m:List (κ × List α)):Res where
  A:=fun w G=>∃ L:List (Ent κ α),L.map eHdr=hs∧L.map eDat=m∧(∀ l,l∈L→T.own w [l.2.1] l.2.2.1 l.2.2.2)∧G=L.flatMap eBlk
  loc:=by
    rintro w w' G ⟨L,h1,h2,h3,rfl⟩ hs
    exact⟨L,h1,h2,fun l hl=>T.loc (h3 l hl) (fun b hb=>hs b (List.mem_flatMap.2 ⟨l,hl,hb⟩)),rfl⟩
  lt:=by
    rintro w G ⟨L,h1,h2,h3,rfl⟩ g' hg
    obtain⟨l,hl,hb⟩:=List.mem_flatMap.1 hg
    exact T.lt (h3 l hl) g' hb

def MpSO [DecidableEq κ] (ek:κ→Value) (T:Ty (List α)) (g:Nat) (m:List (κ × List α)) (kk:κ) (c:Int):Res where
  A:=fun w G=>∃ L:List (Ent κ α),(MpO ek id g (L.map eHdr) kk c).A w [g]∧L.map eDat=m∧(∀ l,l∈L→l.1≠kk→T.own w [l.2.1] l.2.2.1 l.2.2.2)∧(∀ l,l∈L→l.1=kk→l.2.2.2=[])∧G=g::L.flatMap eBlk
  loc:=by
    rintro w w' G ⟨L,h1,h2,h3,h4,rfl⟩ hs
    exact⟨L,(MpO ek id g (L.map eHdr) kk c).loc h1 (fun b hb=>hs b (by simp at hb;subst hb;simp)),h2,fun l hl hn=>T.loc (h3 l hl hn) (fun b hb=>hs b (List.mem_cons_of_mem _ (List.mem_flatMap.2 ⟨l,hl,hb⟩))),h4,rfl⟩
  lt:=by
    rintro w G ⟨L,h1,h2,h3,h4,rfl⟩ g' hg
    rcases List.mem_cons.1 hg with rfl | hg
    · exact(MpO ek id g' (L.map eHdr) kk c).lt h1 g' (by simp)
    · obtain⟨l,hl,hb⟩:=List.mem_flatMap.1 hg
      by_cases hn:l.1=kk
      · rw [show eBlk l=l.2.2.2 from rfl,h4 l hl hn] at hb;simp at hb
      · exact T.lt (h3 l hl hn) g' hb
end

section
variable {P:Program}{κ α:Type}[DecidableEq κ] {t k e:Nat}{ek:κ→Value}{T:Ty (List α)}

theorem mapInj {β γ:Type}{f:β→γ}(hf:∀ a b,f a=f b→a=b):∀ l m:List β,l.map f=m.map f→l=m
  | [],[],_=>rfl
  | [],_::_,h=>by simp at h
  | _::_,[],h=>by simp at h
  | a::l,b::m,h=>by
    simp only [List.map_cons,List.cons.injEq] at h
    rw [hf a b h.1,mapInj hf l m h.2]
omit [DecidableEq κ] in
theorem St.openMS (hi:∀ {a b:κ},ek a=ek b→a=b){W:Base}{w:World}{B:List Res}{g:Nat}{m:List (κ × List α)}(hS:St W w (Own (tMpS ek T) [.map (some g)] m::B)):
    ∃ hs:List (κ × Value),(hs.map (·.1)).Nodup∧hs.map (·.1)=m.map (·.1)∧St W w (Own (tMp ek id) [.map (some g)] hs::Pile T hs m::B):=by
  obtain⟨G,hA,_⟩:=hS.sep.head
  obtain⟨g0,L,h1,h2,h3,h4,h5⟩:=hA
  cases h1
  refine⟨L.map eHdr,?_,by rw [h3];simp [eHdr,eDat],hS.ext,(Sep.conv (R':=Both (Own (tMp ek id) [.map (some g)] (L.map eHdr)) (Pile T (L.map eHdr) m)) hS.sep fun G hG=>?_).split⟩
  · obtain⟨es,c,_,_,hn,_⟩:=h2;exact hn
  · obtain⟨g1,L1,k1,k2,k3,k4,rfl⟩:=hG
    cases k1
    have hs:L1.map eHdr=L.map eHdr:=by
      obtain⟨es,c,a1,a2,_⟩:=h2
      obtain⟨H,c2,b1,b2,_⟩:=k2
      rw [a1] at b1
      simp only [Option.some.injEq,Obj.map.injEq] at b1
      obtain⟨rfl,rfl⟩:=b1
      have e:=b2.symm.trans a2
      exact mapInj (fun p q h=>by simp only [id,Prod.mk.injEq] at h;exact Prod.ext (hi h.1) h.2) _ _ e
    exact⟨[g],L1.flatMap eBlk,rfl,⟨g,rfl,hs ▸ k2,rfl⟩,L1,hs,k3.symm,k4,rfl⟩

theorem zcD {β:Type}{m:List (κ × β)}(hn:(m.map (·.1)).Nodup){kk:κ}{x:β}(h:(kk,x)∈m):mget m kk=some x:=by
  obtain⟨j,hj⟩:=List.getElem?_of_mem h
  exact zjP hn hj
theorem zeP {β:Type}{m:List (κ × β)}{kk:κ}(h:kk ∉ m.map (·.1)):mget m kk=none:=zfU fun p hp e=>h (List.mem_map.2 ⟨p,hp,e⟩)
theorem zjO {β:Type}{m:List (κ × β)}{kk:κ}{x:β}(h:kk ∉ m.map (·.1)):mput m kk x=m++[(kk,x)]:=za7 fun p hp e=>h (List.mem_map.2 ⟨p,hp,e⟩)


theorem St.takeMS {U:Ty α}{e0:Nat}{W:Base}{w:World}{B:List Res}{g:Nat}{hs:List (κ × Value)}{m:List (κ × List α)}(hn:(hs.map (·.1)).Nodup) (hk:hs.map (·.1)=m.map (·.1)){kk:κ}{c:Int}
    (hS:St W w (MpO ek id g (mput hs kk ((mget hs kk).getD (.slice none 0 0))) kk c::Pile (tSl e0 U) hs m::B)):
    St W w (Own (tSl e0 U) [(mget hs kk).getD (.slice none 0 0)] ((mget m kk).getD [])::MpSO ek (tSl e0 U) g (mput m kk ((mget m kk).getD [])) kk c::B):=by
  refine⟨hS.ext,(hS.sep.fuse.upd (R':=Both (Own (tSl e0 U) [(mget hs kk).getD (.slice none 0 0)] ((mget m kk).getD [])) (MpSO ek (tSl e0 U) g (mput m kk ((mget m kk).getD [])) kk c)) hS.up fun G hG hnd _=>?_).split⟩
  obtain⟨H,K,rfl,h1,L,h2,h3,h4,rfl⟩:=hG
  have hH:H=[g]:=h1.1
  subst hH
  subst h2
  subst h3
  have key:(L.map eHdr).map (·.1)=L.map (·.1):=by rw [List.map_map];rfl
  have key2:(L.map eDat).map (·.1)=L.map (·.1):=by rw [List.map_map];rfl
  rw [key] at hn
  by_cases hm:kk∈L.map (·.1)
  · obtain⟨l,hl,e1⟩:=List.mem_map.1 hm
    obtain⟨a,h,x,G1⟩:=l
    simp only at e1
    subst e1
    have hn1:((L.map eHdr).map (·.1)).Nodup:=by rw [key];exact hn
    have hn2:((L.map eDat).map (·.1)).Nodup:=by rw [key2];exact hn
    have m1:mget (L.map eHdr) a=some h:=zcD hn1 (List.mem_map.2 ⟨_,hl,rfl⟩)
    have m2:mget (L.map eDat) a=some x:=zcD hn2 (List.mem_map.2 ⟨_,hl,rfl⟩)
    have hb:=zhU hn hl h x []
    rw [m1] at h1 ⊢
    rw [m2]
    show ∃ G',(Both (Own (tSl e0 U) [h] x) (MpSO ek (tSl e0 U) g (mput (L.map eDat) a x) a c)).A w G'∧_
    replace h1:(MpO ek id g (mput (L.map eHdr) a h) a c).A w [g]:=h1
    have q1:(eSet L a h x []).map eHdr=mput (L.map eHdr) a h:=by rw [zhS,zcC hn1 (by rw [key];exact hm)]
    have q2:(eSet L a h x []).map eDat=mput (L.map eDat) a x:=by rw [zhT,zcC hn2 (by rw [key2];exact hm)]
    refine⟨G1++(g::(eSet L a h x []).flatMap eBlk),⟨G1,_,rfl,h4 _ hl,eSet L a h x [],by rw [q1];exact h1,q2,?_,?_,rfl⟩,?_,?_,fun b _ _=>rfl⟩
    · intro l2 q hne
      obtain⟨l3,O,rfl⟩:=List.mem_map.1 q
      split at hne
      · exact absurd rfl hne
      · rename_i h9;rw [if_neg h9];exact h4 _ O
    · intro l2 q he
      obtain⟨l3,O,rfl⟩:=List.mem_map.1 q
      split at he
      · rename_i h9;rw [if_pos h9]
      · rename_i h9;exact absurd he h9
    · have hp:(G1++(g::(eSet L a h x []).flatMap eBlk)).Perm ([g]++L.flatMap eBlk):=List.perm_middle.trans (List.Perm.cons g (by simpa using hb))
      exact hp.nodup_iff.2 hnd
    · intro b X
      have hp:(G1++(g::(eSet L a h x []).flatMap eBlk)).Perm ([g]++L.flatMap eBlk):=List.perm_middle.trans (List.Perm.cons g (by simpa using hb))
      exact .inl (hp.mem_iff.1 X)
  · have m1:mget (L.map eHdr) kk=none:=zeP (by rw [key];exact hm)
    have m2:mget (L.map eDat) kk=none:=zeP (by rw [key2];exact hm)
    rw [m1] at h1 ⊢
    rw [m2]
    show ∃ G',(Both (Own (tSl e0 U) [Value.slice none 0 0] []) (MpSO ek (tSl e0 U) g (mput (L.map eDat) kk []) kk c)).A w G'∧_
    replace h1:(MpO ek id g (mput (L.map eHdr) kk (.slice none 0 0)) kk c).A w [g]:=h1
    rw [zjO (by rw [key];exact hm)] at h1
    rw [zjO (by rw [key2];exact hm)]
    refine⟨[]++(g::(L++[(kk,Value.slice none 0 0,[],[])]).flatMap eBlk),⟨[],_,rfl,slNilOwn U e0 w,L++[(kk,Value.slice none 0 0,[],[])],by simpa [eHdr] using h1,by simp [eDat],?_,?_,rfl⟩,?_,?_,fun b _ _=>rfl⟩
    · intro l hl hne
      rcases List.mem_append.1 hl with hl | hl
      · exact h4 l hl
      · simp at hl;subst hl;exact absurd rfl hne
    · intro l hl he
      rcases List.mem_append.1 hl with hl | hl
      · exact absurd (List.mem_map.2 ⟨l,hl,he⟩) hm
      · simp at hl;subst hl;rfl
    · simpa [eBlk] using hnd
    · intro b hb;exact .inl (by simpa [eBlk] using hb)


def PileX (T:Ty (List α)) (hs:List (κ × Value)) (m:List (κ × List α)) (kk:κ):Res where
  A:=fun w G=>∃ L:List (Ent κ α),L.map eHdr=hs∧L.map eDat=m∧(∀ l,l∈L→l.1≠kk→T.own w [l.2.1] l.2.2.1 l.2.2.2)∧(∀ l,l∈L→l.1=kk→l.2.2.2=[])∧G=L.flatMap eBlk
  loc:=by
    rintro w w' G ⟨L,h1,h2,h3,h4,rfl⟩ hs
    exact⟨L,h1,h2,fun l hl hn=>T.loc (h3 l hl hn) (fun b hb=>hs b (List.mem_flatMap.2 ⟨l,hl,hb⟩)),h4,rfl⟩
  lt:=by
    rintro w G ⟨L,h1,h2,h3,h4,rfl⟩ g' hg
    obtain⟨l,hl,hb⟩:=List.mem_flatMap.1 hg
    by_cases hn:l.1=kk
    · rw [show eBlk l=l.2.2.2 from rfl,h4 l hl hn] at hb;simp at hb
    · exact T.lt (h3 l hl hn) g' hb
theorem St.openMX (hi:∀ {a b:κ},ek a=ek b→a=b){W:Base}{w:World}{B:List Res}{g:Nat}{m:List (κ × List α)}{kk:κ}{c:Int}(hS:St W w (MpSO ek T g m kk c::B)):
    ∃ hs:List (κ × Value),(hs.map (·.1)).Nodup∧kk∈hs.map (·.1)∧St W w (MpO ek id g hs kk c::PileX T hs m kk::B):=by
  obtain⟨G,hA,_⟩:=hS.sep.head
  obtain⟨L,h1,h2,h3,h4,h5⟩:=hA
  have h1':=h1
  obtain⟨_,es,clock,j,x0,v,a1,a2,a3,a4,a5,a6,a7,a8⟩:=h1'
  refine⟨L.map eHdr,a3,List.mem_map.2 ⟨_,List.mem_of_getElem? a8,rfl⟩,hS.ext,(Sep.conv (R':=Both (MpO ek id g (L.map eHdr) kk c) (PileX T (L.map eHdr) m kk)) hS.sep fun G hG=>?_).split⟩
  obtain⟨L1,k1,k2,k3,k4,rfl⟩:=hG
  have hs:L1.map eHdr=L.map eHdr:=by
    obtain⟨_,H,c2,j2,y0,v2,b1,b2,_⟩:=k1
    rw [a1] at b1
    simp only [Option.some.injEq,Obj.map.injEq] at b1
    obtain⟨rfl,rfl⟩:=b1
    have e:=b2.symm.trans a2
    exact mapInj (fun p q h=>by simp only [id,Prod.mk.injEq] at h;exact Prod.ext (hi h.1) h.2) _ _ e
  exact⟨[g],L1.flatMap eBlk,rfl,hs ▸ k1,L1,hs,k2,k3,k4,rfl⟩

theorem St.putMS {W:Base}{w:World}{B:List Res}{g:Nat}{hs:List (κ × Value)}{m:List (κ × List α)}{kk:κ}{h:Value}{y:List α}(hn:(hs.map (·.1)).Nodup) (hm:kk∈hs.map (·.1))
    (hS:St W w (Own (tMp ek id) [.map (some g)] (mput hs kk h)::PileX T hs m kk::Own T [h] y::B)):St W w (Own (tMpS ek T) [.map (some g)] (mput m kk y)::B):=by
  have h1:St W w (Own T [h] y::PileX T hs m kk::Own (tMp ek id) [.map (some g)] (mput hs kk h)::B):=
    ⟨hS.ext,(hS.sep.perm (List.Perm.swap ..)).perm ((List.Perm.cons _ (List.Perm.swap ..)).trans ((List.Perm.swap ..).trans (List.Perm.refl _)))⟩
  have h2:St W w (Both (Own T [h] y) (PileX T hs m kk)::Own (tMp ek id) [.map (some g)] (mput hs kk h)::B):=⟨h1.ext,h1.sep.fuse⟩
  refine⟨hS.ext,h2.sep.fuse.upd (R':=Own (tMpS ek T) [.map (some g)] (mput m kk y)) h2.up fun G hG hnd _=>?_⟩
  obtain⟨H,K,rfl,⟨G0,H2,rfl,k1,L,q1,q2,q3,q4,rfl⟩,g1,e1,q6,rfl⟩:=hG
  cases e1
  subst q1
  subst q2
  have key:(L.map eHdr).map (·.1)=L.map (·.1):=by rw [List.map_map];rfl
  have key2:(L.map eDat).map (·.1)=L.map (·.1):=by rw [List.map_map];rfl
  have hn':=hn
  have hm':=hm
  rw [key] at hn' hm'
  obtain⟨l,hl,e1⟩:=List.mem_map.1 hm'
  obtain⟨a,h0,x0,G1⟩:=l
  simp only at e1
  subst e1
  have hG1:G1=[]:=q4 _ hl rfl
  subst hG1
  have hb:=zhU hn' hl h y G0
  rw [List.nil_append] at hb
  have r1:(eSet L a h y G0).map eHdr=mput (L.map eHdr) a h:=by rw [zhS,zcC hn hm]
  have r2:(eSet L a h y G0).map eDat=mput (L.map eDat) a y:=by rw [zhT,zcC (by rw [key2];exact hn') (by rw [key2];exact hm')]
  have hp:(g::(eSet L a h y G0).flatMap eBlk).Perm ((G0++L.flatMap eBlk)++[g]):=(List.Perm.cons g hb).trans (List.perm_append_comm (l₁:=[g]))
  refine⟨g::(eSet L a h y G0).flatMap eBlk,⟨g,eSet L a h y G0,rfl,by rw [r1];exact q6,r2.symm,?_,rfl⟩,hp.nodup_iff.2 hnd,fun b hb=>.inl (hp.mem_iff.1 hb),fun b _ _=>rfl⟩
  intro l2 q
  obtain⟨l3,O,rfl⟩:=List.mem_map.1 q
  by_cases h9:l3.1=a
  · simp only [h9,if_true];exact k1
  · simp only [h9,if_false];exact q3 l3 O h9
end


section
variable {P:Program}{n:Nat}{Q:Post}{F:Fr}{W:Base}{w:World}{ops rest:List Oper}{o:Oper}{κ α:Type}[DecidableEq κ] {t k e e0:Nat}{ek:κ→Value}{U:Ty α}

theorem MapOk.run_entryS (hok:MapOk P t k e ek id (.slice none 0 0)){B:List Res}{g:Nat}{m:List (κ × List α)}(hS:St W w (Own (tMpS ek (tSl e0 U)) [.map (some g)] m::B)) (kk:κ):
    ∃ w' c A kc,(Instr.mapEntry t (.map (some g)) (ek kk)).run P w=.ok (.tuple #[.slice A ((mget m kk).getD []).length kc,.int .i64 c]) w'∧
      St W w' (Own (tSl e0 U) [.slice A ((mget m kk).getD []).length kc] ((mget m kk).getD [])::MpSO ek (tSl e0 U) g (mput m kk ((mget m kk).getD [])) kk c::B):=by
  obtain⟨hs,h1,h2,h3⟩:=hS.openMS hok.key.inj
  obtain⟨w',c,h4,h5⟩:=hok.run_entry h3 kk
  have h6:=St.takeMS h1 h2 h5
  obtain⟨G,hA,_⟩:=h6.sep.head
  obtain⟨A,kc,e1⟩:=slFormO hA
  simp only [List.cons.injEq,and_true] at e1
  rw [e1] at h6
  simp only [id] at h4
  rw [e1] at h4
  exact⟨w',c,A,kc,h4,h6⟩
theorem zda (hi:∀ {a b:κ},ek a=ek b→a=b){B:List Res}{g:Nat}{m:List (κ × List α)}{kk:κ}{c:Int}{h:Value}{y:List α}(hS:St W w (Own (tSl e0 U) [h] y::MpSO ek (tSl e0 U) g m kk c::B)) (t:Nat):
    ∃ w',(Instr.entryStore t (.map (some g)) (.int .i64 c) h).run P w=.ok () w'∧St W w' (Own (tMpS ek (tSl e0 U)) [.map (some g)] (mput m kk y)::B):=by
  have q:St W w (MpSO ek (tSl e0 U) g m kk c::Own (tSl e0 U) [h] y::B):=⟨hS.ext,hS.sep.perm (List.Perm.swap ..)⟩
  obtain⟨hs,h1,h2,h3⟩:=q.openMX hi
  obtain⟨w',h4,h5⟩:=z9j (P:=P) (ev:=id) h3 t h
  exact⟨w',h4,St.putMS h1 h2 h5⟩

theorem LM.mapEntryS (hok:MapOk P t k e ek id (.slice none 0 0)){B:List Res}{g:Nat}{m:List (κ × List α)}(hS:St W w (Own (tMpS ek (tSl e0 U)) [.map (some g)] m::B)){wm fuel kq mm ii:Nat}{w0:World}{sk:List (List Nat × Nat)}(hsk:skOf ops=sk∧ops.length=kq) (m':Nat) (hm':mm ||| 2 ^ ii=m') (hwi:wm.testBit ii=true) (hni:nthv ops ii=some o) (hg:guardOf ops F o=some true){x ix:Operand}(ho:o.op=.mapEntry t x ix)
    (hx:F.ev x=some (.map (some g))){kk:κ}(hk:F.ev ix=some (ek kk)){d:Nat}(hd:o.dst=some d) (hn:Nat.blt d n=true)
    (h:∀ c A kc (w':World),St W w' (Own (tSl e0 U) [.slice A ((mget m kk).getD []).length kc] ((mget m kk).getD [])::MpSO ek (tSl e0 U) g (mput m kk ((mget m kk).getD [])) kk c::B)→DM P n ops Q W w0 wm fuel kq m' ((d,.tuple ⟨[.slice A ((mget m kk).getD []).length kc,.int .i64 c]⟩)::F) w'):LM P n ops Q W w0 wm fuel kq mm ii F w:=by
  obtain⟨w',c,A,kc,h1,h2⟩:=hok.run_entryS hS kk
  refine LM.okWD hsk m' hm' hwi hni hg (v:=.tuple ⟨[.slice A ((mget m kk).getD []).length kc,.int .i64 c]⟩) (w':=w') (fun a ha=>?_) hd hn h2.ext (h c A kc w' h2)
  unfold execOp
  rw [ho]
  simp [ha.ev hx,ha.ev hk,h1]
theorem LM.entryStoreS (hi:∀ {a b:κ},ek a=ek b→a=b){B:List Res}{g:Nat}{m:List (κ × List α)}{kk:κ}{c:Int}{v0:List α}{A:Option Addr}{kc:Nat}{y:List α}(hS:St W w (Own (tSl e0 U) [.slice A y.length kc] y::MpSO ek (tSl e0 U) g (mput m kk v0) kk c::B)){wm fuel kq mm ii:Nat}{w0:World}{sk:List (List Nat × Nat)}(hsk:skOf ops=sk∧ops.length=kq) (m':Nat) (hm':mm ||| 2 ^ ii=m') (hwi:wm.testBit ii=true) (hni:nthv ops ii=some o) (hg:guardOf ops F o=some true){x st z:Operand}(ho:o.op=.entryStore t x st z) (hd:o.dst=none)
    (hx:F.ev x=some (.map (some g))) (hc:F.ev st=some (.int .i64 c)) (hv:F.ev z=some (.slice A y.length kc)) (h:∀ (w':World),St W w' (Own (tMpS ek (tSl e0 U)) [.map (some g)] (mput m kk y)::B)→DM P n ops Q W w0 wm fuel kq m' F w'):LM P n ops Q W w0 wm fuel kq mm ii F w:=by
  obtain⟨w',h1,h2⟩:=zda (P:=P) hi hS t
  rw [zdp] at h2
  refine LM.unitW hsk m' hm' hwi hni hg (w':=w') (fun a ha=>?_) hd h2.ext (h w' h2)
  unfold execOp
  rw [ho]
  simp [ha.ev hx,ha.ev hc,ha.ev hv,h1]
theorem St.newMapS {Rs:List Res}(hS:St W w Rs) (ek:κ→Value) (T:Ty (List α)):St W (w.alloc (.map #[] 0)) (Own (tMpS ek T) [.map (some w.heap.size)] ([]:List (κ × List α))::Rs):=
  (hS.newMap ek (id:Value→Value)).conv fun G hG=>by
    obtain⟨g,e1,h2,rfl⟩:=hG
    exact⟨g,[],e1,h2,rfl,by simp,by simp⟩
theorem RW.makeMapS {Rs:List Res}(ek:κ→Value) (T:Ty (List α)) (hS:St W w Rs) (hg:guardOf ops F o=some true) (ho:o.op=.makeMap t none){d:Nat}(hd:o.dst=some d) (hn:Nat.blt d n=true)
    (h:∀ g (w':World),Ext w w'→St W w' (Own (tMpS ek T) [.map (some g)] ([]:List (κ × List α))::Rs)→RW P n ops Q rest ((d,.map (some g))::F) w'):RW P n ops Q (o::rest) F w:=
  RW.ok hg (v:=.map (some w.heap.size)) (fun a ha=>by
    unfold execOp
    rw [ho]
    simp [run_makeMap]) hd hn (h _ _ (Ext.alloc _ _) (hS.newMapS ek T))

omit [DecidableEq κ] in

theorem mpsRo {T:Ty (List α)}{w:World}{g:Nat}{m:List (κ × List α)}(h:(tMpS ek T).ro w [.map (some g)] m):∃ L:List (Ent κ α),MapAt ek id w g (L.map eHdr)∧m=L.map eDat∧∀ l,l∈L→T.ro w [l.2.1] l.2.2.1:=by
  obtain⟨g1,L,e1,h2,h3,h4⟩:=h
  cases e1
  exact⟨L,h2,h3,h4⟩
def LookAt (ek:κ→Value) (w:World) (g:Nat) (kk:κ) (v:Value):Prop:=∃ hs:List (κ × Value),MapAt ek id w g hs∧(mget hs kk).getD (.slice none 0 0)=v
theorem lookS {g:Nat}{m:List (κ × List α)}(kk:κ) (hm:(tMpS ek (tSl e0 U)).ro w [.map (some g)] m):
    ∃ A kc,(tSl e0 U).ro w [.slice A ((mget m kk).getD []).length kc] ((mget m kk).getD [])∧LookAt ek w g kk (.slice A ((mget m kk).getD []).length kc):=by
  obtain⟨L,h1,rfl,h3⟩:=mpsRo hm
  have key:(L.map eHdr).map (·.1)=L.map (·.1):=by rw [List.map_map];rfl
  have key2:(L.map eDat).map (·.1)=L.map (·.1):=by rw [List.map_map];rfl
  have hn:(L.map (·.1)).Nodup:=by obtain⟨es,c,_,_,hn,_⟩:=h1;rw [key] at hn;exact hn
  have hr:(tSl e0 U).ro w [(mget (L.map eHdr) kk).getD (.slice none 0 0)] ((mget (L.map eDat) kk).getD []):=by
    by_cases hm:kk∈L.map (·.1)
    · obtain⟨l,hl,e1⟩:=List.mem_map.1 hm
      obtain⟨a,h0,x0,G1⟩:=l
      simp only at e1
      subst e1
      rw [zcD (m:=L.map eHdr) (x:=h0) (by rw [key];exact hn) (List.mem_map.2 ⟨_,hl,rfl⟩),zcD (m:=L.map eDat) (x:=x0) (by rw [key2];exact hn) (List.mem_map.2 ⟨_,hl,rfl⟩)]
      exact h3 _ hl
    · rw [zeP (by rw [key];exact hm),zeP (by rw [key2];exact hm)]
      exact slNil U e0 w
  obtain⟨A,kc,e1⟩:=slForm hr
  simp only [List.cons.injEq,and_true] at e1
  rw [e1] at hr
  exact⟨A,kc,hr,L.map eHdr,h1,e1⟩
theorem Quiet.lookA (hok:MapOk P t k e ek id (.slice none 0 0)){w9:Base}{g:Nat}{kk:κ}{v:Value}(hl:LookAt ek w9.W g kk v){x ix:Operand}(ho:o.op=.lookup t x ix false) (hx:F.ev x=some (.map (some g))) (hk:F.ev ix=some (ek kk)):Quiet P n F w9 o v:=by
  obtain⟨hs,h1,rfl⟩:=hl
  intro a w' ha he
  unfold execOp
  rw [ho]
  simp [ha.ev hx,ha.ev hk,hok.run_lookup (h1.ext he) kk false]
end
end Go.E


