/- slices.Insert of one packet into a slice of one's own: its contract, walked by hand. Conditions: the model gives a value. -/
import Derived.Test.YtijgffjimnbcpaaInsRow
import Derived.Laws.Externs
namespace Go.E
open Go.RowKit Go.Proofs
set_option linter.unusedVariables false
set_option linter.unusedSimpArgs false
set_option maxHeartbeats 4000000

theorem z97:Enters Try.prog 78:=⟨_,_,Try.func78,rfl,by kernel_rfl⟩
theorem RW.outer {P:Program}{n:Nat}{Q:Post}{F:Fr}{w:World}{ops rest:List Oper}{o:Oper}(hg:guardOf ops F o=some true){f:FuncId}{vs:List Value}(hc:callOf F o.op=some (f,vs)){v:Value}(hr:(callFunc f ⟨vs⟩).run P w=.ok (.value v) w){d:Nat}(hd:o.dst=some d) (hn:Nat.blt d n=true)
    (h:RW P n ops Q rest ((d,v)::F) w):RW P n ops Q (o::rest) F w:=by
  refine RW.ok hg (fun a ha=>?_) hd hn h
  unfold callOf at hc
  unfold execOp
  split at hc
  · rename_i hop
    rw [hop]
    split at hc
    · rename_i hf hv
      simp only [Option.some.injEq,Prod.mk.injEq] at hc
      obtain⟨rfl,rfl⟩:=hc
      simp [resolve,ha.ev hf,Deferred.ofValue,invoke,ha.evs hv]
      rw [← List.append_assoc]
      exact hr
    · cases hc
  · cases hc
def z3T:Ty (List D.Packet):=tSlO 77 ty77
instance {W:World}:Reads W z3T:=inferInstanceAs (Reads W (tSlO 77 ty77))
theorem z7D {w:World}{g1 g2:Nat}{c1 c2:List Value}(h1:w.heap[g1]? = some (.cells ⟨c1⟩ 77 (0,0))) (h2:w.heap[g2]? = some (.cells ⟨c2⟩ 77 (0,0))) (hne:g1≠g2) (h0:c2≠[]){d1 d2 l1 k1 l2 k2:Nat}:
    (callFunc 80 #[.slice (some ⟨g1,d1,none⟩) l1 k1,.slice (some ⟨g2,d2,none⟩) l2 k2]).run Try.prog w=.ok (.value (.bool false)) w:=by
  rw [run_callFunc_extern (P:=Try.prog) (f:=80) (fn:=Try.f80) Try.func80 (by kernel_rfl) (by kernel_rfl) (by kernel_rfl) (e:=Extern.SlicesOverlaps.overlaps #[27,27] #[4]) (by kernel_rfl)]
  obtain⟨jj,hjj,hsz,_⟩:=ttok.info (t:=77) (i:=⟨77,.struct [(0,1,false,4),(1,1,false,2),(2,1,false,9)],3,[.bool false,.int .i64 0,.string ⟨#[]⟩],32⟩) (by rfl)
  rw [Lib.run_overlaps_apart w 27 4 77 (ttok.slice (t:=27) (e:=77) rfl rfl) 3 (fun w=>by simp [sizeOf,typeInfo,hjj,hsz]) ⟨g1,d1,none⟩ ⟨g2,d2,none⟩ l1 k1 l2 k2 hne 77 77 c1.length c2.length (z7d h1) (z7d h2) (by simpa using h0) (z6L h1 _) (z6L h1 _)]
  rfl
def zN (fuel:Nat) (x0:(List D.Packet)) (x1:Int) (x2:(List D.Packet)):Option ((List D.Packet)):=if decide (0≤x1∧x1≤(x0.length:Int)∧x2.length=1∧(x0.length:Int)≤4294967295)=true then some (x0.take x1.toNat++(x2++x0.drop x1.toNat)) else none
set_option maxRecDepth 100000 in
theorem z3k {W w:World}{RR:List Res}{y:Option Addr}{j:Nat}{x0:(List D.Packet)}{x1:Int}{z:Option Addr}{q:Nat}{x2:(List D.Packet)}(hS:St W w (Own z3T [.slice y x0.length j] x0::Own ty27 [.slice z x2.length q] x2::RR)){fuel:Nat}{r:(List D.Packet)}(hm:zN fuel x0 x1 x2=some r):
    Calls Try.prog 78 ⟨[.slice y x0.length j,.int .i64 x1,.slice z x2.length q]⟩ w (Ret fun v w8=>∃ A0 k0,v=.slice A0 r.length k0∧St W w8 (Own z3T [.slice A0 r.length k0] r::RR)):=by
  unfold zN at hm
  by_cases hk:decide (0≤x1∧x1≤(x0.length:Int)∧x2.length=1∧(x0.length:Int)≤4294967295)=true
  case neg=>rw [if_neg hk] at hm;cases hm
  rw [if_pos hk] at hm
  obtain⟨h0,h1,h2,h3⟩:=of_decide_eq_true hk
  obtain⟨i,rfl⟩:∃ i:Nat,x1=(i:Int):=⟨x1.toNat,by omega⟩
  rw [Int.toNat_natCast] at hm
  cases hm
  have hmx:maxLen=9223372036854775807:=rfl
  have G:ty77.size=3:=rfl
  have hi:i≤x0.length:=by omega
  have H:x2≠[]:=by rintro rfl;simp at h2
  have hcap:=(hS.openO z5X).2
  have hcap0:x0.length≤j:=by
    rcases hcap with⟨_,_,h⟩ | ⟨g,pre,els,rest,_,_,h,_⟩
    · rw [h];simp
    · exact h
  refine Calls.into Try.func78 rfl 95 rfl rfl _ rfl ?_
  refine WP.seq ?_
  refine WP.region ?_
  refine RW.run ttok 1 rfl ?_
  refine RW.nil ?_
  refine WP.seq ?_
  refine WP.region ?_
  refine RW.run ttok 2 rfl ?_
  refine RW.quiet rfl (Quiet.sliceV ttok (l:=i) (h:=x0.length) rfl rfl rfl rfl rfl (.inr ⟨_,_,rfl,rfl⟩) (.inl ⟨rfl,rfl⟩) hi hcap0) rfl rfl ?_
  refine RW.nil ?_
  refine WP.seq ?_
  refine WP.region ?_
  refine RW.run ttok 3 rfl ?_
  refine RW.nil ?_
  refine WP.seq ?_
  refine WP.seq ?_
  refine WP.region ?_
  refine RW.run ttok 2 rfl ?_
  refine RW.nil ?_
  refine WP.cond false (by show some (Value.bool ((x2.length:Int) == 0))=some (.bool false);rw [h2];rfl) (fun hc=>by cases hc) (fun _=>?_)
  refine WP.skip ?_
  refine WP.seq ?_
  refine WP.region ?_
  refine RW.run ttok 3 rfl ?_
  refine RW.nil ?_
  refine WP.seq ?_
  refine WP.seq ?_
  refine WP.region ?_
  refine RW.run ttok 3 rfl ?_
  refine RW.nil ?_
  by_cases hin:i=x0.length
  · refine WP.cond true (by show some (Value.bool ((i:Int) == (x0.length:Int)))=some (.bool true);rw [hin];simp) (fun _=>?_) (fun hc=>by cases hc)
    refine WP.seq ?_
    refine WP.region ?_
    refine RW.run ttok 2 rfl ?_
    have hres:x0.take i++(x2++x0.drop i)=x0++x2:=by rw [hin,List.take_length,List.drop_length,List.append_nil]
    rw [hres]
    rcases hcap with⟨rfl,rfl,rfl⟩ | ⟨g,pre,els,rest,rfl,hB,c1,c2,c3,c4⟩
    · have J:=((hS.drop).nilSl ty77 77).bring 1 rfl
      refine RW.appendOwn (U:=ty77) ttok J rfl rfl rfl rfl rfl rfl (by decide) rfl rfl (by simp only [List.length_nil];omega) (by decide) rfl rfl (fun A3 k3 w3 L=>?_)
      refine RW.run ttok 1 rfl ?_
      refine RW.nil ?_
      refine WP.ret ?_
      exact⟨_,.cons (.tmp rfl) .nil,A3,k3,rfl,L.toO⟩
    · obtain⟨_,g2,els2,rest2,rfl,hV,v1,v2,v3,v4⟩:=(hB.bring 1 rfl).openSlR z5X H
      have hB2:=hV.bring 1 rfl
      have hl:=c4.length
      have o:=v4.length
      rw [G] at hl o c3
      have hat:At w ⟨g2,0,none⟩ els2:=by
        have h9:=(hV.rowAt 0).take els2.length
        rw [List.drop_zero,List.take_left' rfl] at h9
        exact h9
      have hE:∀ {w3:World},ElsO ty77 w3 (els++els2) (x0++x2) []:=fun {w3}=>((c4.append v4):ElsO ty77 w _ _ ([]++[])).any
      rw [List.length_append] at c3
      by_cases hr:x0.length+x2.length≤j
      · refine RW.appendBox ttok hB2 rfl rfl rfl rfl rfl rfl rfl hat o hr (by show pre.length+x0.length*3+els2.length≤_;simp only [List.length_append];omega) (z8z v4) rfl rfl (fun w3 hB3=>?_)
        refine RW.run ttok 1 rfl ?_
        refine RW.nil ?_
        refine WP.ret ?_
        have hB4:St W w3 (Box g (rowPut (pre++(els++rest)) (pre.length+els.length) els2) 77::Box g2 (els2++rest2) 77::RR):=by rw [hl];exact hB3
        rw [z8i (s:=3) (by omega) (by omega)] at hB4
        have hB5:=hB4.shutO (U:=ty77) (xs:=x0++x2) (k:=j) (by rw [List.length_append];exact hr) c2 (by show j*3≤_;simp only [List.length_append,List.length_drop];omega) hE
        exact⟨_,.cons (.tmp rfl) .nil,_,j,by rw [List.length_append];rfl,(hB5.bring 1 rfl).drop⟩
      · have hbt:At w ⟨g,pre.length,none⟩ els:=by
          have h9:=(hB2.rowAt pre.length).take els.length
          rw [List.drop_left' rfl,List.take_left' rfl] at h9
          exact h9
        refine RW.appendGrow ttok hV rfl rfl rfl rfl rfl rfl rfl hat hbt o hl (by omega) (by show _*32≤_;omega) (by omega) rfl rfl (fun g3 k3 rs w3 hB3 r1 r2 r3=>?_)
        refine RW.run ttok 1 rfl ?_
        refine RW.nil ?_
        refine WP.ret ?_
        have r3':rs.length=(k3 - (x0.length+x2.length))*3:=r3
        have hB4:St W w3 (Box g3 ([]++((els++els2)++rs)) 77::Box g2 (els2++rest2) 77::Box g (pre++(els++rest)) 77::RR):=by rw [List.nil_append,List.append_assoc];exact hB3
        have hB5:=hB4.shutO (U:=ty77) (xs:=x0++x2) (k:=k3) (by rw [List.length_append];exact r1) r2 (by show k3*3≤_;simp only [List.length_append];omega) hE
        exact⟨_,.cons (.tmp rfl) .nil,_,k3,by rw [List.length_append];rfl,((hB5.bring 1 rfl).drop.bring 1 rfl).drop⟩
  · refine WP.cond false (by show some (Value.bool ((i:Int) == (x0.length:Int)))=some (.bool false);rw [show((i:Int) == (x0.length:Int))=false by simp;omega]) (fun hc=>by cases hc) (fun _=>?_)
    refine WP.skip ?_
    rcases hcap with⟨_,_,rfl⟩ | ⟨g,pre,els,rest,rfl,hB,c1,c2,c3,c4⟩
    · simp at hi hin;omega
    obtain⟨_,g2,els2,rest2,rfl,hV,v1,v2,v3,v4⟩:=(hB.bring 1 rfl).openSlR z5X H
    have hB2:=hV.bring 1 rfl
    have hl:=c4.length
    have o:=v4.length
    rw [G] at hl o c3
    have hat:At w ⟨g2,0,none⟩ els2:=by
      have h9:=(hV.rowAt 0).take els2.length
      rw [List.drop_zero,List.take_left' rfl] at h9
      exact h9
    rw [List.length_append] at c3
    rw [h2,Nat.one_mul] at o
    have hw1:w64 ((x0.length:Int)+(x2.length:Int))=((x0.length+1:Nat):Int):=by rw [h2,z7M ⟨by omega,by omega⟩];rfl
    have hw2:w64 ((i:Int)+(x2.length:Int))=((i+1:Nat):Int):=by rw [h2,z7M ⟨by omega,by omega⟩];rfl
    have hil:i<x0.length:=by omega
    have hres:(x0.take i++(x2++x0.drop i)).length=x0.length+1:=by simp only [List.length_append,List.length_take,List.length_drop];omega
    have h5:=c4.els (Reads.req hS.ext)
    have hea:els=els.take (i*3)++els.drop (i*3):=(List.take_append_drop _ _).symm
    have hla:(els.take (i*3)).length=i*3:=by rw [List.length_take,hl];omega
    have hlb:(els.drop (i*3)).length=(x0.length - i)*3:=by rw [List.length_drop,hl];omega
    have hEa:ElsO ty77 w (els.take (i*3)) (x0.take i) []:=(h5.take i hi).flat z5X
    have hEb:ElsO ty77 w (els.drop (i*3)) (x0.drop i) []:=(h5.drop i hi).flat z5X
    have hE:∀ {w3:World},ElsO ty77 w3 (els.take (i*3)++(els2++els.drop (i*3))) (x0.take i++(x2++x0.drop i)) []:=fun {w3}=>((hEa.append (v4.append hEb)):ElsO ty77 w _ _ ([]++([]++[]))).any
    have hone:∀ v,v∈els.drop (i*3)→v.oneCell'=true:=z8z hEb
    have hsrc:∀ {w3:World}{B:List Res}{c1:List Value},St W w3 (Box g (c1++(els++rest)) 77::B)→At w3 ⟨g,c1.length+i*3,none⟩ (els.drop (i*3)):=fun {w3 B c1} hX=>by
      have h9:=(hX.rowAt (c1.length+i*3)).take (els.drop (i*3)).length
      rw [← List.drop_drop,List.drop_left' rfl,List.drop_append_of_le_length (by omega),List.take_left' rfl] at h9
      exact h9
    refine WP.seq ?_
    refine WP.seq ?_
    refine WP.region ?_
    refine RW.run ttok 4 rfl ?_
    refine RW.quiet rfl (Quiet.capV ttok rfl rfl rfl rfl) rfl rfl ?_
    refine RW.run ttok 1 rfl ?_
    refine RW.nil ?_
    by_cases hr:x0.length+1≤j
    · refine WP.cond false (by show some (Value.bool (decide (w64 ((x0.length:Int)+(x2.length:Int))>(j:Int))))=some (.bool false);rw [hw1,decide_eq_false (by omega)]) (fun hc=>by cases hc) (fun _=>?_)
      refine WP.skip ?_
      refine WP.seq ?_
      refine WP.region ?_
      refine RW.run ttok 4 rfl ?_
      refine RW.know (u:=.int .i64 ((x0.length+1:Nat):Int)) 59 rfl (by show Value.int .i64 (w64 ((x0.length:Int)+(x2.length:Int)))=_;rw [hw1]) ?_
      refine RW.quiet rfl (Quiet.sliceV ttok (l:=0) (h:=x0.length+1) rfl rfl rfl rfl rfl (.inl ⟨rfl,rfl⟩) (.inr ⟨_,_,rfl,rfl⟩) (Nat.zero_le _) hr) rfl rfl ?_
      refine RW.know (u:=.slice (some ⟨g,pre.length,none⟩) (x0.length+1) j) 60 rfl (by show Value.slice (cutA (some ⟨g,pre.length,none⟩) j 0 3) _ _=_;rw [z6v];rfl) ?_
      refine RW.run ttok 1 rfl ?_
      refine RW.nil ?_
      refine WP.seq ?_
      refine WP.seq ?_
      refine WP.region ?_
      refine RW.run ttok 5 rfl ?_
      refine RW.know (u:=.int .i64 ((i+1:Nat):Int)) 65 rfl (by show Value.int .i64 (w64 ((i:Int)+(x2.length:Int)))=_;rw [hw2]) ?_
      refine RW.quiet rfl (Quiet.sliceV ttok (l:=i+1) (h:=x0.length+1) rfl rfl rfl rfl rfl (.inr ⟨_,_,rfl,rfl⟩) (.inl ⟨rfl,rfl⟩) (by omega) hr) rfl rfl ?_
      refine RW.know (u:=.slice (some ⟨g,pre.length+(i+1)*3,none⟩) (x0.length+1 - (i+1)) (j - (i+1))) 66 rfl (by show Value.slice (cutA (some ⟨g,pre.length,none⟩) j (i+1) 3) _ _=_;rw [z3Y (by omega)]) ?_
      have hov:(callFunc 80 ⟨[.slice (some ⟨g2,0,none⟩) x2.length q,.slice (some ⟨g,pre.length+(i+1)*3,none⟩) (x0.length+1 - (i+1)) (j - (i+1))]⟩).run Try.prog w=.ok (.value (.bool false)) w:=by
        obtain⟨G1,⟨e1,e2⟩,_,_,G2,⟨e3,e4⟩,_,e5,_⟩:=hV.sep
        exact z7D e2 e4 (by rintro rfl;exact(e5 g2 (by rw [e3];simp)).2 (by rw [e1];simp)) (fun h9=>by have:=congrArg List.length h9;simp only [List.length_append,List.length_nil] at this;omega)
      refine RW.outer rfl rfl hov rfl rfl ?_
      refine RW.run ttok 1 rfl ?_
      refine RW.nil ?_
      refine WP.cond true rfl (fun _=>?_) (fun hc=>by cases hc)
      refine WP.seq ?_
      refine WP.drawnM 256 mixed 9 (by kernel_rfl) (by kernel_rfl) [([],511),([],511),([],511),([1,2],505),([0,3],502),([],511),([],511),([5,6],415),([4,7],367)] (by kernel_rfl) hB2.ext (fun hsk1=>?_)
      have hB3:=hB2.step (Ext.draw _)
      refine DM.run (fuel:=3) ttok hsk1 [0,1,2,3,5,6] 111 (by kernel_rfl) (by kernel_rfl) rfl ?_
      refine DM.know (u:=.int .i64 ((i+1:Nat):Int)) 72 rfl (by show Value.int .i64 (w64 ((i:Int)+(x2.length:Int)))=_;rw [hw2]) ?_
      refine DM.quiet hsk1 4 127 (by kernel_rfl) (by kernel_rfl) (by kernel_rfl) (by kernel_rfl) rfl (by kernel_rfl) rfl (Quiet.sliceV ttok (l:=i+1) (h:=x0.length+1) rfl rfl rfl rfl rfl (.inr ⟨_,_,rfl,rfl⟩) (.inl ⟨rfl,rfl⟩) (by omega) hr) rfl rfl ?_
      refine DM.know (u:=.slice (some ⟨g,pre.length+(i+1)*3,none⟩) (x0.length+1 - (i+1)) (j - (i+1))) 73 rfl (by show Value.slice (cutA (some ⟨g,pre.length,none⟩) j (i+1) 3) _ _=_;rw [z3Y (by omega)]) ?_
      refine DM.quiet hsk1 7 255 (by kernel_rfl) (by kernel_rfl) (by kernel_rfl) (by kernel_rfl) rfl (by kernel_rfl) rfl (Quiet.sliceV ttok (l:=i) (h:=x0.length+1) rfl rfl rfl rfl rfl (.inr ⟨_,_,rfl,rfl⟩) (.inl ⟨rfl,rfl⟩) (by omega) hr) rfl rfl ?_
      refine DM.know (u:=.slice (some ⟨g,pre.length+i*3,none⟩) (x0.length+1 - i) (j - i)) 76 rfl (by show Value.slice (cutA (some ⟨g,pre.length,none⟩) j i 3) _ _=_;rw [z3Y (by omega)]) ?_
      refine DM.one hsk1 8 (by kernel_rfl) (LM.copyBox ttok hB3 hsk1 511 (by kernel_rfl) (by kernel_rfl) rfl rfl rfl rfl rfl rfl rfl rfl (hsrc hB3) (by show _=Nat.min (x0.length+1 - i) (x0.length+1 - (i+1))*3;rw [hlb,show Nat.min (x0.length+1 - i) (x0.length+1 - (i+1))=x0.length - i from by show min (x0.length+1 - i) (x0.length+1 - (i+1))=_;omega]) (by simp only [List.length_append];omega) hone rfl rfl (fun w3 hB4=>?_))
      refine DM.done hsk1 (by kernel_rfl) ?_
      refine WP.seq ?_
      refine WP.region ?_
      refine RW.run ttok 2 rfl ?_
      refine RW.quiet rfl (Quiet.sliceV ttok (l:=i) (h:=x0.length+1) rfl rfl rfl rfl rfl (.inr ⟨_,_,rfl,rfl⟩) (.inl ⟨rfl,rfl⟩) (by omega) hr) rfl rfl ?_
      refine RW.know (u:=.slice (some ⟨g,pre.length+i*3,none⟩) (x0.length+1 - i) (j - i)) 80 rfl (by show Value.slice (cutA (some ⟨g,pre.length,none⟩) j i 3) _ _=_;rw [z3Y (by omega)]) ?_
      refine RW.run ttok 1 rfl ?_
      have hat3:At w3 ⟨g2,0,none⟩ els2:=by
        have h9:=((hB4.bring 1 rfl).rowAt 0).take els2.length
        rw [List.drop_zero,List.take_left' rfl] at h9
        exact h9
      have hcl:(rowPut (pre++(els++rest)) (pre.length+(i+1)*3) (els.drop (i*3))).length=(pre++(els++rest)).length:=z5M (by simp only [List.length_append];omega)
      refine RW.copyBox ttok hB4 rfl rfl rfl rfl rfl rfl rfl hat3 (by show _=Nat.min x2.length (x0.length+1 - i)*3;rw [h2,o,show Nat.min 1 (x0.length+1 - i)=1 from by show min 1 (x0.length+1 - i)=_;omega]) (by rw [hcl];simp only [List.length_append];omega) (z8z v4) rfl rfl (fun w4 hB5=>?_)
      refine RW.nil ?_
      refine WP.seq ?_
      refine WP.region ?_
      refine RW.run ttok 2 rfl ?_
      refine RW.nil ?_
      refine WP.ret ?_
      have hin3:=z7F (pre:=pre) (a:=els.take (i*3)) (b:=els.drop (i*3)) (rest:=rest) (ys:=els2) (s:=3) (by omega) (by omega)
      rw [← hea,hla,show i*3+3=(i+1)*3 by omega] at hin3
      rw [hin3] at hB5
      have hB6:=hB5.shutO (U:=ty77) (xs:=x0.take i++(x2++x0.drop i)) (k:=j) (by rw [hres];exact hr) c2 (by show j*3≤_;simp only [List.length_append,List.length_drop,hla,hlb];omega) hE
      rw [hres] at hB6
      exact⟨_,.cons (.tmp rfl) .nil,_,j,by rw [hres];rfl,by rw [hres];exact(hB6.bring 1 rfl).drop⟩
    · refine WP.cond true (by show some (Value.bool (decide (w64 ((x0.length:Int)+(x2.length:Int))>(j:Int))))=some (.bool true);rw [hw1,decide_eq_true (by omega)]) (fun _=>?_) (fun hc=>by cases hc)
      refine WP.seq ?_
      refine WP.region ?_
      refine RW.run ttok 2 rfl ?_
      refine RW.quiet rfl (Quiet.sliceV ttok (l:=0) (h:=i) rfl rfl rfl rfl rfl (.inl ⟨rfl,rfl⟩) (.inr ⟨_,_,rfl,rfl⟩) (Nat.zero_le _) (by omega)) rfl rfl ?_
      refine RW.know (u:=.slice (some ⟨g,pre.length,none⟩) i j) 34 rfl (by show Value.slice (cutA (some ⟨g,pre.length,none⟩) j 0 3) _ _=_;rw [z6v];rfl) ?_
      refine RW.run ttok 5 rfl ?_
      refine RW.know (u:=.int .i64 ((x0.length+1 - i:Nat):Int)) 39 rfl (by show Value.int .i64 (w64 (w64 ((x0.length:Int)+(x2.length:Int)) - (i:Int)))=_;rw [hw1,z7M ⟨by omega,by omega⟩];congr 1;omega) ?_
      have hbt:At w ⟨g,pre.length,none⟩ (els.take (i*3)):=by
        have h9:=(hB2.rowAt pre.length).take (els.take (i*3)).length
        rw [List.drop_left' rfl,hla,List.take_append_of_le_length (by omega)] at h9
        exact h9
      refine RW.appendMake ttok hB2 rfl Try.underlying3 rfl rfl rfl rfl rfl rfl hbt hla (by omega) (by decide) (by omega) (by show _*32≤_;omega) (by omega) rfl rfl (fun g3 k3 zs rs w3 hB3 r1 r2 r3 r4=>?_)
      refine RW.run ttok 1 rfl ?_
      refine RW.nil ?_
      have r3':zs.length=(x0.length+1 - i)*3:=r3
      have r4':rs.length=(k3 - (i+(x0.length+1 - i)))*3:=r4
      have hat3:At w3 ⟨g2,0,none⟩ els2:=by
        have h9:=((hB3.bring 2 rfl).rowAt 0).take els2.length
        rw [List.drop_zero,List.take_left' rfl] at h9
        exact h9
      refine WP.seq ?_
      refine WP.region ?_
      refine RW.run ttok 2 rfl ?_
      refine RW.quiet rfl (Quiet.sliceV ttok (l:=i) (h:=i+(x0.length+1 - i)) rfl rfl rfl rfl rfl (.inr ⟨_,_,rfl,rfl⟩) (.inl ⟨rfl,rfl⟩) (by omega) r1) rfl rfl ?_
      refine RW.know (u:=.slice (some ⟨g3,0+i*3,none⟩) (i+(x0.length+1 - i) - i) (k3 - i)) 43 rfl (by show Value.slice (cutA (some ⟨g3,0,none⟩) k3 i 3) _ _=_;rw [z3Y (by omega)]) ?_
      refine RW.run ttok 1 rfl ?_
      refine RW.copyBox ttok hB3 rfl rfl rfl rfl rfl rfl rfl hat3 (by show _=Nat.min x2.length (i+(x0.length+1 - i) - i)*3;rw [h2,o,show Nat.min 1 (i+(x0.length+1 - i) - i)=1 from by show min 1 (i+(x0.length+1 - i) - i)=_;omega]) (by simp only [List.length_append];omega) (z8z v4) rfl rfl (fun w4 hB4=>?_)
      refine RW.nil ?_
      refine WP.seq ?_
      refine WP.drawnM 256 mixed 9 (by kernel_rfl) (by kernel_rfl) [([],511),([],511),([],511),([1,2],505),([0,3],502),([],511),([],511),([5,6],415),([4,7],367)] (by kernel_rfl) hB4.ext (fun hsk1=>?_)
      have hB5:=hB4.step (Ext.draw _)
      have hcl:(rowPut (els.take (i*3)++(zs++rs)) (0+i*3) els2).length=(els.take (i*3)++(zs++rs)).length:=z5M (by simp only [List.length_append];omega)
      have hB6:=hB5.bring 1 rfl
      refine DM.run (fuel:=3) ttok hsk1 [0,1,2,3,5,6] 111 (by kernel_rfl) (by kernel_rfl) rfl ?_
      refine DM.know (u:=.int .i64 ((i+1:Nat):Int)) 49 rfl (by show Value.int .i64 (w64 ((i:Int)+(x2.length:Int)))=_;rw [hw2]) ?_
      refine DM.quiet hsk1 4 127 (by kernel_rfl) (by kernel_rfl) (by kernel_rfl) (by kernel_rfl) rfl (by kernel_rfl) rfl (Quiet.sliceV ttok (l:=i+1) (h:=i+(x0.length+1 - i)) rfl rfl rfl rfl rfl (.inr ⟨_,_,rfl,rfl⟩) (.inl ⟨rfl,rfl⟩) (by omega) r1) rfl rfl ?_
      refine DM.know (u:=.slice (some ⟨g3,0+(i+1)*3,none⟩) (i+(x0.length+1 - i) - (i+1)) (k3 - (i+1))) 50 rfl (by show Value.slice (cutA (some ⟨g3,0,none⟩) k3 (i+1) 3) _ _=_;rw [z3Y (by omega)]) ?_
      refine DM.quiet hsk1 7 255 (by kernel_rfl) (by kernel_rfl) (by kernel_rfl) (by kernel_rfl) rfl (by kernel_rfl) rfl (Quiet.sliceV ttok (l:=i) (h:=x0.length) rfl rfl rfl rfl rfl (.inr ⟨_,_,rfl,rfl⟩) (.inl ⟨rfl,rfl⟩) (by omega) c1) rfl rfl ?_
      refine DM.know (u:=.slice (some ⟨g,pre.length+i*3,none⟩) (x0.length - i) (j - i)) 53 rfl (by show Value.slice (cutA (some ⟨g,pre.length,none⟩) j i 3) _ _=_;rw [z3Y (by omega)]) ?_
      refine DM.one hsk1 8 (by kernel_rfl) (LM.copyBox ttok hB5 hsk1 511 (by kernel_rfl) (by kernel_rfl) rfl rfl rfl rfl rfl rfl rfl rfl (hsrc hB6) (by show _=Nat.min (x0.length - i) (i+(x0.length+1 - i) - (i+1))*3;rw [hlb,show Nat.min (x0.length - i) (i+(x0.length+1 - i) - (i+1))=x0.length - i from by show min (x0.length - i) (i+(x0.length+1 - i) - (i+1))=_;omega]) (by rw [hcl];simp only [List.length_append];omega) hone rfl rfl (fun w5 hB7=>?_))
      refine DM.done hsk1 (by kernel_rfl) ?_
      refine WP.seq ?_
      refine WP.region ?_
      refine RW.run ttok 2 rfl ?_
      refine RW.nil ?_
      refine WP.ret ?_
      have hin3:=z7G (a:=els.take (i*3)) (b:=els.drop (i*3)) (zs:=zs) (rs:=rs) (ys:=els2) (s:=3) (by omega) (by rw [r3',hlb];omega)
      rw [hla,show i*3+3=(i+1)*3 by omega] at hin3
      rw [hin3] at hB7
      have hB8:=hB7.shutO (U:=ty77) (xs:=x0.take i++(x2++x0.drop i)) (k:=k3) (by rw [hres];omega) r2 (by show k3*3≤_;simp only [List.length_append,hla,hlb];omega) hE
      rw [hres] at hB8
      exact⟨_,.cons (.tmp rfl) .nil,_,k3,by rw [hres,show i+(x0.length+1 - i)=x0.length+1 by omega];rfl,by rw [hres];exact((hB8.bring 1 rfl).drop.bring 1 rfl).drop⟩
end Go.E


