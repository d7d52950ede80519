/- What the functions that size, copy and compare give on well formed data (written by program). Conditions: sizes within the law s own bound. -/
import Derived.Test.YteommboffflkbaaGreatShort
import Derived.Test.YteommboffflkbaaGreatFA
import Derived.Test.YteommboffflkbaaGreatFG
import Derived.Test.YteommboffflkbaaGreatFGb
import Derived.Test.YteommboffflkbaaGreatFGc
import Derived.Test.YteommboffflkbaaGreatFGd
import Derived.Test.YteommboffflkbaaGreatFGe
import Derived.Test.YteommboffflkbaaGreatMixedS
import Derived.Test.YteommboffflkbaaGreatHW
namespace Go.E
open Go.RowKit Go.Proofs
set_option linter.unusedSimpArgs false
set_option linter.unusedVariables false

theorem zb1 {fu:Nat}{x:(List Int)}(hf:Big fu) (hs:x.length≤1048576):z3J fu x x=some true:=by
 have hl:=hs
 unfold z3J
 rw [if_neg (by simp)]
 refine z7S (n:=x.length) (t:=()) (by unfold maxLen;omega) hf rfl ?_ ?_
 ·intro i hi
  obtain⟨y,hy⟩:=z5i hi
  have hsy:0≤1048576:=Nat.zero_le _
  simp [z85,zd hy,hi,z2s]
 ·simp [z85]

theorem zaY {fu:Nat}{x:(List Int)}{l:Int}(hf:Big fu) (hw:WfL I64 x) (h0:0≤l) (h1:l≤1048576):SzOk (x.length) l (z3D fu x l):=by
 unfold z3D
 generalize hz:w64 (l - (x.length:Int))=z
 exact SzOk.sub2 h0 h1 hw.1 (m:=0) rfl hz fun g0 g1=>SzOk.same g0

theorem zaX {fu:Nat}{x:(List Int)}(hf:Big fu) (hs:x.length≤1048576):z3C fu x=some x:=by
 have hl:=hs
 unfold z3C
 refine z7L hl hf (fun _=>rfl) ?_ ?_
 ·intro i y out hy d
  have hi:=(List.getElem?_eq_some_iff.1 hy).1
  have hsy:0≤1048576:=Nat.zero_le _
  simp only [z82,zd hy,bsm,lt_t (show(i:Int)<x.length by omega),if_true]
  rw [if_pos (by simp;omega)]
  simp
 ·intro out
  simp [z82]

theorem z6h {fu:Nat}{x:D.Qf}(hf:Big fu) (hs:0≤1048576):z1F fu x=some x:=by
 skip
 unfold z1F
 rfl

theorem z6s {fu:Nat}{x:D.Qf}(hf:Big fu) (hs:0≤1048576):z1G fu x x=some true:=by
 skip
 simp [z1G,z2s]

theorem zdo {fu:Nat}{x:(List (List Int))}{l:Int}(hf:Big fu) (hw:WfL (WfL I64) x) (h0:0≤l) (h1:l≤1048576):SzOk (szL (fun x=>x.length) x) l (z5E fu x l):=by
 unfold z5E
 generalize hz:w64 (l - (x.length:Int))=z
 refine SzOk.sub2 h0 h1 hw.1 (m:=sumL (fun x=>x.length) x) rfl hz fun g0 g1=>?_
 refine SzOk.loop hw.1 hf g0 (by omega) (fun _=>rfl) ?_ ?_
 ·intro i y l hy h0 h1
  have hi:=(List.getElem?_eq_some_iff.1 hy).1
  have hwy:=hw.2 y (List.mem_of_getElem? hy)
  obtain⟨r,h2,h3⟩:=zaY hf hwy h0 h1
  simp only [z7n,zd hy,bsm,lt_t (show(i:Int)<x.length by omega),if_true,h2]
  by_cases hlt:r<0
  ·exact .inl (by simp only [lt_t hlt,if_true])
  ·exact .inr ⟨r,by simp only [lt_f hlt,if_false],h3.resolve_left hlt⟩
 ·intro l
  simp [z7n]

theorem zdn {fu:Nat}{x:(List (List Int))}(hf:Big fu) (hs:szL (fun x=>x.length) x≤1048576):z5D fu x=some x:=by
 have hl:=z2C hs
 unfold z5D
 refine z7L hl hf (fun _=>rfl) ?_ ?_
 ·intro i y out hy d
  have hi:=(List.getElem?_eq_some_iff.1 hy).1
  have hsy:y.length≤1048576:=z2G hs (List.mem_of_getElem? hy)
  simp only [z7k,zd hy,bsm,lt_t (show(i:Int)<x.length by omega),if_true,zaX hf hsy]
  rw [if_pos (by simp;omega)]
  simp
 ·intro out
  simp [z7k]

theorem zds {fu:Nat}{x:(List (List Int))}(hf:Big fu) (hs:szL (fun x=>x.length) x≤1048576):z5G fu x x=some true:=by
 have hl:=z2C hs
 unfold z5G
 rw [if_neg (by simp)]
 refine z7S (n:=x.length) (t:=()) (by unfold maxLen;omega) hf rfl ?_ ?_
 ·intro i hi
  obtain⟨y,hy⟩:=z5i hi
  have hsy:y.length≤1048576:=z2G hs (List.mem_of_getElem? hy)
  simp [z7q,zd hy,hi,z2s,zb1 hf hsy]
 ·simp [z7q]

theorem zfE {fu:Nat}{x:(List D.Qf)}{l:Int}(hf:Big fu) (hw:WfL D.Qf.wf x) (h0:0≤l) (h1:l≤1048576):SzOk (x.length) l (z75 fu x l):=by
 unfold z75
 generalize hz:w64 (l - (x.length:Int))=z
 exact SzOk.sub2 h0 h1 hw.1 (m:=0) rfl hz fun g0 g1=>SzOk.same g0

theorem zfC {fu:Nat}{x:D.Qn}(hf:Big fu) (hs:0≤1048576):z71 fu x=some x:=by
 skip
 unfold z71
 simp only [z6h hf (show 0≤1048576 by exact Nat.zero_le _),bsm]

theorem zer {fu:Nat}{x:D.Qk}(hf:Big fu) (hs:0≤1048576):z5a fu x=some x:=by
 skip
 unfold z5a
 simp only [z6h hf (show 0≤1048576 by exact Nat.zero_le _),z6h hf (show 0≤1048576 by exact Nat.zero_le _),bsm]

theorem zfD {fu:Nat}{x:(List D.Qf)}(hf:Big fu) (hs:x.length≤1048576):z73 fu x=some x:=by
 have hl:=hs
 unfold z73
 refine z7L hl hf (fun _=>rfl) ?_ ?_
 ·intro i y out hy d
  have hi:=(List.getElem?_eq_some_iff.1 hy).1
  have hsy:0≤1048576:=Nat.zero_le _
  simp only [z6x,zd hy,bsm,lt_t (show(i:Int)<x.length by omega),if_true,z6h hf hsy]
  rw [if_pos (by simp;omega)]
  simp
 ·intro out
  simp [z6x]

theorem zg4 {fu:Nat}{x:D.Qn}(hf:Big fu) (hs:0≤1048576):z77 fu x x=some true:=by
 skip
 simp [z77,z2s,z6s hf (show 0≤1048576 by exact Nat.zero_le _)]

theorem zeJ {fu:Nat}{x:D.Qk}(hf:Big fu) (hs:0≤1048576):z5e fu x x=some true:=by
 skip
 simp [z5e,z2s,z6s hf (show 0≤1048576 by exact Nat.zero_le _),z6s hf (show 0≤1048576 by exact Nat.zero_le _)]

theorem zg5 {fu:Nat}{x:(List D.Qf)}(hf:Big fu) (hs:x.length≤1048576):z79 fu x x=some true:=by
 have hl:=hs
 unfold z79
 rw [if_neg (by simp)]
 refine z7S (n:=x.length) (t:=()) (by unfold maxLen;omega) hf rfl ?_ ?_
 ·intro i hi
  obtain⟨y,hy⟩:=z5i hi
  have hsy:0≤1048576:=Nat.zero_le _
  simp [z6C,zd hy,hi,z2s,z6s hf hsy]
 ·simp [z6C]

theorem zeV {fu:Nat}{x:(List D.Qn)}{l:Int}(hf:Big fu) (hw:WfL D.Qn.wf x) (h0:0≤l) (h1:l≤1048576):SzOk (x.length) l (z62 fu x l):=by
 unfold z62
 generalize hz:w64 (l - (x.length:Int))=z
 exact SzOk.sub2 h0 h1 hw.1 (m:=0) rfl hz fun g0 g1=>SzOk.same g0

theorem zdQ {fu:Nat}{x:(List D.Qk)}{l:Int}(hf:Big fu) (hw:WfL D.Qk.wf x) (h0:0≤l) (h1:l≤1048576):SzOk (x.length) l (z4n fu x l):=by
 unfold z4n
 generalize hz:w64 (l - (x.length:Int))=z
 exact SzOk.sub2 h0 h1 hw.1 (m:=0) rfl hz fun g0 g1=>SzOk.same g0

theorem zcs {fu:Nat}{x:D.Qb}{l:Int}(hf:Big fu) (hw:D.Qb.wf x) (h0:0≤l) (h1:l≤1048576):SzOk (D.Qb.sz x) l (z41 fu x l):=by
 obtain⟨w0,w1,w2,w3,w4,_⟩:=hw
 unfold z41 D.Qb.sz
 refine SzOk.bind (zaY hf w3 h0 (by omega)) rfl fun r1 g1a g1b=>?_
 refine SzOk.bind (zfE hf w4 g1a (by omega)) rfl fun r2 g2a g2b=>?_
 exact SzOk.same g2a

theorem zeU {fu:Nat}{x:(List D.Qn)}(hf:Big fu) (hs:x.length≤1048576):z61 fu x=some x:=by
 have hl:=hs
 unfold z61
 refine z7L hl hf (fun _=>rfl) ?_ ?_
 ·intro i y out hy d
  have hi:=(List.getElem?_eq_some_iff.1 hy).1
  have hsy:0≤1048576:=Nat.zero_le _
  simp only [z60,zd hy,bsm,lt_t (show(i:Int)<x.length by omega),if_true,zfC hf hsy]
  rw [if_pos (by simp;omega)]
  simp
 ·intro out
  simp [z60]

theorem zdN {fu:Nat}{x:(List D.Qk)}(hf:Big fu) (hs:x.length≤1048576):z4m fu x=some x:=by
 have hl:=hs
 unfold z4m
 refine z7L hl hf (fun _=>rfl) ?_ ?_
 ·intro i y out hy d
  have hi:=(List.getElem?_eq_some_iff.1 hy).1
  have hsy:0≤1048576:=Nat.zero_le _
  simp only [z4D,zd hy,bsm,lt_t (show(i:Int)<x.length by omega),if_true,zer hf hsy]
  rw [if_pos (by simp;omega)]
  simp
 ·intro out
  simp [z4D]

theorem zcr {fu:Nat}{x:D.Qb}(hf:Big fu) (hs:D.Qb.sz x≤1048576):z40 fu x=some x:=by
 unfold D.Qb.sz at hs
 unfold z40
 simp only [zaX hf (show x.Data.length≤1048576 by omega),zfD hf (show x.QX.length≤1048576 by omega),bsm]

theorem zfb {fu:Nat}{x:(List D.Qn)}(hf:Big fu) (hs:x.length≤1048576):z6a fu x x=some true:=by
 have hl:=hs
 unfold z6a
 rw [if_neg (by simp)]
 refine z7S (n:=x.length) (t:=()) (by unfold maxLen;omega) hf rfl ?_ ?_
 ·intro i hi
  obtain⟨y,hy⟩:=z5i hi
  have hsy:0≤1048576:=Nat.zero_le _
  simp [z69,zd hy,hi,z2s,zg4 hf hsy]
 ·simp [z69]

theorem zee {fu:Nat}{x:(List D.Qk)}(hf:Big fu) (hs:x.length≤1048576):z4s fu x x=some true:=by
 have hl:=hs
 unfold z4s
 rw [if_neg (by simp)]
 refine z7S (n:=x.length) (t:=()) (by unfold maxLen;omega) hf rfl ?_ ?_
 ·intro i hi
  obtain⟨y,hy⟩:=z5i hi
  have hsy:0≤1048576:=Nat.zero_le _
  simp [z4F,zd hy,hi,z2s,zeJ hf hsy]
 ·simp [z4F]

theorem zcw {fu:Nat}{x:D.Qb}(hf:Big fu) (hs:D.Qb.sz x≤1048576):z45 fu x x=some true:=by
 unfold D.Qb.sz at hs
 simp [z45,z2s,zb1 hf (show x.Data.length≤1048576 by omega),zg5 hf (show x.QX.length≤1048576 by omega)]

theorem zho {fu:Nat}{x:D.Qe}{l:Int}(hf:Big fu) (hw:D.Qe.wf x) (h0:0≤l) (h1:l≤1048576):SzOk (D.Qe.sz x) l (z8h fu x l):=by
 obtain⟨w0,w1,w2,w3,_⟩:=hw
 unfold z8h D.Qe.sz
 refine SzOk.bind (zcs hf w1 h0 (by omega)) rfl fun r1 g1a g1b=>?_
 exact SzOk.same g1a

theorem zhn {fu:Nat}{x:D.Qe}(hf:Big fu) (hs:D.Qe.sz x≤1048576):z8g fu x=some x:=by
 unfold D.Qe.sz at hs
 unfold z8g
 simp only [zcr hf (show D.Qb.sz x.Qz≤1048576 by omega),z6h hf (show 0≤1048576 by exact Nat.zero_le _),z6h hf (show 0≤1048576 by exact Nat.zero_le _),bsm]

theorem zhG {fu:Nat}{x:D.Qe}(hf:Big fu) (hs:D.Qe.sz x≤1048576):z8j fu x x=some true:=by
 unfold D.Qe.sz at hs
 simp [z8j,z2s,zcw hf (show D.Qb.sz x.Qz≤1048576 by omega),z6s hf (show 0≤1048576 by exact Nat.zero_le _),z6s hf (show 0≤1048576 by exact Nat.zero_le _)]

theorem zet {fu:Nat}{x:(List D.Qb)}{l:Int}(hf:Big fu) (hw:WfL D.Qb.wf x) (h0:0≤l) (h1:l≤1048576):SzOk (szL D.Qb.sz x) l (z5c fu x l):=by
 unfold z5c
 generalize hz:w64 (l - (x.length:Int))=z
 refine SzOk.sub2 h0 h1 hw.1 (m:=sumL D.Qb.sz x) rfl hz fun g0 g1=>?_
 refine SzOk.loop hw.1 hf g0 (by omega) (fun _=>rfl) ?_ ?_
 ·intro i y l hy h0 h1
  have hi:=(List.getElem?_eq_some_iff.1 hy).1
  have hwy:=hw.2 y (List.mem_of_getElem? hy)
  obtain⟨r,h2,h3⟩:=zcs hf hwy h0 h1
  simp only [z5k,zd hy,bsm,lt_t (show(i:Int)<x.length by omega),if_true,h2]
  by_cases hlt:r<0
  ·exact .inl (by simp only [lt_t hlt,if_true])
  ·exact .inr ⟨r,by simp only [lt_f hlt,if_false],h3.resolve_left hlt⟩
 ·intro l
  simp [z5k]

theorem zes {fu:Nat}{x:(List D.Qb)}(hf:Big fu) (hs:szL D.Qb.sz x≤1048576):z5b fu x=some x:=by
 have hl:=z2C hs
 unfold z5b
 refine z7L hl hf (fun _=>rfl) ?_ ?_
 ·intro i y out hy d
  have hi:=(List.getElem?_eq_some_iff.1 hy).1
  have hsy:D.Qb.sz y≤1048576:=z2G hs (List.mem_of_getElem? hy)
  simp only [z5j,zd hy,bsm,lt_t (show(i:Int)<x.length by omega),if_true,zcr hf hsy]
  rw [if_pos (by simp;omega)]
  simp
 ·intro out
  simp [z5j]

theorem zeK {fu:Nat}{x:(List D.Qb)}(hf:Big fu) (hs:szL D.Qb.sz x≤1048576):z5f fu x x=some true:=by
 have hl:=z2C hs
 unfold z5f
 rw [if_neg (by simp)]
 refine z7S (n:=x.length) (t:=()) (by unfold maxLen;omega) hf rfl ?_ ?_
 ·intro i hi
  obtain⟨y,hy⟩:=z5i hi
  have hsy:D.Qb.sz y≤1048576:=z2G hs (List.mem_of_getElem? hy)
  simp [z5o,zd hy,hi,z2s,zcw hf hsy]
 ·simp [z5o]

theorem zgz {fu:Nat}{x:(List D.Qe)}{l:Int}(hf:Big fu) (hw:WfL D.Qe.wf x) (h0:0≤l) (h1:l≤1048576):SzOk (szL D.Qe.sz x) l (z7E fu x l):=by
 unfold z7E
 generalize hz:w64 (l - (x.length:Int))=z
 refine SzOk.sub2 h0 h1 hw.1 (m:=sumL D.Qe.sz x) rfl hz fun g0 g1=>?_
 refine SzOk.loop hw.1 hf g0 (by omega) (fun _=>rfl) ?_ ?_
 ·intro i y l hy h0 h1
  have hi:=(List.getElem?_eq_some_iff.1 hy).1
  have hwy:=hw.2 y (List.mem_of_getElem? hy)
  obtain⟨r,h2,h3⟩:=zho hf hwy h0 h1
  simp only [z7m,zd hy,bsm,lt_t (show(i:Int)<x.length by omega),if_true,h2]
  by_cases hlt:r<0
  ·exact .inl (by simp only [lt_t hlt,if_true])
  ·exact .inr ⟨r,by simp only [lt_f hlt,if_false],h3.resolve_left hlt⟩
 ·intro l
  simp [z7m]

theorem zgw {fu:Nat}{x:(List D.Qe)}(hf:Big fu) (hs:szL D.Qe.sz x≤1048576):z7B fu x=some x:=by
 have hl:=z2C hs
 unfold z7B
 refine z7L hl hf (fun _=>rfl) ?_ ?_
 ·intro i y out hy d
  have hi:=(List.getElem?_eq_some_iff.1 hy).1
  have hsy:D.Qe.sz y≤1048576:=z2G hs (List.mem_of_getElem? hy)
  simp only [z7j,zd hy,bsm,lt_t (show(i:Int)<x.length by omega),if_true,zhn hf hsy]
  rw [if_pos (by simp;omega)]
  simp
 ·intro out
  simp [z7j]

theorem zgE {fu:Nat}{x:(List D.Qe)}(hf:Big fu) (hs:szL D.Qe.sz x≤1048576):z7H fu x x=some true:=by
 have hl:=z2C hs
 unfold z7H
 rw [if_neg (by simp)]
 refine z7S (n:=x.length) (t:=()) (by unfold maxLen;omega) hf rfl ?_ ?_
 ·intro i hi
  obtain⟨y,hy⟩:=z5i hi
  have hsy:D.Qe.sz y≤1048576:=z2G hs (List.mem_of_getElem? hy)
  simp [z7p,zd hy,hi,z2s,zhG hf hsy]
 ·simp [z7p]

theorem zia {fu:Nat}{x:D.Qp}{l:Int}(hf:Big fu) (hw:D.Qp.wf x) (h0:0≤l) (h1:l≤1048576):SzOk (D.Qp.sz x) l (z8T fu x l):=by
 obtain⟨w0,w1,w2,_⟩:=hw
 unfold z8T D.Qp.sz
 refine SzOk.bind (zet hf w0 h0 (by omega)) rfl fun r1 g1a g1b=>?_
 refine SzOk.bind (zeV hf w1 g1a (by omega)) rfl fun r2 g2a g2b=>?_
 refine SzOk.bind (zdQ hf w2 g2a (by omega)) rfl fun r3 g3a g3b=>?_
 exact SzOk.same g3a

theorem zi9 {fu:Nat}{x:D.Qp}(hf:Big fu) (hs:D.Qp.sz x≤1048576):z8S fu x=some x:=by
 unfold D.Qp.sz at hs
 unfold z8S
 simp only [zes hf (show szL D.Qb.sz x.Cells≤1048576 by omega),zeU hf (show x.QG.length≤1048576 by omega),zdN hf (show x.Qu.length≤1048576 by omega),bsm]

theorem ziw {fu:Nat}{x:D.Qp}(hf:Big fu) (hs:D.Qp.sz x≤1048576):z8W fu x x=some true:=by
 unfold D.Qp.sz at hs
 simp [z8W,z2s,zeK hf (show szL D.Qb.sz x.Cells≤1048576 by omega),zfb hf (show x.QG.length≤1048576 by omega),zee hf (show x.Qu.length≤1048576 by omega)]

theorem zcC {fu:Nat}{x:(List (List D.Qe))}{l:Int}(hf:Big fu) (hw:WfL (WfL D.Qe.wf) x) (h0:0≤l) (h1:l≤1048576):SzOk (szL (fun x=>szL D.Qe.sz x) x) l (z4O fu x l):=by
 unfold z4O
 generalize hz:w64 (l - (x.length:Int))=z
 refine SzOk.sub2 h0 h1 hw.1 (m:=sumL (fun x=>szL D.Qe.sz x) x) rfl hz fun g0 g1=>?_
 refine SzOk.loop hw.1 hf g0 (by omega) (fun _=>rfl) ?_ ?_
 ·intro i y l hy h0 h1
  have hi:=(List.getElem?_eq_some_iff.1 hy).1
  have hwy:=hw.2 y (List.mem_of_getElem? hy)
  obtain⟨r,h2,h3⟩:=zgz hf hwy h0 h1
  simp only [z6y,zd hy,bsm,lt_t (show(i:Int)<x.length by omega),if_true,h2]
  by_cases hlt:r<0
  ·exact .inl (by simp only [lt_t hlt,if_true])
  ·exact .inr ⟨r,by simp only [lt_f hlt,if_false],h3.resolve_left hlt⟩
 ·intro l
  simp [z6y]

theorem zcB {fu:Nat}{x:(List (List D.Qe))}(hf:Big fu) (hs:szL (fun x=>szL D.Qe.sz x) x≤1048576):z4N fu x=some x:=by
 have hl:=z2C hs
 unfold z4N
 refine z7L hl hf (fun _=>rfl) ?_ ?_
 ·intro i y out hy d
  have hi:=(List.getElem?_eq_some_iff.1 hy).1
  have hsy:szL D.Qe.sz y≤1048576:=z2G hs (List.mem_of_getElem? hy)
  simp only [z6w,zd hy,bsm,lt_t (show(i:Int)<x.length by omega),if_true,zgw hf hsy]
  rw [if_pos (by simp;omega)]
  simp
 ·intro out
  simp [z6w]

theorem zcY {fu:Nat}{x:(List (List D.Qe))}(hf:Big fu) (hs:szL (fun x=>szL D.Qe.sz x) x≤1048576):z4Q fu x x=some true:=by
 have hl:=z2C hs
 unfold z4Q
 rw [if_neg (by simp)]
 refine z7S (n:=x.length) (t:=()) (by unfold maxLen;omega) hf rfl ?_ ?_
 ·intro i hi
  obtain⟨y,hy⟩:=z5i hi
  have hsy:szL D.Qe.sz y≤1048576:=z2G hs (List.mem_of_getElem? hy)
  simp [z6B,zd hy,hi,z2s,zgE hf hsy]
 ·simp [z6B]

theorem zdP {fu:Nat}{x:(List D.Qp)}{l:Int}(hf:Big fu) (hw:WfL D.Qp.wf x) (h0:0≤l) (h1:l≤1048576):SzOk (szL D.Qp.sz x) l (z74 fu x l):=by
 unfold z74
 generalize hz:w64 (l - (x.length:Int))=z
 refine SzOk.sub2 h0 h1 hw.1 (m:=sumL D.Qp.sz x) rfl hz fun g0 g1=>?_
 refine SzOk.loop hw.1 hf g0 (by omega) (fun _=>rfl) ?_ ?_
 ·intro i y l hy h0 h1
  have hi:=(List.getElem?_eq_some_iff.1 hy).1
  have hwy:=hw.2 y (List.mem_of_getElem? hy)
  obtain⟨r,h2,h3⟩:=zia hf hwy h0 h1
  simp only [z83,zd hy,bsm,lt_t (show(i:Int)<x.length by omega),if_true,h2]
  by_cases hlt:r<0
  ·exact .inl (by simp only [lt_t hlt,if_true])
  ·exact .inr ⟨r,by simp only [lt_f hlt,if_false],h3.resolve_left hlt⟩
 ·intro l
  simp [z83]

theorem zdM {fu:Nat}{x:(List D.Qp)}(hf:Big fu) (hs:szL D.Qp.sz x≤1048576):z72 fu x=some x:=by
 have hl:=z2C hs
 unfold z72
 refine z7L hl hf (fun _=>rfl) ?_ ?_
 ·intro i y out hy d
  have hi:=(List.getElem?_eq_some_iff.1 hy).1
  have hsy:D.Qp.sz y≤1048576:=z2G hs (List.mem_of_getElem? hy)
  simp only [z81,zd hy,bsm,lt_t (show(i:Int)<x.length by omega),if_true,zi9 hf hsy]
  rw [if_pos (by simp;omega)]
  simp
 ·intro out
  simp [z81]

theorem zed {fu:Nat}{x:(List D.Qp)}(hf:Big fu) (hs:szL D.Qp.sz x≤1048576):z78 fu x x=some true:=by
 have hl:=z2C hs
 unfold z78
 rw [if_neg (by simp)]
 refine z7S (n:=x.length) (t:=()) (by unfold maxLen;omega) hf rfl ?_ ?_
 ·intro i hi
  obtain⟨y,hy⟩:=z5i hi
  have hsy:D.Qp.sz y≤1048576:=z2G hs (List.mem_of_getElem? hy)
  simp [z84,zd hy,hi,z2s,ziw hf hsy]
 ·simp [z84]

theorem zjA {fu:Nat}{x:D.Qi}{l:Int}(hf:Big fu) (hw:D.Qi.wf x) (h0:0≤l) (h1:l≤1048576):SzOk (D.Qi.sz x) l (z9F fu x l):=by
 obtain⟨w0,w1,_⟩:=hw
 unfold z9F D.Qi.sz
 refine SzOk.bind (zdP hf w0 h0 (by omega)) rfl fun r1 g1a g1b=>?_
 exact SzOk.same g1a

theorem zjy {fu:Nat}{x:D.Qi}(hf:Big fu) (hs:D.Qi.sz x≤1048576):z9D fu x=some x:=by
 unfold D.Qi.sz at hs
 unfold z9D
 simp only [zdM hf (show szL D.Qp.sz x.Qc≤1048576 by omega),z6h hf (show 0≤1048576 by exact Nat.zero_le _),bsm]

theorem zjO {fu:Nat}{x:D.Qi}(hf:Big fu) (hs:D.Qi.sz x≤1048576):z9N fu x x=some true:=by
 unfold D.Qi.sz at hs
 simp [z9N,z2s,zed hf (show szL D.Qp.sz x.Qc≤1048576 by omega),z6s hf (show 0≤1048576 by exact Nat.zero_le _)]

theorem zgA {fu:Nat}{x:D.Qa}{l:Int}(hf:Big fu) (hw:D.Qa.wf x) (h0:0≤l) (h1:l≤1048576):SzOk (D.Qa.sz x) l (z7F fu x l):=by
 obtain⟨w0,w1,w2,w3,w4,_⟩:=hw
 unfold z7F D.Qa.sz
 refine SzOk.bind (zjA hf w0 h0 (by omega)) rfl fun r1 g1a g1b=>?_
 refine SzOk.bind (zcC hf w1 g1a (by omega)) rfl fun r2 g2a g2b=>?_
 refine SzOk.bind (zdo hf w2 g2a (by omega)) rfl fun r3 g3a g3b=>?_
 refine SzOk.bind (zaY hf w3 g3a (by omega)) rfl fun r4 g4a g4b=>?_
 refine SzOk.bind (zaY hf w4 g4a (by omega)) rfl fun r5 g5a g5b=>?_
 exact SzOk.same g5a

theorem zgx {fu:Nat}{x:D.Qa}(hf:Big fu) (hs:D.Qa.sz x≤1048576):z7C fu x=some x:=by
 unfold D.Qa.sz at hs
 unfold z7C
 simp only [zjy hf (show D.Qi.sz x.Qi≤1048576 by omega),zcB hf (show szL (fun x=>szL D.Qe.sz x) x.Qh≤1048576 by omega),zdn hf (show szL (fun x=>x.length) x.Qo≤1048576 by omega),zaX hf (show x.QU.length≤1048576 by omega),zaX hf (show x.QZ.length≤1048576 by omega),bsm]

theorem zdt {fu:Nat}{x:D.Qa}(hf:Big fu) (hs:D.Qa.sz x≤1048576):z36 fu x x=some true:=by
 unfold D.Qa.sz at hs
 simp [z36,z2s,zjO hf (show D.Qi.sz x.Qi≤1048576 by omega),zcY hf (show szL (fun x=>szL D.Qe.sz x) x.Qh≤1048576 by omega),zds hf (show szL (fun x=>x.length) x.Qo≤1048576 by omega),zb1 hf (show x.QU.length≤1048576 by omega),zb1 hf (show x.QZ.length≤1048576 by omega)]

theorem zeQ:Opens Tryz.prog 2 tInt I64:=Opens.int Tryz.underlying2 (by kernel_rfl)
theorem zhA:Opens Tryz.prog 29 ty29 (WfL I64):=Opens.sl Tryz.underlying29 (by kernel_rfl) zeQ
set_option maxRecDepth 100000 in
theorem zdx:Opens Tryz.prog 24 ty24 D.Qf.wf:=Opens.struct (f:=fun c:D.Qf=>(c.Qg,c.Qj,c.Qs,())) Tryz.underlying24 (by kernel_rfl) (OpensF.cons zeQ rfl rfl (OpensF.cons zeQ rfl rfl (OpensF.cons zeQ rfl rfl OpensF.nil))) (fun⟨a0,a1,a2,_⟩=>⟨⟨a0,a1,a2⟩,rfl⟩)
theorem zpi:Opens Tryz.prog 201 zgu (WfL D.Qf.wf):=Opens.sl Tryz.underlying201 (by kernel_rfl) zdx
set_option maxRecDepth 100000 in
theorem zjY:Opens Tryz.prog 203 zgt D.Qb.wf:=Opens.struct (f:=fun c:D.Qb=>(c.Qj,c.QL,c.Value,c.Data,c.QX,())) Tryz.underlying203 (by kernel_rfl) (OpensF.cons zeQ rfl rfl (OpensF.cons zeQ rfl rfl (OpensF.cons zeQ rfl rfl (OpensF.cons zhA rfl rfl (OpensF.cons zpi rfl rfl OpensF.nil))))) (fun⟨a0,a1,a2,a3,a4,_⟩=>⟨⟨a0,a1,a2,a3,a4⟩,rfl⟩)
theorem zpn:Opens Tryz.prog 195 zi4 (WfL D.Qb.wf):=Opens.sl Tryz.underlying195 (by kernel_rfl) zjY
theorem zmy:Opens Tryz.prog 4 tBool fun _=>True:=Opens.bool Tryz.underlying4 (by kernel_rfl)
set_option maxRecDepth 100000 in
theorem zpg:Opens Tryz.prog 288 zkz D.Qn.wf:=Opens.struct (f:=fun c:D.Qn=>(c.Qa0,c.Qa1,c.QV,())) Tryz.underlying288 (by kernel_rfl) (OpensF.cons zmy rfl rfl (OpensF.cons zmy rfl rfl (OpensF.cons zdx rfl rfl OpensF.nil))) (fun⟨a0,a1,a2,_⟩=>⟨⟨a0,a1,a2⟩,rfl⟩)
theorem zpm:Opens Tryz.prog 196 zi3 (WfL D.Qn.wf):=Opens.sl Tryz.underlying196 (by kernel_rfl) zpg
set_option maxRecDepth 100000 in
theorem zpf:Opens Tryz.prog 291 zky D.Qk.wf:=Opens.struct (f:=fun c:D.Qk=>(c.A,c.B,())) Tryz.underlying291 (by kernel_rfl) (OpensF.cons zdx rfl rfl (OpensF.cons zdx rfl rfl OpensF.nil)) (fun⟨a0,a1,_⟩=>⟨⟨a0,a1⟩,rfl⟩)
theorem zpk:Opens Tryz.prog 197 zi2 (WfL D.Qk.wf):=Opens.sl Tryz.underlying197 (by kernel_rfl) zpf
set_option maxRecDepth 100000 in
theorem zpj:Opens Tryz.prog 199 zjs D.Qp.wf:=Opens.struct (f:=fun c:D.Qp=>(c.Cells,c.QG,c.Qu,())) Tryz.underlying199 (by kernel_rfl) (OpensF.cons zpn rfl rfl (OpensF.cons zpm rfl rfl (OpensF.cons zpk rfl rfl OpensF.nil))) (fun⟨a0,a1,a2,_⟩=>⟨⟨a0,a1,a2⟩,rfl⟩)
theorem zmB:Opens Tryz.prog 22 ty22 (WfL D.Qp.wf):=Opens.sl Tryz.underlying22 (by kernel_rfl) zpj
set_option maxRecDepth 100000 in
theorem zqb:Opens Tryz.prog 26 ty26 D.Qi.wf:=Opens.struct (f:=fun c:D.Qi=>(c.Qc,c.Qy,())) Tryz.underlying26 (by kernel_rfl) (OpensF.cons zmB rfl rfl (OpensF.cons zdx rfl rfl OpensF.nil)) (fun⟨a0,a1,_⟩=>⟨⟨a0,a1⟩,rfl⟩)
set_option maxRecDepth 100000 in
theorem zph:Opens Tryz.prog 205 zjr D.Qe.wf:=Opens.struct (f:=fun c:D.Qe=>(c.Qj,c.Qz,c.A,c.B,())) Tryz.underlying205 (by kernel_rfl) (OpensF.cons zeQ rfl rfl (OpensF.cons zjY rfl rfl (OpensF.cons zdx rfl rfl (OpensF.cons zdx rfl rfl OpensF.nil)))) (fun⟨a0,a1,a2,a3,_⟩=>⟨⟨a0,a1,a2,a3⟩,rfl⟩)
theorem zpo:Opens Tryz.prog 141 zjw (WfL D.Qe.wf):=Opens.sl Tryz.underlying141 (by kernel_rfl) zph
theorem zmA:Opens Tryz.prog 27 ty27 (WfL (WfL D.Qe.wf)):=Opens.sl Tryz.underlying27 (by kernel_rfl) zpo
theorem zmz:Opens Tryz.prog 28 ty28 (WfL (WfL I64)):=Opens.sl Tryz.underlying28 (by kernel_rfl) zhA
set_option maxRecDepth 100000 in
theorem zqa:Opens Tryz.prog 31 ty31 D.Qa.wf:=Opens.struct (f:=fun c:D.Qa=>(c.Qi,c.Qh,c.Qo,c.QU,c.QZ,())) Tryz.underlying31 (by kernel_rfl) (OpensF.cons zqb rfl rfl (OpensF.cons zmA rfl rfl (OpensF.cons zmz rfl rfl (OpensF.cons zhA rfl rfl (OpensF.cons zhA rfl rfl OpensF.nil))))) (fun⟨a0,a1,a2,a3,a4,_⟩=>⟨⟨a0,a1,a2,a3,a4⟩,rfl⟩)
end Go.E


namespace Go.E
open Go.RowKit Go.Proofs
set_option linter.unusedSimpArgs false
set_option linter.unusedVariables false

theorem zeO {fu:Nat}{x:(List Bool)}{l:Int}(hf:Big fu) (hw:WfL (fun _=>True) x) (h0:0≤l) (h1:l≤1048576):SzOk (x.length) l (z7O fu x l):=by
 unfold z7O
 generalize hz:w64 (l - (x.length:Int))=z
 exact SzOk.sub2 h0 h1 hw.1 (m:=0) rfl hz fun g0 g1=>SzOk.same g0

theorem zeN {fu:Nat}{x:(List Bool)}(hf:Big fu) (hs:x.length≤1048576):z7N fu x=some x:=by
 have hl:=hs
 unfold z7N
 refine z7L hl hf (fun _=>rfl) ?_ ?_
 ·intro i y out hy d
  have hi:=(List.getElem?_eq_some_iff.1 hy).1
  have hsy:0≤1048576:=Nat.zero_le _
  simp only [z8B,zd hy,bsm,lt_t (show(i:Int)<x.length by omega),if_true]
  rw [if_pos (by simp;omega)]
  simp
 ·intro out
  simp [z8B]

theorem zeR {fu:Nat}{x:(List Bool)}(hf:Big fu) (hs:x.length≤1048576):z7P fu x x=some true:=by
 have hl:=hs
 unfold z7P
 rw [if_neg (by simp)]
 refine z7S (n:=x.length) (t:=()) (by unfold maxLen;omega) hf rfl ?_ ?_
 ·intro i hi
  obtain⟨y,hy⟩:=z5i hi
  have hsy:0≤1048576:=Nat.zero_le _
  simp [z8C,zd hy,hi,z2s]
 ·simp [z8C]

theorem zmx:Opens Tryz.prog 56 ty56 (WfL (fun _=>True)):=Opens.sl Tryz.underlying56 (by kernel_rfl) zmy
end Go.E


namespace Go.E
open Go.RowKit Go.Proofs
set_option linter.unusedSimpArgs false
set_option linter.unusedVariables false

theorem zjz {fu:Nat}{x:D.Qq}{l:Int}(hf:Big fu) (hw:D.Qq.wf x) (h0:0≤l) (h1:l≤1048576):SzOk (D.Qq.sz x) l (z9E fu x l):=by
 obtain⟨w0,w1,w2,w3,w4,_⟩:=hw
 unfold z9E D.Qq.sz
 refine SzOk.bind (zeO hf w0 h0 (by omega)) rfl fun r1 g1a g1b=>?_
 refine SzOk.bind (zdP hf w1 g1a (by omega)) rfl fun r2 g2a g2b=>?_
 refine SzOk.bind (zdo hf w2 g2a (by omega)) rfl fun r3 g3a g3b=>?_
 refine SzOk.bind (zeO hf w3 g3a (by omega)) rfl fun r4 g4a g4b=>?_
 refine SzOk.bind (zcC hf w4 g4a (by omega)) rfl fun r5 g5a g5b=>?_
 exact SzOk.same g5a

theorem zjx {fu:Nat}{x:D.Qq}(hf:Big fu) (hs:D.Qq.sz x≤1048576):z9B fu x=some x:=by
 unfold D.Qq.sz at hs
 unfold z9B
 simp only [zeN hf (show x.QC.length≤1048576 by omega),zdM hf (show szL D.Qp.sz x.Qc≤1048576 by omega),zdn hf (show szL (fun x=>x.length) x.Qo≤1048576 by omega),zeN hf (show x.Qt.length≤1048576 by omega),zcB hf (show szL (fun x=>szL D.Qe.sz x) x.QK≤1048576 by omega),bsm]

theorem zjN {fu:Nat}{x:D.Qq}(hf:Big fu) (hs:D.Qq.sz x≤1048576):z9L fu x x=some true:=by
 unfold D.Qq.sz at hs
 simp [z9L,z2s,zeR hf (show x.QC.length≤1048576 by omega),zed hf (show szL D.Qp.sz x.Qc≤1048576 by omega),zds hf (show szL (fun x=>x.length) x.Qo≤1048576 by omega),zeR hf (show x.Qt.length≤1048576 by omega),zcY hf (show szL (fun x=>szL D.Qe.sz x) x.QK≤1048576 by omega)]

theorem zgy {fu:Nat}{x:D.Qx}{l:Int}(hf:Big fu) (hw:D.Qx.wf x) (h0:0≤l) (h1:l≤1048576):SzOk (D.Qx.sz x) l (z7D fu x l):=by
 obtain⟨w0,w1,_⟩:=hw
 unfold z7D D.Qx.sz
 refine SzOk.bind (zgA hf w0 h0 (by omega)) rfl fun r1 g1a g1b=>?_
 refine SzOk.bind (zjz hf w1 g1a (by omega)) rfl fun r2 g2a g2b=>?_
 exact SzOk.same g2a

theorem zgv {fu:Nat}{x:D.Qx}(hf:Big fu) (hs:D.Qx.sz x≤1048576):z35 fu x=some x:=by
 unfold D.Qx.sz at hs
 unfold z35
 simp only [zgx hf (show D.Qa.sz x.Qa≤1048576 by omega),zjx hf (show D.Qq.sz x.Qq≤1048576 by omega),bsm]

theorem zgD {fu:Nat}{x:D.Qx}(hf:Big fu) (hs:D.Qx.sz x≤1048576):z7G fu x x=some true:=by
 unfold D.Qx.sz at hs
 simp [z7G,z2s,zdt hf (show D.Qa.sz x.Qa≤1048576 by omega),zjN hf (show D.Qq.sz x.Qq≤1048576 by omega)]

set_option maxRecDepth 100000 in
theorem zq9:Opens Tryz.prog 67 ty67 D.Qq.wf:=Opens.struct (f:=fun c:D.Qq=>(c.QC,c.Qc,c.Qo,c.Qt,c.QK,())) Tryz.underlying67 (by kernel_rfl) (OpensF.cons zmx rfl rfl (OpensF.cons zmB rfl rfl (OpensF.cons zmz rfl rfl (OpensF.cons zmx rfl rfl (OpensF.cons zmA rfl rfl OpensF.nil))))) (fun⟨a0,a1,a2,a3,a4,_⟩=>⟨⟨a0,a1,a2,a3,a4⟩,rfl⟩)
set_option maxRecDepth 100000 in
theorem zq8:Opens Tryz.prog 69 ty69 D.Qx.wf:=Opens.struct (f:=fun c:D.Qx=>(c.Qa,c.Qq,())) Tryz.underlying69 (by kernel_rfl) (OpensF.cons zqa rfl rfl (OpensF.cons zq9 rfl rfl OpensF.nil)) (fun⟨a0,a1,_⟩=>⟨⟨a0,a1⟩,rfl⟩)
end Go.E


