/- strconv.FormatInt at base 10 by the library's own contract (laid in plain words); the table that it reads stays as it is. Conditions: the table is laid (Tab). -/
import Derived.Shelf.LaysM
import Derived.Shelf.Strconv.Itoa4
import Derived.Lib.ItoaLen
import Derived.Test.YtngggnjnenfgbaaGreatDoorLinkT
namespace Go.Proofs
open Go.Shelf
def Tryz.laysM173_ren:Go.Shelf.Ren:=⟨fun | 173=>99 | 246=>117 | 283=>126 | 284=>127 | 285=>128 | 286=>129 | 129=>133 | 317=>132 | 318=>134 | 319=>135 | 320=>136 | 337=>137 | 338=>138 | n=>n,fun | 2=>2 | 3=>3 | 9=>9 | 4=>4 | 171=>164 | 0=>0 | 53=>165 | 37=>144 | 5=>5 | 173=>168 | 212=>172 | 51=>173 | 20=>20 | 213=>174 | 46=>176 | 232=>179 | 233=>180 | n=>n,fun | 17=>0 | 18=>1 | 19=>2 | n=>n⟩
theorem Tryz.laysM173:Go.Proofs.LaysM.n173 Tryz.prog Tryz.laysM173_ren:={
  mixed:=by kernel_rfl
  f129:=Tryz.func133.trans (congrArg some (by kernel_rfl))
  f173:=Tryz.func99.trans (congrArg some (by kernel_rfl))
  f246:=Tryz.func117.trans (congrArg some (by kernel_rfl))
  f283:=Tryz.func126.trans (congrArg some (by kernel_rfl))
  f284:=Tryz.func127.trans (congrArg some (by kernel_rfl))
  f285:=Tryz.func128.trans (congrArg some (by kernel_rfl))
  f286:=Tryz.func129.trans (congrArg some (by kernel_rfl))
  f317:=Tryz.func132.trans (congrArg some (by kernel_rfl))
  f318:=Tryz.func134.trans (congrArg some (by kernel_rfl))
  f319:=Tryz.func135.trans (congrArg some (by kernel_rfl))
  f320:=Tryz.func136.trans (congrArg some (by kernel_rfl))
  f337:=Tryz.func137.trans (congrArg some (by kernel_rfl))
  f338:=Tryz.func138.trans (congrArg some (by kernel_rfl))
  t0:=Tryz.underlying0
  a0:=Tryz.isAgg0
  z0:=Tryz.sizeOf0
  v0:=Tryz.zeroValue0
  t2:=Tryz.underlying2
  a2:=Tryz.isAgg2
  z2:=Tryz.sizeOf2
  v2:=Tryz.zeroValue2
  t3:=Tryz.underlying3
  a3:=Tryz.isAgg3
  z3:=Tryz.sizeOf3
  v3:=Tryz.zeroValue3
  t4:=Tryz.underlying4
  a4:=Tryz.isAgg4
  z4:=Tryz.sizeOf4
  v4:=Tryz.zeroValue4
  t5:=Tryz.underlying5
  a5:=Tryz.isAgg5
  z5:=Tryz.sizeOf5
  v5:=Tryz.zeroValue5
  t9:=Tryz.underlying9
  a9:=Tryz.isAgg9
  z9:=Tryz.sizeOf9
  v9:=Tryz.zeroValue9
  t20:=Tryz.underlying20
  a20:=Tryz.isAgg20
  z20:=Tryz.sizeOf20
  v20:=Tryz.zeroValue20
  t37:=Tryz.underlying144
  a37:=Tryz.isAgg144
  z37:=Tryz.sizeOf144
  v37:=Tryz.zeroValue144
  t46:=Tryz.underlying176
  a46:=Tryz.isAgg176
  z46:=Tryz.sizeOf176
  v46:=Tryz.zeroValue176
  t51:=Tryz.underlying173
  a51:=Tryz.isAgg173
  z51:=Tryz.sizeOf173
  v51:=Tryz.zeroValue173
  t53:=Tryz.underlying165
  a53:=Tryz.isAgg165
  z53:=Tryz.sizeOf165
  v53:=Tryz.zeroValue165
  t171:=Tryz.underlying164
  a171:=Tryz.isAgg164
  z171:=Tryz.sizeOf164
  v171:=Tryz.zeroValue164
  t173:=Tryz.underlying168
  a173:=Tryz.isAgg168
  z173:=Tryz.sizeOf168
  v173:=Tryz.zeroValue168
  t212:=Tryz.underlying172
  a212:=Tryz.isAgg172
  z212:=Tryz.sizeOf172
  v212:=Tryz.zeroValue172
  t213:=Tryz.underlying174
  a213:=Tryz.isAgg174
  z213:=Tryz.sizeOf174
  t232:=Tryz.underlying179
  a232:=Tryz.isAgg179
  z232:=Tryz.sizeOf179
  v232:=Tryz.zeroValue179
  t233:=Tryz.underlying180
  a233:=Tryz.isAgg180
  z233:=Tryz.sizeOf180
  v233:=Tryz.zeroValue180
  g17:=by kernel_rfl
  g18:=by kernel_rfl
  g19:=by kernel_rfl
  i0:=by kernel_rfl
  i2:=by kernel_rfl
  i3:=by kernel_rfl
  i4:=by kernel_rfl
  i5:=by kernel_rfl
  i9:=by kernel_rfl
  i20:=by kernel_rfl
  i37:=by kernel_rfl
  i46:=by kernel_rfl
  i51:=by kernel_rfl
  i53:=by kernel_rfl
  i171:=by kernel_rfl
  i173:=by kernel_rfl
  i212:=by kernel_rfl
  i232:=by kernel_rfl
  i233:=by kernel_rfl
  m17:=by kernel_rfl
  m18:=by kernel_rfl
  m19:=by kernel_rfl }
end Go.Proofs
namespace Go.E
open Go.RowKit Go.Proofs
set_option linter.unusedVariables false
set_option linter.unusedSimpArgs false

def Tab (w:World):Prop:=Lib.TabIs Tryz.prog w "internal/strconv.uint64pow10" .u64 Lib.pow10Tab

theorem Tab.ext {B C:Base}(he:Ext B C) (h:Tab B.W):Tab C.W:=by
  unfold Tab Lib.TabIs World.var? at h ⊢
  obtain⟨g,hg,hv⟩:=Option.bind_eq_some_iff.1 h
  rw [hg]
  show(match C.W.heap[g]? with | some (.cells cs _ _)=>some cs | _=>none)=_
  have hl:¬ B.fr g:=by
    rintro(h1 | h1)
    · rw [Array.getElem?_eq_none h1] at hv;cases hv
    · rcases Nat.lt_or_ge g B.W.heap.size with h2 | h2
      · rw [B.gone g h1 h2] at hv
        simp [Lib.pow10Tab] at hv
      · rw [Array.getElem?_eq_none h2] at hv;cases hv
  rw [he.same hl]
  exact hv

theorem Ext.grown (w:World) (k:Nat) (os:Array Obj):Ext w (Base.of (Sort.grow (w.drewN k) os)):=
  Ext.of_below ⟨rfl,rfl,rfl,by show _≤(w.heap++os).size;simp,fun j hj=>by show(w.heap++os)[j]? = _;rw [Array.getElem?_append_left hj]⟩

def z36 (fuel:Nat) (x0 x1:Int):Option ByteArray:=if x1=10∧-9223372036854775808≤x0∧x0≤9223372036854775807 then some ⟨(Lib.itoa x0).toArray⟩ else none
theorem zbY:Enters Tryz.prog 99:=⟨_,_,Tryz.func99,rfl,by kernel_rfl⟩
theorem z6b {W:Base}{w:World}(hE:Ext W w) (hT:Tab W){x0 x1:Int}{fuel:Nat}{r:ByteArray}(hm:z36 fuel x0 x1=some r):
    Calls Tryz.prog 99 ⟨[.int .i64 x0,.int .i64 x1]⟩ w (Ret fun v w8=>v=.string r∧St w w8 []):=by
  unfold z36 at hm
  split at hm
  · rename_i hc
    obtain⟨rfl,h0,h1⟩:=hc
    cases hm
    refine(Any.strconv_FormatInt_10 Tryz.laysM173 x0 h0 h1 w (Tab.ext hE hT)).mono ?_
    rintro e w' ⟨rfl,k,os,rfl⟩
    exact⟨rfl,Ext.grown w k os,trivial⟩
  · cases hm
end Go.E


