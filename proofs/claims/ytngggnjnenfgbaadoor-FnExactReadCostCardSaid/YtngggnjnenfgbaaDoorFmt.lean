/- strconv.FormatInt at base 10 by the library's own contract (laid in plain words); the table that it reads stays as it is. Conditions: the table is laid (Tab). -/
import Derived.Shelf.LaysM
import Derived.Shelf.Strconv.Itoa4
import Derived.Lib.ItoaLen
import Derived.Test.YtngggnjnenfgbaaDoorLinkT
namespace Go.Proofs
open Go.Shelf
def Tryd.laysM173_ren:Go.Shelf.Ren:=⟨fun | 173=>66 | 246=>81 | 283=>87 | 284=>88 | 285=>89 | 286=>90 | 129=>92 | 317=>91 | 318=>93 | 319=>94 | 320=>95 | 337=>96 | 338=>97 | n=>n,fun | 2=>2 | 3=>3 | 9=>9 | 4=>4 | 171=>132 | 0=>0 | 53=>133 | 37=>114 | 5=>5 | 173=>136 | 212=>140 | 51=>141 | 20=>20 | 213=>142 | 46=>144 | 232=>147 | 233=>148 | n=>n,fun | 17=>0 | 18=>1 | 19=>2 | n=>n⟩
theorem Tryd.laysM173:Go.Proofs.LaysM.n173 Tryd.prog Tryd.laysM173_ren:={
  mixed:=by kernel_rfl
  f129:=Tryd.func92.trans (congrArg some (by kernel_rfl))
  f173:=Tryd.func66.trans (congrArg some (by kernel_rfl))
  f246:=Tryd.func81.trans (congrArg some (by kernel_rfl))
  f283:=Tryd.func87.trans (congrArg some (by kernel_rfl))
  f284:=Tryd.func88.trans (congrArg some (by kernel_rfl))
  f285:=Tryd.func89.trans (congrArg some (by kernel_rfl))
  f286:=Tryd.func90.trans (congrArg some (by kernel_rfl))
  f317:=Tryd.func91.trans (congrArg some (by kernel_rfl))
  f318:=Tryd.func93.trans (congrArg some (by kernel_rfl))
  f319:=Tryd.func94.trans (congrArg some (by kernel_rfl))
  f320:=Tryd.func95.trans (congrArg some (by kernel_rfl))
  f337:=Tryd.func96.trans (congrArg some (by kernel_rfl))
  f338:=Tryd.func97.trans (congrArg some (by kernel_rfl))
  t0:=Tryd.underlying0
  a0:=Tryd.isAgg0
  z0:=Tryd.sizeOf0
  v0:=Tryd.zeroValue0
  t2:=Tryd.underlying2
  a2:=Tryd.isAgg2
  z2:=Tryd.sizeOf2
  v2:=Tryd.zeroValue2
  t3:=Tryd.underlying3
  a3:=Tryd.isAgg3
  z3:=Tryd.sizeOf3
  v3:=Tryd.zeroValue3
  t4:=Tryd.underlying4
  a4:=Tryd.isAgg4
  z4:=Tryd.sizeOf4
  v4:=Tryd.zeroValue4
  t5:=Tryd.underlying5
  a5:=Tryd.isAgg5
  z5:=Tryd.sizeOf5
  v5:=Tryd.zeroValue5
  t9:=Tryd.underlying9
  a9:=Tryd.isAgg9
  z9:=Tryd.sizeOf9
  v9:=Tryd.zeroValue9
  t20:=Tryd.underlying20
  a20:=Tryd.isAgg20
  z20:=Tryd.sizeOf20
  v20:=Tryd.zeroValue20
  t37:=Tryd.underlying114
  a37:=Tryd.isAgg114
  z37:=Tryd.sizeOf114
  v37:=Tryd.zeroValue114
  t46:=Tryd.underlying144
  a46:=Tryd.isAgg144
  z46:=Tryd.sizeOf144
  v46:=Tryd.zeroValue144
  t51:=Tryd.underlying141
  a51:=Tryd.isAgg141
  z51:=Tryd.sizeOf141
  v51:=Tryd.zeroValue141
  t53:=Tryd.underlying133
  a53:=Tryd.isAgg133
  z53:=Tryd.sizeOf133
  v53:=Tryd.zeroValue133
  t171:=Tryd.underlying132
  a171:=Tryd.isAgg132
  z171:=Tryd.sizeOf132
  v171:=Tryd.zeroValue132
  t173:=Tryd.underlying136
  a173:=Tryd.isAgg136
  z173:=Tryd.sizeOf136
  v173:=Tryd.zeroValue136
  t212:=Tryd.underlying140
  a212:=Tryd.isAgg140
  z212:=Tryd.sizeOf140
  v212:=Tryd.zeroValue140
  t213:=Tryd.underlying142
  a213:=Tryd.isAgg142
  z213:=Tryd.sizeOf142
  t232:=Tryd.underlying147
  a232:=Tryd.isAgg147
  z232:=Tryd.sizeOf147
  v232:=Tryd.zeroValue147
  t233:=Tryd.underlying148
  a233:=Tryd.isAgg148
  z233:=Tryd.sizeOf148
  v233:=Tryd.zeroValue148
  g17:=by kernel_rfl
  g18:=by kernel_rfl
  g19:=by kernel_rfl
  i0:=by kernel_rfl
  i2:=by kernel_rfl
  i3:=by kernel_rfl
  i4:=by kernel_rfl
  i5:=by kernel_rfl
  i9:=by kernel_rfl
  i20:=by kernel_rfl
  i37:=by kernel_rfl
  i46:=by kernel_rfl
  i51:=by kernel_rfl
  i53:=by kernel_rfl
  i171:=by kernel_rfl
  i173:=by kernel_rfl
  i212:=by kernel_rfl
  i232:=by kernel_rfl
  i233:=by kernel_rfl
  m17:=by kernel_rfl
  m18:=by kernel_rfl
  m19:=by kernel_rfl }
end Go.Proofs
namespace Go.E
open Go.RowKit Go.Proofs
set_option linter.unusedVariables false
set_option linter.unusedSimpArgs false

def Tab (w:World):Prop:=Lib.TabIs Tryd.prog w "internal/strconv.uint64pow10" .u64 Lib.pow10Tab

theorem Tab.ext {B C:Base}(he:Ext B C) (h:Tab B.W):Tab C.W:=by
  unfold Tab Lib.TabIs World.var? at h ⊢
  obtain⟨g,hg,hv⟩:=Option.bind_eq_some_iff.1 h
  rw [hg]
  show(match C.W.heap[g]? with | some (.cells cs _ _)=>some cs | _=>none)=_
  have hl:¬ B.fr g:=by
    rintro(h1 | h1)
    · rw [Array.getElem?_eq_none h1] at hv;cases hv
    · rcases Nat.lt_or_ge g B.W.heap.size with h2 | h2
      · rw [B.gone g h1 h2] at hv
        simp [Lib.pow10Tab] at hv
      · rw [Array.getElem?_eq_none h2] at hv;cases hv
  rw [he.same hl]
  exact hv

theorem Ext.grown (w:World) (k:Nat) (os:Array Obj):Ext w (Base.of (Sort.grow (w.drewN k) os)):=
  Ext.of_below ⟨rfl,rfl,rfl,by show _≤(w.heap++os).size;simp,fun j hj=>by show(w.heap++os)[j]? = _;rw [Array.getElem?_append_left hj]⟩

def z2J (fuel:Nat) (x0 x1:Int):Option ByteArray:=if x1=10∧-9223372036854775808≤x0∧x0≤9223372036854775807 then some ⟨(Lib.itoa x0).toArray⟩ else none
theorem zak:Enters Tryd.prog 66:=⟨_,_,Tryd.func66,rfl,by kernel_rfl⟩
theorem z5e {W:Base}{w:World}(hE:Ext W w) (hT:Tab W){x0 x1:Int}{fuel:Nat}{r:ByteArray}(hm:z2J fuel x0 x1=some r):
    Calls Tryd.prog 66 ⟨[.int .i64 x0,.int .i64 x1]⟩ w (Ret fun v w8=>v=.string r∧St w w8 []):=by
  unfold z2J at hm
  split at hm
  · rename_i hc
    obtain⟨rfl,h0,h1⟩:=hc
    cases hm
    refine(Any.strconv_FormatInt_10 Tryd.laysM173 x0 h0 h1 w (Tab.ext hE hT)).mono ?_
    rintro e w' ⟨rfl,k,os,rfl⟩
    exact⟨rfl,Ext.grown w k os,trivial⟩
  · cases hm
end Go.E


