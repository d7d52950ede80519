/- slices.SortFunc at the traversals: an order of lists and numbers, and the function by the library's contract. Conditions: the comparison parts any two elements. -/
import Derived.Test.YtfndicpnccabkaaGreatQB
import Derived.Test.YtfndicpnccabkaaGreatFF
import Derived.Shelf.SlGeneric
import Derived.Ground.SlsfProg
import Derived.Shelf.SlSortCmp.WholeK
import Derived.Shelf.SlSortCmp.NoneTotal
set_option linter.unusedVariables false
set_option linter.unusedSimpArgs false
namespace Go.Proofs
open Go.Shelf
def Tryz.laysSlF6_f204_ren:Go.Shelf.Ren:=⟨fun | 6=>204 | 15=>237 | 14=>236 | 28=>257 | 29=>258 | 20=>249 | 21=>250 | 22=>251 | 23=>252 | 24=>253 | 25=>254 | 26=>255 | 27=>256 | 46=>268 | 47=>269 | 48=>270 | 49=>271 | 50=>272 | 57=>276 | n=>n,fun | 22=>280 | 24=>283 | 25=>289 | 3=>3 | 39=>310 | 0=>0 | 53=>322 | 55=>324 | 4=>4 | 46=>315 | 45=>314 | 50=>319 | 5=>5 | 9=>9 | 66=>330 | 70=>334 | 76=>338 | 77=>339 | n=>n,fun | n=>n⟩
theorem Tryz.laysSlF6_f204:Go.Proofs.SlLaysF0.n6 Tryz.prog Tryz.laysSlF6_f204_ren:={
 mixed:=by kernel_rfl
 f6:=⟨Tryz.f204.name,by decide,Tryz.func204.trans (congrArg some (by kernel_rfl))⟩
 f14:=⟨Tryz.f236.name,by decide,Tryz.func236.trans (congrArg some (by kernel_rfl))⟩
 f15:=Tryz.func237.trans (congrArg some (by kernel_rfl))
 f20:=⟨Tryz.f249.name,by decide,Tryz.func249.trans (congrArg some (by kernel_rfl))⟩
 f21:=⟨Tryz.f250.name,by decide,Tryz.func250.trans (congrArg some (by kernel_rfl))⟩
 f22:=⟨Tryz.f251.name,by decide,Tryz.func251.trans (congrArg some (by kernel_rfl))⟩
 f23:=⟨Tryz.f252.name,by decide,Tryz.func252.trans (congrArg some (by kernel_rfl))⟩
 f24:=⟨Tryz.f253.name,by decide,Tryz.func253.trans (congrArg some (by kernel_rfl))⟩
 f25:=⟨Tryz.f254.name,by decide,Tryz.func254.trans (congrArg some (by kernel_rfl))⟩
 f26:=⟨Tryz.f255.name,by decide,Tryz.func255.trans (congrArg some (by kernel_rfl))⟩
 f27:=⟨Tryz.f256.name,by decide,Tryz.func256.trans (congrArg some (by kernel_rfl))⟩
 f28:=Tryz.func257.trans (congrArg some (by kernel_rfl))
 f29:=Tryz.func258.trans (congrArg some (by kernel_rfl))
 f46:=⟨Tryz.f268.name,by decide,Tryz.func268.trans (congrArg some (by kernel_rfl))⟩
 f47:=Tryz.func269.trans (congrArg some (by kernel_rfl))
 f48:=Tryz.func270.trans (congrArg some (by kernel_rfl))
 f49:=⟨Tryz.f271.name,by decide,Tryz.func271.trans (congrArg some (by kernel_rfl))⟩
 f50:=⟨Tryz.f272.name,by decide,Tryz.func272.trans (congrArg some (by kernel_rfl))⟩
 f57:=⟨Tryz.f276.name,by decide,Tryz.func276.trans (congrArg some (by kernel_rfl))⟩
 t0:=Tryz.underlying0
 a0:=Tryz.isAgg0
 z0:=Tryz.sizeOf0
 v0:=Tryz.zeroValue0
 t3:=Tryz.underlying3
 a3:=Tryz.isAgg3
 z3:=Tryz.sizeOf3
 v3:=Tryz.zeroValue3
 t4:=Tryz.underlying4
 a4:=Tryz.isAgg4
 z4:=Tryz.sizeOf4
 v4:=Tryz.zeroValue4
 t5:=Tryz.underlying5
 a5:=Tryz.isAgg5
 z5:=Tryz.sizeOf5
 v5:=Tryz.zeroValue5
 t9:=Tryz.underlying9
 a9:=Tryz.isAgg9
 z9:=Tryz.sizeOf9
 v9:=Tryz.zeroValue9
 t22:=Tryz.underlying280
 a22:=Tryz.isAgg280
 z22:=Tryz.sizeOf280
 v22:=Tryz.zeroValue280
 t25:=Tryz.underlying289
 a25:=Tryz.isAgg289
 z25:=Tryz.sizeOf289
 v25:=Tryz.zeroValue289
 t39:=Tryz.underlying310
 a39:=Tryz.isAgg310
 z39:=Tryz.sizeOf310
 v39:=Tryz.zeroValue310
 t45:=Tryz.underlying314
 a45:=Tryz.isAgg314
 z45:=Tryz.sizeOf314
 v45:=Tryz.zeroValue314
 t46:=Tryz.underlying315
 a46:=Tryz.isAgg315
 z46:=Tryz.sizeOf315
 v46:=Tryz.zeroValue315
 t50:=Tryz.underlying319
 a50:=Tryz.isAgg319
 z50:=Tryz.sizeOf319
 v50:=Tryz.zeroValue319
 t53:=Tryz.underlying322
 a53:=Tryz.isAgg322
 z53:=Tryz.sizeOf322
 v53:=Tryz.zeroValue322
 t55:=Tryz.underlying324
 a55:=Tryz.isAgg324
 z55:=Tryz.sizeOf324
 v55:=Tryz.zeroValue324
 t66:=Tryz.underlying330
 a66:=Tryz.isAgg330
 z66:=Tryz.sizeOf330
 v66:=Tryz.zeroValue330
 t70:=Tryz.underlying334
 a70:=Tryz.isAgg334
 z70:=Tryz.sizeOf334
 v70:=Tryz.zeroValue334
 t76:=Tryz.underlying338
 a76:=Tryz.isAgg338
 z76:=Tryz.sizeOf338
 v76:=Tryz.zeroValue338
 t77:=Tryz.underlying339
 a77:=Tryz.isAgg339
 z77:=Tryz.sizeOf339
 v77:=Tryz.zeroValue339 }
end Go.Proofs
namespace Go.E
open Go.RowKit Go.Proofs Go.Sort


structure Good {α:Type}(f:α→α→Int):Prop where
 neg:∀ x y,f y x = - f x y
 le:∀ x y z,f x y≤0→f y z≤0→f x z≤0
theorem Good.swo {α:Type}{f:α→α→Int}(h:Good f):SWO (ltOf f) where
 irrefl x:=by
  have:=h.neg x x
  simp only[ltOf,decide_eq_false_iff_not];omega
 trans x y z h1 h2:=by
  simp only[ltOf,decide_eq_true_eq] at *
  have a:=h.le x y z (by omega) (by omega)
  have b:=h.neg x z
  have c:=h.neg x y
  rcases Int.lt_or_eq_of_le a with d | d
  ·exact d
  ·have:=h.le y z x (by omega) (by omega)
   omega
 ntrans x y z h1 h2:=by
  simp only[ltOf,decide_eq_false_iff_not] at *
  have a:=h.le z y x (by have:=h.neg y z;omega) (by have:=h.neg x y;omega)
  have:=h.neg x z
  omega
theorem Good.lex {α:Type}{f g:α→α→Int}(hf:Good f)(hg:Good g):Good (fun x y=>if f x y≠0 then f x y else g x y) where
 neg x y:=by
  have a:=hf.neg x y
  have b:=hg.neg x y
  simp only[a]
  by_cases h:f x y=0
  ·rw[h];simpa using b
  ·rw[if_pos h,if_pos (by omega)]
 le x y z h1 h2:=by
  have a1:=hf.neg x y
  have a2:=hf.neg y z
  have a3:=hf.neg x z
  have a4:=hf.le x y z
  have a5:=hf.le y z x
  have a6:=hf.le z x y
  have a7:=hf.le z y x
  have b:=hg.le x y z
  split at h1<;>split at h2<;>split<;>omega
theorem Good.on {α β:Type}{f:α→α→Int}(h:Good f)(p:β→α):Good (fun x y=>f (p x) (p y)):=⟨fun x y=>h.neg _ _,fun x y z=>h.le _ _ _⟩
def zkb (a b:Int):Int:=if a<b then -1 else if a>b then 1 else 0
theorem zaB:Good zkb where
 neg x y:=by unfold zkb;split<;>split<;>(try split)<;>(try split)<;>omega
 le x y z h1 h2:=by
  unfold zkb at *
  split at h1<;>split at h2<;>(try split at h1)<;>(try split at h2)<;>split<;>(try split)<;>omega
def zd4:L9→L9→Int
 | [],[]=>0
 | [],_::_=>-1
 | _::_,[]=>1
 | a::l,b::m=>if zkb a b≠0 then zkb a b else zd4 l m
theorem zgr:∀ l m,zd4 m l = - zd4 l m
 | [],[]=>rfl
 | [],_::_=>rfl
 | _::_,[]=>rfl
 | a::l,b::m=>by
  have h:=zgr l m
  have a1:=zaB.neg a b
  simp only[zd4]
  by_cases e:zkb a b=0
  ·rw[if_neg (by omega),if_neg (by omega)];exact h
  ·rw[if_pos (by omega),if_pos (by omega)];exact a1
theorem zmE:∀ l m n,zd4 l m≤0→zd4 m n≤0→zd4 l n≤0
 | [],[],[],_,_=>by simp[zd4]
 | [],_,_::_,_,_=>by simp[zd4]
 | [],_::_,[],_,_=>by simp[zd4]
 | _::_,[],_,h,_=>by simp[zd4] at h
 | _::_,_::_,[],_,h=>by simp[zd4] at h
 | a::l,b::m,c::n,h1,h2=>by
  have h:=zmE l m n
  have a1:=zaB.neg a b
  have a2:=zaB.neg b c
  have a3:=zaB.neg a c
  have a4:=zaB.le a b c
  have a5:=zaB.le b c a
  have a6:=zaB.le c a b
  have a7:=zaB.le c b a
  simp only[zd4] at *
  split at h1<;>split at h2<;>split<;>omega
theorem zuJ:Good zd4:=⟨zgr,zmE⟩
def cfT (x y:QB):Int:=if zd4 x.code y.code≠0 then zd4 x.code y.code else zkb x.Qa1 y.Qa1
theorem zbR:Good cfT:=(zuJ.on QB.code).lex (zaB.on QB.Qa1)

def zv (fu:Nat)(x0:LL):Option LL:=
 if x0.length≤4294967296∧x0.Pairwise (fun x y=>¬ (ltOf cfT x y=false∧ltOf cfT y x=false))∧∀ x∈x0,∀ y∈x0,z1A fu x y=some (cfT x y) then some (x0.mergeSort fun x y=>!(ltOf cfT) y x) else none
theorem ztz:EN 204:=en Tryz.func204
theorem z5t {W:Base}{w:World}{RR:List Res}{o:Option Addr}{q:Nat}{x0:LL}(hS:St W w (ow zqD o x0 q::RR)){fu:Nat}{r:LL}(hm:zv fu x0=some r):
  Calls Tryz.prog 204 ⟨[sl o x0 q,.func (.func 205) #[] #[]]⟩ w (Ret fun v w8=>v=.tuple ⟨[]⟩∧St W w8 (Own zqD [sl o x0 q] r::RR)):=by
 unfold zv at hm
 split at hm
 ·rename_i h
  obtain⟨h1,h2,h3⟩:=h
  cases hm
  exact zvg (U:=zfi) Tryz.laysSlF6_f204 (by decide) (fun w=>Tryz.isAgg283 w) (fun w=>Tryz.sizeOf283 w) (fun G w=>zne zty G) zbR.swo (fun w=>⟨trivial,trivial,trivial,trivial⟩) hS h1 h2
   (by intro W1 w1 hE c0 c1 x y hx hy ha hb;exact zbu hE ha hb (h3 _ hx _ hy))
 ·cases hm
end Go.E



