/- Models of functions and proofs that the code runs as they say (written by program). Conditions: the model gives a value. -/
import Derived.Test.YtijgffjimnbcpaaGreatFVb
import Derived.Test.YtijgffjimnbcpaaGreatMixed
namespace Go.E
open Go.RowKit Go.Proofs
set_option linter.unusedVariables false
set_option linter.unusedSimpArgs false
set_option maxHeartbeats 2000000
set_option maxRecDepth 100000

theorem zc1:Enters Tryz.prog 132:=⟨_,_,Tryz.func132,rfl,by kernel_rfl⟩
def z3O (fuel:Nat) (x0:(List Int)) (x1:Int):Option (Int):=(if(decide ((w64 (x1 - (x0.length:Int)))<0))=true then some (-1) else some (w64 (x1 - (x0.length:Int))))

theorem laws_szInt64S_ok {W w:World}(hE:Ext W w){d:Option Addr}{h:Nat}{x0:(List Int)}{x1:Int}(o:ty80.ro W [sl d x0 h] x0){fuel:Nat}{r:Int}(hm:z3O fuel x0 x1=some r):
  Calls Tryz.prog 132 ⟨[sl d x0 h,.int .i64 x1]⟩ w (Ret fun v w8=>v=.int .i64 r∧St w w8 []):=by
 refine into Tryz.func132 12 _ ?_;unfold z3O at hm;have hS:=St.start w;refine sq<|rg<|rr 1 ?_;refine rn<|sq<|rg<|rr 5 ?_;refine rn<|sq<|sq<|rg<|rr 2 ?_;refine rn<|ci hm (fun hm=>?_) (fun hm=>?_)
 ·refine sq<|rg<|rr 1 ?_;refine rn<|rt ?_;cases hm;exact⟨_,.cons (.tmp rfl) .nil,rfl,hS⟩
 ·refine sp<|sq<|rg<|rr 2 ?_;refine rn<|rt ?_;cases hm;exact⟨_,.cons (.tmp rfl) .nil,rfl,hS⟩

theorem zeC:Enters Tryz.prog 159:=⟨_,_,Tryz.func159,rfl,by kernel_rfl⟩
def z5m (fuel:Nat) (x0:(List D.Port)) (x1:Int):Option (Int):=(if(decide ((w64 (x1 - (x0.length:Int)))<0))=true then some (-1) else some (w64 (x1 - (x0.length:Int))))

theorem laws_szPortS_ok {W w:World}(hE:Ext W w){d:Option Addr}{h:Nat}{x0:(List D.Port)}{x1:Int}(o:zb2.ro W [sl d x0 h] x0){fuel:Nat}{r:Int}(hm:z5m fuel x0 x1=some r):
  Calls Tryz.prog 159 ⟨[sl d x0 h,.int .i64 x1]⟩ w (Ret fun v w8=>v=.int .i64 r∧St w w8 []):=by
 refine into Tryz.func159 12 _ ?_;unfold z5m at hm;have hS:=St.start w;refine sq<|rg<|rr 1 ?_;refine rn<|sq<|rg<|rr 5 ?_;refine rn<|sq<|sq<|rg<|rr 2 ?_;refine rn<|ci hm (fun hm=>?_) (fun hm=>?_)
 ·refine sq<|rg<|rr 1 ?_;refine rn<|rt ?_;cases hm;exact⟨_,.cons (.tmp rfl) .nil,rfl,hS⟩
 ·refine sp<|sq<|rg<|rr 2 ?_;refine rn<|rt ?_;cases hm;exact⟨_,.cons (.tmp rfl) .nil,rfl,hS⟩

theorem zff:Enters Tryz.prog 102:=⟨_,_,Tryz.func102,rfl,by kernel_rfl⟩
def z5p (fuel:Nat) (x0:D.Agent) (x1:Int):Option (Int):=((z3O fuel x0.Data x1).bind fun d=>(if(decide (d<0))=true then some (-1) else((z5m fuel x0.Ports d).bind fun h=>(if(decide (h<0))=true then some (-1) else some h))))

theorem laws_szAgent_ok {W w:World}(hE:Ext W w){M:List Value}{x0:D.Agent}{x1:Int}(O:zce.ro W M x0){fuel:Nat}{r:Int}(hm:z5p fuel x0 x1=some r):
  Calls Tryz.prog 102 ⟨[.agg ⟨M⟩,.int .i64 x1]⟩ w (Ret fun v w8=>v=.int .i64 r∧St w w8 []):=by
 obtain⟨A1,k2,A4,k5,e7,h3,h6⟩:=z7S O;subst e7;refine into Tryz.func102 18 _ ?_;unfold z5p at hm;have hS:=St.start w;refine sq<|rg<|nw hS (fun V b0 S h=>?_);refine rr 1 ?_;refine rn<|sq<|rg<|rr 1 ?_;refine l1 ((h.bring 0 rfl).box) 3 ?_;refine rr 1 ?_;obtain⟨X,H,hm⟩:=bS hm;refine ca zc1 (laws_szInt64S_ok (hE.trans h.ext) h3 H) (fun Z d0 u=>?_);obtain⟨rfl,y⟩:=u;have d:=h.join y;refine rr 1 ?_;refine rn<|sq<|sq<|rg<|rr 2 ?_;refine rn<|ci hm (fun hm=>?_) (fun hm=>?_)
 ·refine sq<|rg<|rr 1 ?_;refine rn<|rt ?_;cases hm;exact⟨_,.cons (.tmp rfl) .nil,rfl,(d.taken 0)⟩
 ·refine sp<|sq<|rg<|rr 1 ?_;refine l1 ((d.bring 0 rfl).box) 4 ?_;refine rr 1 ?_;obtain⟨Y,L,hm⟩:=bS hm;refine ca zeC (laws_szPortS_ok (hE.trans d.ext) h6 L) (fun a0 e0 z=>?_);obtain⟨rfl,G⟩:=z;have o:=d.join G;refine rr 1 ?_;refine rn<|sq<|sq<|rg<|rr 2 ?_;refine rn<|ci hm (fun hm=>?_) (fun hm=>?_)
  ·refine sq<|rg<|rr 1 ?_;refine rn<|rt ?_;cases hm;exact⟨_,.cons (.tmp rfl) .nil,rfl,(o.taken 0)⟩
  ·refine sp<|sq<|rg<|rr 2 ?_;refine rn<|rt ?_;cases hm;exact⟨_,.cons (.tmp rfl) .nil,rfl,(o.taken 0)⟩

theorem zg6:Enters Tryz.prog 55:=⟨_,_,Tryz.func55,rfl,by kernel_rfl⟩
def z6R (fuel:Nat) (t2:Int):Option Int:=some t2
def z4o (fuel:Nat) (x0:(List D.Agent)) (s1:Int × Int):Option (Rd (Int × Int) (Int) (Int)):=(if(decide (s1.2<(x0.length:Int)))=true then((idx x0 s1.2).bind fun h=>((z5p fuel h s1.1).bind fun d=>(if(decide (d<0))=true then some (.ret (-1)) else some (.next (d,w64 (s1.2+1)))))) else some (.brk s1.1))
def z4F (fuel:Nat) (x0:(List D.Agent)) (x1:Int):Option (Int):=(if(decide ((w64 (x1 - (x0.length:Int)))<0))=true then some (-1) else((iter (z4o fuel x0) fuel (w64 (x1 - (x0.length:Int)),0)).bind fun o=>aft o (z6R fuel)))

theorem laws_szAgentS_ok {W w:World}(hE:Ext W w){G:Option Addr}{Y:Nat}{x0:(List D.Agent)}{x1:Int}(d0:ty47.ro W [sl G x0 Y] x0){fuel:Nat}{r:Int}(hm:z4F fuel x0 x1=some r):
  Calls Tryz.prog 55 ⟨[sl G x0 Y,.int .i64 x1]⟩ w (Ret fun v w8=>v=.int .i64 r∧St w w8 []):=by
 refine into Tryz.func55 27 _ ?_;unfold z4F at hm;have hS:=St.start w;refine sq<|rg<|rr 1 ?_;refine rn<|sq<|rg<|rr 5 ?_;refine rn<|sq<|sq<|rg<|rr 2 ?_;refine rn<|ci hm (fun hm=>?_) (fun hm=>?_)
 ·refine sq<|rg<|rr 1 ?_;refine rn<|rt ?_;cases hm;exact⟨_,.cons (.tmp rfl) .nil,rfl,hS⟩
 ·refine sp<|sq<|sq<|rg<|rr 1 ?_;refine rn ?_;obtain⟨e0,O,hm⟩:=bS hm;refine ct (fun(t2:Int) F w9=>e0=.inl t2∧Ext w w9∧St w w9 []∧F=[(1,.int .i64 t2)]) ?_ ?_
  ·rintro t2 F w7 ⟨S,k0,L,rfl⟩;subst S;rw [zi] at hm;unfold z6R at hm;refine sq<|rg<|rr 2 ?_;refine rn<|rt ?_;cases hm;exact⟨_,.cons (.tmp rfl) .nil,rfl,L⟩
  ·refine bk<|wk [0,1,5] ?_;refine it (fun(s1:Int × Int) F w9=>Ext w w9∧St w w9 []∧F=[(0,sl G x0 Y),(1,.int .i64 s1.1),(5,.int .i64 s1.2)]) O ⟨(Ext.refl _),hS,rfl⟩ ?_;rintro s1 F v0 _ q0 ⟨Z,h,rfl⟩ d y;unfold z4o at d;refine sq<|sq<|rg<|rr 4 ?_;refine rn<|ci d (fun d=>?_) (fun d=>?_)
   ·refine sp<|sq<|bk<|sq<|rg<|rr 2 ?_;obtain⟨A0,V,d⟩:=bS d;refine ix (hE.trans h.ext) d0 V (fun r0 b0 M z=>?_);obtain⟨f0,o0,g0,p0,a0,i0,j0⟩:=z7S z;subst a0;refine lN (At.ext (hE.trans h.ext) M) ?_;refine rr 1 ?_;obtain⟨t0,X,d⟩:=bS d;refine ca zff (laws_szAgent_ok (hE.trans h.ext) z X) (fun u0 y0 H=>?_);obtain⟨rfl,o⟩:=H;have u:=h.join o;refine rr 1 ?_;refine rn<|sq<|rg<|rr 2 ?_;refine rn<|ci d (fun d=>?_) (fun d=>?_)
    ·refine sq<|rg<|rr 1 ?_;refine rn<|rt ?_;cases d;cases y;have hm:some _=some _:=hm;cases hm;exact⟨_,.cons (.tmp rfl) .nil,rfl,u⟩
    ·refine sp<|rg<|rr 3 ?_;refine rn ?_;cases d;exact⟨_,_,rfl,⟨(Z.trans o.ext),u,rfl⟩,rfl⟩
   ·refine xt ?_;cases d;exact⟨_,_,⟨y,Z,h,rfl⟩,rfl⟩

theorem zgn:Enters Tryz.prog 19:=⟨_,_,Tryz.func19,rfl,by kernel_rfl⟩
def z6n (fuel:Nat) (x0:D.Net) (x1:Int):Option (Int):=((z4F fuel x0.Agents x1).bind fun d=>(if(decide (d<0))=true then some (-1) else some d))

theorem laws_szNet_ok {W w:World}(hE:Ext W w){z:List Value}{x0:D.Net}{x1:Int}(G:ty49.ro W z x0){fuel:Nat}{r:Int}(hm:z6n fuel x0 x1=some r):
  Calls Tryz.prog 19 ⟨[.agg ⟨z⟩,.int .i64 x1]⟩ w (Ret fun v w8=>v=.int .i64 r∧St w w8 []):=by
 obtain⟨A1,k2,e4,h3⟩:=z8a G;subst e4;refine into Tryz.func19 12 _ ?_;unfold z6n at hm;have hS:=St.start w;refine sq<|rg<|nw hS (fun g5 w6 e7 d=>?_);refine rr 1 ?_;refine rn<|sq<|rg<|rr 1 ?_;refine l1 ((d.bring 0 rfl).box) 0 ?_;refine rr 1 ?_;obtain⟨H,y,hm⟩:=bS hm;refine ca zg6 (laws_szAgentS_ok (hE.trans d.ext) h3 y) (fun L M o=>?_);obtain⟨rfl,u⟩:=o;have h:=d.join u;refine rr 1 ?_;refine rn<|sq<|sq<|rg<|rr 2 ?_;refine rn<|ci hm (fun hm=>?_) (fun hm=>?_)
 ·refine sq<|rg<|rr 1 ?_;refine rn<|rt ?_;cases hm;exact⟨_,.cons (.tmp rfl) .nil,rfl,(h.taken 0)⟩
 ·refine sp<|sq<|rg<|rr 2 ?_;refine rn<|rt ?_;cases hm;exact⟨_,.cons (.tmp rfl) .nil,rfl,(h.taken 0)⟩

theorem zgk:Enters Tryz.prog 26:=⟨_,_,Tryz.func26,rfl,by kernel_rfl⟩
def z7t (fuel:Nat) (t2:Int):Option Int:=some t2
def z5A (fuel:Nat) (x0:(List D.Net)) (s1:Int × Int):Option (Rd (Int × Int) (Int) (Int)):=(if(decide (s1.2<(x0.length:Int)))=true then((idx x0 s1.2).bind fun h=>((z6n fuel h s1.1).bind fun d=>(if(decide (d<0))=true then some (.ret (-1)) else some (.next (d,w64 (s1.2+1)))))) else some (.brk s1.1))
def z5X (fuel:Nat) (x0:(List D.Net)) (x1:Int):Option (Int):=(if(decide ((w64 (x1 - (x0.length:Int)))<0))=true then some (-1) else((iter (z5A fuel x0) fuel (w64 (x1 - (x0.length:Int)),0)).bind fun o=>aft o (z7t fuel)))

theorem laws_szNetS_ok {W w:World}(hE:Ext W w){G:Option Addr}{Y:Nat}{x0:(List D.Net)}{x1:Int}(d0:ty60.ro W [sl G x0 Y] x0){fuel:Nat}{r:Int}(hm:z5X fuel x0 x1=some r):
  Calls Tryz.prog 26 ⟨[sl G x0 Y,.int .i64 x1]⟩ w (Ret fun v w8=>v=.int .i64 r∧St w w8 []):=by
 refine into Tryz.func26 27 _ ?_;unfold z5X at hm;have hS:=St.start w;refine sq<|rg<|rr 1 ?_;refine rn<|sq<|rg<|rr 5 ?_;refine rn<|sq<|sq<|rg<|rr 2 ?_;refine rn<|ci hm (fun hm=>?_) (fun hm=>?_)
 ·refine sq<|rg<|rr 1 ?_;refine rn<|rt ?_;cases hm;exact⟨_,.cons (.tmp rfl) .nil,rfl,hS⟩
 ·refine sp<|sq<|sq<|rg<|rr 1 ?_;refine rn ?_;obtain⟨e0,O,hm⟩:=bS hm;refine ct (fun(t2:Int) F w9=>e0=.inl t2∧Ext w w9∧St w w9 []∧F=[(1,.int .i64 t2)]) ?_ ?_
  ·rintro t2 F w7 ⟨S,i0,L,rfl⟩;subst S;rw [zi] at hm;unfold z7t at hm;refine sq<|rg<|rr 2 ?_;refine rn<|rt ?_;cases hm;exact⟨_,.cons (.tmp rfl) .nil,rfl,L⟩
  ·refine bk<|wk [0,1,5] ?_;refine it (fun(s1:Int × Int) F w9=>Ext w w9∧St w w9 []∧F=[(0,sl G x0 Y),(1,.int .i64 s1.1),(5,.int .i64 s1.2)]) O ⟨(Ext.refl _),hS,rfl⟩ ?_;rintro s1 F r0 _ k0 ⟨Z,h,rfl⟩ d y;unfold z5A at d;refine sq<|sq<|rg<|rr 4 ?_;refine rn<|ci d (fun d=>?_) (fun d=>?_)
   ·refine sp<|sq<|bk<|sq<|rg<|rr 2 ?_;obtain⟨u0,V,d⟩:=bS d;refine ix (hE.trans h.ext) d0 V (fun o0 b0 M z=>?_);obtain⟨f0,j0,a0,g0⟩:=z8a z;subst a0;refine lN (At.ext (hE.trans h.ext) M) ?_;refine rr 1 ?_;obtain⟨p0,X,d⟩:=bS d;refine ca zgn (laws_szNet_ok (hE.trans h.ext) z X) (fun q0 t0 H=>?_);obtain⟨rfl,o⟩:=H;have u:=h.join o;refine rr 1 ?_;refine rn<|sq<|rg<|rr 2 ?_;refine rn<|ci d (fun d=>?_) (fun d=>?_)
    ·refine sq<|rg<|rr 1 ?_;refine rn<|rt ?_;cases d;cases y;have hm:some _=some _:=hm;cases hm;exact⟨_,.cons (.tmp rfl) .nil,rfl,u⟩
    ·refine sp<|rg<|rr 3 ?_;refine rn ?_;cases d;exact⟨_,_,rfl,⟨(Z.trans o.ext),u,rfl⟩,rfl⟩
   ·refine xt ?_;cases d;exact⟨_,_,⟨y,Z,h,rfl⟩,rfl⟩

theorem zeX:Enters Tryz.prog 133:=⟨_,_,Tryz.func133,rfl,by kernel_rfl⟩
def z5k (fuel:Nat) (x0:(List D.Word)) (x1:Int):Option (Int):=(if(decide ((w64 (x1 - (x0.length:Int)))<0))=true then some (-1) else some (w64 (x1 - (x0.length:Int))))

theorem laws_szWordS_ok {W w:World}(hE:Ext W w){d:Option Addr}{h:Nat}{x0:(List D.Word)}{x1:Int}(o:zb5.ro W [sl d x0 h] x0){fuel:Nat}{r:Int}(hm:z5k fuel x0 x1=some r):
  Calls Tryz.prog 133 ⟨[sl d x0 h,.int .i64 x1]⟩ w (Ret fun v w8=>v=.int .i64 r∧St w w8 []):=by
 refine into Tryz.func133 12 _ ?_;unfold z5k at hm;have hS:=St.start w;refine sq<|rg<|rr 1 ?_;refine rn<|sq<|rg<|rr 5 ?_;refine rn<|sq<|sq<|rg<|rr 2 ?_;refine rn<|ci hm (fun hm=>?_) (fun hm=>?_)
 ·refine sq<|rg<|rr 1 ?_;refine rn<|rt ?_;cases hm;exact⟨_,.cons (.tmp rfl) .nil,rfl,hS⟩
 ·refine sp<|sq<|rg<|rr 2 ?_;refine rn<|rt ?_;cases hm;exact⟨_,.cons (.tmp rfl) .nil,rfl,hS⟩

theorem zfX:Enters Tryz.prog 71:=⟨_,_,Tryz.func71,rfl,by kernel_rfl⟩
def z5Y (fuel:Nat) (x0:D.Cell) (x1:Int):Option (Int):=((z3O fuel x0.Data x1).bind fun d=>(if(decide (d<0))=true then some (-1) else((z5k fuel x0.Words d).bind fun h=>(if(decide (h<0))=true then some (-1) else some h))))

theorem laws_szCell_ok {W w:World}(hE:Ext W w){M:List Value}{x0:D.Cell}{x1:Int}(O:zch.ro W M x0){fuel:Nat}{r:Int}(hm:z5Y fuel x0 x1=some r):
  Calls Tryz.prog 71 ⟨[.agg ⟨M⟩,.int .i64 x1]⟩ w (Ret fun v w8=>v=.int .i64 r∧St w w8 []):=by
 obtain⟨A1,k2,A4,k5,e7,h3,h6⟩:=z7T O;subst e7;refine into Tryz.func71 18 _ ?_;unfold z5Y at hm;have hS:=St.start w;refine sq<|rg<|nw hS (fun V b0 S h=>?_);refine rr 1 ?_;refine rn<|sq<|rg<|rr 1 ?_;refine l1 ((h.bring 0 rfl).box) 3 ?_;refine rr 1 ?_;obtain⟨X,H,hm⟩:=bS hm;refine ca zc1 (laws_szInt64S_ok (hE.trans h.ext) h3 H) (fun Z d0 u=>?_);obtain⟨rfl,y⟩:=u;have d:=h.join y;refine rr 1 ?_;refine rn<|sq<|sq<|rg<|rr 2 ?_;refine rn<|ci hm (fun hm=>?_) (fun hm=>?_)
 ·refine sq<|rg<|rr 1 ?_;refine rn<|rt ?_;cases hm;exact⟨_,.cons (.tmp rfl) .nil,rfl,(d.taken 0)⟩
 ·refine sp<|sq<|rg<|rr 1 ?_;refine l1 ((d.bring 0 rfl).box) 4 ?_;refine rr 1 ?_;obtain⟨Y,L,hm⟩:=bS hm;refine ca zeX (laws_szWordS_ok (hE.trans d.ext) h6 L) (fun a0 e0 z=>?_);obtain⟨rfl,G⟩:=z;have o:=d.join G;refine rr 1 ?_;refine rn<|sq<|sq<|rg<|rr 2 ?_;refine rn<|ci hm (fun hm=>?_) (fun hm=>?_)
  ·refine sq<|rg<|rr 1 ?_;refine rn<|rt ?_;cases hm;exact⟨_,.cons (.tmp rfl) .nil,rfl,(o.taken 0)⟩
  ·refine sp<|sq<|rg<|rr 2 ?_;refine rn<|rt ?_;cases hm;exact⟨_,.cons (.tmp rfl) .nil,rfl,(o.taken 0)⟩

theorem zgg:Enters Tryz.prog 31:=⟨_,_,Tryz.func31,rfl,by kernel_rfl⟩
def z79 (fuel:Nat) (t2:Int):Option Int:=some t2
def z4W (fuel:Nat) (x0:(List D.Cell)) (s1:Int × Int):Option (Rd (Int × Int) (Int) (Int)):=(if(decide (s1.2<(x0.length:Int)))=true then((idx x0 s1.2).bind fun h=>((z5Y fuel h s1.1).bind fun d=>(if(decide (d<0))=true then some (.ret (-1)) else some (.next (d,w64 (s1.2+1)))))) else some (.brk s1.1))
def z5o (fuel:Nat) (x0:(List D.Cell)) (x1:Int):Option (Int):=(if(decide ((w64 (x1 - (x0.length:Int)))<0))=true then some (-1) else((iter (z4W fuel x0) fuel (w64 (x1 - (x0.length:Int)),0)).bind fun o=>aft o (z79 fuel)))

theorem laws_szCellS_ok {W w:World}(hE:Ext W w){G:Option Addr}{Y:Nat}{x0:(List D.Cell)}{x1:Int}(d0:ty22.ro W [sl G x0 Y] x0){fuel:Nat}{r:Int}(hm:z5o fuel x0 x1=some r):
  Calls Tryz.prog 31 ⟨[sl G x0 Y,.int .i64 x1]⟩ w (Ret fun v w8=>v=.int .i64 r∧St w w8 []):=by
 refine into Tryz.func31 27 _ ?_;unfold z5o at hm;have hS:=St.start w;refine sq<|rg<|rr 1 ?_;refine rn<|sq<|rg<|rr 5 ?_;refine rn<|sq<|sq<|rg<|rr 2 ?_;refine rn<|ci hm (fun hm=>?_) (fun hm=>?_)
 ·refine sq<|rg<|rr 1 ?_;refine rn<|rt ?_;cases hm;exact⟨_,.cons (.tmp rfl) .nil,rfl,hS⟩
 ·refine sp<|sq<|sq<|rg<|rr 1 ?_;refine rn ?_;obtain⟨e0,O,hm⟩:=bS hm;refine ct (fun(t2:Int) F w9=>e0=.inl t2∧Ext w w9∧St w w9 []∧F=[(1,.int .i64 t2)]) ?_ ?_
  ·rintro t2 F w7 ⟨S,k0,L,rfl⟩;subst S;rw [zi] at hm;unfold z79 at hm;refine sq<|rg<|rr 2 ?_;refine rn<|rt ?_;cases hm;exact⟨_,.cons (.tmp rfl) .nil,rfl,L⟩
  ·refine bk<|wk [0,1,5] ?_;refine it (fun(s1:Int × Int) F w9=>Ext w w9∧St w w9 []∧F=[(0,sl G x0 Y),(1,.int .i64 s1.1),(5,.int .i64 s1.2)]) O ⟨(Ext.refl _),hS,rfl⟩ ?_;rintro s1 F v0 _ q0 ⟨Z,h,rfl⟩ d y;unfold z4W at d;refine sq<|sq<|rg<|rr 4 ?_;refine rn<|ci d (fun d=>?_) (fun d=>?_)
   ·refine sp<|sq<|bk<|sq<|rg<|rr 2 ?_;obtain⟨A0,V,d⟩:=bS d;refine ix (hE.trans h.ext) d0 V (fun r0 b0 M z=>?_);obtain⟨f0,o0,g0,p0,a0,i0,j0⟩:=z7T z;subst a0;refine lN (At.ext (hE.trans h.ext) M) ?_;refine rr 1 ?_;obtain⟨t0,X,d⟩:=bS d;refine ca zfX (laws_szCell_ok (hE.trans h.ext) z X) (fun u0 y0 H=>?_);obtain⟨rfl,o⟩:=H;have u:=h.join o;refine rr 1 ?_;refine rn<|sq<|rg<|rr 2 ?_;refine rn<|ci d (fun d=>?_) (fun d=>?_)
    ·refine sq<|rg<|rr 1 ?_;refine rn<|rt ?_;cases d;cases y;have hm:some _=some _:=hm;cases hm;exact⟨_,.cons (.tmp rfl) .nil,rfl,u⟩
    ·refine sp<|rg<|rr 3 ?_;refine rn ?_;cases d;exact⟨_,_,rfl,⟨(Z.trans o.ext),u,rfl⟩,rfl⟩
   ·refine xt ?_;cases d;exact⟨_,_,⟨y,Z,h,rfl⟩,rfl⟩

theorem zgf:Enters Tryz.prog 32:=⟨_,_,Tryz.func32,rfl,by kernel_rfl⟩
def z5n (fuel:Nat) (x0:(List D.Pair)) (x1:Int):Option (Int):=(if(decide ((w64 (x1 - (x0.length:Int)))<0))=true then some (-1) else some (w64 (x1 - (x0.length:Int))))

theorem laws_szPairS_ok {W w:World}(hE:Ext W w){d:Option Addr}{h:Nat}{x0:(List D.Pair)}{x1:Int}(o:ty25.ro W [sl d x0 h] x0){fuel:Nat}{r:Int}(hm:z5n fuel x0 x1=some r):
  Calls Tryz.prog 32 ⟨[sl d x0 h,.int .i64 x1]⟩ w (Ret fun v w8=>v=.int .i64 r∧St w w8 []):=by
 refine into Tryz.func32 12 _ ?_;unfold z5n at hm;have hS:=St.start w;refine sq<|rg<|rr 1 ?_;refine rn<|sq<|rg<|rr 5 ?_;refine rn<|sq<|sq<|rg<|rr 2 ?_;refine rn<|ci hm (fun hm=>?_) (fun hm=>?_)
 ·refine sq<|rg<|rr 1 ?_;refine rn<|rt ?_;cases hm;exact⟨_,.cons (.tmp rfl) .nil,rfl,hS⟩
 ·refine sp<|sq<|rg<|rr 2 ?_;refine rn<|rt ?_;cases hm;exact⟨_,.cons (.tmp rfl) .nil,rfl,hS⟩

theorem zgL:Enters Tryz.prog 7:=⟨_,_,Tryz.func7,rfl,by kernel_rfl⟩
def z4E (fuel:Nat) (x0:D.Memory) (x1:Int):Option (Int):=((z5o fuel x0.Cells x1).bind fun d=>(if(decide (d<0))=true then some (-1) else((z5n fuel x0.Redexes d).bind fun h=>(if(decide (h<0))=true then some (-1) else some h))))

theorem laws_szMemory_ok {W w:World}(hE:Ext W w){M:List Value}{x0:D.Memory}{x1:Int}(O:ty27.ro W M x0){fuel:Nat}{r:Int}(hm:z4E fuel x0 x1=some r):
  Calls Tryz.prog 7 ⟨[.agg ⟨M⟩,.int .i64 x1]⟩ w (Ret fun v w8=>v=.int .i64 r∧St w w8 []):=by
 obtain⟨A1,k2,A4,k5,e7,h3,h6⟩:=z9m O;subst e7;refine into Tryz.func7 18 _ ?_;unfold z4E at hm;have hS:=St.start w;refine sq<|rg<|nw hS (fun V b0 S h=>?_);refine rr 1 ?_;refine rn<|sq<|rg<|rr 1 ?_;refine l1 ((h.bring 0 rfl).box) 0 ?_;refine rr 1 ?_;obtain⟨X,H,hm⟩:=bS hm;refine ca zgg (laws_szCellS_ok (hE.trans h.ext) h3 H) (fun Z d0 u=>?_);obtain⟨rfl,y⟩:=u;have d:=h.join y;refine rr 1 ?_;refine rn<|sq<|sq<|rg<|rr 2 ?_;refine rn<|ci hm (fun hm=>?_) (fun hm=>?_)
 ·refine sq<|rg<|rr 1 ?_;refine rn<|rt ?_;cases hm;exact⟨_,.cons (.tmp rfl) .nil,rfl,(d.taken 0)⟩
 ·refine sp<|sq<|rg<|rr 1 ?_;refine l1 ((d.bring 0 rfl).box) 4 ?_;refine rr 1 ?_;obtain⟨Y,L,hm⟩:=bS hm;refine ca zgf (laws_szPairS_ok (hE.trans d.ext) h6 L) (fun a0 e0 z=>?_);obtain⟨rfl,G⟩:=z;have o:=d.join G;refine rr 1 ?_;refine rn<|sq<|sq<|rg<|rr 2 ?_;refine rn<|ci hm (fun hm=>?_) (fun hm=>?_)
  ·refine sq<|rg<|rr 1 ?_;refine rn<|rt ?_;cases hm;exact⟨_,.cons (.tmp rfl) .nil,rfl,(o.taken 0)⟩
  ·refine sp<|sq<|rg<|rr 2 ?_;refine rn<|rt ?_;cases hm;exact⟨_,.cons (.tmp rfl) .nil,rfl,(o.taken 0)⟩

theorem zc0:Enters Tryz.prog 141:=⟨_,_,Tryz.func141,rfl,by kernel_rfl⟩
def z6P (fuel:Nat) (d:(List Int)):Option (List Int):=some d
def z4m (fuel:Nat) (x0:(List Int)) (d:Int × (List Int)):Option (Rd (Int × (List Int)) ((List Int)) ((List Int))):=(if(decide (d.1<(x0.length:Int)))=true then((idx x0 d.1).bind fun h=>(if decide (0≤d.1∧d.1.toNat<d.2.length)=true then some (.next (w64 (d.1+1),(d.2.set d.1.toNat h))) else none)) else some (.brk d.2))
def z3N (fuel:Nat) (x0:(List Int)):Option ((List Int)):=(if decide (0≤(x0.length:Int)∧(x0.length:Int)≤4294967296)=true then((iter (z4m fuel x0) fuel (0,(List.replicate (x0.length:Int).toNat (0:Int)))).bind fun o=>aft o (z6P fuel)) else none)

theorem laws_toInt64S_ok {W w:World}(hE:Ext W w){z:Option Addr}{b0:Nat}{x0:(List Int)}(i0:ty80.ro W [sl z x0 b0] x0){fuel:Nat}{r:(List Int)}(hm:z3N fuel x0=some r):
  Calls Tryz.prog 141 ⟨[sl z x0 b0]⟩ w (Ret fun v w8=>∃ A0 k0,v=sl A0 r k0∧St w w8 [ow ty80 A0 r k0]):=by
 refine into Tryz.func141 22 _ ?_;unfold z3N at hm;have hS:=St.start w;refine sq<|rg<|rr 1 ?_;refine rn<|sq<|rg<|rr 2 ?_;obtain⟨o0,hm⟩:=iS hm;have hz7:=of_decide_eq_true o0;refine mS (U:=tInt) (0:Int) hS hz7 (fun _=>⟨rfl,rfl⟩) (fun A2 k3 w4 e5 j0=>?_);refine rr 1 ?_;refine rn<|sq<|sq<|rg<|rr 1 ?_;refine rn ?_;obtain⟨p0,V,hm⟩:=bS hm;refine ct (fun(e0:(List Int)) F w9=>p0=.inl e0∧St w w9 [Own ty80 [sl A2 (List.replicate (x0.length:Int).toNat (0:Int)) k3] e0]∧F=[(3,sl A2 (List.replicate (x0.length:Int).toNat (0:Int)) k3)]) ?_ ?_
 ·rintro e0 F t0 ⟨X,u,rfl⟩;subst X;rw [zi] at hm;unfold z6P at hm;refine sq<|rg<|rr 2 ?_;refine rn<|rt ?_;cases hm;have hn18:=(u.bring 0 rfl).lenEq;have G:=(u.bring 0 rfl).reLen hn18;exact⟨_,.cons (.tmp rfl) .nil,A2,k3,(by first | (simp only [sl,hn18];done) | (simp only [sl,hn18];rfl)),G⟩
 ·refine bk<|wk [0,3,4] ?_;refine it (fun(d0:Int × (List Int)) F w9=>St w w9 [Own ty80 [sl A2 (List.replicate (x0.length:Int).toNat (0:Int)) k3] d0.2]∧F=[(0,sl z x0 b0),(3,sl A2 (List.replicate (x0.length:Int).toNat (0:Int)) k3),(4,.int .i64 d0.1)]) V ⟨j0,rfl⟩ ?_;rintro d0 F u0 _ q0 ⟨h,rfl⟩ d Y;unfold z4m at d;refine sq<|sq<|rg<|rr 4 ?_;refine rn<|ci d (fun d=>?_) (fun d=>?_)
  ·refine sp<|sq<|bk<|rg<|rr 4 ?_;obtain⟨f0,a0,d⟩:=bS d;refine ix (hE.trans h.ext) i0 a0 (fun r0 g0 O Z=>?_);cases Z;refine l1 (At.ext (hE.trans h.ext) O) 0 ?_;have y:=h.bring 0 rfl;obtain⟨S,d⟩:=iS d;have o:=of_decide_eq_true S;refine io y o.1 o.2 (fun q34 hq35=>?_);have H:=y.flat (T:=tInt) (cs:=[.int .i64 f0]) (x:=f0) ⟨rfl,rfl⟩;have L:=H.bring 1 rfl;refine se L o.2 hq35 (fun v0 M=>?_);refine rn<|rg<|rr 3 ?_;refine rn ?_;cases d;exact⟨_,_,rfl,⟨M,rfl⟩,rfl⟩
  ·refine xt ?_;cases d;exact⟨_,_,⟨Y,h,rfl⟩,rfl⟩

theorem zek:Enters Tryz.prog 189:=⟨_,_,Tryz.func189,rfl,by kernel_rfl⟩
def z5U (fuel:Nat) (x0:D.Port):Option (D.Port):=some (⟨x0.Agent,x0.Slot⟩:D.Port)

theorem laws_toPort_ok {W w:World}(hE:Ext W w){L:List Value}{x0:D.Port}(M:zd6.ro W L x0){fuel:Nat}{r:D.Port}(hm:z5U fuel x0=some r):
  Calls Tryz.prog 189 ⟨[.agg ⟨L⟩]⟩ w (Ret fun v w8=>v=.agg ⟨[.int .i64 r.Agent,.int .i64 r.Slot]⟩∧St w w8 []):=by
 have e1:=za6 M;subst e1;refine into Tryz.func189 11 _ ?_;unfold z5U at hm;have hS:=St.start w;refine sq<|rg<|nw hS (fun g2 w3 e4 O=>?_);refine nw O (fun g6 w7 S y=>?_);refine rn<|sq<|rg<|nw y (fun X Y V d=>?_);refine rn<|sq<|rg<|rr 1 ?_;refine l1 ((d.bring 2 rfl).box) 0 ?_;refine rr 1 ?_;have z:=d.bring 0 rfl;refine so (A:=[]) z 0 (fun Z h=>?_);refine rn<|sq<|rg<|rr 1 ?_;refine l1 ((h.bring 2 rfl).box) 1 ?_;refine rr 1 ?_;have G:=h.bring 0 rfl;refine so (A:=[]) G 1 (fun a0 o=>?_);refine rn<|sq<|rg<|lN ((o.bring 0 rfl).box) ?_;have H:=o.bring 1 rfl;refine so (A:=[]) H 0 (fun b0 u=>?_);refine rn<|rt ?_;cases hm;exact⟨_,.cons (ra ((u.bring 0 rfl).box)) .nil,rfl,(u.taken 0)⟩

theorem zeA:Enters Tryz.prog 165:=⟨_,_,Tryz.func165,rfl,by kernel_rfl⟩
def z76 (fuel:Nat) (d:(List D.Port)):Option (List D.Port):=some d
def z4T (fuel:Nat) (x0:(List D.Port)) (d:Int × (List D.Port)):Option (Rd (Int × (List D.Port)) ((List D.Port)) ((List D.Port))):=(if(decide (d.1<(x0.length:Int)))=true then((idx x0 d.1).bind fun o=>((z5U fuel o).bind fun h=>(if decide (0≤d.1∧d.1.toNat<d.2.length)=true then some (.next (w64 (d.1+1),(d.2.set d.1.toNat h))) else none))) else some (.brk d.2))
def z5g (fuel:Nat) (x0:(List D.Port)):Option ((List D.Port)):=(if decide (0≤(x0.length:Int)∧(x0.length:Int)≤4294967296)=true then((iter (z4T fuel x0) fuel (0,(List.replicate (x0.length:Int).toNat (⟨(0:Int),(0:Int)⟩:D.Port)))).bind fun o=>aft o (z76 fuel)) else none)

theorem laws_toPortS_ok {W w:World}(hE:Ext W w){G:Option Addr}{g0:Nat}{x0:(List D.Port)}(q0:zb2.ro W [sl G x0 g0] x0){fuel:Nat}{r:(List D.Port)}(hm:z5g fuel x0=some r):
  Calls Tryz.prog 165 ⟨[sl G x0 g0]⟩ w (Ret fun v w8=>∃ A0 k0,v=sl A0 r k0∧St w w8 [ow z2R A0 r k0]):=by
 refine into Tryz.func165 23 _ ?_;unfold z5g at hm;have hS:=St.start w;refine sq<|rg<|rr 1 ?_;refine rn<|sq<|rg<|rr 2 ?_;obtain⟨t0,hm⟩:=iS hm;have hz7:=of_decide_eq_true t0;refine mS (U:=z4s) (⟨(0:Int),(0:Int)⟩:D.Port) hS hz7 (fun _=>(z4f (c:=(⟨(0:Int),(0:Int)⟩:D.Port)) rfl)) (fun A2 k3 w4 e5 r0=>?_);refine rr 1 ?_;refine rn<|sq<|sq<|rg<|rr 1 ?_;refine rn ?_;obtain⟨u0,a0,hm⟩:=bS hm;refine ct (fun(j0:(List D.Port)) F w9=>u0=.inl j0∧St w w9 [Own z2R [sl A2 (List.replicate (x0.length:Int).toNat (⟨(0:Int),(0:Int)⟩:D.Port)) k3] j0]∧F=[(3,sl A2 (List.replicate (x0.length:Int).toNat (⟨(0:Int),(0:Int)⟩:D.Port)) k3)]) ?_ ?_
 ·rintro j0 F D0 ⟨b0,u,rfl⟩;subst b0;rw [zi] at hm;unfold z76 at hm;refine sq<|rg<|rr 2 ?_;refine rn<|rt ?_;cases hm;have hn18:=(u.bring 0 rfl).lenEq;have M:=(u.bring 0 rfl).reLen hn18;exact⟨_,.cons (.tmp rfl) .nil,A2,k3,(by first | (simp only [sl,hn18];done) | (simp only [sl,hn18];rfl)),M⟩
 ·refine bk<|wk [0,3,4] ?_;refine it (fun(i0:Int × (List D.Port)) F w9=>St w w9 [Own z2R [sl A2 (List.replicate (x0.length:Int).toNat (⟨(0:Int),(0:Int)⟩:D.Port)) k3] i0.2]∧F=[(0,sl G x0 g0),(3,sl A2 (List.replicate (x0.length:Int).toNat (⟨(0:Int),(0:Int)⟩:D.Port)) k3),(4,.int .i64 i0.1)]) a0 ⟨r0,rfl⟩ ?_;rintro i0 F E0 _ y0 ⟨h,rfl⟩ d d0;unfold z4T at d;refine sq<|sq<|rg<|rr 4 ?_;refine rn<|ci d (fun d=>?_) (fun d=>?_)
  ·refine sp<|sq<|bk<|rg<|rr 4 ?_;obtain⟨H0,e0,d⟩:=bS d;refine ix (hE.trans h.ext) q0 e0 (fun B0 p0 Y z=>?_);have o0:=za6 z;subst o0;refine lN (At.ext (hE.trans h.ext) Y) ?_;obtain⟨v0,f0,d⟩:=bS d;refine ca zek (laws_toPort_ok (hE.trans h.ext) z f0) (fun C0 F0 H=>?_);obtain⟨rfl,L⟩:=H;have O:=h.join L;have y:=O.bring 0 rfl;obtain⟨Z,d⟩:=iS d;have o:=of_decide_eq_true Z;refine io y o.1 o.2 (fun q42 hq43=>?_);have S:=zcg (c:=v0) (B:=_) y;have V:=S.bring 1 rfl;refine se V o.2 hq43 (fun G0 X=>?_);refine rn<|rg<|rr 3 ?_;refine rn ?_;cases d;exact⟨_,_,rfl,⟨X,rfl⟩,rfl⟩
  ·refine xt ?_;cases d;exact⟨_,_,⟨d0,h,rfl⟩,rfl⟩

theorem zfb:Enters Tryz.prog 107:=⟨_,_,Tryz.func107,rfl,by kernel_rfl⟩
def z5j (fuel:Nat) (x0:D.Agent):Option (D.Agent):=((z3N fuel x0.Data).bind fun d=>((z5g fuel x0.Ports).bind fun h=>some (⟨x0.Kind,x0.Level,x0.Value,d,h⟩:D.Agent)))

theorem laws_toAgent_ok {W w:World}(hE:Ext W w){j0:List Value}{x0:D.Agent}(q0:zce.ro W j0 x0){fuel:Nat}{r:D.Agent}(hm:z5j fuel x0=some r):
  Calls Tryz.prog 107 ⟨[.agg ⟨j0⟩]⟩ w (Ret fun v w8=>∃ A0 k0 A1 k1,v=.agg ⟨[.int .i64 r.Kind,.int .i64 r.Level,.int .i64 r.Value,sl A0 r.Data k0,sl A1 r.Ports k1]⟩∧St w w8 [ow ty80 A0 r.Data k0,ow z2R A1 r.Ports k1]):=by
 obtain⟨A1,k2,A4,k5,e7,h3,h6⟩:=z7S q0;subst e7;refine into Tryz.func107 22 _ ?_;unfold z5j at hm;have hS:=St.start w;refine sq<|rg<|nw hS (fun B0 J0 u0 S=>?_);refine nw S (fun C0 K0 v0 V=>?_);refine rn<|sq<|rg<|nw V (fun D0 L0 y0 o=>?_);refine rn<|sq<|rg<|rr 1 ?_;refine l1 ((o.bring 2 rfl).box) 0 ?_;refine rr 1 ?_;have X:=o.bring 0 rfl;refine so (A:=[]) X 0 (fun M0 u=>?_);refine rn<|sq<|rg<|rr 1 ?_;refine l1 ((u.bring 2 rfl).box) 1 ?_;refine rr 1 ?_;have Y:=u.bring 0 rfl;refine so (A:=[]) Y 1 (fun N0 y=>?_);refine rn<|sq<|rg<|rr 1 ?_;refine l1 ((y.bring 2 rfl).box) 2 ?_;refine rr 1 ?_;have Z:=y.bring 0 rfl;refine so (A:=[]) Z 2 (fun O0 d=>?_);refine rn<|sq<|rg<|rr 1 ?_;refine l1 ((d.bring 2 rfl).box) 3 ?_;obtain⟨E0,g0,hm⟩:=bS hm;refine ca zc0 (laws_toInt64S_ok (hE.trans d.ext) h3 g0) (fun G0 P0 H=>?_);obtain⟨o0,r0,rfl,L⟩:=H;have a0:=d.join L;refine rr 1 ?_;have b0:=a0.bring 1 rfl;refine so (A:=[]) b0 3 (fun Q0 h=>?_);refine rn<|sq<|rg<|rr 1 ?_;refine l1 ((h.bring 3 rfl).box) 4 ?_;obtain⟨F0,i0,hm⟩:=bS hm;refine ca zeA (laws_toPortS_ok (hE.trans h.ext) h6 i0) (fun H0 R0 M=>?_);obtain⟨p0,t0,rfl,O⟩:=M;have d0:=h.join O;refine rr 1 ?_;have e0:=d0.bring 1 rfl;refine so (A:=[]) e0 4 (fun S0 z=>?_);refine rn<|sq<|rg<|lN ((z.bring 0 rfl).box) ?_;have f0:=z.bring 3 rfl;refine so (A:=[]) f0 0 (fun T0 G=>?_);refine rn<|rt ?_;cases hm;exact⟨_,.cons (ra ((G.bring 0 rfl).box)) .nil,o0,r0,p0,t0,rfl,(((G.bring 2 rfl).bring 3 rfl).taken 2)⟩

theorem zg4:Enters Tryz.prog 60:=⟨_,_,Tryz.func60,rfl,by kernel_rfl⟩
def z6Q (fuel:Nat) (d:(List D.Agent)):Option (List D.Agent):=some d
def z4n (fuel:Nat) (x0:(List D.Agent)) (d:Int × (List D.Agent)):Option (Rd (Int × (List D.Agent)) ((List D.Agent)) ((List D.Agent))):=(if(decide (d.1<(x0.length:Int)))=true then((idx x0 d.1).bind fun o=>((z5j fuel o).bind fun h=>(if decide (0≤d.1∧d.1.toNat<d.2.length)=true then some (.next (w64 (d.1+1),(d.2.set d.1.toNat h))) else none))) else some (.brk d.2))
def z4D (fuel:Nat) (x0:(List D.Agent)):Option ((List D.Agent)):=(if decide (0≤(x0.length:Int)∧(x0.length:Int)≤4294967296)=true then((iter (z4n fuel x0) fuel (0,(List.replicate (x0.length:Int).toNat (⟨(0:Int),(0:Int),(0:Int),([]:(List Int)),([]:(List D.Port))⟩:D.Agent)))).bind fun o=>aft o (z6Q fuel)) else none)

theorem laws_toAgentS_ok {W w:World}(hE:Ext W w){G:Option Addr}{j0:Nat}{x0:(List D.Agent)}(t0:ty47.ro W [sl G x0 j0] x0){fuel:Nat}{r:(List D.Agent)}(hm:z4D fuel x0=some r):
  Calls Tryz.prog 60 ⟨[sl G x0 j0]⟩ w (Ret fun v w8=>∃ A0 k0,v=sl A0 r k0∧St w w8 [ow ty40 A0 r k0]):=by
 refine into Tryz.func60 23 _ ?_;unfold z4D at hm;have hS:=St.start w;refine sq<|rg<|rr 1 ?_;refine rn<|sq<|rg<|rr 2 ?_;obtain⟨v0,hm⟩:=iS hm;have hz7:=of_decide_eq_true v0;refine mS (U:=z6i) (⟨(0:Int),(0:Int),(0:Int),([]:(List Int)),([]:(List D.Port))⟩:D.Agent) hS hz7 (fun _=>(za9 (c:=(⟨(0:Int),(0:Int),(0:Int),([]:(List Int)),([]:(List D.Port))⟩:D.Agent)) ⟨[],[],rfl,(slNilOwn tInt 2 _),⟨[],[],rfl,(slNilOwn z4s 141 _),rfl⟩⟩)) (fun A2 k3 w4 e5 u0=>?_);refine rr 1 ?_;refine rn<|sq<|sq<|rg<|rr 1 ?_;refine rn ?_;obtain⟨y0,d0,hm⟩:=bS hm;refine ct (fun(p0:(List D.Agent)) F w9=>y0=.inl p0∧St w w9 [Own ty40 [.slice A2 (List.replicate (x0.length:Int).toNat (⟨(0:Int),(0:Int),(0:Int),([]:(List Int)),([]:(List D.Port))⟩:D.Agent)).length k3] p0]∧F=[(3,.slice A2 (List.replicate (x0.length:Int).toNat (⟨(0:Int),(0:Int),(0:Int),([]:(List Int)),([]:(List D.Port))⟩:D.Agent)).length k3)]) ?_ ?_
 ·rintro p0 F Q0 ⟨e0,u,rfl⟩;subst e0;rw [zi] at hm;unfold z6Q at hm;refine sq<|rg<|rr 2 ?_;refine rn<|rt ?_;cases hm;have hn18:=(u.bring 0 rfl).lenEq;have M:=(u.bring 0 rfl).reLen hn18;exact⟨_,.cons (.tmp rfl) .nil,A2,k3,(by first | (simp only [sl,hn18];done) | (simp only [sl,hn18];rfl)),M⟩
 ·refine bk<|wk [0,3,4] ?_;refine it (fun(o0:Int × (List D.Agent)) F w9=>St w w9 [Own ty40 [.slice A2 (List.replicate (x0.length:Int).toNat (⟨(0:Int),(0:Int),(0:Int),([]:(List Int)),([]:(List D.Port))⟩:D.Agent)).length k3] o0.2]∧F=[(0,sl G x0 j0),(3,.slice A2 (List.replicate (x0.length:Int).toNat (⟨(0:Int),(0:Int),(0:Int),([]:(List Int)),([]:(List D.Port))⟩:D.Agent)).length k3),(4,.int .i64 o0.1)]) d0 ⟨u0,rfl⟩ ?_;rintro o0 F R0 _ N0 ⟨h,rfl⟩ d f0;unfold z4n at d;refine sq<|sq<|rg<|rr 4 ?_;refine rn<|ci d (fun d=>?_) (fun d=>?_)
  ·refine sp<|sq<|bk<|rg<|rr 4 ?_;obtain⟨U0,g0,d⟩:=bS d;refine ix (hE.trans h.ext) t0 g0 (fun O0 r0 a0 z=>?_);obtain⟨C0,J0,D0,K0,q0,G0,H0⟩:=z7S z;subst q0;refine lN (At.ext (hE.trans h.ext) a0) ?_;obtain⟨B0,i0,d⟩:=bS d;refine ca zfb (laws_toAgent_ok (hE.trans h.ext) z i0) (fun P0 S0 H=>?_);obtain⟨E0,L0,F0,M0,rfl,L⟩:=H;have O:=h.join L;have y:=O.bring 2 rfl;obtain⟨b0,d⟩:=iS d;have o:=of_decide_eq_true b0;refine io y o.1 o.2 (fun q52 hq53=>?_);have S:=y.bring 2 rfl;have V:=S.bring 2 rfl;have X:=z6A (c:=B0) (B:=_) V;have Y:=X.bring 1 rfl;refine se Y o.2 hq53 (fun T0 Z=>?_);refine rn<|rg<|rr 3 ?_;refine rn ?_;cases d;exact⟨_,_,rfl,⟨Z,rfl⟩,rfl⟩
  ·refine xt ?_;cases d;exact⟨_,_,⟨f0,h,rfl⟩,rfl⟩

theorem zgm:Enters Tryz.prog 21:=⟨_,_,Tryz.func21,rfl,by kernel_rfl⟩
def z6m (fuel:Nat) (x0:D.Net):Option (D.Net):=((z4D fuel x0.Agents).bind fun d=>some (⟨d⟩:D.Net))

theorem laws_toNet_ok {W w:World}(hE:Ext W w){S:List Value}{x0:D.Net}(X:ty49.ro W S x0){fuel:Nat}{r:D.Net}(hm:z6m fuel x0=some r):
  Calls Tryz.prog 21 ⟨[.agg ⟨S⟩]⟩ w (Ret fun v w8=>∃ A0 k0,v=.agg ⟨[sl A0 r.Agents k0]⟩∧St w w8 [ow ty40 A0 r.Agents k0]):=by
 obtain⟨A1,k2,e4,h3⟩:=z8a X;subst e4;refine into Tryz.func21 9 _ ?_;unfold z6m at hm;have hS:=St.start w;refine sq<|rg<|nw hS (fun g5 w6 e7 z=>?_);refine nw z (fun b0 g0 Z G=>?_);refine rn<|sq<|rg<|nw G (fun d0 i0 a0 d=>?_);refine rn<|sq<|rg<|rr 1 ?_;refine l1 ((d.bring 2 rfl).box) 0 ?_;obtain⟨e0,O,hm⟩:=bS hm;refine ca zg4 (laws_toAgentS_ok (hE.trans d.ext) h3 O) (fun f0 j0 u=>?_);obtain⟨V,Y,rfl,y⟩:=u;have H:=d.join y;refine rr 1 ?_;have L:=H.bring 1 rfl;refine so (A:=[]) L 0 (fun o0 h=>?_);refine rn<|sq<|rg<|lN ((h.bring 0 rfl).box) ?_;have M:=h.bring 2 rfl;refine so (A:=[]) M 0 (fun p0 o=>?_);refine rn<|rt ?_;cases hm;exact⟨_,.cons (ra ((o.bring 0 rfl).box)) .nil,V,Y,rfl,((o.bring 2 rfl).taken 1)⟩

theorem zaL:Enters Tryz.prog 28:=⟨_,_,Tryz.func28,rfl,by kernel_rfl⟩
def z7s (fuel:Nat) (d:(List D.Net)):Option (List D.Net):=some d
def z5z (fuel:Nat) (x0:(List D.Net)) (d:Int × (List D.Net)):Option (Rd (Int × (List D.Net)) ((List D.Net)) ((List D.Net))):=(if(decide (d.1<(x0.length:Int)))=true then((idx x0 d.1).bind fun o=>((z6m fuel o).bind fun h=>(if decide (0≤d.1∧d.1.toNat<d.2.length)=true then some (.next (w64 (d.1+1),(d.2.set d.1.toNat h))) else none))) else some (.brk d.2))
def z3Y (fuel:Nat) (x0:(List D.Net)):Option ((List D.Net)):=(if decide (0≤(x0.length:Int)∧(x0.length:Int)≤4294967296)=true then((iter (z5z fuel x0) fuel (0,(List.replicate (x0.length:Int).toNat (⟨([]:(List D.Agent))⟩:D.Net)))).bind fun o=>aft o (z7s fuel)) else none)

theorem laws_toNetS_ok {W w:World}(hE:Ext W w){G:Option Addr}{i0:Nat}{x0:(List D.Net)}(r0:ty60.ro W [sl G x0 i0] x0){fuel:Nat}{r:(List D.Net)}(hm:z3Y fuel x0=some r):
  Calls Tryz.prog 28 ⟨[sl G x0 i0]⟩ w (Ret fun v w8=>∃ A0 k0,v=sl A0 r k0∧St w w8 [ow ty64 A0 r k0]):=by
 refine into Tryz.func28 23 _ ?_;unfold z3Y at hm;have hS:=St.start w;refine sq<|rg<|rr 1 ?_;refine rn<|sq<|rg<|rr 2 ?_;obtain⟨u0,hm⟩:=iS hm;have hz7:=of_decide_eq_true u0;refine mS (U:=ty42) (⟨([]:(List D.Agent))⟩:D.Net) hS hz7 (fun _=>(zb0 (c:=(⟨([]:(List D.Agent))⟩:D.Net)) ⟨[],[],rfl,(slNilOwn z6i 148 _),rfl⟩)) (fun A2 k3 w4 e5 t0=>?_);refine rr 1 ?_;refine rn<|sq<|sq<|rg<|rr 1 ?_;refine rn ?_;obtain⟨v0,b0,hm⟩:=bS hm;refine ct (fun(o0:(List D.Net)) F w9=>v0=.inl o0∧St w w9 [Own ty64 [.slice A2 (List.replicate (x0.length:Int).toNat (⟨([]:(List D.Agent))⟩:D.Net)).length k3] o0]∧F=[(3,.slice A2 (List.replicate (x0.length:Int).toNat (⟨([]:(List D.Agent))⟩:D.Net)).length k3)]) ?_ ?_
 ·rintro o0 F K0 ⟨d0,u,rfl⟩;subst d0;rw [zi] at hm;unfold z7s at hm;refine sq<|rg<|rr 2 ?_;refine rn<|rt ?_;cases hm;have hn18:=(u.bring 0 rfl).lenEq;have M:=(u.bring 0 rfl).reLen hn18;exact⟨_,.cons (.tmp rfl) .nil,A2,k3,(by first | (simp only [sl,hn18];done) | (simp only [sl,hn18];rfl)),M⟩
 ·refine bk<|wk [0,3,4] ?_;refine it (fun(j0:Int × (List D.Net)) F w9=>St w w9 [Own ty64 [.slice A2 (List.replicate (x0.length:Int).toNat (⟨([]:(List D.Agent))⟩:D.Net)).length k3] j0.2]∧F=[(0,sl G x0 i0),(3,.slice A2 (List.replicate (x0.length:Int).toNat (⟨([]:(List D.Agent))⟩:D.Net)).length k3),(4,.int .i64 j0.1)]) b0 ⟨t0,rfl⟩ ?_;rintro j0 F L0 _ G0 ⟨h,rfl⟩ d e0;unfold z5z at d;refine sq<|sq<|rg<|rr 4 ?_;refine rn<|ci d (fun d=>?_) (fun d=>?_)
  ·refine sp<|sq<|bk<|rg<|rr 4 ?_;obtain⟨O0,f0,d⟩:=bS d;refine ix (hE.trans h.ext) r0 f0 (fun H0 q0 Z z=>?_);obtain⟨B0,E0,p0,D0⟩:=z8a z;subst p0;refine lN (At.ext (hE.trans h.ext) Z) ?_;obtain⟨y0,g0,d⟩:=bS d;refine ca zgm (laws_toNet_ok (hE.trans h.ext) z g0) (fun J0 M0 H=>?_);obtain⟨C0,F0,rfl,L⟩:=H;have O:=h.join L;have y:=O.bring 1 rfl;obtain⟨a0,d⟩:=iS d;have o:=of_decide_eq_true a0;refine io y o.1 o.2 (fun q47 hq48=>?_);have S:=y.bring 1 rfl;have V:=zd4 (c:=y0) (B:=_) S;have X:=V.bring 1 rfl;refine se X o.2 hq48 (fun N0 Y=>?_);refine rn<|rg<|rr 3 ?_;refine rn ?_;cases d;exact⟨_,_,rfl,⟨Y,rfl⟩,rfl⟩
  ·refine xt ?_;cases d;exact⟨_,_,⟨e0,h,rfl⟩,rfl⟩

theorem zcS:Enters Tryz.prog 36:=⟨_,_,Tryz.func36,rfl,by kernel_rfl⟩
def z4S (fuel:Nat) (x0:D.Word):Option (D.Word):=some (⟨x0.Tag,x0.At⟩:D.Word)

theorem laws_toWord_ok {W w:World}(hE:Ext W w){L:List Value}{x0:D.Word}(M:ty24.ro W L x0){fuel:Nat}{r:D.Word}(hm:z4S fuel x0=some r):
  Calls Tryz.prog 36 ⟨[.agg ⟨L⟩]⟩ w (Ret fun v w8=>v=.agg ⟨[.int .i64 r.Tag,.int .i64 r.At]⟩∧St w w8 []):=by
 have e1:=z9n M;subst e1;refine into Tryz.func36 11 _ ?_;unfold z4S at hm;have hS:=St.start w;refine sq<|rg<|nw hS (fun g2 w3 e4 O=>?_);refine nw O (fun g6 w7 S y=>?_);refine rn<|sq<|rg<|nw y (fun X Y V d=>?_);refine rn<|sq<|rg<|rr 1 ?_;refine l1 ((d.bring 2 rfl).box) 0 ?_;refine rr 1 ?_;have z:=d.bring 0 rfl;refine so (A:=[]) z 0 (fun Z h=>?_);refine rn<|sq<|rg<|rr 1 ?_;refine l1 ((h.bring 2 rfl).box) 1 ?_;refine rr 1 ?_;have G:=h.bring 0 rfl;refine so (A:=[]) G 1 (fun a0 o=>?_);refine rn<|sq<|rg<|lN ((o.bring 0 rfl).box) ?_;have H:=o.bring 1 rfl;refine so (A:=[]) H 0 (fun b0 u=>?_);refine rn<|rt ?_;cases hm;exact⟨_,.cons (ra ((u.bring 0 rfl).box)) .nil,rfl,(u.taken 0)⟩

theorem zeR:Enters Tryz.prog 142:=⟨_,_,Tryz.func142,rfl,by kernel_rfl⟩
def z75 (fuel:Nat) (d:(List D.Word)):Option (List D.Word):=some d
def z4R (fuel:Nat) (x0:(List D.Word)) (d:Int × (List D.Word)):Option (Rd (Int × (List D.Word)) ((List D.Word)) ((List D.Word))):=(if(decide (d.1<(x0.length:Int)))=true then((idx x0 d.1).bind fun o=>((z4S fuel o).bind fun h=>(if decide (0≤d.1∧d.1.toNat<d.2.length)=true then some (.next (w64 (d.1+1),(d.2.set d.1.toNat h))) else none))) else some (.brk d.2))
def z5f (fuel:Nat) (x0:(List D.Word)):Option ((List D.Word)):=(if decide (0≤(x0.length:Int)∧(x0.length:Int)≤4294967296)=true then((iter (z4R fuel x0) fuel (0,(List.replicate (x0.length:Int).toNat (⟨(0:Int),(0:Int)⟩:D.Word)))).bind fun o=>aft o (z75 fuel)) else none)

theorem laws_toWordS_ok {W w:World}(hE:Ext W w){G:Option Addr}{g0:Nat}{x0:(List D.Word)}(q0:zb5.ro W [sl G x0 g0] x0){fuel:Nat}{r:(List D.Word)}(hm:z5f fuel x0=some r):
  Calls Tryz.prog 142 ⟨[sl G x0 g0]⟩ w (Ret fun v w8=>∃ A0 k0,v=sl A0 r k0∧St w w8 [ow ty81 A0 r k0]):=by
 refine into Tryz.func142 23 _ ?_;unfold z5f at hm;have hS:=St.start w;refine sq<|rg<|rr 1 ?_;refine rn<|sq<|rg<|rr 2 ?_;obtain⟨t0,hm⟩:=iS hm;have hz7:=of_decide_eq_true t0;refine mS (U:=ty30) (⟨(0:Int),(0:Int)⟩:D.Word) hS hz7 (fun _=>(z8c (c:=(⟨(0:Int),(0:Int)⟩:D.Word)) rfl)) (fun A2 k3 w4 e5 r0=>?_);refine rr 1 ?_;refine rn<|sq<|sq<|rg<|rr 1 ?_;refine rn ?_;obtain⟨u0,a0,hm⟩:=bS hm;refine ct (fun(j0:(List D.Word)) F w9=>u0=.inl j0∧St w w9 [Own ty81 [sl A2 (List.replicate (x0.length:Int).toNat (⟨(0:Int),(0:Int)⟩:D.Word)) k3] j0]∧F=[(3,sl A2 (List.replicate (x0.length:Int).toNat (⟨(0:Int),(0:Int)⟩:D.Word)) k3)]) ?_ ?_
 ·rintro j0 F D0 ⟨b0,u,rfl⟩;subst b0;rw [zi] at hm;unfold z75 at hm;refine sq<|rg<|rr 2 ?_;refine rn<|rt ?_;cases hm;have hn18:=(u.bring 0 rfl).lenEq;have M:=(u.bring 0 rfl).reLen hn18;exact⟨_,.cons (.tmp rfl) .nil,A2,k3,(by first | (simp only [sl,hn18];done) | (simp only [sl,hn18];rfl)),M⟩
 ·refine bk<|wk [0,3,4] ?_;refine it (fun(i0:Int × (List D.Word)) F w9=>St w w9 [Own ty81 [sl A2 (List.replicate (x0.length:Int).toNat (⟨(0:Int),(0:Int)⟩:D.Word)) k3] i0.2]∧F=[(0,sl G x0 g0),(3,sl A2 (List.replicate (x0.length:Int).toNat (⟨(0:Int),(0:Int)⟩:D.Word)) k3),(4,.int .i64 i0.1)]) a0 ⟨r0,rfl⟩ ?_;rintro i0 F E0 _ y0 ⟨h,rfl⟩ d d0;unfold z4R at d;refine sq<|sq<|rg<|rr 4 ?_;refine rn<|ci d (fun d=>?_) (fun d=>?_)
  ·refine sp<|sq<|bk<|rg<|rr 4 ?_;obtain⟨H0,e0,d⟩:=bS d;refine ix (hE.trans h.ext) q0 e0 (fun B0 p0 Y z=>?_);have o0:=z9n z;subst o0;refine lN (At.ext (hE.trans h.ext) Y) ?_;obtain⟨v0,f0,d⟩:=bS d;refine ca zcS (laws_toWord_ok (hE.trans h.ext) z f0) (fun C0 F0 H=>?_);obtain⟨rfl,L⟩:=H;have O:=h.join L;have y:=O.bring 0 rfl;obtain⟨Z,d⟩:=iS d;have o:=of_decide_eq_true Z;refine io y o.1 o.2 (fun q42 hq43=>?_);have S:=zd5 (c:=v0) (B:=_) y;have V:=S.bring 1 rfl;refine se V o.2 hq43 (fun G0 X=>?_);refine rn<|rg<|rr 3 ?_;refine rn ?_;cases d;exact⟨_,_,rfl,⟨X,rfl⟩,rfl⟩
  ·refine xt ?_;cases d;exact⟨_,_,⟨d0,h,rfl⟩,rfl⟩

theorem zfV:Enters Tryz.prog 77:=⟨_,_,Tryz.func77,rfl,by kernel_rfl⟩
def z5W (fuel:Nat) (x0:D.Cell):Option (D.Cell):=((z3N fuel x0.Data).bind fun d=>((z5f fuel x0.Words).bind fun h=>some (⟨x0.Kind,x0.Level,x0.Value,d,h⟩:D.Cell)))

theorem laws_toCell_ok {W w:World}(hE:Ext W w){j0:List Value}{x0:D.Cell}(q0:zch.ro W j0 x0){fuel:Nat}{r:D.Cell}(hm:z5W fuel x0=some r):
  Calls Tryz.prog 77 ⟨[.agg ⟨j0⟩]⟩ w (Ret fun v w8=>∃ A0 k0 A1 k1,v=.agg ⟨[.int .i64 r.Kind,.int .i64 r.Level,.int .i64 r.Value,sl A0 r.Data k0,sl A1 r.Words k1]⟩∧St w w8 [ow ty80 A0 r.Data k0,ow ty81 A1 r.Words k1]):=by
 obtain⟨A1,k2,A4,k5,e7,h3,h6⟩:=z7T q0;subst e7;refine into Tryz.func77 22 _ ?_;unfold z5W at hm;have hS:=St.start w;refine sq<|rg<|nw hS (fun B0 J0 u0 S=>?_);refine nw S (fun C0 K0 v0 V=>?_);refine rn<|sq<|rg<|nw V (fun D0 L0 y0 o=>?_);refine rn<|sq<|rg<|rr 1 ?_;refine l1 ((o.bring 2 rfl).box) 0 ?_;refine rr 1 ?_;have X:=o.bring 0 rfl;refine so (A:=[]) X 0 (fun M0 u=>?_);refine rn<|sq<|rg<|rr 1 ?_;refine l1 ((u.bring 2 rfl).box) 1 ?_;refine rr 1 ?_;have Y:=u.bring 0 rfl;refine so (A:=[]) Y 1 (fun N0 y=>?_);refine rn<|sq<|rg<|rr 1 ?_;refine l1 ((y.bring 2 rfl).box) 2 ?_;refine rr 1 ?_;have Z:=y.bring 0 rfl;refine so (A:=[]) Z 2 (fun O0 d=>?_);refine rn<|sq<|rg<|rr 1 ?_;refine l1 ((d.bring 2 rfl).box) 3 ?_;obtain⟨E0,g0,hm⟩:=bS hm;refine ca zc0 (laws_toInt64S_ok (hE.trans d.ext) h3 g0) (fun G0 P0 H=>?_);obtain⟨o0,r0,rfl,L⟩:=H;have a0:=d.join L;refine rr 1 ?_;have b0:=a0.bring 1 rfl;refine so (A:=[]) b0 3 (fun Q0 h=>?_);refine rn<|sq<|rg<|rr 1 ?_;refine l1 ((h.bring 3 rfl).box) 4 ?_;obtain⟨F0,i0,hm⟩:=bS hm;refine ca zeR (laws_toWordS_ok (hE.trans h.ext) h6 i0) (fun H0 R0 M=>?_);obtain⟨p0,t0,rfl,O⟩:=M;have d0:=h.join O;refine rr 1 ?_;have e0:=d0.bring 1 rfl;refine so (A:=[]) e0 4 (fun S0 z=>?_);refine rn<|sq<|rg<|lN ((z.bring 0 rfl).box) ?_;have f0:=z.bring 3 rfl;refine so (A:=[]) f0 0 (fun T0 G=>?_);refine rn<|rt ?_;cases hm;exact⟨_,.cons (ra ((G.bring 0 rfl).box)) .nil,o0,r0,p0,t0,rfl,(((G.bring 2 rfl).bring 3 rfl).taken 2)⟩

theorem zgd:Enters Tryz.prog 35:=⟨_,_,Tryz.func35,rfl,by kernel_rfl⟩
def z78 (fuel:Nat) (d:(List D.Cell)):Option (List D.Cell):=some d
def z4V (fuel:Nat) (x0:(List D.Cell)) (d:Int × (List D.Cell)):Option (Rd (Int × (List D.Cell)) ((List D.Cell)) ((List D.Cell))):=(if(decide (d.1<(x0.length:Int)))=true then((idx x0 d.1).bind fun o=>((z5W fuel o).bind fun h=>(if decide (0≤d.1∧d.1.toNat<d.2.length)=true then some (.next (w64 (d.1+1),(d.2.set d.1.toNat h))) else none))) else some (.brk d.2))
def z5i (fuel:Nat) (x0:(List D.Cell)):Option ((List D.Cell)):=(if decide (0≤(x0.length:Int)∧(x0.length:Int)≤4294967296)=true then((iter (z4V fuel x0) fuel (0,(List.replicate (x0.length:Int).toNat (⟨(0:Int),(0:Int),(0:Int),([]:(List Int)),([]:(List D.Word))⟩:D.Cell)))).bind fun o=>aft o (z78 fuel)) else none)

theorem laws_toCellS_ok {W w:World}(hE:Ext W w){G:Option Addr}{j0:Nat}{x0:(List D.Cell)}(t0:ty22.ro W [sl G x0 j0] x0){fuel:Nat}{r:(List D.Cell)}(hm:z5i fuel x0=some r):
  Calls Tryz.prog 35 ⟨[sl G x0 j0]⟩ w (Ret fun v w8=>∃ A0 k0,v=sl A0 r k0∧St w w8 [ow ty29 A0 r k0]):=by
 refine into Tryz.func35 23 _ ?_;unfold z5i at hm;have hS:=St.start w;refine sq<|rg<|rr 1 ?_;refine rn<|sq<|rg<|rr 2 ?_;obtain⟨v0,hm⟩:=iS hm;have hz7:=of_decide_eq_true v0;refine mS (U:=ty83) (⟨(0:Int),(0:Int),(0:Int),([]:(List Int)),([]:(List D.Word))⟩:D.Cell) hS hz7 (fun _=>(zaY (c:=(⟨(0:Int),(0:Int),(0:Int),([]:(List Int)),([]:(List D.Word))⟩:D.Cell)) ⟨[],[],rfl,(slNilOwn tInt 2 _),⟨[],[],rfl,(slNilOwn ty30 30 _),rfl⟩⟩)) (fun A2 k3 w4 e5 u0=>?_);refine rr 1 ?_;refine rn<|sq<|sq<|rg<|rr 1 ?_;refine rn ?_;obtain⟨y0,d0,hm⟩:=bS hm;refine ct (fun(p0:(List D.Cell)) F w9=>y0=.inl p0∧St w w9 [Own ty29 [.slice A2 (List.replicate (x0.length:Int).toNat (⟨(0:Int),(0:Int),(0:Int),([]:(List Int)),([]:(List D.Word))⟩:D.Cell)).length k3] p0]∧F=[(3,.slice A2 (List.replicate (x0.length:Int).toNat (⟨(0:Int),(0:Int),(0:Int),([]:(List Int)),([]:(List D.Word))⟩:D.Cell)).length k3)]) ?_ ?_
 ·rintro p0 F Q0 ⟨e0,u,rfl⟩;subst e0;rw [zi] at hm;unfold z78 at hm;refine sq<|rg<|rr 2 ?_;refine rn<|rt ?_;cases hm;have hn18:=(u.bring 0 rfl).lenEq;have M:=(u.bring 0 rfl).reLen hn18;exact⟨_,.cons (.tmp rfl) .nil,A2,k3,(by first | (simp only [sl,hn18];done) | (simp only [sl,hn18];rfl)),M⟩
 ·refine bk<|wk [0,3,4] ?_;refine it (fun(o0:Int × (List D.Cell)) F w9=>St w w9 [Own ty29 [.slice A2 (List.replicate (x0.length:Int).toNat (⟨(0:Int),(0:Int),(0:Int),([]:(List Int)),([]:(List D.Word))⟩:D.Cell)).length k3] o0.2]∧F=[(0,sl G x0 j0),(3,.slice A2 (List.replicate (x0.length:Int).toNat (⟨(0:Int),(0:Int),(0:Int),([]:(List Int)),([]:(List D.Word))⟩:D.Cell)).length k3),(4,.int .i64 o0.1)]) d0 ⟨u0,rfl⟩ ?_;rintro o0 F R0 _ N0 ⟨h,rfl⟩ d f0;unfold z4V at d;refine sq<|sq<|rg<|rr 4 ?_;refine rn<|ci d (fun d=>?_) (fun d=>?_)
  ·refine sp<|sq<|bk<|rg<|rr 4 ?_;obtain⟨U0,g0,d⟩:=bS d;refine ix (hE.trans h.ext) t0 g0 (fun O0 r0 a0 z=>?_);obtain⟨C0,J0,D0,K0,q0,G0,H0⟩:=z7T z;subst q0;refine lN (At.ext (hE.trans h.ext) a0) ?_;obtain⟨B0,i0,d⟩:=bS d;refine ca zfV (laws_toCell_ok (hE.trans h.ext) z i0) (fun P0 S0 H=>?_);obtain⟨E0,L0,F0,M0,rfl,L⟩:=H;have O:=h.join L;have y:=O.bring 2 rfl;obtain⟨b0,d⟩:=iS d;have o:=of_decide_eq_true b0;refine io y o.1 o.2 (fun q52 hq53=>?_);have S:=y.bring 2 rfl;have V:=S.bring 2 rfl;have X:=za5 (c:=B0) (B:=_) V;have Y:=X.bring 1 rfl;refine se Y o.2 hq53 (fun T0 Z=>?_);refine rn<|rg<|rr 3 ?_;refine rn ?_;cases d;exact⟨_,_,rfl,⟨Z,rfl⟩,rfl⟩
  ·refine xt ?_;cases d;exact⟨_,_,⟨f0,h,rfl⟩,rfl⟩

theorem zfU:Enters Tryz.prog 78:=⟨_,_,Tryz.func78,rfl,by kernel_rfl⟩
def z5V (fuel:Nat) (x0:D.Pair):Option (D.Pair):=some (⟨x0.A,x0.B⟩:D.Pair)

theorem laws_toPair_ok {W w:World}(hE:Ext W w){L:List Value}{x0:D.Pair}(M:zde.ro W L x0){fuel:Nat}{r:D.Pair}(hm:z5V fuel x0=some r):
  Calls Tryz.prog 78 ⟨[.agg ⟨L⟩]⟩ w (Ret fun v w8=>v=.agg ⟨[.int .i64 r.A,.int .i64 r.B]⟩∧St w w8 []):=by
 have e1:=zaa M;subst e1;refine into Tryz.func78 11 _ ?_;unfold z5V at hm;have hS:=St.start w;refine sq<|rg<|nw hS (fun g2 w3 e4 O=>?_);refine nw O (fun g6 w7 S y=>?_);refine rn<|sq<|rg<|nw y (fun X Y V d=>?_);refine rn<|sq<|rg<|rr 1 ?_;refine l1 ((d.bring 2 rfl).box) 0 ?_;refine rr 1 ?_;have z:=d.bring 0 rfl;refine so (A:=[]) z 0 (fun Z h=>?_);refine rn<|sq<|rg<|rr 1 ?_;refine l1 ((h.bring 2 rfl).box) 1 ?_;refine rr 1 ?_;have G:=h.bring 0 rfl;refine so (A:=[]) G 1 (fun a0 o=>?_);refine rn<|sq<|rg<|lN ((o.bring 0 rfl).box) ?_;have H:=o.bring 1 rfl;refine so (A:=[]) H 0 (fun b0 u=>?_);refine rn<|rt ?_;cases hm;exact⟨_,.cons (ra ((u.bring 0 rfl).box)) .nil,rfl,(u.taken 0)⟩

theorem zgc:Enters Tryz.prog 37:=⟨_,_,Tryz.func37,rfl,by kernel_rfl⟩
def z77 (fuel:Nat) (d:(List D.Pair)):Option (List D.Pair):=some d
def z4U (fuel:Nat) (x0:(List D.Pair)) (d:Int × (List D.Pair)):Option (Rd (Int × (List D.Pair)) ((List D.Pair)) ((List D.Pair))):=(if(decide (d.1<(x0.length:Int)))=true then((idx x0 d.1).bind fun o=>((z5V fuel o).bind fun h=>(if decide (0≤d.1∧d.1.toNat<d.2.length)=true then some (.next (w64 (d.1+1),(d.2.set d.1.toNat h))) else none))) else some (.brk d.2))
def z5h (fuel:Nat) (x0:(List D.Pair)):Option ((List D.Pair)):=(if decide (0≤(x0.length:Int)∧(x0.length:Int)≤4294967296)=true then((iter (z4U fuel x0) fuel (0,(List.replicate (x0.length:Int).toNat (⟨(0:Int),(0:Int)⟩:D.Pair)))).bind fun o=>aft o (z77 fuel)) else none)

theorem laws_toPairS_ok {W w:World}(hE:Ext W w){G:Option Addr}{g0:Nat}{x0:(List D.Pair)}(q0:ty25.ro W [sl G x0 g0] x0){fuel:Nat}{r:(List D.Pair)}(hm:z5h fuel x0=some r):
  Calls Tryz.prog 37 ⟨[sl G x0 g0]⟩ w (Ret fun v w8=>∃ A0 k0,v=sl A0 r k0∧St w w8 [ow ty31 A0 r k0]):=by
 refine into Tryz.func37 23 _ ?_;unfold z5h at hm;have hS:=St.start w;refine sq<|rg<|rr 1 ?_;refine rn<|sq<|rg<|rr 2 ?_;obtain⟨t0,hm⟩:=iS hm;have hz7:=of_decide_eq_true t0;refine mS (U:=ty87) (⟨(0:Int),(0:Int)⟩:D.Pair) hS hz7 (fun _=>(zaX (c:=(⟨(0:Int),(0:Int)⟩:D.Pair)) rfl)) (fun A2 k3 w4 e5 r0=>?_);refine rr 1 ?_;refine rn<|sq<|sq<|rg<|rr 1 ?_;refine rn ?_;obtain⟨u0,a0,hm⟩:=bS hm;refine ct (fun(j0:(List D.Pair)) F w9=>u0=.inl j0∧St w w9 [Own ty31 [sl A2 (List.replicate (x0.length:Int).toNat (⟨(0:Int),(0:Int)⟩:D.Pair)) k3] j0]∧F=[(3,sl A2 (List.replicate (x0.length:Int).toNat (⟨(0:Int),(0:Int)⟩:D.Pair)) k3)]) ?_ ?_
 ·rintro j0 F D0 ⟨b0,u,rfl⟩;subst b0;rw [zi] at hm;unfold z77 at hm;refine sq<|rg<|rr 2 ?_;refine rn<|rt ?_;cases hm;have hn18:=(u.bring 0 rfl).lenEq;have M:=(u.bring 0 rfl).reLen hn18;exact⟨_,.cons (.tmp rfl) .nil,A2,k3,(by first | (simp only [sl,hn18];done) | (simp only [sl,hn18];rfl)),M⟩
 ·refine bk<|wk [0,3,4] ?_;refine it (fun(i0:Int × (List D.Pair)) F w9=>St w w9 [Own ty31 [sl A2 (List.replicate (x0.length:Int).toNat (⟨(0:Int),(0:Int)⟩:D.Pair)) k3] i0.2]∧F=[(0,sl G x0 g0),(3,sl A2 (List.replicate (x0.length:Int).toNat (⟨(0:Int),(0:Int)⟩:D.Pair)) k3),(4,.int .i64 i0.1)]) a0 ⟨r0,rfl⟩ ?_;rintro i0 F E0 _ y0 ⟨h,rfl⟩ d d0;unfold z4U at d;refine sq<|sq<|rg<|rr 4 ?_;refine rn<|ci d (fun d=>?_) (fun d=>?_)
  ·refine sp<|sq<|bk<|rg<|rr 4 ?_;obtain⟨H0,e0,d⟩:=bS d;refine ix (hE.trans h.ext) q0 e0 (fun B0 p0 Y z=>?_);have o0:=zaa z;subst o0;refine lN (At.ext (hE.trans h.ext) Y) ?_;obtain⟨v0,f0,d⟩:=bS d;refine ca zfU (laws_toPair_ok (hE.trans h.ext) z f0) (fun C0 F0 H=>?_);obtain⟨rfl,L⟩:=H;have O:=h.join L;have y:=O.bring 0 rfl;obtain⟨Z,d⟩:=iS d;have o:=of_decide_eq_true Z;refine io y o.1 o.2 (fun q42 hq43=>?_);have S:=zd3 (c:=v0) (B:=_) y;have V:=S.bring 1 rfl;refine se V o.2 hq43 (fun G0 X=>?_);refine rn<|rg<|rr 3 ?_;refine rn ?_;cases d;exact⟨_,_,rfl,⟨X,rfl⟩,rfl⟩
  ·refine xt ?_;cases d;exact⟨_,_,⟨d0,h,rfl⟩,rfl⟩

theorem zcv:Enters Tryz.prog 9:=⟨_,_,Tryz.func9,rfl,by kernel_rfl⟩
def z2G (fuel:Nat) (x0:D.Memory):Option (D.Memory):=((z5i fuel x0.Cells).bind fun h=>((z4S fuel x0.Root).bind fun d=>((z5h fuel x0.Redexes).bind fun o=>some (⟨h,x0.Free,(⟨d.Tag,d.At⟩:D.Word),o⟩:D.Memory))))

theorem laws_toMemory_ok {W w:World}(hE:Ext W w){p0:List Value}{x0:D.Memory}(t0:ty27.ro W p0 x0){fuel:Nat}{r:D.Memory}(hm:z2G fuel x0=some r):
  Calls Tryz.prog 9 ⟨[.agg ⟨p0⟩]⟩ w (Ret fun v w8=>∃ A0 k0 A1 k1,v=.agg ⟨[sl A0 r.Cells k0,.int .i64 r.Free,.int .i64 r.Root.Tag,.int .i64 r.Root.At,sl A1 r.Redexes k1]⟩∧St w w8 [ow ty29 A0 r.Cells k0,ow ty31 A1 r.Redexes k1]):=by
 obtain⟨A1,k2,A4,k5,e7,h3,h6⟩:=z9m t0;subst e7;refine into Tryz.func9 20 _ ?_;unfold z2G at hm;have hS:=St.start w;refine sq<|rg<|nw hS (fun D0 N0 y0 V=>?_);refine nw V (fun E0 O0 B0 X=>?_);refine rn<|sq<|rg<|nw X (fun F0 P0 C0 d=>?_);refine rn<|sq<|rg<|rr 1 ?_;refine l1 ((d.bring 2 rfl).box) 0 ?_;obtain⟨G0,i0,hm⟩:=bS hm;refine ca zgd (laws_toCellS_ok (hE.trans d.ext) h3 i0) (fun K0 Q0 G=>?_);obtain⟨q0,u0,rfl,H⟩:=G;have Y:=d.join H;refine rr 1 ?_;have Z:=Y.bring 1 rfl;refine so (A:=[]) Z 0 (fun R0 u=>?_);refine rn<|sq<|rg<|rr 1 ?_;refine l1 ((u.bring 3 rfl).box) 1 ?_;refine rr 1 ?_;have a0:=u.bring 0 rfl;refine so (A:=[]) a0 1 (fun S0 h=>?_);refine rn<|sq<|rg<|rr 1 ?_;refine lN (At.sub ((h.bring 3 rfl).box) 2 2) ?_;obtain⟨H0,j0,hm⟩:=bS hm;refine ca zcS (laws_toWord_ok (hE.trans h.ext) (zdN x0.Root) j0) (fun L0 T0 L=>?_);obtain⟨rfl,M⟩:=L;have b0:=h.join M;refine rr 1 ?_;have d0:=b0.bring 0 rfl;refine so (A:=[]) d0 2 (fun U0 o=>?_);refine rn<|sq<|rg<|rr 1 ?_;refine l1 ((o.bring 3 rfl).box) 4 ?_;obtain⟨J0,o0,hm⟩:=bS hm;refine ca zgc (laws_toPairS_ok (hE.trans o.ext) h6 o0) (fun M0 V0 O=>?_);obtain⟨r0,v0,rfl,S⟩:=O;have e0:=o.join S;refine rr 1 ?_;have f0:=e0.bring 1 rfl;refine so (A:=[]) f0 4 (fun X0 y=>?_);refine rn<|sq<|rg<|lN ((y.bring 0 rfl).box) ?_;have g0:=y.bring 3 rfl;refine so (A:=[]) g0 0 (fun Y0 z=>?_);refine rn<|rt ?_;cases hm;exact⟨_,.cons (ra ((z.bring 0 rfl).box)) .nil,q0,u0,r0,v0,rfl,(((z.bring 2 rfl).bring 3 rfl).taken 2)⟩

theorem zg2:Enters Tryz.prog 66:=⟨_,_,Tryz.func66,rfl,by kernel_rfl⟩
def z6e (fuel:Nat) (t2:Unit):Option Bool:=some true
def z3w (fuel:Nat) (x0:(List D.Net)) (s1:Int):Option (Rd (Int) (Unit) (Bool)):=(if(decide (s1<(x0.length:Int)))=true then((idx x0 s1).bind fun h=>((z6k fuel h).bind fun d=>(if(!d)=true then some (.ret false) else some (.next (w64 (s1+1)))))) else some (.brk ()))
def z5d (fuel:Nat) (x0:(List D.Net)):Option (Bool):=(if(decide ((x0.length:Int)>24))=true then some false else((iter (z3w fuel x0) fuel 0).bind fun o=>aft o (z6e fuel)))

theorem z9v {W w:World}(hE:Ext W w){G:Option Addr}{Y:Nat}{x0:(List D.Net)}(d0:ty64.ro W [sl G x0 Y] x0){fuel:Nat}{r:Bool}(hm:z5d fuel x0=some r):
  Calls Tryz.prog 66 ⟨[sl G x0 Y]⟩ w (Ret fun v w8=>v=.bool r∧St w w8 []):=by
 refine into Tryz.func66 18 _ ?_;unfold z5d at hm;have hS:=St.start w;refine sq<|rg<|rr 1 ?_;refine rn<|sq<|sq<|rg<|rr 3 ?_;refine rn<|ci hm (fun hm=>?_) (fun hm=>?_)
 ·refine sq<|rg<|rr 1 ?_;refine rn<|rt ?_;cases hm;exact⟨_,.cons (.tmp rfl) .nil,rfl,hS⟩
 ·refine sp<|sq<|sq<|rg<|rr 1 ?_;refine rn ?_;obtain⟨e0,O,hm⟩:=bS hm;refine ct (fun(t2:Unit) F w9=>e0=.inl t2∧Ext w w9∧St w w9 []∧F=[]) ?_ ?_
  ·rintro t2 F w7 ⟨S,i0,L,rfl⟩;subst S;rw [zi] at hm;unfold z6e at hm;refine sq<|rg<|rr 1 ?_;refine rn<|rt ?_;cases hm;exact⟨_,.cons (.tmp rfl) .nil,rfl,L⟩
  ·refine bk<|wk [0,3] ?_;refine it (fun(s1:Int) F w9=>Ext w w9∧St w w9 []∧F=[(0,sl G x0 Y),(3,.int .i64 s1)]) O ⟨(Ext.refl _),hS,rfl⟩ ?_;rintro s1 F r0 _ k0 ⟨Z,h,rfl⟩ d y;unfold z3w at d;refine sq<|sq<|rg<|rr 4 ?_;refine rn<|ci d (fun d=>?_) (fun d=>?_)
   ·refine sp<|sq<|bk<|sq<|rg<|rr 2 ?_;obtain⟨u0,V,d⟩:=bS d;refine ix (hE.trans h.ext) d0 V (fun o0 b0 M z=>?_);obtain⟨f0,j0,a0,g0⟩:=z15 z;subst a0;obtain⟨p0,X,d⟩:=bS d;refine ca zg5 (zay (hE.trans h.ext) z M X) (fun q0 t0 H=>?_);obtain⟨rfl,o⟩:=H;have u:=h.join o;refine rr 1 ?_;refine rn<|ci d (fun d=>?_) (fun d=>?_)
    ·refine sq<|rg<|rr 1 ?_;refine rn<|rt ?_;cases d;cases y;have hm:some _=some _:=hm;cases hm;exact⟨_,.cons (.tmp rfl) .nil,rfl,u⟩
    ·refine sp<|rg<|rr 3 ?_;refine rn ?_;cases d;exact⟨_,_,rfl,⟨(Z.trans o.ext),u,rfl⟩,rfl⟩
   ·refine xt ?_;cases d;exact⟨_,_,⟨y,Z,h,rfl⟩,rfl⟩

theorem zg1:Enters Tryz.prog 67:=⟨_,_,Tryz.func67,rfl,by kernel_rfl⟩
def z5P (fuel:Nat) (x0:D.Memory) (x1:Int):Option (Int):=((z6j fuel x0).bind fun d=>(if(!d)=true then some 1 else((z5 fuel x1 0 (w64 ((x0.Redexes.length:Int) - 1))).bind fun h=>(if(!h)=true then some 2 else some 0))))

theorem z95 {W w:World}(hE:Ext W w){S:Addr}{L:List Value}{x0:D.Memory}{x1:Int}(O:ty33.ro W L x0) (M:At W S L){fuel:Nat}{r:Int}(hm:z5P fuel x0 x1=some r):
  Calls Tryz.prog 67 ⟨[.pointer (some S),.int .i64 x1]⟩ w (Ret fun v w8=>v=.int .i64 r∧St w w8 []):=by
 obtain⟨A1,k2,A4,k5,e7,h3,h6⟩:=zp O;subst e7;refine into Tryz.func67 17 _ ?_;unfold z5P at hm;have hS:=St.start w;refine sq<|rg<|rr 1 ?_;refine rn<|sq<|sq<|rg<|rr 1 ?_;obtain⟨V,G,hm⟩:=bS hm;refine ca zge (zax (hE.trans hS.ext) O M G) (fun Y a0 o=>?_);obtain⟨rfl,u⟩:=o;have d:=hS.join u;refine rr 1 ?_;refine rn<|ci hm (fun hm=>?_) (fun hm=>?_)
 ·refine sq<|rg<|rr 1 ?_;refine rn<|rt ?_;cases hm;exact⟨_,.cons (.tmp rfl) .nil,rfl,d⟩
 ·refine sp<|sq<|sq<|rg<|rr 4 ?_;refine l1 (At.ext (hE.trans d.ext) M) 4 ?_;refine rr 2 ?_;obtain⟨X,H,hm⟩:=bS hm;refine ca z1y (z7 (hE.trans d.ext)  H) (fun Z b0 y=>?_);obtain⟨rfl,z⟩:=y;have h:=d.join z;refine rr 1 ?_;refine rn<|ci hm (fun hm=>?_) (fun hm=>?_)
  ·refine sq<|rg<|rr 1 ?_;refine rn<|rt ?_;cases hm;exact⟨_,.cons (.tmp rfl) .nil,rfl,h⟩
  ·refine sp<|sq<|rg<|rr 1 ?_;refine rn<|rt ?_;cases hm;exact⟨_,.cons (.tmp rfl) .nil,rfl,h⟩

theorem zbO:Enters Tryz.prog 199:=⟨_,_,Tryz.func199,rfl,by kernel_rfl⟩
def z4g (fuel:Nat) (x0:Int) (x1:Int) (x2:Int) (x3:Int):Option (Bool):=((z1N fuel x0 x1).bind fun r1=>(if r1=true then((z1N fuel x2 x3).bind fun d=>(if d=true then(if(x0 != 1)=true then some (x2 != 1) else some false) else some false)) else some false))

theorem z7C {W w:World}(hE:Ext W w){x0:Int}{x1:Int}{x2:Int}{x3:Int}  {fuel:Nat}{r:Bool}(hm:z4g fuel x0 x1 x2 x3=some r):
  Calls Tryz.prog 199 ⟨[.int .i64 x0,.int .i64 x1,.int .i64 x2,.int .i64 x3]⟩ w (Ret fun v w8=>v=.bool r∧St w w8 []):=by
 refine into Tryz.func199 25 _ ?_;unfold z4g at hm;have hS:=St.start w;refine sq<|rg<|rr 1 ?_;refine rn<|sq<|rg<|rr 2 ?_;obtain⟨r1,H,hm⟩:=bS hm;refine ca z8D (z5y (hE.trans hS.ext)  H) (fun v3 w4 z=>?_);obtain⟨rfl,G⟩:=z;have u:=hS.join G;refine rr 1 ?_;refine rb 12 hm (fun hm=>?_) (fun hm=>?_)
 ·refine rr 2 ?_;obtain⟨L,y,hm⟩:=bS hm;refine ca z8D (z5y (hE.trans u.ext)  y) (fun M O h=>?_);obtain⟨rfl,o⟩:=h;have d:=u.join o;refine rr 2 ?_;refine rb 17 hm (fun hm=>?_) (fun hm=>?_)
  ·refine rr 4 ?_;refine rb 21 hm (fun hm=>?_) (fun hm=>?_)
   ·refine rr 4 ?_;refine rn<|rt ?_;cases hm;exact⟨_,.cons (.tmp rfl) .nil,rfl,d⟩
   ·refine rr 4 ?_;refine rn<|rt ?_;cases hm;exact⟨_,.cons (.tmp rfl) .nil,rfl,d⟩
  ·refine rr 8 ?_;refine rn<|rt ?_;cases hm;exact⟨_,.cons (.tmp rfl) .nil,rfl,d⟩
 ·refine rr 13 ?_;refine rn<|rt ?_;cases hm;exact⟨_,.cons (.tmp rfl) .nil,rfl,u⟩

theorem ze9:Enters Tryz.prog 211:=⟨_,_,Tryz.func211,rfl,by kernel_rfl⟩
def z29 (fuel:Nat) (x0:Int) (x1:Int) (x2:Int) (t6:Bool):Option Bool:=(if t6=true then some true else((z3L fuel x1).bind fun d=>(if d=true then some (decide (x2>x0)) else some false)))
def z2a (fuel:Nat) (x0:Int) (x1:Int) (x2:Int) (t1:Bool):Option Bool:=(if t1=true then some false else(if(x1 == 6)=true then z29 fuel x0 x1 x2 true else z29 fuel x0 x1 x2 (x1 == 12)))
def z3M (fuel:Nat) (x0:Int) (x1:Int) (x2:Int):Option (Bool):=((z5 fuel x0 0 8).bind fun d=>(if(!d)=true then z2a fuel x0 x1 x2 true else((z1N fuel x1 x2).bind fun h=>z2a fuel x0 x1 x2 (!h))))

theorem z8m {W w:World}(hE:Ext W w){x0:Int}{x1:Int}{x2:Int}  {fuel:Nat}{r:Bool}(hm:z3M fuel x0 x1 x2=some r):
  Calls Tryz.prog 211 ⟨[.int .i64 x0,.int .i64 x1,.int .i64 x2]⟩ w (Ret fun v w8=>v=.bool r∧St w w8 []):=by
 refine into Tryz.func211 29 _ ?_;unfold z3M at hm;have hS:=St.start w;refine sq<|rg<|rr 1 ?_;refine rn<|sq<|sq<|ct (fun(t1:Bool) F w9=>z2a fuel x0 x1 x2 t1=some r∧Ext w w9∧St w w9 []∧F=[(0,.int .i64 x0),(1,.int .i64 x1),(2,.int .i64 x2),(15,.bool t1)]) ?_ ?_
 ·rintro t1 F w4 ⟨hm,Z,M,rfl⟩;unfold z2a at hm;refine ci hm (fun hm=>?_) (fun hm=>?_)
  ·refine sq<|rg<|rr 1 ?_;refine rn<|rt ?_;cases hm;exact⟨_,.cons (.tmp rfl) .nil,rfl,M⟩
  ·refine sp<|sq<|sq<|ct (fun(t6:Bool) F w9=>z29 fuel x0 x1 x2 t6=some r∧Ext w4 w9∧St w w9 []∧F=[(0,.int .i64 x0),(1,.int .i64 x1),(2,.int .i64 x2),(21,.bool t6)]) ?_ ?_
   ·rintro t6 F i0 ⟨hm,a0,h,rfl⟩;unfold z29 at hm;refine ci hm (fun hm=>?_) (fun hm=>?_)
    ·refine sq<|rg<|rr 1 ?_;refine rn<|rt ?_;cases hm;exact⟨_,.cons (.tmp rfl) .nil,rfl,h⟩
    ·refine sp<|sq<|rg<|rr 1 ?_;obtain⟨b0,S,hm⟩:=bS hm;refine ca zbW (z7r (hE.trans h.ext)  S) (fun e0 j0 z=>?_);obtain⟨rfl,G⟩:=z;have y:=h.join G;refine rr 1 ?_;refine rb 24 hm (fun hm=>?_) (fun hm=>?_)
     ·refine rr 5 ?_;refine rn<|rt ?_;cases hm;exact⟨_,.cons (.tmp rfl) .nil,rfl,y⟩
     ·refine rr 5 ?_;refine rn<|rt ?_;cases hm;exact⟨_,.cons (.tmp rfl) .nil,rfl,y⟩
   ·refine rg<|rr 3 ?_;refine rb 18 hm (fun hm=>?_) (fun hm=>?_)
    ·refine rr 3 ?_;refine rn ?_;exact⟨true,_,⟨hm,(Ext.refl _),M,rfl⟩,rfl⟩
    ·refine rr 3 ?_;refine rn ?_;exact⟨(x1 == 12),_,⟨hm,(Ext.refl _),M,rfl⟩,rfl⟩
 ·refine rg<|rr 1 ?_;obtain⟨d0,V,hm⟩:=bS hm;refine ca z1y (z7 (hE.trans hS.ext)  V) (fun f0 k0 H=>?_);obtain⟨rfl,d⟩:=H;have o:=hS.join d;refine rr 2 ?_;refine rb 10 hm (fun hm=>?_) (fun hm=>?_)
  ·refine rr 5 ?_;refine rn ?_;exact⟨true,_,⟨hm,d.ext,o,rfl⟩,rfl⟩
  ·refine rr 2 ?_;obtain⟨Y,X,hm⟩:=bS hm;refine ca z8D (z5y (hE.trans o.ext)  X) (fun g0 o0 L=>?_);obtain⟨rfl,u⟩:=L;have O:=o.join u;refine rr 2 ?_;refine rn ?_;exact⟨!Y,_,⟨hm,(d.ext.trans u.ext),O,rfl⟩,rfl⟩

theorem ze8:Enters Tryz.prog 212:=⟨_,_,Tryz.func212,rfl,by kernel_rfl⟩
def z28 (fuel:Nat) (t1:Bool):Option Bool:=(if t1=true then some true else some false)
def z27 (fuel:Nat) (t6:Bool):Option Bool:=z28 fuel t6
def z26 (fuel:Nat) (d:Bool):Option Bool:=z27 fuel d
def z25 (fuel:Nat) (d:Bool):Option Bool:=z26 fuel d
def z3K (fuel:Nat) (x0:Int):Option (Bool):=(if(x0 == 3)=true then z28 fuel (x0 == 3) else(if(x0 == 7)=true then z27 fuel (x0 == 7) else(if(x0 == 8)=true then z26 fuel (x0 == 8) else(if(x0 == 10)=true then z25 fuel (x0 == 10) else z25 fuel (x0 == 11)))))

theorem z8k {W w:World}(hE:Ext W w){x0:Int}  {fuel:Nat}{r:Bool}(hm:z3K fuel x0=some r):
  Calls Tryz.prog 212 ⟨[.int .i64 x0]⟩ w (Ret fun v w8=>v=.bool r∧St w w8 []):=by
 refine into Tryz.func212 10 _ ?_;unfold z3K at hm;have hS:=St.start w;refine sq<|rg<|rr 1 ?_;refine rn<|sq<|sq<|rg<|rr 1 ?_;refine rn<|bk<|sq<|sq<|rg<|rr 2 ?_;refine rn<|ct (fun(t1:Bool) F w9=>z28 fuel t1=some r∧Ext w w9∧St w w9 []∧F=[(4,.bool t1)]) ?_ ?_
 ·rintro t1 F w4 ⟨hm,M,H,rfl⟩;unfold z28 at hm;refine ci hm (fun hm=>?_) (fun hm=>?_)
  ·refine sq<|rg<|rr 1 ?_;refine rn<|rt ?_;cases hm;exact⟨_,.cons (.tmp rfl) .nil,rfl,H⟩
  ·refine sp<|sq<|rg<|rr 1 ?_;refine rn<|rt ?_;cases hm;exact⟨_,.cons (.tmp rfl) .nil,rfl,H⟩
 ·refine ci hm (fun hm=>?_) (fun hm=>?_)
  ·refine sp ?_;exact⟨(x0 == 3),_,⟨hm,(Ext.refl _),hS,rfl⟩,rfl⟩
  ·refine sq<|rg<|rr 2 ?_;refine rn<|ct (fun(t6:Bool) F w9=>z27 fuel t6=some r∧Ext w w9∧St w w9 []∧F=[(4,.bool t6)]) ?_ ?_
   ·rintro t6 F O ⟨hm,L,y,rfl⟩;unfold z27 at hm;exact⟨t6,_,⟨hm,L,y,rfl⟩,rfl⟩
   ·refine ci hm (fun hm=>?_) (fun hm=>?_)
    ·refine sp ?_;exact⟨(x0 == 7),_,⟨hm,(Ext.refl _),hS,rfl⟩,rfl⟩
    ·refine sq<|rg<|rr 2 ?_;refine rn<|ct (fun(d:Bool) F w9=>z26 fuel d=some r∧Ext w w9∧St w w9 []∧F=[(4,.bool d)]) ?_ ?_
     ·rintro d F S ⟨hm,o,z,rfl⟩;unfold z26 at hm;exact⟨d,_,⟨hm,o,z,rfl⟩,rfl⟩
     ·refine ci hm (fun hm=>?_) (fun hm=>?_)
      ·refine sp ?_;exact⟨(x0 == 8),_,⟨hm,(Ext.refl _),hS,rfl⟩,rfl⟩
      ·refine sq<|rg<|rr 2 ?_;refine rn<|ct (fun(h:Bool) F w9=>z25 fuel h=some r∧Ext w w9∧St w w9 []∧F=[(4,.bool h)]) ?_ ?_
       ·rintro h F V ⟨hm,u,G,rfl⟩;unfold z25 at hm;exact⟨h,_,⟨hm,u,G,rfl⟩,rfl⟩
       ·refine ci hm (fun hm=>?_) (fun hm=>?_)
        ·refine sp ?_;exact⟨(x0 == 10),_,⟨hm,(Ext.refl _),hS,rfl⟩,rfl⟩
        ·refine rg<|rr 2 ?_;refine rn ?_;exact⟨(x0 == 11),_,⟨hm,(Ext.refl _),hS,rfl⟩,rfl⟩

theorem z8B:Enters Tryz.prog 200:=⟨_,_,Tryz.func200,rfl,by kernel_rfl⟩
def z3A (fuel:Nat) (x1:Int) (x2:Int) (x3:Int) (t1:Bool):Option Int:=(if t1=true then some 2 else((z3M fuel x1 x2 x3).bind fun r6=>(if r6=true then some 3 else some 0)))
def z3z (fuel:Nat) (d:Bool):Option Int:=(if d=true then some 1 else some 0)
def z3y (fuel:Nat) (x2:Int) (d:Bool):Option Int:=(if d=true then some 5 else(if(x2 == 11)=true then some 6 else some 0))
def z2q (fuel:Nat) (x0:Int) (x1:Int) (x2:Int) (x3:Int):Option (Int):=(if(x0 == 5)=true then some 4 else(if(x0 == 4)=true then(if(x2 == 4)=true then z3A fuel x1 x2 x3 (x1 == x3) else z3A fuel x1 x2 x3 false) else(if(x0 == 2)=true then(if(x2 == 3)=true then z3z fuel (x1 == x3) else z3z fuel false) else(if(x0 == 6)=true then(if(x2 == 7)=true then z3y fuel x2 (x2 == 7) else z3y fuel x2 (x2 == 8)) else(if(x0 == 9)=true then(if(x2 == 10)=true then some 6 else some 0) else(if(x0 == 12)=true then((z3K fuel x2).bind fun d=>(if d=true then some 7 else some 0)) else some 0))))))

theorem z5O {W w:World}(hE:Ext W w){x0:Int}{x1:Int}{x2:Int}{x3:Int}  {fuel:Nat}{r:Int}(hm:z2q fuel x0 x1 x2 x3=some r):
  Calls Tryz.prog 200 ⟨[.int .i64 x0,.int .i64 x1,.int .i64 x2,.int .i64 x3]⟩ w (Ret fun v w8=>v=.int .i64 r∧St w w8 []):=by
 refine into Tryz.func200 50 _ ?_;unfold z2q at hm;have hS:=St.start w;refine sq<|rg<|rr 1 ?_;refine rn<|sq<|sq<|rg<|rr 1 ?_;refine rn<|bk<|sq<|rg<|rr 2 ?_;refine rn<|ci hm (fun hm=>?_) (fun hm=>?_)
 ·refine sq<|rg<|rr 1 ?_;refine rn<|rt ?_;cases hm;exact⟨_,.cons (.tmp rfl) .nil,rfl,hS⟩
 ·refine sq<|rg<|rr 2 ?_;refine rn<|ci hm (fun hm=>?_) (fun hm=>?_)
  ·refine sq<|sq<|ct (fun(t1:Bool) F w9=>z3A fuel x1 x2 x3 t1=some r∧Ext w w9∧St w w9 []∧F=[(1,.int .i64 x1),(2,.int .i64 x2),(3,.int .i64 x3),(20,.bool t1)]) ?_ ?_
   ·rintro t1 F w4 ⟨hm,Z,L,rfl⟩;unfold z3A at hm;refine ci hm (fun hm=>?_) (fun hm=>?_)
    ·refine sq<|rg<|rr 1 ?_;refine rn<|rt ?_;cases hm;exact⟨_,.cons (.tmp rfl) .nil,rfl,L⟩
    ·refine sp<|sq<|rg<|rr 3 ?_;obtain⟨r6,Y,hm⟩:=bS hm;refine ca ze9 (z8m (hE.trans L.ext)  Y) (fun b0 e0 y=>?_);obtain⟨rfl,z⟩:=y;have h:=L.join z;refine rn<|ci hm (fun hm=>?_) (fun hm=>?_)
     ·refine sq<|rg<|rr 1 ?_;refine rn<|rt ?_;cases hm;exact⟨_,.cons (.tmp rfl) .nil,rfl,h⟩
     ·refine sp<|sq<|rg<|rr 1 ?_;refine rn<|rt ?_;cases hm;exact⟨_,.cons (.tmp rfl) .nil,rfl,h⟩
   ·refine rg<|rr 3 ?_;refine rb 16 hm (fun hm=>?_) (fun hm=>?_)
    ·refine rr 4 ?_;refine rn ?_;exact⟨(x1 == x3),_,⟨hm,(Ext.refl _),hS,rfl⟩,rfl⟩
    ·refine rr 4 ?_;refine rn ?_;exact⟨false,_,⟨hm,(Ext.refl _),hS,rfl⟩,rfl⟩
  ·refine sq<|rg<|rr 2 ?_;refine rn<|ci hm (fun hm=>?_) (fun hm=>?_)
   ·refine sq<|ct (fun(O:Bool) F w9=>z3z fuel O=some r∧Ext w w9∧St w w9 []∧F=[(33,.bool O)]) ?_ ?_
    ·rintro O F f0 ⟨hm,V,o,rfl⟩;unfold z3z at hm;refine ci hm (fun hm=>?_) (fun hm=>?_)
     ·refine sq<|rg<|rr 1 ?_;refine rn<|rt ?_;cases hm;exact⟨_,.cons (.tmp rfl) .nil,rfl,o⟩
     ·refine sp<|sq<|rg<|rr 1 ?_;refine rn<|rt ?_;cases hm;exact⟨_,.cons (.tmp rfl) .nil,rfl,o⟩
    ·refine rg<|rr 3 ?_;refine rb 29 hm (fun hm=>?_) (fun hm=>?_)
     ·refine rr 4 ?_;refine rn ?_;exact⟨(x1 == x3),_,⟨hm,(Ext.refl _),hS,rfl⟩,rfl⟩
     ·refine rr 4 ?_;refine rn ?_;exact⟨false,_,⟨hm,(Ext.refl _),hS,rfl⟩,rfl⟩
   ·refine sq<|rg<|rr 2 ?_;refine rn<|ci hm (fun hm=>?_) (fun hm=>?_)
    ·refine sq<|rg<|rr 1 ?_;refine rn<|bk<|sq<|sq<|rg<|rr 2 ?_;refine rn<|ct (fun(S:Bool) F w9=>z3y fuel x2 S=some r∧Ext w w9∧St w w9 []∧F=[(36,.int .i64 x2),(37,.bool S)]) ?_ ?_
     ·rintro S F g0 ⟨hm,X,d,rfl⟩;unfold z3y at hm;refine ci hm (fun hm=>?_) (fun hm=>?_)
      ·refine sq<|rg<|rr 1 ?_;refine rn<|rt ?_;cases hm;exact⟨_,.cons (.tmp rfl) .nil,rfl,d⟩
      ·refine sq<|rg<|rr 2 ?_;refine rn<|ci hm (fun hm=>?_) (fun hm=>?_)
       ·refine sq<|rg<|rr 1 ?_;refine rn<|rt ?_;cases hm;exact⟨_,.cons (.tmp rfl) .nil,rfl,d⟩
       ·refine sp<|sq<|rg<|rr 1 ?_;refine rn<|rt ?_;cases hm;exact⟨_,.cons (.tmp rfl) .nil,rfl,d⟩
     ·refine ci hm (fun hm=>?_) (fun hm=>?_)
      ·refine sp ?_;exact⟨(x2 == 7),_,⟨hm,(Ext.refl _),hS,rfl⟩,rfl⟩
      ·refine rg<|rr 2 ?_;refine rn ?_;exact⟨(x2 == 8),_,⟨hm,(Ext.refl _),hS,rfl⟩,rfl⟩
    ·refine sq<|rg<|rr 2 ?_;refine rn<|ci hm (fun hm=>?_) (fun hm=>?_)
     ·refine sq<|rg<|rr 2 ?_;refine rn<|ci hm (fun hm=>?_) (fun hm=>?_)
      ·refine sq<|rg<|rr 1 ?_;refine rn<|rt ?_;cases hm;exact⟨_,.cons (.tmp rfl) .nil,rfl,hS⟩
      ·refine sp<|sq<|rg<|rr 1 ?_;refine rn<|rt ?_;cases hm;exact⟨_,.cons (.tmp rfl) .nil,rfl,hS⟩
     ·refine sq<|rg<|rr 2 ?_;refine rn<|ci hm (fun hm=>?_) (fun hm=>?_)
      ·refine sq<|rg<|rr 1 ?_;obtain⟨a0,M,hm⟩:=bS hm;refine ca ze8 (z8k (hE.trans hS.ext)  M) (fun d0 i0 G=>?_);obtain⟨rfl,H⟩:=G;have u:=hS.join H;refine rn<|ci hm (fun hm=>?_) (fun hm=>?_)
       ·refine sq<|rg<|rr 1 ?_;refine rn<|rt ?_;cases hm;exact⟨_,.cons (.tmp rfl) .nil,rfl,u⟩
       ·refine sp<|sq<|rg<|rr 1 ?_;refine rn<|rt ?_;cases hm;exact⟨_,.cons (.tmp rfl) .nil,rfl,u⟩
      ·refine sp<|sq<|rg<|rr 1 ?_;refine rn<|rt ?_;cases hm;exact⟨_,.cons (.tmp rfl) .nil,rfl,hS⟩

theorem zex:Enters Tryz.prog 171:=⟨_,_,Tryz.func171,rfl,by kernel_rfl⟩
def z3a (fuel:Nat) (x0:Int) (x1:Int) (x2:Int) (x3:Int):Option (Int):=((z4g fuel x0 x1 x2 x3).bind fun r1=>(if(!r1)=true then some 0 else((z2q fuel x0 x1 x2 x3).bind fun d=>(if(d != 0)=true then some 1 else((z2q fuel x2 x3 x0 x1).bind fun h=>(if(h != 0)=true then some 2 else some 0))))))

theorem z81 {W w:World}(hE:Ext W w){x0:Int}{x1:Int}{x2:Int}{x3:Int}  {fuel:Nat}{r:Int}(hm:z3a fuel x0 x1 x2 x3=some r):
  Calls Tryz.prog 171 ⟨[.int .i64 x0,.int .i64 x1,.int .i64 x2,.int .i64 x3]⟩ w (Ret fun v w8=>v=.int .i64 r∧St w w8 []):=by
 refine into Tryz.func171 27 _ ?_;unfold z3a at hm;have hS:=St.start w;refine sq<|rg<|rr 1 ?_;refine rn<|sq<|sq<|rg<|rr 4 ?_;obtain⟨r1,S,hm⟩:=bS hm;refine ca zbO (z7C (hE.trans hS.ext)  S) (fun v3 w4 M=>?_);obtain⟨rfl,O⟩:=M;have G:=hS.join O;refine rr 1 ?_;refine rn<|ci hm (fun hm=>?_) (fun hm=>?_)
 ·refine sq<|rg<|rr 1 ?_;refine rn<|rt ?_;cases hm;exact⟨_,.cons (.tmp rfl) .nil,rfl,G⟩
 ·refine sp<|sq<|sq<|rg<|rr 4 ?_;obtain⟨V,H,hm⟩:=bS hm;refine ca z8B (z5O (hE.trans G.ext)  H) (fun Y a0 o=>?_);obtain⟨rfl,u⟩:=o;have d:=G.join u;refine rr 1 ?_;refine rn<|ci hm (fun hm=>?_) (fun hm=>?_)
  ·refine sq<|rg<|rr 1 ?_;refine rn<|rt ?_;cases hm;exact⟨_,.cons (.tmp rfl) .nil,rfl,d⟩
  ·refine sp<|sq<|sq<|rg<|rr 4 ?_;obtain⟨X,L,hm⟩:=bS hm;refine ca z8B (z5O (hE.trans d.ext)  L) (fun Z b0 y=>?_);obtain⟨rfl,z⟩:=y;have h:=d.join z;refine rr 1 ?_;refine rn<|ci hm (fun hm=>?_) (fun hm=>?_)
   ·refine sq<|rg<|rr 1 ?_;refine rn<|rt ?_;cases hm;exact⟨_,.cons (.tmp rfl) .nil,rfl,h⟩
   ·refine sp<|sq<|rg<|rr 1 ?_;refine rn<|rt ?_;cases hm;exact⟨_,.cons (.tmp rfl) .nil,rfl,h⟩

theorem zf5:Enters Tryz.prog 123:=⟨_,_,Tryz.func123,rfl,by kernel_rfl⟩
def z3o (fuel:Nat) (x0:D.Memory) (x1:D.Pair):Option (Int × Int):=((idx x0.Cells x1.A).bind fun d=>((idx x0.Cells x1.B).bind fun h=>((z3a fuel d.Kind d.Level h.Kind h.Level).bind fun o=>(if(o == 2)=true then some (x1.B,x1.A) else some (x1.A,x1.B)))))

theorem z92 {W w:World}(hE:Ext W w){k0:Addr}{g0:List Value}{x0:D.Memory}{i0:List Value}{x1:D.Pair}(u0:ty33.ro W g0 x0) (j0:At W k0 g0) (v0:ty87.ro W i0 x1){fuel:Nat}{r:Int × Int}(hm:z3o fuel x0 x1=some r):
  Calls Tryz.prog 123 ⟨[.pointer (some k0),.agg ⟨i0⟩]⟩ w (Ret fun v w8=>v=.tuple ⟨[.int .i64 r.1,.int .i64 r.2]⟩∧St w w8 []):=by
 obtain⟨A1,k2,A4,k5,e7,h3,h6⟩:=zp u0;subst e7;have o0:=z1i v0;subst o0;refine into Tryz.func123 48 _ ?_;unfold z3o at hm;have hS:=St.start w;refine sq<|rg<|nw hS (fun E0 S0 D0 H=>?_);refine rr 2 ?_;refine rn<|sq<|dn 0 mixed 8 [([],255),([0],254),([1],253),([2],251),([],255),([4],239),([3,5],215),([6,0,1,2,3,4,5,6],191)] H.ext (fun u=>?_);have L:=H.step (Ext.draw _);refine dr 4 u [0,1,2,4] ?_;refine dl u 3 (At.ext (hE.trans H.ext) j0) 0 ?_;refine dl u 5 ((H.bring 0 rfl).box) 0 ?_;obtain⟨U0,d0,hm⟩:=bS hm;refine dx (hE.trans H.ext) u 6 h3 d0 (fun O0 r0 S a0=>?_);obtain⟨y0,K0,A0,L0,p0,F0,G0⟩:=z4 a0;subst p0;refine dr 0 u [7] ?_;refine dw [0,3,6] ?_;refine dd u ?_;refine sq<|dn 0 mixed 8 [([],255),([0],254),([1],253),([2],251),([],255),([4],239),([3,5],215),([6,0,1,2,3,4,5,6],191)] L.ext (fun y=>?_);have o:=L.step (Ext.draw _);refine dr 4 y [0,1,2,4] ?_;refine dl y 3 (At.ext (hE.trans L.ext) j0) 0 ?_;refine dl y 5 ((L.bring 0 rfl).box) 1 ?_;obtain⟨V0,e0,hm⟩:=bS hm;refine dx (hE.trans L.ext) y 6 h3 e0 (fun P0 t0 V b0=>?_);obtain⟨B0,M0,C0,N0,q0,H0,J0⟩:=z4 b0;subst q0;refine dr 0 y [7] ?_;refine dw [3,6,7] ?_;refine dd y ?_;refine sq<|sq<|dn 0 mixed 18 [([],262143),([0],262142),([1],262141),([2],262139),([],262143),([4],262127),([5],262111),([6],262079),([],262143),([8],261887),([9],261631),([10],261119),([],262143),([12],258047),([13],253951),([14],245759),([3,7,11,15],227191),([16],196607)] o.ext (fun d=>?_);have O:=o.step (Ext.draw _);refine dr 6 d [0,1,2,4,5,6,8,9,10,12,13,14] ?_;refine dw [3,24,28,32,36] ?_;refine dl d 3 (At.ext (hE.trans o.ext) S) 0 ?_;refine dl d 7 (At.ext (hE.trans o.ext) S) 1 ?_;refine dl d 11 (At.ext (hE.trans o.ext) V) 0 ?_;refine dl d 15 (At.ext (hE.trans o.ext) V) 1 ?_;obtain⟨Q0,f0,hm⟩:=bS hm;refine o1 d 16 (mc d zex (z81 (hE.trans O.ext)  f0) (fun R0 T0 X=>?_));obtain⟨rfl,M⟩:=X;refine⟨M.ext,?_⟩;have h:=O.join M;refine dr 0 d [17] ?_;refine dw [3,39] ?_;refine dd d ?_;refine ci hm (fun hm=>?_) (fun hm=>?_)
 ·refine sq<|dn 0 mixed 6 [([],63),([0],62),([],63),([2],59),([1,0,1],61),([3,4,0,1,2,3,4],55)] h.ext (fun z=>?_);have Y:=h.step (Ext.draw _);refine dr 4 z [0,2] ?_;refine dl z 1 ((h.bring 0 rfl).box) 1 ?_;refine dr 2 z [4] ?_;refine dl z 3 ((h.bring 0 rfl).box) 0 ?_;refine dr 0 z [5] ?_;refine dw [4,5] ?_;refine dd z ?_;refine rt ?_;cases hm;exact⟨_,.cons (.tmp rfl) (.cons (.tmp rfl) .nil),rfl,(Y.taken 0)⟩
 ·refine sp<|sq<|dn 0 mixed 6 [([],63),([0],62),([],63),([2],59),([1,0,1],61),([3,4,0,1,2,3,4],55)] h.ext (fun G=>?_);have Z:=h.step (Ext.draw _);refine dr 4 G [0,2] ?_;refine dl G 1 ((h.bring 0 rfl).box) 0 ?_;refine dr 2 G [4] ?_;refine dl G 3 ((h.bring 0 rfl).box) 1 ?_;refine dr 0 G [5] ?_;refine dw [4,5] ?_;refine dd G ?_;refine rt ?_;cases hm;exact⟨_,.cons (.tmp rfl) (.cons (.tmp rfl) .nil),rfl,(Z.taken 0)⟩

theorem zef:Enters Tryz.prog 201:=⟨_,_,Tryz.func201,rfl,by kernel_rfl⟩
def z2F (fuel:Nat) (d:Int):Option Int:=(if(d == 0)=true then some 8 else some d)
def z4a (fuel:Nat) (x0:Int) (x1:Int) (x2:Int) (x3:Int):Option (Int):=((z4g fuel x0 x1 x2 x3).bind fun r1=>(if(!r1)=true then some 0 else((z2q fuel x0 x1 x2 x3).bind fun d=>(if(d == 0)=true then((z2q fuel x2 x3 x0 x1).bind fun h=>z2F fuel h) else z2F fuel d))))

theorem z8M {W w:World}(hE:Ext W w){x0:Int}{x1:Int}{x2:Int}{x3:Int}  {fuel:Nat}{r:Int}(hm:z4a fuel x0 x1 x2 x3=some r):
  Calls Tryz.prog 201 ⟨[.int .i64 x0,.int .i64 x1,.int .i64 x2,.int .i64 x3]⟩ w (Ret fun v w8=>v=.int .i64 r∧St w w8 []):=by
 refine into Tryz.func201 31 _ ?_;unfold z4a at hm;have hS:=St.start w;refine sq<|rg<|rr 1 ?_;refine rn<|sq<|sq<|rg<|rr 4 ?_;obtain⟨r1,Y,hm⟩:=bS hm;refine ca zbO (z7C (hE.trans hS.ext)  Y) (fun v3 w4 V=>?_);obtain⟨rfl,X⟩:=V;have H:=hS.join X;refine rr 1 ?_;refine rn<|ci hm (fun hm=>?_) (fun hm=>?_)
 ·refine sq<|rg<|rr 1 ?_;refine rn<|rt ?_;cases hm;exact⟨_,.cons (.tmp rfl) .nil,rfl,H⟩
 ·refine sp<|sq<|rg<|rr 4 ?_;obtain⟨Z,L,hm⟩:=bS hm;refine ca z8B (z5O (hE.trans H.ext)  L) (fun d0 b0 u=>?_);obtain⟨rfl,y⟩:=u;have d:=H.join y;refine rr 1 ?_;refine rn<|sq<|sq<|rg<|rr 2 ?_;refine rn<|ct (fun(O:Int) F w9=>z2F fuel O=some r∧Ext b0 w9∧St w w9 []∧F=[(9,.int .i64 O)]) ?_ ?_
  ·rintro O F f0 ⟨hm,S,o,rfl⟩;unfold z2F at hm;refine sq<|sq<|rg<|rr 2 ?_;refine rn<|ci hm (fun hm=>?_) (fun hm=>?_)
   ·refine sq<|rg<|rr 1 ?_;refine rn<|rt ?_;cases hm;exact⟨_,.cons (.tmp rfl) .nil,rfl,o⟩
   ·refine sp<|sq<|rg<|rr 2 ?_;refine rn<|rt ?_;cases hm;exact⟨_,.cons (.tmp rfl) .nil,rfl,o⟩
  ·refine ci hm (fun hm=>?_) (fun hm=>?_)
   ·refine rg<|rr 4 ?_;obtain⟨a0,M,hm⟩:=bS hm;refine ca z8B (z5O (hE.trans d.ext)  M) (fun e0 g0 z=>?_);obtain⟨rfl,h⟩:=z;have G:=d.join h;refine rr 1 ?_;refine rn ?_;exact⟨a0,_,⟨hm,h.ext,G,rfl⟩,rfl⟩
   ·refine sp ?_;exact⟨Z,_,⟨hm,(Ext.refl _),d,rfl⟩,rfl⟩

theorem zew:Enters Tryz.prog 173:=⟨_,_,Tryz.func173,rfl,by kernel_rfl⟩
def z1T (fuel:Nat) (x0:D.Agent) (x1:D.Agent) (h:Bool):Option Int:=(if h=true then some 8 else((z4a fuel x0.Kind x0.Level x1.Kind x1.Level).bind fun d=>some d))
def z1U (fuel:Nat) (x0:D.Agent) (x1:D.Agent) (d:Bool):Option Int:=(if d=true then some 8 else(if(x0.Kind == 10)=true then(if(x1.Kind == 9)=true then z1T fuel x0 x1 (decide (x1.Value≥(x0.Data.length:Int))) else z1T fuel x0 x1 false) else z1T fuel x0 x1 false))
def z4B (fuel:Nat) (x0:D.Agent) (x1:D.Agent):Option (Int):=(if(x0.Kind == 9)=true then(if(x1.Kind == 10)=true then z1U fuel x0 x1 (decide (x0.Value≥(x1.Data.length:Int))) else z1U fuel x0 x1 false) else z1U fuel x0 x1 false)

theorem z98 {W w:World}(hE:Ext W w){S:Addr}{d0:List Value}{x0:D.Agent}{V:Addr}{e0:List Value}{x1:D.Agent}(g0:z6i.ro W d0 x0) (H:At W S d0) (i0:z6i.ro W e0 x1) (L:At W V e0){fuel:Nat}{r:Int}(hm:z4B fuel x0 x1=some r):
  Calls Tryz.prog 173 ⟨[.pointer (some S),.pointer (some V)]⟩ w (Ret fun v w8=>v=.int .i64 r∧St w w8 []):=by
 obtain⟨A1,k2,A4,k5,e7,h3,h6⟩:=z6 g0;subst e7;obtain⟨p0,u0,q0,v0,f0,r0,t0⟩:=z6 i0;subst f0;refine into Tryz.func173 70 _ ?_;unfold z4B at hm;have hS:=St.start w;refine sq<|rg<|rr 1 ?_;refine rn<|sq<|sq<|ct (fun(a0:Bool) F w9=>z1U fuel x0 x1 a0=some r∧Ext w w9∧St w w9 []∧F=[(0,.pointer (some S)),(1,.pointer (some V)),(28,.bool a0)]) ?_ ?_
 ·rintro a0 F o0 ⟨hm,j0,u,rfl⟩;unfold z1U at hm;refine ci hm (fun hm=>?_) (fun hm=>?_)
  ·refine sq<|rg<|rr 1 ?_;refine rn<|rt ?_;cases hm;exact⟨_,.cons (.tmp rfl) .nil,rfl,u⟩
  ·refine sp<|sq<|sq<|ct (fun(b0:Bool) F w9=>z1T fuel x0 x1 b0=some r∧Ext o0 w9∧St w w9 []∧F=[(0,.pointer (some S)),(1,.pointer (some V)),(52,.bool b0)]) ?_ ?_
   ·rintro b0 F B0 ⟨hm,k0,y,rfl⟩;unfold z1T at hm;refine ci hm (fun hm=>?_) (fun hm=>?_)
    ·refine sq<|rg<|rr 1 ?_;refine rn<|rt ?_;cases hm;exact⟨_,.cons (.tmp rfl) .nil,rfl,y⟩
    ·refine sp<|sq<|dn 0 mixed 18 [([],262143),([0],262142),([1],262141),([2],262139),([],262143),([4],262127),([5],262111),([6],262079),([],262143),([8],261887),([9],261631),([10],261119),([],262143),([12],258047),([13],253951),([14],245759),([3,7,11,15],227191),([16,16,0,1,2,3,4,5,6,7,8,9,10,11,12,13,14,15,16],196607)] y.ext (fun o=>?_);have O:=y.step (Ext.draw _);refine dr 6 o [0,1,2,4,5,6,8,9,10,12,13,14] ?_;refine dw [55,59,63,67] ?_;refine dl o 3 (At.ext (hE.trans y.ext) H) 0 ?_;refine dl o 7 (At.ext (hE.trans y.ext) H) 1 ?_;refine dl o 11 (At.ext (hE.trans y.ext) L) 0 ?_;refine dl o 15 (At.ext (hE.trans y.ext) L) 1 ?_;obtain⟨y0,Z,hm⟩:=bS hm;refine o1 o 16 (mc o zef (z8M (hE.trans O.ext)  Z) (fun A0 C0 X=>?_));obtain⟨rfl,M⟩:=X;refine⟨M.ext,?_⟩;have Y:=O.join M;refine dr 0 o [17] ?_;refine dw [4] ?_;refine dd o ?_;refine rt ?_;cases hm;exact⟨_,.cons (.tmp rfl) .nil,rfl,Y⟩
   ·refine dn 0 mixed 24 [([],16777215),([0],16777214),([1],16777213),([2],16777211),([3],16777207),([4],16777199),([5],16777183),([6,5],16777119),([7,5],16777055),([8,5],16776927),([9,5],16776671),([5,10],16776159),([11,5],16775167),([12],16773119),([13,12],16764927),([14,12],16756735),([15,12],16740351),([12],16773119),([17,12],16642047),([18,12],16510975),([19,12],16248831),([20,12],15724543),([16,21,12],14610431),([12,22],12578815)] u.ext (fun d=>?_);have z:=u.step (Ext.draw _);refine dr 21 d [0,1,2] ?_;refine dl d 3 (At.ext (hE.trans u.ext) H) 0 ?_;refine dr 18 d [4,5] ?_;refine dw [0,1,34] ?_;refine db 34 hm (fun hm=>?_) (fun hm=>?_)
    ·refine dr 15 d [6,7,8] ?_;refine dl d 9 (At.ext (hE.trans u.ext) L) 0 ?_;refine dr 11 d [10,11,12] ?_;refine dw [0,1,41] ?_;refine db 41 hm (fun hm=>?_) (fun hm=>?_)
     ·refine dr 5 d [13,14,15,17,18,19] ?_;refine dl d 16 (At.ext (hE.trans u.ext) L) 2 ?_;refine dl d 20 (At.ext (hE.trans u.ext) H) 3 ?_;refine dr 0 d [21,22,23] ?_;refine dw [0,1,52] ?_;refine dd d ?_;exact⟨decide (x1.Value≥(x0.Data.length:Int)),_,⟨hm,(Ext.draw _),z,rfl⟩,rfl⟩
     ·refine dr 0 d [13,14,15,16,17,18,19,20,21,22,23] ?_;refine dw [0,1,52] ?_;refine dd d ?_;exact⟨false,_,⟨hm,(Ext.draw _),z,rfl⟩,rfl⟩
    ·refine dr 0 d [6,7,8,9,10,11,12,13,14,15,16,17,18,19,20,21,22,23] ?_;refine dw [0,1,52] ?_;refine dd d ?_;exact⟨false,_,⟨hm,(Ext.draw _),z,rfl⟩,rfl⟩
 ·refine dn 0 mixed 24 [([],16777215),([0],16777214),([1],16777213),([2],16777211),([3],16777207),([4],16777199),([5],16777183),([6,5],16777119),([7,5],16777055),([8,5],16776927),([9,5],16776671),([5,10],16776159),([11,5],16775167),([12],16773119),([13,12],16764927),([14,12],16756735),([15,12],16740351),([12],16773119),([17,12],16642047),([18,12],16510975),([19,12],16248831),([20,12],15724543),([16,21,12],14610431),([12,22],12578815)] hS.ext (fun h=>?_);have G:=hS.step (Ext.draw _);refine dr 21 h [0,1,2] ?_;refine dl h 3 (At.ext (hE.trans hS.ext) H) 0 ?_;refine dr 18 h [4,5] ?_;refine dw [0,1,10] ?_;refine db 10 hm (fun hm=>?_) (fun hm=>?_)
  ·refine dr 15 h [6,7,8] ?_;refine dl h 9 (At.ext (hE.trans hS.ext) L) 0 ?_;refine dr 11 h [10,11,12] ?_;refine dw [0,1,17] ?_;refine db 17 hm (fun hm=>?_) (fun hm=>?_)
   ·refine dr 5 h [13,14,15,17,18,19] ?_;refine dl h 16 (At.ext (hE.trans hS.ext) H) 2 ?_;refine dl h 20 (At.ext (hE.trans hS.ext) L) 3 ?_;refine dr 0 h [21,22,23] ?_;refine dw [0,1,28] ?_;refine dd h ?_;exact⟨decide (x0.Value≥(x1.Data.length:Int)),_,⟨hm,(Ext.draw _),G,rfl⟩,rfl⟩
   ·refine dr 0 h [13,14,15,16,17,18,19,20,21,22,23] ?_;refine dw [0,1,28] ?_;refine dd h ?_;exact⟨false,_,⟨hm,(Ext.draw _),G,rfl⟩,rfl⟩
  ·refine dr 0 h [6,7,8,9,10,11,12,13,14,15,16,17,18,19,20,21,22,23] ?_;refine dw [0,1,28] ?_;refine dd h ?_;exact⟨false,_,⟨hm,(Ext.draw _),G,rfl⟩,rfl⟩

theorem zf4:Enters Tryz.prog 124:=⟨_,_,Tryz.func124,rfl,by kernel_rfl⟩
def z4i (fuel:Nat) (d:(Int × Int × Int × (List Int) × (List D.Port))) (h:(Int × Int × Int × (List Int) × (List D.Port))):Option Int:=((z4B fuel (⟨d.1,d.2.1,d.2.2.1,d.2.2.2.1,d.2.2.2.2⟩:D.Agent) (⟨h.1,h.2.1,h.2.2.1,h.2.2.2.1,h.2.2.2.2⟩:D.Agent)).bind fun o=>some o)
def z4j (fuel:Nat) (x0:D.Memory) (x1:D.Pair) (h:(Int × Int × Int × (List Int) × (List D.Port))):Option Int:=((idx x0.Cells x1.B).bind fun o=>((z2D fuel o).bind fun d=>z4i fuel h (d.Kind,d.Level,d.Value,d.Data,d.Ports)))
def z3p (fuel:Nat) (x0:D.Memory) (x1:D.Pair):Option (Int):=((idx x0.Cells x1.A).bind fun h=>((z2D fuel h).bind fun d=>z4j fuel x0 x1 (d.Kind,d.Level,d.Value,d.Data,d.Ports)))

theorem z93 {W w:World}(hE:Ext W w){E1:Addr}{F1:List Value}{x0:D.Memory}{G1:List Value}{x1:D.Pair}(W1:ty33.ro W F1 x0) (J1:At W E1 F1) (b2:ty87.ro W G1 x1){fuel:Nat}{r:Int}(hm:z3p fuel x0 x1=some r):
  Calls Tryz.prog 124 ⟨[.pointer (some E1),.agg ⟨G1⟩]⟩ w (Ret fun v w8=>v=.int .i64 r∧St w w8 []):=by
 obtain⟨A1,k2,A4,k5,e7,h3,h6⟩:=zp W1;subst e7;have P1:=z1i b2;subst P1;refine into Tryz.func124 24 _ ?_;unfold z3p at hm;have hS:=St.start w;refine sq<|rg<|nw hS (fun K1 S2 F2 H=>?_);refine rr 1 ?_;refine rn<|sq<|ct (fun(o:(Int × Int × Int × (List Int) × (List D.Port))) F w9=>∃ f0 H0 J0 e0 G0,z4j fuel x0 x1 o=some r∧ty80.ro W [sl H0 o.2.2.2.1 J0] o.2.2.2.1∧St w w9 [Box f0 [.int .i64 o.1,.int .i64 o.2.1,.int .i64 o.2.2.1,sl H0 o.2.2.2.1 J0,sl e0 o.2.2.2.2 G0] 148,ow z2R e0 o.2.2.2.2 G0,Box K1 [.int .i64 x1.A,.int .i64 x1.B] 87]∧F=[(0,.pointer (some E1)),(3,.pointer (some ⟨K1,0,none⟩)),(5,.pointer (some ⟨f0,0,none⟩))]) ?_ ?_
 ·rintro o F T2 ⟨f0,H0,J0,e0,G0,hm,a2,L,rfl⟩;unfold z4j at hm;refine sq<|ct (fun(z:(Int × Int × Int × (List Int) × (List D.Port))) F w9=>∃ V0 Q0 C1 R0 D1,z4i fuel o z=some r∧ty80.ro W [sl Q0 z.2.2.2.1 C1] z.2.2.2.1∧St w w9 [Box V0 [.int .i64 z.1,.int .i64 z.2.1,.int .i64 z.2.2.1,sl Q0 z.2.2.2.1 C1,sl R0 z.2.2.2.2 D1] 148,ow z2R R0 z.2.2.2.2 D1,Box f0 [.int .i64 o.1,.int .i64 o.2.1,.int .i64 o.2.2.1,sl H0 o.2.2.2.1 J0,sl e0 o.2.2.2.2 G0] 148,ow z2R e0 o.2.2.2.2 G0]∧F=[(5,.pointer (some ⟨f0,0,none⟩)),(6,.pointer (some ⟨V0,0,none⟩))]) ?_ ?_
  ·rintro z F U2 ⟨V0,Q0,C1,R0,D1,hm,d2,y,rfl⟩;unfold z4i at hm;refine sq<|rg ?_;obtain⟨P2,n1,hm⟩:=bS hm;refine ca zew (z98 (Ext.refl _) (z6x (⟨o.1,o.2.1,o.2.2.1,o.2.2.2.1,o.2.2.2.2⟩:D.Agent) (ty80.ext (hE.trans y.ext) a2) ((y.bring 3 rfl).own)) ((y.bring 2 rfl).box) (z6x (⟨z.1,z.2.1,z.2.2.1,z.2.2.2.1,z.2.2.2.2⟩:D.Agent) (ty80.ext (hE.trans y.ext) d2) ((y.bring 1 rfl).own)) ((y.bring 0 rfl).box) n1) (fun Q2 V2 b1=>?_);obtain⟨rfl,d1⟩:=b1;have f1:=y.join d1;refine rr 1 ?_;refine rn<|rt ?_;cases hm;exact⟨_,.cons (.tmp rfl) .nil,rfl,(f1.taken 0)⟩
  ·refine dn 512 mixed 10 [([],1023),([0],1022),([1],1021),([2],1019),([],1023),([4],1007),([3,5],983),([6],959),([],1023),([8,7,7,0,1,2,3,4,5,6,7,8],639)] L.ext (fun h=>?_);have b0:=L.step (Ext.draw _);refine dr 6 h [0,1,2,4] ?_;refine dl h 3 (At.ext (hE.trans L.ext) J1) 0 ?_;refine dl h 5 ((L.bring 2 rfl).box) 1 ?_;obtain⟨b3,p1,hm⟩:=bS hm;refine dx (hE.trans L.ext) h 6 h3 p1 (fun O2 T1 D0 d0=>?_);obtain⟨D2,M2,E2,N2,S1,J2,K2⟩:=z4 d0;subst S1;obtain⟨O,F0,hm⟩:=bS hm;refine da h [7,8] (by simp) ?_;intro L2 hi78;simp only [List.mem_cons,List.not_mem_nil,or_false] at hi78
   rcases hi78 with rfl | rfl
   ·refine mc h z7P (z43 (hE.trans b0.ext) d0 D0 F0) (fun R2 W2 e1=>?_);obtain⟨N1,j2,O1,m2,rfl,k0,e2⟩:=e1;refine⟨k0.ext,?_⟩;have g1:=b0.join k0;refine o1 h 8 (mw h g1 (fun U1 X2 G2 i1=>?_));have j1:=i1.bring 0 rfl;refine o1 h 9 (ms (A:=[]) j1 h 0 (fun Y2 m1=>?_));refine dd h ?_;exact⟨(O.Kind,O.Level,O.Value,O.Data,O.Ports),_,⟨U1,N1,j2,O1,m2,hm,e2,(m1.taken 4),rfl⟩,rfl⟩
   ·refine mw h b0 (fun V1 a3 H2 C0=>?_);refine o1 h 7 (mc h z7P (z43 (hE.trans C0.ext) d0 D0 F0) (fun o2 r2 g0=>?_));obtain⟨K0,s1,L0,t1,rfl,S,X0⟩:=g0;refine⟨S.ext,?_⟩;have o0:=C0.join S;have p0:=o0.bring 1 rfl;refine o1 h 9 (ms (A:=[]) p0 h 0 (fun s2 q0=>?_));refine dd h ?_;exact⟨(O.Kind,O.Level,O.Value,O.Data,O.Ports),_,⟨V1,K0,s1,L0,t1,hm,X0,(q0.taken 4),rfl⟩,rfl⟩
 ·refine dn 512 mixed 10 [([],1023),([0],1022),([1],1021),([2],1019),([],1023),([4],1007),([3,5],983),([6],959),([],1023),([8,7,7,0,1,2,3,4,5,6,7,8],639)] H.ext (fun d=>?_);have G:=H.step (Ext.draw _);refine dr 6 d [0,1,2,4] ?_;refine dl d 3 (At.ext (hE.trans H.ext) J1) 0 ?_;refine dl d 5 ((H.bring 0 rfl).box) 0 ?_;obtain⟨C2,E0,hm⟩:=bS hm;refine dx (hE.trans H.ext) d 6 h3 E0 (fun n2 H1 Z M=>?_);obtain⟨L1,g2,M1,i2,S0,X1,Y1⟩:=z4 M;subst S0;obtain⟨u,a0,hm⟩:=bS hm;refine da d [7,8] (by simp) ?_;intro f2 hi148;simp only [List.mem_cons,List.not_mem_nil,or_false] at hi148
  rcases hi148 with rfl | rfl
  ·refine mc d z7P (z43 (hE.trans G.ext) M Z a0) (fun p2 t2 i0=>?_);obtain⟨M0,u1,N0,v1,rfl,V,Y0⟩:=i0;refine⟨V.ext,?_⟩;have r0:=G.join V;refine o1 d 8 (mw d r0 (fun T0 u2 Q1 t0=>?_));have u0:=t0.bring 0 rfl;refine o1 d 9 (ms (A:=[]) u0 d 0 (fun v2 v0=>?_));refine dd d ?_;exact⟨(u.Kind,u.Level,u.Value,u.Data,u.Ports),_,⟨T0,M0,u1,N0,v1,hm,Y0,v0,rfl⟩,rfl⟩
  ·refine mw d G (fun U0 y2 R1 Y=>?_);refine o1 d 7 (mc d z7P (z43 (hE.trans Y.ext) M Z a0) (fun q2 A2 j0=>?_));obtain⟨O0,y1,P0,B1,rfl,X,a1⟩:=j0;refine⟨X.ext,?_⟩;have y0:=Y.join X;have A0:=y0.bring 1 rfl;refine o1 d 9 (ms (A:=[]) A0 d 0 (fun B2 B0=>?_));refine dd d ?_;exact⟨(u.Kind,u.Level,u.Value,u.Data,u.Ports),_,⟨U0,O0,y1,P0,B1,hm,a1,B0,rfl⟩,rfl⟩

theorem zeS:Enters Tryz.prog 140:=⟨_,_,Tryz.func140,rfl,by kernel_rfl⟩
def z6v (fuel:Nat) (x0:Int) (x1:Int):Option (Int):=(if(decide (x0>x1))=true then some x0 else some x1)

theorem za0 {W w:World}(hE:Ext W w){x0:Int}{x1:Int}  {fuel:Nat}{r:Int}(hm:z6v fuel x0 x1=some r):
  Calls Tryz.prog 140 ⟨[.int .i64 x0,.int .i64 x1]⟩ w (Ret fun v w8=>v=.int .i64 r∧St w w8 []):=by
 refine into Tryz.func140 10 _ ?_;unfold z6v at hm;have hS:=St.start w;refine sq<|rg<|rr 1 ?_;refine rn<|sq<|sq<|rg<|rr 3 ?_;refine rn<|ci hm (fun hm=>?_) (fun hm=>?_)
 ·refine sq<|rg<|rr 2 ?_;refine rn<|rt ?_;cases hm;exact⟨_,.cons (.tmp rfl) .nil,rfl,hS⟩
 ·refine sp<|sq<|rg<|rr 2 ?_;refine rn<|rt ?_;cases hm;exact⟨_,.cons (.tmp rfl) .nil,rfl,hS⟩

theorem zf3:Enters Tryz.prog 125:=⟨_,_,Tryz.func125,rfl,by kernel_rfl⟩
def z56 (fuel:Nat) (t6:Int):Option Int:=some t6
def z23 (fuel:Nat) (x0:D.Net) (s5:Int × Int):Option (Rd (Int × Int) (Int) (Int)):=(if(decide (s5.2<(x0.Agents.length:Int)))=true then((idx x0.Agents s5.2).bind fun h=>((z6v fuel s5.1 h.Level).bind fun d=>some (.next (d,w64 (s5.2+1))))) else some (.brk s5.1))
def z3v (fuel:Nat) (x0:D.Net):Option (Int):=((iter (z23 fuel x0) fuel (0,0)).bind fun o=>aft o (z56 fuel))

theorem z8i {W w:World}(hE:Ext W w){Y:Addr}{Z:List Value}{x0:D.Net}(e0:ty42.ro W Z x0) (a0:At W Y Z){fuel:Nat}{r:Int}(hm:z3v fuel x0=some r):
  Calls Tryz.prog 125 ⟨[.pointer (some Y)]⟩ w (Ret fun v w8=>v=.int .i64 r∧St w w8 []):=by
 obtain⟨A1,k2,e4,h3⟩:=z15 e0;subst e4;refine into Tryz.func125 25 _ ?_;unfold z3v at hm;have hS:=St.start w;refine sq<|rg<|rr 1 ?_;refine rn<|sq<|rg<|rr 1 ?_;refine rn<|sq<|sq<|rg<|rr 1 ?_;refine rn ?_;obtain⟨g0,L,hm⟩:=bS hm;refine ct (fun(t6:Int) F w9=>g0=.inl t6∧Ext w w9∧St w w9 []∧F=[(3,.int .i64 t6)]) ?_ ?_
 ·rintro t6 F y0 ⟨M,f0,z,rfl⟩;subst M;rw [zi] at hm;unfold z56 at hm;refine sq<|rg<|rr 2 ?_;refine rn<|rt ?_;cases hm;exact⟨_,.cons (.tmp rfl) .nil,rfl,z⟩
 ·refine bk<|wk [0,3,4] ?_;refine it (fun(s5:Int × Int) F w9=>Ext w w9∧St w w9 []∧F=[(0,.pointer (some Y)),(3,.int .i64 s5.1),(4,.int .i64 s5.2)]) L ⟨(Ext.refl _),hS,rfl⟩ ?_;rintro s5 F A0 _ r0 ⟨o,h,rfl⟩ d O;unfold z23 at d;refine sq<|sq<|rg<|rr 4 ?_;refine l1 (At.ext (hE.trans h.ext) a0) 0 ?_;refine rr 2 ?_;refine rn<|ci d (fun d=>?_) (fun d=>?_)
  ·refine sp<|sq<|bk<|rg<|rr 4 ?_;refine l1 (At.ext (hE.trans h.ext) a0) 0 ?_;refine rr 1 ?_;obtain⟨C0,V,d⟩:=bS d;refine ix (hE.trans h.ext) h3 V (fun t0 d0 H S=>?_);obtain⟨i0,p0,j0,q0,b0,k0,o0⟩:=z6 S;subst b0;refine rr 1 ?_;refine l1 (At.ext (hE.trans h.ext) H) 1 ?_;obtain⟨u0,X,d⟩:=bS d;refine ca zeS (za0 (hE.trans h.ext)  X) (fun v0 B0 y=>?_);obtain⟨rfl,u⟩:=y;have G:=h.join u;refine rr 1 ?_;refine rn<|rg<|rr 3 ?_;refine rn ?_;cases d;exact⟨_,_,rfl,⟨(o.trans u.ext),G,rfl⟩,rfl⟩
  ·refine xt ?_;cases d;exact⟨_,_,⟨O,o,h,rfl⟩,rfl⟩

theorem zfc:Enters Tryz.prog 105:=⟨_,_,Tryz.func105,rfl,by kernel_rfl⟩
def z6d (fuel:Nat) (d:Int):Option Int:=some d
def z3s (fuel:Nat) (d:Int × Int) (h:Int):Option (Rd (Int × Int) (Int) (Int)):=some (.next (h,w64 (d.2+1)))
def z1H (fuel:Nat) (d:Int × Int) (h:Bool):Option (Rd (Int × Int) (Int) (Int)):=(if h=true then z3s fuel d (w64 (d.1+1)) else z3s fuel d d.1)
def z3t (fuel:Nat) (x1:Bool) (r5:(List D.Wire)) (d:Int × Int):Option (Rd (Int × Int) (Int) (Int)):=(if(decide (d.2<(r5.length:Int)))=true then((idx r5 d.2).bind fun h=>((idx r5 d.2).bind fun o=>(if(decide (o.B.Slot>0))=true then(if(decide (h.A.Slot>0))=true then z1H fuel d true else(if(h.A.Agent == 0)=true then z1H fuel d x1 else z1H fuel d false)) else z1H fuel d false))) else some (.brk d.1))
def z5b (fuel:Nat) (x0:D.Net) (x1:Bool):Option (Int):=((z4C fuel x0).bind fun r5=>((iter (z3t fuel x1 r5) fuel (0,0)).bind fun o=>aft o (z6d fuel)))

theorem z9t {W w:World}(hE:Ext W w){y0:Addr}{t0:List Value}{x0:D.Net}{x1:Bool}(u0:ty42.ro W t0 x0) (E0:At W y0 t0){fuel:Nat}{r:Int}(hm:z5b fuel x0 x1=some r):
  Calls Tryz.prog 105 ⟨[.pointer (some y0),.bool x1]⟩ w (Ret fun v w8=>v=.int .i64 r∧St w w8 []):=by
 obtain⟨A1,k2,e4,h3⟩:=z15 u0;subst e4;refine into Tryz.func105 47 _ ?_;unfold z5b at hm;have hS:=St.start w;refine sq<|rg<|rr 1 ?_;refine rn<|sq<|rg<|rr 1 ?_;refine rn<|sq<|rg<|rr 1 ?_;obtain⟨r5,H0,hm⟩:=bS hm;refine ca zeB (z99 (hE.trans hS.ext) u0 E0 H0) (fun v7 S0 L=>?_);obtain⟨y,z,rfl,M⟩:=L;have O:=hS.join M;refine rr 1 ?_;refine rn<|sq<|sq<|rg<|rr 1 ?_;refine rn ?_;obtain⟨J0,e0,hm⟩:=bS hm;refine ct (fun(p0:Int) F w9=>J0=.inl p0∧St w w9 []∧F=[(5,.int .i64 p0)]) ?_ ?_
 ·rintro p0 F T0 ⟨f0,S,rfl⟩;subst f0;rw [zi] at hm;unfold z6d at hm;refine sq<|rg<|rr 2 ?_;refine rn<|rt ?_;cases hm;exact⟨_,.cons (.tmp rfl) .nil,rfl,S⟩
 ·refine bk<|wk [1,5,6,7] ?_;refine it (fun(o:Int × Int) F w9=>St w w9 [ow z80 y r5 z]∧F=[(1,.bool x1),(5,.int .i64 o.1),(6,sl y r5 z),(7,.int .i64 o.2)]) e0 ⟨O,rfl⟩ ?_;rintro o F U0 _ v0 ⟨u,rfl⟩ d g0;unfold z3t at d;refine sq<|sq<|rg<|rr 4 ?_;refine rn<|ci d (fun d=>?_) (fun d=>?_)
  ·refine sp<|sq<|bk<|sq<|rg<|rr 2 ?_;obtain⟨b1,k0,d⟩:=bS d;refine ix (Ext.refl _) ((u.bring 0 rfl).own) k0 (fun Q0 C0 b0 i0=>?_);have A0:=za8 i0;subst A0;refine rr 1 ?_;refine lN (At.sub b0 0 2) ?_;refine nw u (fun O0 V0 M0 V=>?_);have X:=V.bring 0 rfl;refine so (A:=[]) X 0 (fun X0 G=>?_);refine rn<|sq<|rg<|rr 2 ?_;obtain⟨d1,o0,d⟩:=bS d;refine ix (Ext.refl _) ((G.bring 1 rfl).own) o0 (fun R0 D0 d0 j0=>?_);have B0:=za8 j0;subst B0;refine rr 1 ?_;refine lN (At.sub d0 2 2) ?_;refine nw G (fun P0 Y0 N0 Y=>?_);have Z:=Y.bring 0 rfl;refine so (A:=[]) Z 0 (fun K0 h=>?_);refine rn<|sq<|ct (fun(q0:Bool) F w9=>z1H fuel o q0=some v0∧Ext K0 w9∧St w w9 [ow z80 y r5 z]∧F=[(1,.bool x1),(5,.int .i64 o.1),(6,sl y r5 z),(7,.int .i64 o.2),(43,.bool q0)]) ?_ ?_
   ·rintro q0 F L0 ⟨d,F0,H,rfl⟩;unfold z1H at d;refine ct (fun(r0:Int) F w9=>z3s fuel o r0=some v0∧Ext L0 w9∧St w w9 [ow z80 y r5 z]∧F=[(1,.bool x1),(5,.int .i64 r0),(6,sl y r5 z),(7,.int .i64 o.2)]) ?_ ?_
    ·rintro r0 F a1 ⟨d,G0,a0,rfl⟩;unfold z3s at d;refine rg<|rr 3 ?_;refine rn ?_;cases d;exact⟨_,_,rfl,⟨a0,rfl⟩,rfl⟩
    ·refine ci d (fun d=>?_) (fun d=>?_)
     ·refine rg<|rr 3 ?_;refine rn ?_;exact⟨w64 (o.1+1),_,⟨d,(Ext.refl _),H,rfl⟩,rfl⟩
     ·refine sp ?_;exact⟨o.1,_,⟨d,(Ext.refl _),H,rfl⟩,rfl⟩
   ·refine rg<|rr 1 ?_;refine l1 ((h.bring 0 rfl).box) 1 ?_;refine rr 2 ?_;refine rb 31 d (fun d=>?_) (fun d=>?_)
    ·refine rr 1 ?_;refine l1 ((h.bring 1 rfl).box) 1 ?_;refine rr 2 ?_;refine rb 35 d (fun d=>?_) (fun d=>?_)
     ·refine rr 8 ?_;refine rn ?_;exact⟨true,_,⟨d,(Ext.refl _),((h.bring 2 rfl).taken 1),rfl⟩,rfl⟩
     ·refine rr 1 ?_;refine l1 ((h.bring 1 rfl).box) 0 ?_;refine rr 2 ?_;refine rb 39 d (fun d=>?_) (fun d=>?_)
      ·refine rr 4 ?_;refine rn ?_;exact⟨x1,_,⟨d,(Ext.refl _),((h.bring 2 rfl).taken 1),rfl⟩,rfl⟩
      ·refine rr 4 ?_;refine rn ?_;exact⟨false,_,⟨d,(Ext.refl _),((h.bring 2 rfl).taken 1),rfl⟩,rfl⟩
    ·refine rr 12 ?_;refine rn ?_;exact⟨false,_,⟨d,(Ext.refl _),((h.bring 2 rfl).taken 1),rfl⟩,rfl⟩
  ·refine xt ?_;cases d;exact⟨_,_,⟨g0,(u.taken 0),rfl⟩,rfl⟩

theorem zg0:Enters Tryz.prog 68:=⟨_,_,Tryz.func68,rfl,by kernel_rfl⟩
def z3q (fuel:Nat) (x0:(List D.Net)) (x1:D.Memory) (x2:D.Pair):Option (Int × Int):=((z3o fuel x1 x2).bind fun u=>((idx x1.Cells u.1).bind fun h=>((idx x1.Cells u.2).bind fun y=>((z3p fuel x1 x2).bind fun d=>(if(d == 8)=true then some (0,11) else(if(d == 3)=true then some (w64 (2+(w64 (3*(y.Words.length:Int)))),0) else(if(d == 4)=true then some ((y.Words.length:Int),0) else(if(d == 5)=true then some (1,0) else(if(d == 6)=true then some (w64 (1+(h.Words.length:Int)),0) else(if(d == 7)=true then(if(decide (h.Value≥(x0.length:Int)))=true then some (0,3) else((idx x0 h.Value).bind fun o=>((z3v fuel o).bind fun z=>(if(decide ((w64 (z+h.Level))>8))=true then some (0,9) else((z5b fuel o false).bind fun G=>some (w64 ((w64 ((o.Agents.length:Int) - 1))+G),0)))))) else some (0,0)))))))))))

theorem z94 {W w:World}(hE:Ext W w){A0:Option Addr}{D0:Nat}{x0:(List D.Net)}{E0:Addr}{B0:List Value}{x1:D.Memory}{C0:List Value}{x2:D.Pair}(N0:ty64.ro W [sl A0 x0 D0] x0) (Z:ty33.ro W B0 x1) (Y:At W E0 B0) (a0:ty87.ro W C0 x2){fuel:Nat}{r:Int × Int}(hm:z3q fuel x0 x1 x2=some r):
  Calls Tryz.prog 68 ⟨[sl A0 x0 D0,.pointer (some E0),.agg ⟨C0⟩]⟩ w (Ret fun v w8=>v=.tuple ⟨[.int .i64 r.1,.int .i64 r.2]⟩∧St w w8 []):=by
 obtain⟨A1,k2,A4,k5,e7,h3,h6⟩:=zp Z;subst e7;have F0:=z1i a0;subst F0;refine into Tryz.func68 94 _ ?_;unfold z3q at hm;have hS:=St.start w;refine sq<|rg<|nw hS (fun U0 D1 T0 G=>?_);refine rr 2 ?_;refine rn<|sq<|rg<|rr 1 ?_;refine lN ((G.bring 0 rfl).box) ?_;obtain⟨p1,p0,hm⟩:=bS hm;refine ca zf5 (z92 (hE.trans G.ext) Z Y a0 p0) (fun v1 E1 b0=>?_);obtain⟨rfl,d0⟩:=b0;have h:=G.join d0;refine rr 5 ?_;refine rn<|sq<|rg<|rr 3 ?_;refine l1 (At.ext (hE.trans h.ext) Y) 0 ?_;refine rr 1 ?_;obtain⟨J1,q0,hm⟩:=bS hm;refine ix (hE.trans h.ext) h3 q0 (fun j1 K0 z k0=>?_);obtain⟨O0,d1,P0,e1,G0,V0,X0⟩:=z4 k0;subst G0;refine rr 1 ?_;refine rn<|sq<|rg<|rr 3 ?_;refine l1 (At.ext (hE.trans h.ext) Y) 0 ?_;refine rr 1 ?_;obtain⟨K1,r0,hm⟩:=bS hm;refine ix (hE.trans h.ext) h3 r0 (fun m1 L0 X o0=>?_);obtain⟨Q0,f1,R0,g1,H0,Y0,a1⟩:=z4 o0;subst H0;refine rr 1 ?_;refine rn<|sq<|sq<|rg<|rr 1 ?_;refine lN ((h.bring 0 rfl).box) ?_;obtain⟨s1,t0,hm⟩:=bS hm;refine ca zf4 (z93 (hE.trans h.ext) Z Y a0 t0) (fun y1 F1 e0=>?_);obtain⟨rfl,f0⟩:=e0;have d:=h.join f0;refine rn<|bk<|sq<|rg<|rr 2 ?_;refine rn<|ci hm (fun hm=>?_) (fun hm=>?_)
 ·refine sq<|rg<|rr 2 ?_;refine rn<|rt ?_;cases hm;exact⟨_,.cons (.tmp rfl) (.cons (.tmp rfl) .nil),rfl,(d.taken 0)⟩
 ·refine sq<|rg<|rr 2 ?_;refine rn<|ci hm (fun hm=>?_) (fun hm=>?_)
  ·refine sq<|rg<|rr 3 ?_;refine l1 (At.ext (hE.trans d.ext) X) 4 ?_;refine rr 5 ?_;refine rn<|rt ?_;cases hm;exact⟨_,.cons (.tmp rfl) (.cons (.tmp rfl) .nil),rfl,(d.taken 0)⟩
  ·refine sq<|rg<|rr 2 ?_;refine rn<|ci hm (fun hm=>?_) (fun hm=>?_)
   ·refine sq<|rg<|rr 3 ?_;refine l1 (At.ext (hE.trans d.ext) X) 4 ?_;refine rr 3 ?_;refine rn<|rt ?_;cases hm;exact⟨_,.cons (.tmp rfl) (.cons (.tmp rfl) .nil),rfl,(d.taken 0)⟩
   ·refine sq<|rg<|rr 2 ?_;refine rn<|ci hm (fun hm=>?_) (fun hm=>?_)
    ·refine sq<|rg<|rr 2 ?_;refine rn<|rt ?_;cases hm;exact⟨_,.cons (.tmp rfl) (.cons (.tmp rfl) .nil),rfl,(d.taken 0)⟩
    ·refine sq<|rg<|rr 2 ?_;refine rn<|ci hm (fun hm=>?_) (fun hm=>?_)
     ·refine sq<|rg<|rr 3 ?_;refine l1 (At.ext (hE.trans d.ext) z) 4 ?_;refine rr 4 ?_;refine rn<|rt ?_;cases hm;exact⟨_,.cons (.tmp rfl) (.cons (.tmp rfl) .nil),rfl,(d.taken 0)⟩
     ·refine sq<|rg<|rr 2 ?_;refine rn<|ci hm (fun hm=>?_) (fun hm=>?_)
      ·refine sq<|sq<|rg<|rr 3 ?_;refine l1 (At.ext (hE.trans d.ext) z) 2 ?_;refine rr 3 ?_;refine rn<|ci hm (fun hm=>?_) (fun hm=>?_)
       ·refine sq<|rg<|rr 2 ?_;refine rn<|rt ?_;cases hm;exact⟨_,.cons (.tmp rfl) (.cons (.tmp rfl) .nil),rfl,(d.taken 0)⟩
       ·refine sp<|sq<|rg<|rr 4 ?_;refine l1 (At.ext (hE.trans d.ext) z) 2 ?_;obtain⟨L1,u0,hm⟩:=bS hm;refine ix (hE.trans d.ext) N0 u0 (fun n1 M0 H L=>?_);obtain⟨S0,i1,J0,b1⟩:=z15 L;subst J0;refine rr 1 ?_;refine rn<|sq<|sq<|dn 0 mixed 8 [([],255),([0],254),([],255),([2],251),([3],247),([4],239),([1,5],221),([6],191)] d.ext (fun u=>?_);have S:=d.step (Ext.draw _);refine dr 4 u [0,2,3,4] ?_;refine dw [12,77,81] ?_;refine dl u 5 (At.ext (hE.trans d.ext) z) 1 ?_;obtain⟨t1,v0,hm⟩:=bS hm;refine o1 u 1 (mc u zf3 (z8i (hE.trans S.ext) L H v0) (fun B1 G1 g0=>?_));obtain⟨rfl,M⟩:=g0;refine⟨M.ext,?_⟩;have y:=S.join M;refine dr 0 u [6,7] ?_;refine dd u ?_;refine ci hm (fun hm=>?_) (fun hm=>?_)
        ·refine sq<|rg<|rr 2 ?_;refine rn<|rt ?_;cases hm;exact⟨_,.cons (.tmp rfl) (.cons (.tmp rfl) .nil),rfl,(y.taken 0)⟩
        ·refine sp<|sq<|dn 0 mixed 11 [([],2047),([0],2046),([1],2045),([2],2043),([3],2039),([4],2031),([],2047),([6],1983),([5,7],1887),([8,7,0,1,2,3,4,5,6,7,8],1791),([9,0,1,2,3,4,5,6,7,8,9],2047)] y.ext (fun o=>?_);have V:=y.step (Ext.draw _);refine dr 7 o [0,1,2,6] ?_;refine dw [87,91] ?_;refine dl o 3 (At.ext (hE.trans y.ext) H) 0 ?_;refine dr 4 o [4,5] ?_;obtain⟨u1,y0,hm⟩:=bS hm;refine o1 o 7 (mc o zfc (z9t (hE.trans V.ext) L H y0) (fun C1 H1 i0=>?_));obtain⟨rfl,O⟩:=i0;refine⟨O.ext,?_⟩;have j0:=V.join O;refine dr 0 o [8,9,10] ?_;refine dw [6,7] ?_;refine dd o ?_;refine rt ?_;cases hm;exact⟨_,.cons (.tmp rfl) (.cons (.tmp rfl) .nil),rfl,(j0.taken 0)⟩
      ·refine sp<|sq<|rg<|rr 2 ?_;refine rn<|rt ?_;cases hm;exact⟨_,.cons (.tmp rfl) (.cons (.tmp rfl) .nil),rfl,(d.taken 0)⟩

theorem zgj:Enters Tryz.prog 27:=⟨_,_,Tryz.func27,rfl,by kernel_rfl⟩
def z3b (fuel:Nat) (x0:(List D.Net)) (x1:D.Memory) (x2:Int):Option (Int × Int):=((z5d fuel x0).bind fun o=>(if(!o)=true then some (0,1) else((z5P fuel x1 x2).bind fun d=>(if(d != 0)=true then some (0,d) else((idx x1.Redexes x2).bind fun u=>((z3q fuel x0 x1 u).bind fun h=>some (h.1,h.2)))))))

theorem z82 {W w:World}(hE:Ext W w){b0:Option Addr}{f0:Nat}{x0:(List D.Net)}{d0:List Value}{x1:D.Memory}{x2:Int}(e0:ty64.ro W [sl b0 x0 f0] x0) (y:ty33.ro W d0 x1){fuel:Nat}{r:Int × Int}(hm:z3b fuel x0 x1 x2=some r):
  Calls Tryz.prog 27 ⟨[sl b0 x0 f0,.agg ⟨d0⟩,.int .i64 x2]⟩ w (Ret fun v w8=>v=.tuple ⟨[.int .i64 r.1,.int .i64 r.2]⟩∧St w w8 []):=by
 obtain⟨A1,k2,A4,k5,e7,h3,h6⟩:=zp y;subst e7;refine into Tryz.func27 26 _ ?_;unfold z3b at hm;have hS:=St.start w;refine sq<|rg<|nw hS (fun k0 y0 j0 o=>?_);refine rr 2 ?_;refine rn<|sq<|sq<|rg<|rr 1 ?_;obtain⟨p0,X,hm⟩:=bS hm;refine ca zg2 (z9v (hE.trans o.ext) e0 X) (fun t0 A0 z=>?_);obtain⟨rfl,G⟩:=z;have h:=o.join G;refine rr 1 ?_;refine rn<|ci hm (fun hm=>?_) (fun hm=>?_)
 ·refine sq<|rg<|rr 2 ?_;refine rn<|rt ?_;cases hm;exact⟨_,.cons (.tmp rfl) (.cons (.tmp rfl) .nil),rfl,(h.taken 0)⟩
 ·refine sp<|sq<|rg<|rr 1 ?_;obtain⟨q0,Y,hm⟩:=bS hm;refine ca zg1 (z95 (Ext.refl _) (ty33.ext (hE.trans h.ext) y) ((h.bring 0 rfl).box) Y) (fun u0 B0 H=>?_);obtain⟨rfl,L⟩:=H;have d:=h.join L;refine rr 1 ?_;refine rn<|sq<|sq<|rg<|rr 2 ?_;refine rn<|ci hm (fun hm=>?_) (fun hm=>?_)
  ·refine sq<|rg<|rr 3 ?_;refine rn<|rt ?_;cases hm;exact⟨_,.cons (.tmp rfl) (.cons (.tmp rfl) .nil),rfl,(d.taken 0)⟩
  ·refine sp<|sq<|rg<|rr 2 ?_;refine l1 ((d.bring 0 rfl).box) 4 ?_;refine rr 1 ?_;obtain⟨D0,Z,hm⟩:=bS hm;refine ix (hE.trans d.ext) h6 Z (fun o0 i0 V u=>?_);have g0:=z1i u;subst g0;refine lN (At.ext (hE.trans d.ext) V) ?_;obtain⟨r0,a0,hm⟩:=bS hm;refine ca zg0 (z94 (Ext.refl _) (ty64.ext (hE.trans d.ext) e0) (ty33.ext (hE.trans d.ext) y) ((d.bring 0 rfl).box) (ty87.ext (hE.trans d.ext) u) a0) (fun v0 C0 M=>?_);obtain⟨rfl,O⟩:=M;have S:=d.join O;refine rr 4 ?_;refine rn<|rt ?_;cases hm;exact⟨_,.cons (.tmp rfl) (.cons (.tmp rfl) .nil),rfl,(S.taken 0)⟩

theorem zee:Enters Tryz.prog 202:=⟨_,_,Tryz.func202,rfl,by kernel_rfl⟩
def z16 (fuel:Nat) (t2:Unit):Option Int:=some (-1)
def zj (fuel:Nat) (x0:(List D.Net)) (x1:D.Net→Option Bool) (s1:Int):Option (Rd (Int) (Unit) (Int)):=(if(decide (s1<(x0.length:Int)))=true then((idx x0 s1).bind fun h=>((x1 h).bind fun d=>(if d=true then some (.ret s1) else some (.next (w64 (s1+1)))))) else some (.brk ()))
def zM (fuel:Nat) (x0:(List D.Net)) (x1:D.Net→Option Bool):Option (Int):=((iter (zj fuel x0 x1) fuel 0).bind fun o=>aft o (z16 fuel))

theorem z55 {W w:World}(hE:Ext W w){G:Option Addr}{Y:Nat}{x0:(List D.Net)}{f1_:Nat}{u1_:List Value}{x1:D.Net→Option Bool}(e0:ty64.ro W [sl G x0 Y] x0) (Z:Enters Tryz.prog f1_∧∀ {w9:World},Ext W w9→∀ {cz0:List Value}{z0:D.Net}{y9:Bool},ty42.ro w9 cz0 z0→x1 z0=some y9→Calls Tryz.prog f1_ ⟨[.agg ⟨cz0⟩]++u1_⟩ w9 (Ret fun v w8=>v=.bool y9∧St w9 w8 [])){fuel:Nat}{r:Int}(hm:zM fuel x0 x1=some r):
  Calls Tryz.prog 202 ⟨[sl G x0 Y,.func (.func f1_) #[] ⟨u1_⟩]⟩ w (Ret fun v w8=>v=.int .i64 r∧St w w8 []):=by
 refine into Tryz.func202 19 _ ?_;unfold zM at hm;have hS:=St.start w;refine sq<|rg<|rr 1 ?_;refine rn<|sq<|sq<|rg<|rr 3 ?_;refine rn ?_;obtain⟨f0,O,hm⟩:=bS hm;refine ct (fun(t2:Unit) F w9=>f0=.inl t2∧Ext w w9∧St w w9 []∧F=[]) ?_ ?_
 ·rintro t2 F w7 ⟨S,j0,L,rfl⟩;subst S;rw [zi] at hm;unfold z16 at hm;refine sq<|rg<|rr 1 ?_;refine rn<|rt ?_;cases hm;exact⟨_,.cons (.tmp rfl) .nil,rfl,L⟩
 ·refine bk<|wk [0,1,7,8] ?_;refine it (fun(s1:Int) F w9=>Ext w w9∧St w w9 []∧F=[(0,sl G x0 Y),(1,.func (.func f1_) #[] ⟨u1_⟩),(7,.int .i64 (x0.length:Int)),(8,.int .i64 s1)]) O ⟨(Ext.refl _),hS,rfl⟩ ?_;rintro s1 F t0 _ o0 ⟨a0,h,rfl⟩ d y;unfold zj at d;refine sq<|rg<|rr 1 ?_;refine rn<|sq<|ci d (fun d=>?_) (fun d=>?_)
  ·refine sp<|sq<|bk<|sq<|rg<|rr 2 ?_;refine rn<|sq<|rg<|rr 3 ?_;obtain⟨v0,V,d⟩:=bS d;refine ix (hE.trans h.ext) e0 V (fun p0 d0 M z=>?_);obtain⟨g0,k0,b0,i0⟩:=z15 z;subst b0;refine lN (At.ext (hE.trans h.ext) M) ?_;obtain⟨q0,X,d⟩:=bS d;refine ca Z.1 (Z.2 (hE.trans h.ext) (ty42.ext (hE.trans h.ext) z) X) (fun r0 u0 H=>?_);obtain⟨rfl,o⟩:=H;have u:=h.join o;refine rn<|ci d (fun d=>?_) (fun d=>?_)
   ·refine sq<|rg<|rr 2 ?_;refine rn<|rt ?_;cases d;cases y;have hm:some _=some _:=hm;cases hm;exact⟨_,.cons (.tmp rfl) .nil,rfl,u⟩
   ·refine sp<|rg<|rr 2 ?_;refine rn ?_;cases d;exact⟨_,_,rfl,⟨(a0.trans o.ext),u,rfl⟩,rfl⟩
  ·refine xt ?_;cases d;exact⟨_,_,⟨y,a0,h,rfl⟩,rfl⟩

theorem zev:Enters Tryz.prog 174:=⟨_,_,Tryz.func174,rfl,by kernel_rfl⟩
def zk (fuel:Nat) (x0:(List D.Net)) (x1:D.Net→Option Bool):Option (Bool):=((zM fuel x0 x1).bind fun r1=>some (decide (r1≥0)))

theorem z4t {W w:World}(hE:Ext W w){d:Option Addr}{h:Nat}{x0:(List D.Net)}{f1_:Nat}{u1_:List Value}{x1:D.Net→Option Bool}(o:ty64.ro W [sl d x0 h] x0) (u:Enters Tryz.prog f1_∧∀ {w9:World},Ext W w9→∀ {cz0:List Value}{z0:D.Net}{y9:Bool},ty42.ro w9 cz0 z0→x1 z0=some y9→Calls Tryz.prog f1_ ⟨[.agg ⟨cz0⟩]++u1_⟩ w9 (Ret fun v w8=>v=.bool y9∧St w9 w8 [])){fuel:Nat}{r:Bool}(hm:zk fuel x0 x1=some r):
  Calls Tryz.prog 174 ⟨[sl d x0 h,.func (.func f1_) #[] ⟨u1_⟩]⟩ w (Ret fun v w8=>v=.bool r∧St w w8 []):=by
 refine into Tryz.func174 9 _ ?_;unfold zk at hm;have hS:=St.start w;refine sq<|rg<|rr 1 ?_;refine rn<|sq<|rg<|rr 2 ?_;obtain⟨r1,H,hm⟩:=bS hm;refine ca zee (z55 (hE.trans hS.ext) o u H) (fun v3 w4 y=>?_);obtain⟨rfl,z⟩:=y;have G:=hS.join z;refine rr 2 ?_;refine rn<|rt ?_;cases hm;exact⟨_,.cons (.tmp rfl) .nil,rfl,G⟩

theorem zeu:Enters Tryz.prog 175:=⟨_,_,Tryz.func175,rfl,by kernel_rfl⟩
def z1X (fuel:Nat) (x0:D.Net):Option (Bool):=((z4K fuel x0).bind fun d=>some (!d))

theorem z70 {W w:World}(hE:Ext W w){z:List Value}{x0:D.Net}(G:ty42.ro W z x0){fuel:Nat}{r:Bool}(hm:z1X fuel x0=some r):
  Calls Tryz.prog 175 ⟨[.agg ⟨z⟩]⟩ w (Ret fun v w8=>v=.bool r∧St w w8 []):=by
 obtain⟨A1,k2,e4,h3⟩:=z15 G;subst e4;refine into Tryz.func175 6 _ ?_;unfold z1X at hm;have hS:=St.start w;refine sq<|rg<|nw hS (fun g5 w6 e7 d=>?_);refine rr 1 ?_;refine rn<|sq<|rg<|lN ((d.bring 0 rfl).box) ?_;obtain⟨H,y,hm⟩:=bS hm;refine ca zg3 (z9c (hE.trans d.ext) G y) (fun L M h=>?_);obtain⟨rfl,o⟩:=h;have u:=d.join o;refine rr 2 ?_;refine rn<|rt ?_;cases hm;exact⟨_,.cons (.tmp rfl) .nil,rfl,(u.taken 0)⟩

theorem zf2:Enters Tryz.prog 126:=⟨_,_,Tryz.func126,rfl,by kernel_rfl⟩
def z1P (fuel:Nat) (x0:(List D.Net)):Option (Bool):=(if(decide ((x0.length:Int)≤24))=true then((zk fuel x0 (fun y0=>z1X fuel y0)).bind fun r2=>some (!r2)) else some false)

theorem z7x {W w:World}(hE:Ext W w){o:Option Addr}{u:Nat}{x0:(List D.Net)}(y:ty64.ro W [sl o x0 u] x0){fuel:Nat}{r:Bool}(hm:z1P fuel x0=some r):
  Calls Tryz.prog 126 ⟨[sl o x0 u]⟩ w (Ret fun v w8=>v=.bool r∧St w w8 []):=by
 refine into Tryz.func126 11 _ ?_;unfold z1P at hm;have hS:=St.start w;refine sq<|rg<|rr 1 ?_;refine rn<|sq<|rg<|rr 4 ?_;refine rb 6 hm (fun hm=>?_) (fun hm=>?_)
 ·refine rr 1 ?_;obtain⟨r2,H,hm⟩:=bS hm;refine ca zev (z4t (hE.trans hS.ext) y ⟨zeu,fun e9=>(fun d L=>z70 (Ext.refl _) d L)⟩ H) (fun v4 w5 z=>?_);obtain⟨rfl,G⟩:=z;have h:=hS.join G;refine rr 3 ?_;refine rn<|rt ?_;cases hm;exact⟨_,.cons (.tmp rfl) .nil,rfl,h⟩
 ·refine rr 5 ?_;refine rn<|rt ?_;cases hm;exact⟨_,.cons (.tmp rfl) .nil,rfl,hS⟩

theorem zf1:Enters Tryz.prog 127:=⟨_,_,Tryz.func127,rfl,by kernel_rfl⟩
def z2P (fuel:Nat) (x0:D.Memory) (x1:Int):Option (Bool):=(if(decide (x1≥0))=true then some (decide (x1<(x0.Redexes.length:Int))) else some false)

theorem z7o {W w:World}(hE:Ext W w){h:Addr}{d:List Value}{x0:D.Memory}{x1:Int}(u:ty33.ro W d x0) (o:At W h d){fuel:Nat}{r:Bool}(hm:z2P fuel x0 x1=some r):
  Calls Tryz.prog 127 ⟨[.pointer (some h),.int .i64 x1]⟩ w (Ret fun v w8=>v=.bool r∧St w w8 []):=by
 obtain⟨A1,k2,A4,k5,e7,h3,h6⟩:=zp u;subst e7;refine into Tryz.func127 16 _ ?_;unfold z2P at hm;have hS:=St.start w;refine sq<|rg<|rr 1 ?_;refine rn<|sq<|rg<|rr 3 ?_;refine rb 7 hm (fun hm=>?_) (fun hm=>?_)
 ·refine rr 4 ?_;refine l1 (At.ext (hE.trans hS.ext) o) 4 ?_;refine rr 4 ?_;refine rn<|rt ?_;cases hm;exact⟨_,.cons (.tmp rfl) .nil,rfl,hS⟩
 ·refine rr 9 ?_;refine rn<|rt ?_;cases hm;exact⟨_,.cons (.tmp rfl) .nil,rfl,hS⟩

theorem zfZ:Enters Tryz.prog 69:=⟨_,_,Tryz.func69,rfl,by kernel_rfl⟩
def z2H (fuel:Nat) (x0:(List D.Net)) (x1:D.Memory) (x2:Int) (o:Bool):Option (Option D.machine × Int):=(if o=true then some (none,1) else((z2P fuel x1 x2).bind fun h=>(if(!h)=true then some (none,2) else((z3T fuel x1).bind fun d=>some ((some (⟨(⟨d.Cells,d.Free,(⟨d.Root.Tag,d.Root.At⟩:D.Word),d.Redexes⟩:D.Memory),x0⟩:D.machine)),0)))))
def z5C (fuel:Nat) (x0:(List D.Net)) (x1:D.Memory) (x2:Int):Option (Option D.machine × Int):=((z1P fuel x0).bind fun d=>(if(!d)=true then z2H fuel x0 x1 x2 true else((z3e fuel x1).bind fun h=>z2H fuel x0 x1 x2 (!h))))

theorem z8R {W w:World}(hE:Ext W w){H:Option Addr}{M:Nat}{x0:(List D.Net)}{o0:List Value}{x1:D.Memory}{x2:Int}(q0:ty64.ro W [sl H x0 M] x0) (L:ty33.ro W o0 x1){fuel:Nat}{r:Option D.machine × Int}(hm:z5C fuel x0 x1 x2=some r):
  Calls Tryz.prog 69 ⟨[sl H x0 M,.agg ⟨o0⟩,.int .i64 x2]⟩ w (Ret fun v w8=>(r.1=none∧v=.tuple ⟨[.pointer none,.int .i64 r.2]⟩∧St w w8 [])∨(∃ m8 g0 A1 k1 A2 k2 A3 k3,r.1=some m8∧v=.tuple ⟨[.pointer (some ⟨g0,0,none⟩),.int .i64 r.2]⟩∧St w w8 [Box g0 [sl A1 m8.Memory.Cells k1,.int .i64 m8.Memory.Free,.int .i64 m8.Memory.Root.Tag,.int .i64 m8.Memory.Root.At,sl A2 m8.Memory.Redexes k2,sl A3 m8.book k3] 182,ow ty29 A1 m8.Memory.Cells k1,ow ty31 A2 m8.Memory.Redexes k2]∧ty64.ro W [sl A3 m8.book k3] m8.book)):=by
 obtain⟨A1,k2,A4,k5,e7,h3,h6⟩:=zp L;subst e7;refine into Tryz.func69 26 _ ?_;unfold z5C at hm;have hS:=St.start w;refine sq<|rg<|nw hS (fun p0 C0 D0 z=>?_);refine rr 2 ?_;refine rn<|sq<|bk<|sq<|ct (fun(k0:Bool) F w9=>z2H fuel x0 x1 x2 k0=some r∧Ext C0 w9∧St w w9 [Box p0 [sl A1 x1.Cells k2,.int .i64 x1.Free,.int .i64 x1.Root.Tag,.int .i64 x1.Root.At,sl A4 x1.Redexes k5] 33]∧F=[(0,sl H x0 M),(2,.int .i64 x2),(4,.pointer (some ⟨p0,0,none⟩)),(8,.bool k0)]) ?_ ?_
 ·rintro k0 F M0 ⟨hm,v0,d,rfl⟩;unfold z2H at hm;refine ci hm (fun hm=>?_) (fun hm=>?_)
  ·refine sq<|rg<|rr 2 ?_;refine rn<|rt ?_;cases hm;exact⟨_,.cons (.tmp rfl) (.cons (.tmp rfl) .nil),.inl ⟨rfl,rfl,(d.taken 0)⟩⟩
  ·refine sq<|rg<|rr 1 ?_;obtain⟨F0,e0,hm⟩:=bS hm;refine ca zf1 (z7o (Ext.refl _) (ty33.ext (hE.trans d.ext) L) ((d.bring 0 rfl).box) e0) (fun H0 N0 O=>?_);obtain⟨rfl,S⟩:=O;have h:=d.join S;refine rr 2 ?_;refine rn<|ci hm (fun hm=>?_) (fun hm=>?_)
   ·refine sq<|rg<|rr 2 ?_;refine rn<|rt ?_;cases hm;exact⟨_,.cons (.tmp rfl) (.cons (.tmp rfl) .nil),.inl ⟨rfl,rfl,(h.taken 0)⟩⟩
   ·refine sp<|sq<|rg<|lN ((h.bring 0 rfl).box) ?_;obtain⟨G,f0,hm⟩:=bS hm;refine ca zga (z8u (hE.trans h.ext) L f0) (fun J0 O0 V=>?_);obtain⟨r0,y0,t0,A0,rfl,X⟩:=V;have a0:=h.join X;refine rr 1 ?_;refine qt (qb) ?_;refine nw a0 (fun u0 P0 E0 b0=>?_);refine rr 2 ?_;refine rn<|rt ?_;cases hm;exact⟨_,.cons (.tmp rfl) (.cons (.tmp rfl) .nil),.inr ⟨(⟨(⟨G.Cells,G.Free,(⟨G.Root.Tag,G.Root.At⟩:D.Word),G.Redexes⟩:D.Memory),x0⟩:D.machine),u0,r0,y0,t0,A0,H,M,rfl,rfl,(b0.taken 3),q0⟩⟩
 ·refine rg<|rr 1 ?_;obtain⟨G0,i0,hm⟩:=bS hm;refine ca zf2 (z7x (hE.trans z.ext) q0 i0) (fun K0 Q0 Y=>?_);obtain⟨rfl,u⟩:=Y;have o:=z.join u;refine rr 2 ?_;refine rb 12 hm (fun hm=>?_) (fun hm=>?_)
  ·refine rr 5 ?_;refine rn ?_;exact⟨true,_,⟨hm,u.ext,o,rfl⟩,rfl⟩
  ·refine lN ((o.bring 0 rfl).box) ?_;obtain⟨B0,j0,hm⟩:=bS hm;refine ca zgb (z85 (hE.trans o.ext) L j0) (fun L0 R0 Z=>?_);obtain⟨rfl,y⟩:=Z;have d0:=o.join y;refine rr 3 ?_;refine rn ?_;exact⟨!B0,_,⟨hm,(u.ext.trans y.ext),d0,rfl⟩,rfl⟩

theorem zbU:Enters Tryz.prog 176:=⟨_,_,Tryz.func176,rfl,by kernel_rfl⟩
def z1q (fuel:Nat) (x0:D.Memory) (x1:Int):Option (D.Agent):=((idx x0.Cells x1).bind fun d=>(if decide (0≤(w64 ((d.Words.length:Int)+1))∧(w64 ((d.Words.length:Int)+1))≤4294967296)=true then some (⟨d.Kind,d.Level,d.Value,d.Data,(List.replicate (w64 ((d.Words.length:Int)+1)).toNat (⟨(0:Int),(0:Int)⟩:D.Port))⟩:D.Agent) else none))

theorem z68 {W w:World}(hE:Ext W w){Y:Addr}{X:List Value}{x0:D.Memory}{x1:Int}(f0:ty33.ro W X x0) (e0:At W Y X){fuel:Nat}{r:D.Agent}(hm:z1q fuel x0 x1=some r):
  Calls Tryz.prog 176 ⟨[.pointer (some Y),.int .i64 x1]⟩ w (Ret fun v w8=>∃ A0 k0 A1 k1,v=.agg ⟨[.int .i64 r.Kind,.int .i64 r.Level,.int .i64 r.Value,sl A0 r.Data k0,sl A1 r.Ports k1]⟩∧St w w8 [ow z2R A1 r.Ports k1]∧ty80.ro W [sl A0 r.Data k0] r.Data):=by
 obtain⟨A1,k2,A4,k5,e7,h3,h6⟩:=zp f0;subst e7;refine into Tryz.func176 27 _ ?_;unfold z1q at hm;have hS:=St.start w;refine sq<|rg<|nw hS (fun t0 C0 p0 o=>?_);refine rn<|sq<|rg<|rr 3 ?_;refine l1 (At.ext (hE.trans o.ext) e0) 0 ?_;refine rr 1 ?_;obtain⟨H0,V,hm⟩:=bS hm;refine ix (hE.trans o.ext) h3 V (fun B0 d0 M S=>?_);obtain⟨Z,i0,o0,y0,b0,g0,v0⟩:=z4 S;subst b0;refine lN (At.ext (hE.trans o.ext) M) ?_;refine nw o (fun u0 D0 q0 y=>?_);have z:=y.bring 0 rfl;refine so (A:=[]) z 0 (fun E0 h=>?_);refine rn<|sq<|dn 16384 mixed 15 [([],32767),([0],32766),([],32767),([2],32763),([],32767),([4],32751),([],32767),([6],32703),([],32767),([8],32511),([9],32255),([10],31743),([11,11],30719),([1,3,5,7,12],28501),([13,0,1,2,3,4,5,6,7,8,9,10,11,12,13],24575)] h.ext (fun d=>?_);have G:=h.step (Ext.draw _);refine dr 10 d [0,2,4,6,8] ?_;refine dw [4,13,15,17,19,21] ?_;refine dl d 1 ((h.bring 0 rfl).box) 0 ?_;refine dl d 3 ((h.bring 0 rfl).box) 1 ?_;refine dl d 5 ((h.bring 0 rfl).box) 2 ?_;refine dl d 7 ((h.bring 0 rfl).box) 3 ?_;refine dl d 9 ((h.bring 0 rfl).box) 4 ?_;refine dr 3 d [10,11] ?_;refine dw [4,14,16,18,20,24] ?_;obtain⟨O,hm⟩:=iS hm;have hz42:=of_decide_eq_true O;refine o1 d 12 (mk (U:=z4s) (⟨(0:Int),(0:Int)⟩:D.Port) G d hz42 (fun _=>(z4f (c:=(⟨(0:Int),(0:Int)⟩:D.Port)) rfl)) (fun a0 j0 F0 r0 H=>?_));refine dp d 13 rfl (fun _=>qb) ?_;have L:=H.bring 2 rfl;refine o1 d 14 (ms (A:=[]) L d 0 (fun G0 u=>?_));refine dd d ?_;refine rt ?_;cases hm;exact⟨_,.cons (ra ((u.bring 0 rfl).box)) .nil,Z,i0,a0,j0,rfl,((u.bring 1 rfl).taken 1),g0⟩

theorem zc2:Enters Tryz.prog 128:=⟨_,_,Tryz.func128,rfl,by kernel_rfl⟩
def z13 (fuel:Nat) (x0:D.Memory) (x1:D.Pair):Option (D.Net):=((z1q fuel x0 x1.A).bind fun d=>((z1q fuel x0 x1.B).bind fun h=>some (⟨([d,h]:(List D.Agent))⟩:D.Net)))

theorem z64 {W w:World}(hE:Ext W w){v0:Addr}{r0:List Value}{x0:D.Memory}{t0:List Value}{x1:D.Pair}(M:ty33.ro W r0 x0) (u0:At W v0 r0) (G0:ty87.ro W t0 x1){fuel:Nat}{r:D.Net}(hm:z13 fuel x0 x1=some r):
  Calls Tryz.prog 128 ⟨[.pointer (some v0),.agg ⟨t0⟩]⟩ w (Ret fun v w8=>∃ A0 k0,v=.agg ⟨[sl A0 r.Agents k0]⟩∧St w w8 [Own (zdH W) [sl A0 r.Agents k0] r.Agents]):=by
 obtain⟨A1,k2,A4,k5,e7,h3,h6⟩:=zp M;subst e7;have F0:=z1i G0;subst F0;refine into Tryz.func128 15 _ ?_;unfold z13 at hm;have hS:=St.start w;refine sq<|rg<|nw hS (fun S0 X0 P0 V=>?_);refine nw V (fun T0 Y0 Q0 h=>?_);refine rn<|sq<|dn 1024 mixed 11 [([],2047),([],2047),([1],2045),([0,2],2042),([],2047),([],2047),([5],2015),([4,6,3],1967),([3,7],1911),([8],1791),([9,7,0,1,2,3,4,5,6,7,8,9],1535)] h.ext (fun d=>?_);have G:=h.step (Ext.draw _);refine dr 7 d [0,1,4,5] ?_;refine dl d 2 ((h.bring 1 rfl).box) 0 ?_;refine dl d 6 ((h.bring 1 rfl).box) 1 ?_;obtain⟨o,p0,hm⟩:=bS hm;refine o1 d 3 (mc d zbU (z68 (hE.trans G.ext) M u0 p0) (fun U0 a1 O=>?_));obtain⟨y0,K0,B0,L0,rfl,y,H0⟩:=O;refine⟨y.ext,?_⟩;have H:=G.join y;obtain⟨u,q0,hm⟩:=bS hm;refine o1 d 7 (mc d zbU (z68 (hE.trans H.ext) M u0 q0) (fun V0 b1 S=>?_));obtain⟨C0,M0,D0,N0,rfl,z,J0⟩:=S;refine⟨z.ext,?_⟩;have X:=H.join z;have Y:=St.noEl (z7i W) X;have Z:=Y.bring 1 rfl;have a0:=St.bor (T:=ty80) (x:=u.Data) Z J0;have b0:=z8d (W0:=W) (c:=u) (B:=_) a0;have d0:=St.consEl b0;have e0:=d0.bring 1 rfl;have f0:=St.bor (T:=ty80) (x:=o.Data) e0 H0;have g0:=z8d (W0:=W) (c:=o) (B:=_) f0;have i0:=St.consEl g0;refine o1 d 8 (mn (U:=(z7i W)) (els:=[.int .i64 o.Kind,.int .i64 o.Level,.int .i64 o.Value,.slice y0 o.Data.length K0,.slice B0 o.Ports.length L0,.int .i64 u.Kind,.int .i64 u.Level,.int .i64 u.Value,.slice C0 u.Data.length M0,.slice D0 u.Ports.length N0]) (ys:=[o,u]) i0 d (fun E0 O0 d1 R0 j0=>?_));refine dp d 9 rfl (fun _=>qb) ?_;have o0:=j0.bring 1 rfl;refine o1 d 10 (ms (A:=[]) o0 d 0 (fun e1 L=>?_));refine dd d ?_;refine rt ?_;cases hm;exact⟨_,.cons (ra ((L.bring 0 rfl).box)) .nil,E0,O0,rfl,((L.bring 1 rfl).taken 1)⟩

end Go.E


