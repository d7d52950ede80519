/- The types of the data, as tables and as plain Lean types (written by program). Conditions: none. -/
import Derived.Test.YtijgffjimnbcpaaMaps
import Derived.Test.YtijgffjimnbcpaaProg
import Derived.KernelRfl
import Derived.Deep.Slices
import Derived.ChangeArms
import Derived.ProofKit
import Derived.OpenShut
import Derived.WideShapes
namespace Go.E
open Go.RowKit Go.Proofs
set_option linter.unusedVariables false
set_option linter.unusedSimpArgs false


def tt:TT:=[
  ⟨2,.int .i64,1,[.int .i64 0],8⟩,
  ⟨3,.int .i64,1,[.int .i64 0],8⟩,
  ⟨4,.bool,1,[.bool false],1⟩,
  ⟨5,.int .u8,1,[.int .u8 0],1⟩,
  ⟨9,.str,1,[.string ⟨#[]⟩],16⟩,
  ⟨22,.slice 9,1,[.slice none 0 0],24⟩,
  ⟨23,.slice 75,1,[.slice none 0 0],24⟩,
  ⟨25,.struct [(0,1,false,2),(1,1,false,22),(2,1,false,2),(3,1,false,2),(4,1,false,2),(5,1,false,23),(6,1,false,22),(7,1,false,23)],8,[.int .i64 0,.slice none 0 0,.int .i64 0,.int .i64 0,.int .i64 0,.slice none 0 0,.slice none 0 0,.slice none 0 0],128⟩,
  ⟨27,.slice 77,1,[.slice none 0 0],24⟩,
  ⟨29,.struct [(0,1,false,2),(1,1,false,22),(2,1,false,2),(3,1,false,2),(4,1,false,2),(5,1,false,27),(6,1,false,22),(7,1,false,27)],8,[.int .i64 0,.slice none 0 0,.int .i64 0,.int .i64 0,.int .i64 0,.slice none 0 0,.slice none 0 0,.slice none 0 0],128⟩,
  ⟨37,.struct [(0,1,false,2),(1,1,false,2)],2,[.int .i64 0,.int .i64 0],16⟩,
  ⟨40,.struct [(0,1,false,2),(1,1,false,2)],2,[.int .i64 0,.int .i64 0],16⟩,
  ⟨43,.slice 2,1,[.slice none 0 0],24⟩,
  ⟨52,.ptr 29,1,[.pointer none],8⟩,
  ⟨69,.slice 40,1,[.slice none 0 0],24⟩,
  ⟨75,.struct [(0,1,false,4),(1,1,false,2),(2,1,false,9)],3,[.bool false,.int .i64 0,.string ⟨#[]⟩],32⟩,
  ⟨76,.ptr 77,1,[.pointer none],8⟩,
  ⟨77,.struct [(0,1,false,4),(1,1,false,2),(2,1,false,9)],3,[.bool false,.int .i64 0,.string ⟨#[]⟩],32⟩,
  ⟨102,.slice 5,1,[.slice none 0 0],24⟩,
  ⟨104,.int .u64,1,[.int .u64 0],8⟩]

def zerosOk (P:Program):TT→Prop
  | []=>True
  | i::r=>(P.info? i.id).map (fun j=>j.zero.map (fun v=>v.cells.toList))=some (some i.zero)∧zerosOk P r

theorem z65 {P:Program}:∀ {T:TT},zerosOk P T→∀ i,i∈T→(P.info? i.id).map (fun j=>j.zero.map (fun v=>v.cells.toList))=some (some i.zero)
  | [],_,i,h=>by cases h
  | _::_,⟨h1,h2⟩,i,h=>by
    rcases List.mem_cons.1 h with rfl | h
    · exact h1
    · exact z65 h2 i h

theorem z9O:tt.all (infoOk Try.prog)=true:=by kernel_rfl
theorem z8T:zerosOk Try.prog tt:=⟨by kernel_rfl,by kernel_rfl,by kernel_rfl,by kernel_rfl,by kernel_rfl,by kernel_rfl,by kernel_rfl,by kernel_rfl,by kernel_rfl,by kernel_rfl,by kernel_rfl,by kernel_rfl,by kernel_rfl,by kernel_rfl,by kernel_rfl,by kernel_rfl,by kernel_rfl,by kernel_rfl,by kernel_rfl,by kernel_rfl,trivial⟩
theorem ttok:TTok Try.prog tt:=⟨List.all_eq_true.1 z9O,z65 z8T⟩
theorem mixed:Try.prog.follows .mixedOrders=true:=by kernel_rfl

structure D.Packet where
  Ack:Bool
  Number:Int
  Text:ByteArray
deriving Inhabited, DecidableEq

structure D.Channel where
  Window:Int
  Messages:(List ByteArray)
  Base:Int
  Next:Int
  Expected:Int
  Early:(List D.Packet)
  Delivered:(List ByteArray)
  Flight:(List D.Packet)
deriving Inhabited, DecidableEq

structure D.ChannelEvent where
  Kind:Int
  Index:Int
deriving Inhabited, DecidableEq

def ty22:Ty (List ByteArray):=tSl 9 tStr
instance {W:World}:Reads W ty22:=inferInstanceAs (Reads W (tSl 9 tStr))
theorem z5x {w:World}{cs:List Value}{xs:(List ByteArray)}(h:ty22.ro w cs xs):∃ A c,cs=[.slice A xs.length c]:=slForm h

def ty75:Ty D.Packet:=tMap (fun c=>(c.Ack,c.Number,c.Text,())) (tPair tBool (tPair tInt (tPair tStr tUnit)))
instance {W:World}:Reads W ty75:=inferInstanceAs (Reads W (tMap (fun c:D.Packet=>(c.Ack,c.Number,c.Text,())) (tPair tBool (tPair tInt (tPair tStr tUnit)))))
theorem z5w {w:World}{cs:List Value}{c:D.Packet}(h:ty75.ro w cs c):cs=[.bool c.Ack,.int .i64 c.Number,.string c.Text]:=by
  obtain⟨c0,d0,rfl,h0,c1,d1,rfl,h1,c2,d2,rfl,h2,hz⟩:=h
  subst hz
  subst h0
  subst h1
  subst h2
  rfl
def ty23:Ty (List D.Packet):=tSl 75 ty75
instance {W:World}:Reads W ty23:=inferInstanceAs (Reads W (tSl 75 ty75))
theorem z7b {w:World}{cs:List Value}{xs:(List D.Packet)}(h:ty23.ro w cs xs):∃ A c,cs=[.slice A xs.length c]:=slForm h

def ty25:Ty D.Channel:=tMap (fun c=>(c.Window,c.Messages,c.Base,c.Next,c.Expected,c.Early,c.Delivered,c.Flight,())) (tPair tInt (tPair ty22 (tPair tInt (tPair tInt (tPair tInt (tPair ty23 (tPair ty22 (tPair ty23 tUnit))))))))
instance {W:World}:Reads W ty25:=inferInstanceAs (Reads W (tMap (fun c:D.Channel=>(c.Window,c.Messages,c.Base,c.Next,c.Expected,c.Early,c.Delivered,c.Flight,())) (tPair tInt (tPair ty22 (tPair tInt (tPair tInt (tPair tInt (tPair ty23 (tPair ty22 (tPair ty23 tUnit))))))))))
theorem z52 {w:World}{cs:List Value}{c:D.Channel}(h:ty25.ro w cs c):∃ A0 k0 A1 k1 A2 k2 A3 k3,cs=[.int .i64 c.Window,.slice A0 c.Messages.length k0,.int .i64 c.Base,.int .i64 c.Next,.int .i64 c.Expected,.slice A1 c.Early.length k1,.slice A2 c.Delivered.length k2,.slice A3 c.Flight.length k3]∧ty22.ro w [.slice A0 c.Messages.length k0] c.Messages∧ty23.ro w [.slice A1 c.Early.length k1] c.Early∧ty22.ro w [.slice A2 c.Delivered.length k2] c.Delivered∧ty23.ro w [.slice A3 c.Flight.length k3] c.Flight:=by
  obtain⟨c0,d0,rfl,h0,c1,d1,rfl,h1,c2,d2,rfl,h2,c3,d3,rfl,h3,c4,d4,rfl,h4,c5,d5,rfl,h5,c6,d6,rfl,h6,c7,d7,rfl,h7,hz⟩:=h
  subst hz
  subst h0
  obtain⟨j,z,e1⟩:=z5x h1
  subst e1
  subst h2
  subst h3
  subst h4
  obtain⟨o,G,e5⟩:=z7b h5
  subst e5
  obtain⟨q,H,e6⟩:=z5x h6
  subst e6
  obtain⟨y,J,e7⟩:=z7b h7
  subst e7
  exact⟨j,z,o,G,q,H,y,J,rfl,h1,h5,h6,h7⟩
def ty77:Ty D.Packet:=tMap (fun c=>(c.Ack,c.Number,c.Text,())) (tPair tBool (tPair tInt (tPair tStr tUnit)))
instance {W:World}:Reads W ty77:=inferInstanceAs (Reads W (tMap (fun c:D.Packet=>(c.Ack,c.Number,c.Text,())) (tPair tBool (tPair tInt (tPair tStr tUnit)))))
theorem zH {w:World}{cs:List Value}{c:D.Packet}(h:ty77.ro w cs c):cs=[.bool c.Ack,.int .i64 c.Number,.string c.Text]:=by
  obtain⟨c0,d0,rfl,h0,c1,d1,rfl,h1,c2,d2,rfl,h2,hz⟩:=h
  subst hz
  subst h0
  subst h1
  subst h2
  rfl
theorem z67 {w:World}(c:D.Packet)  :ty77.ro w [.bool c.Ack,.int .i64 c.Number,.string c.Text] c:=
  ⟨_,_,rfl,rfl,⟨_,_,rfl,rfl,⟨_,_,rfl,rfl,rfl⟩⟩⟩
theorem z7N {w:World}{cs:List Value}{c:D.Packet}{G:List Nat}(h:ty77.own w cs c G):cs=[.bool c.Ack,.int .i64 c.Number,.string c.Text]∧(All []).A w G:=by
  obtain⟨c0,d0,H0,K0,rfl,rfl,h0,c1,d1,H1,K1,rfl,rfl,h1,c2,d2,H2,K2,rfl,rfl,h2,hz,hk⟩:=h
  subst hz;subst hk
  obtain⟨e0,k0⟩:=h0;subst e0;subst k0
  obtain⟨e1,k1⟩:=h1;subst e1;subst k1
  obtain⟨e2,k2⟩:=h2;subst e2;subst k2
  refine⟨rfl,?_⟩
  show(All _).A w _
  exact cast (congrArg _ (by simp)) (show(All _).A w ([]) from rfl)
theorem z38 {w:World}{c:D.Packet}  {G:List Nat}(h:(All []).A w G):ty77.own w [.bool c.Ack,.int .i64 c.Number,.string c.Text] c G:=by
  have hz:G=[]:=h
  subst hz
  exact cast (congrArg _ (by simp)) (show ty77.own w [.bool c.Ack,.int .i64 c.Number,.string c.Text] c (_) from⟨_,_,_,_,rfl,rfl,⟨rfl,rfl⟩,⟨_,_,_,_,rfl,rfl,⟨rfl,rfl⟩,⟨_,_,_,_,rfl,rfl,⟨rfl,rfl⟩,⟨rfl,rfl⟩⟩⟩⟩)
theorem z8e {W w:World}{B:List Res}{cs:List Value}{c:D.Packet}(h:St W w (Own ty77 cs c::B)):cs=[.bool c.Ack,.int .i64 c.Number,.string c.Text]∧St W w ([]++B):=by
  obtain⟨G,hA,_⟩:=h.sep.head
  obtain⟨rfl,_⟩:=z7N hA
  refine⟨rfl,St.splitAll (h.conv fun G hG=>?_)⟩
  exact(z7N hG).2
theorem z6D {W w:World}{B:List Res}{c:D.Packet}  (h:St W w ([]++B)):St W w (Own ty77 [.bool c.Ack,.int .i64 c.Number,.string c.Text] c::B):=(St.fuseAll h).conv fun _ hG=>z38 hG

def ty27:Ty (List D.Packet):=tSl 77 ty77
instance {W:World}:Reads W ty27:=inferInstanceAs (Reads W (tSl 77 ty77))
theorem z7a {w:World}{cs:List Value}{xs:(List D.Packet)}(h:ty27.ro w cs xs):∃ A c,cs=[.slice A xs.length c]:=slForm h

def ty29:Ty D.Channel:=tMap (fun c=>(c.Window,c.Messages,c.Base,c.Next,c.Expected,c.Early,c.Delivered,c.Flight,())) (tPair tInt (tPair ty22 (tPair tInt (tPair tInt (tPair tInt (tPair ty27 (tPair ty22 (tPair ty27 tUnit))))))))
instance {W:World}:Reads W ty29:=inferInstanceAs (Reads W (tMap (fun c:D.Channel=>(c.Window,c.Messages,c.Base,c.Next,c.Expected,c.Early,c.Delivered,c.Flight,())) (tPair tInt (tPair ty22 (tPair tInt (tPair tInt (tPair tInt (tPair ty27 (tPair ty22 (tPair ty27 tUnit))))))))))
theorem z11 {w:World}{cs:List Value}{c:D.Channel}(h:ty29.ro w cs c):∃ A0 k0 A1 k1 A2 k2 A3 k3,cs=[.int .i64 c.Window,.slice A0 c.Messages.length k0,.int .i64 c.Base,.int .i64 c.Next,.int .i64 c.Expected,.slice A1 c.Early.length k1,.slice A2 c.Delivered.length k2,.slice A3 c.Flight.length k3]∧ty22.ro w [.slice A0 c.Messages.length k0] c.Messages∧ty27.ro w [.slice A1 c.Early.length k1] c.Early∧ty22.ro w [.slice A2 c.Delivered.length k2] c.Delivered∧ty27.ro w [.slice A3 c.Flight.length k3] c.Flight:=by
  obtain⟨c0,d0,rfl,h0,c1,d1,rfl,h1,c2,d2,rfl,h2,c3,d3,rfl,h3,c4,d4,rfl,h4,c5,d5,rfl,h5,c6,d6,rfl,h6,c7,d7,rfl,h7,hz⟩:=h
  subst hz
  subst h0
  obtain⟨j,z,e1⟩:=z5x h1
  subst e1
  subst h2
  subst h3
  subst h4
  obtain⟨o,G,e5⟩:=z7a h5
  subst e5
  obtain⟨q,H,e6⟩:=z5x h6
  subst e6
  obtain⟨y,J,e7⟩:=z7a h7
  subst e7
  exact⟨j,z,o,G,q,H,y,J,rfl,h1,h5,h6,h7⟩
theorem z5 {w:World}(c:D.Channel){A0:Option Addr}{k0:Nat}{A1:Option Addr}{k1:Nat}{A2:Option Addr}{k2:Nat}{A3:Option Addr}{k3:Nat}(h0:ty22.ro w [.slice A0 c.Messages.length k0] c.Messages) (h1:ty27.ro w [.slice A1 c.Early.length k1] c.Early) (h2:ty22.ro w [.slice A2 c.Delivered.length k2] c.Delivered) (h3:ty27.ro w [.slice A3 c.Flight.length k3] c.Flight):ty29.ro w [.int .i64 c.Window,.slice A0 c.Messages.length k0,.int .i64 c.Base,.int .i64 c.Next,.int .i64 c.Expected,.slice A1 c.Early.length k1,.slice A2 c.Delivered.length k2,.slice A3 c.Flight.length k3] c:=
  ⟨_,_,rfl,rfl,⟨_,_,rfl,h0,⟨_,_,rfl,rfl,⟨_,_,rfl,rfl,⟨_,_,rfl,rfl,⟨_,_,rfl,h1,⟨_,_,rfl,h2,⟨_,_,rfl,h3,rfl⟩⟩⟩⟩⟩⟩⟩⟩
def ty37:Ty D.ChannelEvent:=tMap (fun c=>(c.Kind,c.Index,())) (tPair tInt (tPair tInt tUnit))
instance {W:World}:Reads W ty37:=inferInstanceAs (Reads W (tMap (fun c:D.ChannelEvent=>(c.Kind,c.Index,())) (tPair tInt (tPair tInt tUnit))))
theorem z79 {w:World}{cs:List Value}{c:D.ChannelEvent}(h:ty37.ro w cs c):cs=[.int .i64 c.Kind,.int .i64 c.Index]:=by
  obtain⟨c0,d0,rfl,h0,c1,d1,rfl,h1,hz⟩:=h
  subst hz
  subst h0
  subst h1
  rfl
def ty40:Ty D.ChannelEvent:=tMap (fun c=>(c.Kind,c.Index,())) (tPair tInt (tPair tInt tUnit))
instance {W:World}:Reads W ty40:=inferInstanceAs (Reads W (tMap (fun c:D.ChannelEvent=>(c.Kind,c.Index,())) (tPair tInt (tPair tInt tUnit))))
theorem z3n {w:World}{cs:List Value}{c:D.ChannelEvent}(h:ty40.ro w cs c):cs=[.int .i64 c.Kind,.int .i64 c.Index]:=by
  obtain⟨c0,d0,rfl,h0,c1,d1,rfl,h1,hz⟩:=h
  subst hz
  subst h0
  subst h1
  rfl
theorem z1W {w:World}(c:D.ChannelEvent)  :ty40.ro w [.int .i64 c.Kind,.int .i64 c.Index] c:=
  ⟨_,_,rfl,rfl,⟨_,_,rfl,rfl,rfl⟩⟩
theorem z3z {w:World}{c:D.ChannelEvent}  {G:List Nat}(h:(All []).A w G):ty40.own w [.int .i64 c.Kind,.int .i64 c.Index] c G:=by
  have hz:G=[]:=h
  subst hz
  exact cast (congrArg _ (by simp)) (show ty40.own w [.int .i64 c.Kind,.int .i64 c.Index] c (_) from⟨_,_,_,_,rfl,rfl,⟨rfl,rfl⟩,⟨_,_,_,_,rfl,rfl,⟨rfl,rfl⟩,⟨rfl,rfl⟩⟩⟩)
def ty43:Ty (List Int):=tSl 2 tInt
instance {W:World}:Reads W ty43:=inferInstanceAs (Reads W (tSl 2 tInt))
def ty69:Ty (List D.ChannelEvent):=tSl 40 ty40
instance {W:World}:Reads W ty69:=inferInstanceAs (Reads W (tSl 40 ty40))
end Go.E


namespace Go.E
open Go.RowKit
set_option linter.unusedVariables false
set_option linter.unusedSimpArgs false

theorem Quiet.idxAddr {P:Program}{T:TT}(ht:TTok P T){n:Nat}{F:Fr}{α:Type}{U:Ty α}{g k ln:Nat}{o:Oper}{t e':Nat}{x ix:Operand}{i j:TI}
    {kd:IntKind}{m:Int}(ho:o.op=.indexAddr t x ix) (hi:T.get t=some i) (hd:i.d=.slice e') (hj:T.get e'=some j) (hs:U.size=j.size) (hx:F.ev x=some (.slice (some ⟨g,0,none⟩) ln k)) (hm:F.ev ix=some (.int kd m))
    (h0:0≤m) (hlt:m.toNat<ln) (w:World):Quiet P n F w o (.pointer (some ⟨g,m.toNat*U.size,none⟩)):=fun a w' ha _=>by
  unfold execOp
  rw [ho]
  have hmm:m<ln:=by omega
  simp [ha.ev hx,ha.ev hm,Instr.indexAt,asIntOf,Go.underlying,ht.slice hi hd,h0,hmm,ht.sizeOf hj,z7L,hs]

section
variable {P:Program}{n:Nat}{Q:Post}{F:Fr}{W w w0 w1 W9:World}{ops:List Oper}{wm fuel kk mm:Nat}{sk:List (List Nat × Nat)}{o:Oper}{T:TT}

theorem DM.idxHole (ht:TTok P T){α:Type}{U:Ty α}{A:Option Addr}{k ln:Nat}(hA:∃ g,A=some ⟨g,0,none⟩) (hsk:skOf ops=sk∧ops.length=kk) (ii m':Nat) (hmm:mm ||| 2 ^ ii=m') (hwi:wm.testBit ii=false) (hni:nthv ops ii=some o) (hf:freeM sk (2 ^ kk - 1) mm ii=true) (hg:guardOf ops F o=some true){t e':Nat}{x ix:Operand}{i j:TI}
    {kd:IntKind}{m:Int}(ho:o.op=.indexAddr t x ix) (hi:T.get t=some i) (hd:i.d=.slice e') (hj:T.get e'=some j) (hs:U.size=j.size) (hx:F.ev x=some (.slice A ln k)) (hm:F.ev ix=some (.int kd m))
    (h0:0≤m) (hlt:m.toNat<ln){d:Nat}(hd':o.dst=some d) (hn:Nat.blt d n=true)
    (h:∀ q,ElAt U A m.toNat q→DM P n ops Q W9 w0 wm fuel kk m' ((d,.pointer (some q))::F) w):DM P n ops Q W9 w0 wm (fuel+1) kk mm F w:=by
  obtain⟨g,rfl⟩:=hA
  exact DM.quietP hsk ii m' hmm hwi hni hf hg (Quiet.idxAddr ht ho hi hd hj hs hx hm h0 hlt) hd' hn (h _ ⟨g,rfl,rfl⟩)

theorem DM.focus (ht:TTok P T){α:Type}{U:Ty α}{B:List Res}{e:Nat}{A:Option Addr}{k ln:Nat}{xs:List α}{a:α}(hS:St W w1 (Own (tSl e U) [.slice A ln k] xs::B)) (hsk:skOf ops=sk∧ops.length=kk) (ii m':Nat) (hmm:mm ||| 2 ^ ii=m') (hwi:wm.testBit ii=false) (hni:nthv ops ii=some o) (hf:freeM sk (2 ^ kk - 1) mm ii=true) (hg:guardOf ops F o=some true){t e':Nat}{x ix:Operand}{i j:TI}
    {kd:IntKind}{m:Int}(ho:o.op=.indexAddr t x ix) (hi:T.get t=some i) (hd:i.d=.slice e') (hj:T.get e'=some j) (hs:U.size=j.size) (hx:F.ev x=some (.slice A ln k)) (hm:F.ev ix=some (.int kd m))
    (h0:0≤m) (ha:xs[m.toNat]? = some a){d:Nat}(hd':o.dst=some d) (hn:Nat.blt d n=true)
    (h:∀ q es,ElAt U A m.toNat q→St W w1 (Hole U e (.slice A ln k) xs m.toNat es::Own U es a::B)→DM P n ops Q W w0 wm fuel kk m' ((d,.pointer (some q))::F) w):DM P n ops Q W w0 wm (fuel+1) kk mm F w:=by
  have hlt:=(List.getElem?_eq_some_iff.1 ha).1
  obtain⟨es,h1⟩:=hS.focusN ha
  have hl:=hS.lenEq
  exact DM.idxHole ht (U:=U) (hS.ownAddr hlt) hsk ii m' hmm hwi hni hf hg ho hi hd hj hs hx hm h0 (by omega) hd' hn fun q hq=>h q es hq h1

theorem DM.idxAgain (ht:TTok P T){α:Type}{U:Ty α}{B:List Res}{e:Nat}{A:Option Addr}{k ln:Nat}{xs:List α}{es:List Value}{m:Int}(hS:St W w1 (Hole U e (.slice A ln k) xs m.toNat es::B)) (hsk:skOf ops=sk∧ops.length=kk) (ii m':Nat) (hmm:mm ||| 2 ^ ii=m') (hwi:wm.testBit ii=false) (hni:nthv ops ii=some o) (hf:freeM sk (2 ^ kk - 1) mm ii=true) (hg:guardOf ops F o=some true){t e':Nat}{x ix:Operand}{i j:TI}
    {kd:IntKind}(ho:o.op=.indexAddr t x ix) (hi:T.get t=some i) (hd:i.d=.slice e') (hj:T.get e'=some j) (hs:U.size=j.size) (hx:F.ev x=some (.slice A ln k)) (hm:F.ev ix=some (.int kd m))
    (h0:0≤m){d:Nat}(hd':o.dst=some d) (hn:Nat.blt d n=true)
    (h:∀ q,ElAt U A m.toNat q→DM P n ops Q W w0 wm fuel kk m' ((d,.pointer (some q))::F) w):DM P n ops Q W w0 wm (fuel+1) kk mm F w:=by
  obtain⟨hl,hlt,hA⟩:=hS.hole_len
  exact DM.idxHole ht (U:=U) hA hsk ii m' hmm hwi hni hf hg ho hi hd hj hs hx hm h0 (by omega) hd' hn h

theorem DM.idxOwnN (ht:TTok P T){α:Type}{U:Ty α}{B:List Res}{e:Nat}{A:Option Addr}{k ln:Nat}{xs:List α}(hS:St W w1 (Own (tSl e U) [.slice A ln k] xs::B)) (hsk:skOf ops=sk∧ops.length=kk) (ii m':Nat) (hmm:mm ||| 2 ^ ii=m') (hwi:wm.testBit ii=false) (hni:nthv ops ii=some o) (hf:freeM sk (2 ^ kk - 1) mm ii=true) (hg:guardOf ops F o=some true){t e':Nat}{x ix:Operand}{i j:TI}
    {kd:IntKind}{m:Int}(ho:o.op=.indexAddr t x ix) (hi:T.get t=some i) (hd:i.d=.slice e') (hj:T.get e'=some j) (hs:U.size=j.size) (hx:F.ev x=some (.slice A ln k)) (hm:F.ev ix=some (.int kd m))
    (h0:0≤m) (hlt:m.toNat<xs.length){d:Nat}(hd':o.dst=some d) (hn:Nat.blt d n=true)
    (h:∀ q,(∃ g,A=some ⟨g,0,none⟩∧q=⟨g,m.toNat*U.size,none⟩)→DM P n ops Q W w0 wm fuel kk m' ((d,.pointer (some q))::F) w):DM P n ops Q W w0 wm (fuel+1) kk mm F w:=by
  have hl:=hS.lenEq
  exact DM.idxHole ht (U:=U) (hS.ownAddr hlt) hsk ii m' hmm hwi hni hf hg ho hi hd hj hs hx hm h0 (by omega) hd' hn h


theorem LM.idxHole (ht:TTok P T){α:Type}{U:Ty α}{A:Option Addr}{k ln:Nat}(hA:∃ g,A=some ⟨g,0,none⟩) (hsk:skOf ops=sk∧ops.length=kk){ii:Nat}(m':Nat) (hm':mm ||| 2 ^ ii=m') (hwi:wm.testBit ii=false) (hni:nthv ops ii=some o) (hg:guardOf ops F o=some true){t e':Nat}{x ix:Operand}{i j:TI}
    {kd:IntKind}{m:Int}(ho:o.op=.indexAddr t x ix) (hi:T.get t=some i) (hd:i.d=.slice e') (hj:T.get e'=some j) (hs:U.size=j.size) (hx:F.ev x=some (.slice A ln k)) (hm:F.ev ix=some (.int kd m))
    (h0:0≤m) (hlt:m.toNat<ln){d:Nat}(hd':o.dst=some d) (hn:Nat.blt d n=true)
    (h:∀ q,ElAt U A m.toNat q→DM P n ops Q W9 w0 wm fuel kk m' ((d,.pointer (some q))::F) w):LM P n ops Q W9 w0 wm fuel kk mm ii F w:=by
  obtain⟨g,rfl⟩:=hA
  exact LM.quietL hsk m' hm' hwi hni hg (Quiet.idxAddr ht ho hi hd hj hs hx hm h0 hlt w) hd' hn (h _ ⟨g,rfl,rfl⟩)

theorem LM.focus (ht:TTok P T){α:Type}{U:Ty α}{B:List Res}{e:Nat}{A:Option Addr}{k ln:Nat}{xs:List α}{a:α}(hS:St W w1 (Own (tSl e U) [.slice A ln k] xs::B)) (hsk:skOf ops=sk∧ops.length=kk){ii:Nat}(m':Nat) (hm':mm ||| 2 ^ ii=m') (hwi:wm.testBit ii=false) (hni:nthv ops ii=some o) (hg:guardOf ops F o=some true){t e':Nat}{x ix:Operand}{i j:TI}
    {kd:IntKind}{m:Int}(ho:o.op=.indexAddr t x ix) (hi:T.get t=some i) (hd:i.d=.slice e') (hj:T.get e'=some j) (hs:U.size=j.size) (hx:F.ev x=some (.slice A ln k)) (hm:F.ev ix=some (.int kd m))
    (h0:0≤m) (ha:xs[m.toNat]? = some a){d:Nat}(hd':o.dst=some d) (hn:Nat.blt d n=true)
    (h:∀ q es,ElAt U A m.toNat q→St W w1 (Hole U e (.slice A ln k) xs m.toNat es::Own U es a::B)→DM P n ops Q W w0 wm fuel kk m' ((d,.pointer (some q))::F) w):LM P n ops Q W w0 wm fuel kk mm ii F w:=by
  have hlt:=(List.getElem?_eq_some_iff.1 ha).1
  obtain⟨es,h1⟩:=hS.focusN ha
  have hl:=hS.lenEq
  exact LM.idxHole ht (U:=U) (hS.ownAddr hlt) hsk m' hm' hwi hni hg ho hi hd hj hs hx hm h0 (by omega) hd' hn fun q hq=>h q es hq h1

theorem LM.idxAgain (ht:TTok P T){α:Type}{U:Ty α}{B:List Res}{e:Nat}{A:Option Addr}{k ln:Nat}{xs:List α}{es:List Value}{m:Int}(hS:St W w1 (Hole U e (.slice A ln k) xs m.toNat es::B)) (hsk:skOf ops=sk∧ops.length=kk){ii:Nat}(m':Nat) (hm':mm ||| 2 ^ ii=m') (hwi:wm.testBit ii=false) (hni:nthv ops ii=some o) (hg:guardOf ops F o=some true){t e':Nat}{x ix:Operand}{i j:TI}
    {kd:IntKind}(ho:o.op=.indexAddr t x ix) (hi:T.get t=some i) (hd:i.d=.slice e') (hj:T.get e'=some j) (hs:U.size=j.size) (hx:F.ev x=some (.slice A ln k)) (hm:F.ev ix=some (.int kd m))
    (h0:0≤m){d:Nat}(hd':o.dst=some d) (hn:Nat.blt d n=true)
    (h:∀ q,ElAt U A m.toNat q→DM P n ops Q W w0 wm fuel kk m' ((d,.pointer (some q))::F) w):LM P n ops Q W w0 wm fuel kk mm ii F w:=by
  obtain⟨hl,hlt,hA⟩:=hS.hole_len
  exact LM.idxHole ht (U:=U) hA hsk m' hm' hwi hni hg ho hi hd hj hs hx hm h0 (by omega) hd' hn h

theorem LM.idxOwnN (ht:TTok P T){α:Type}{U:Ty α}{B:List Res}{e:Nat}{A:Option Addr}{k ln:Nat}{xs:List α}(hS:St W w1 (Own (tSl e U) [.slice A ln k] xs::B)) (hsk:skOf ops=sk∧ops.length=kk){ii:Nat}(m':Nat) (hm':mm ||| 2 ^ ii=m') (hwi:wm.testBit ii=false) (hni:nthv ops ii=some o) (hg:guardOf ops F o=some true){t e':Nat}{x ix:Operand}{i j:TI}
    {kd:IntKind}{m:Int}(ho:o.op=.indexAddr t x ix) (hi:T.get t=some i) (hd:i.d=.slice e') (hj:T.get e'=some j) (hs:U.size=j.size) (hx:F.ev x=some (.slice A ln k)) (hm:F.ev ix=some (.int kd m))
    (h0:0≤m) (hlt:m.toNat<xs.length){d:Nat}(hd':o.dst=some d) (hn:Nat.blt d n=true)
    (h:∀ q,(∃ g,A=some ⟨g,0,none⟩∧q=⟨g,m.toNat*U.size,none⟩)→DM P n ops Q W w0 wm fuel kk m' ((d,.pointer (some q))::F) w):LM P n ops Q W w0 wm fuel kk mm ii F w:=by
  have hl:=hS.lenEq
  exact LM.idxHole ht (U:=U) (hS.ownAddr hlt) hsk m' hm' hwi hni hg ho hi hd hj hs hx hm h0 (by omega) hd' hn h

theorem LM.storeElN (ht:TTok P T){α:Type}{U:Ty α}{B:List Res}{e:Nat}{A:Option Addr}{k ln:Nat}{xs:List α}{y:α}{es':List Value}(hS:St W w (Own (tSl e U) [.slice A ln k] xs::Own U es' y::B)) (hsk:skOf ops=sk∧ops.length=kk){ii:Nat}(m':Nat) (hm':mm ||| 2 ^ ii=m') (hwi:wm.testBit ii=true) (hni:nthv ops ii=some o) (hg:guardOf ops F o=some true)
    {t:Nat}{x yv:Operand}(ho:o.op=.store t x yv) (hd:o.dst=none){j:TI}(hj:T.get t=some j) (hs:U.size=j.size){q:Addr}(hx:F.ev x=some (.pointer (some q))){m:Nat}(hlt:m<xs.length)
    (hq:∃ g,A=some ⟨g,0,none⟩∧q=⟨g,m*U.size,none⟩){v:Value}(hy:F.ev yv=some v) (hc:cellsV v=es')
    (h:∀ w',St W w' (Own (tSl e U) [.slice A ln k] (xs.set m y)::B)→DM P n ops Q W w0 wm fuel kk m' F w'):LM P n ops Q W w0 wm fuel kk mm ii F w:=by
  have hl:=hS.lenEq
  subst hl
  obtain⟨w',h1,h2⟩:=z6j (P:=P) ht hS hlt hq hj hs
  have h3:St W w' (Own (tSl e U) [.slice A xs.length k] (xs.set m y)::B):=by simpa using h2
  refine LM.unitW hsk m' hm' hwi hni hg (w':=w') (fun a ha=>?_) hd h3.ext (h w' h3)
  unfold execOp
  rw [ho]
  simp [ha.ev hx,ha.ev hy,Instr.storeAt,Instr.sureAddr,h1 v hc]

theorem z6W (ht:TTok P T){α:Type}{U:Ty α}{e:Nat}{A:Option Addr}{k m:Nat}{xs:List α}{es es':List Value}{B:List Res}(hS:St W w (Hole U e (.slice A xs.length k) xs m es::B)){q:Addr}(hq:ElAt U A m q)
    {t:Nat}{i:TI}(hi:T.get t=some i){q':Addr}(off:Nat) (hq':q'=q.add off){v:Value}(hl:Nat.beq (cellsV v).length i.size=true)
    (h1:oneCells (cellsV v)=true) (hs:setAt es off (cellsV v)=some es'):∃ w',(storeVar t q' v).run P w=.ok () w'∧St W w' (Hole U e (.slice A xs.length k) xs m es'::B):=by
  obtain⟨G,⟨g,cap,c1,c2,rst,G1,G2,hv,hh,a1,a2,a3,a4,a5,a6,k1,k2,hG⟩,_,hlo⟩:=hS.sep.head
  obtain⟨g',rfl,rfl⟩:=hq
  simp only [Value.slice.injEq,Option.some.injEq,Addr.mk.injEq,and_true,true_and] at hv
  obtain⟨rfl,rfl⟩:=hv
  have hset:=z4L (c1:=c1) (c2:=c2) (rest:=rst) hs
  rw [a4] at hset
  obtain⟨w',r1,r2,r3,r4,r5,r6,r7⟩:=z1A (P:=P) g' (m*U.size+off) e (cellsV v) 0 w _ ((c1++(es'++c2))++rst) h1 hh (by rw [Nat.add_zero];exact hset)
  have hge:W.heap.size≤g':=hlo g' (by rw [hG];simp)
  refine⟨w',?_,⟨r5.trans hS.ext.os,r6.trans hS.ext.tape,r7.trans hS.ext.output,by rw [r4];exact hS.le,fun b hb=>?_⟩,?_⟩
  · have hsz:v.cells.size=i.size:=by
      rw [← Array.length_toList,z3b];exact Nat.eq_of_beq_eq_true hl
    simp [storeVar,ht.sizeOf hi,hsz,z3b,hq',z4u,r1]
  · rw [r3 b (by omega)];exact hS.ext.block b hb
  · refine hS.sep.upd hS.le fun G' hG' hnd' _=>?_
    obtain⟨g1,cap1,d1,d2,rst1,H1,H2,hv1,hh1,b1,b2,b3,b4,b5,b6,l1,l2,rfl⟩:=hG'
    simp only [Value.slice.injEq,Option.some.injEq,Addr.mk.injEq,and_true,true_and] at hv1
    obtain⟨rfl,rfl⟩:=hv1
    rw [hh1] at hh
    simp only [Option.some.injEq,Obj.cells.injEq,Array.mk.injEq,and_true] at hh
    have hset1:=z4L (c1:=d1) (c2:=d2) (rest:=rst1) hs
    have e1:d1.length=c1.length:=by rw [b4,a4]
    rw [hh,e1] at hset1
    rw [← a4] at hset
    have e2:(c1++(es'++c2))++rst=(d1++(es'++d2))++rst1:=Option.some.inj (hset.symm.trans hset1)
    have hle:=z54 _ _ _ _ hs
    simp only [List.nodup_cons,List.mem_append,not_or] at hnd'
    refine⟨g'::(H1++H2),⟨g',k,d1,d2,rst1,H1,H2,rfl,by rw [r2,e2],b1,b2,?_,b4,by rw [hle];exact b5,b6,l1.loc fun b hb=>r3 b (by rintro rfl;exact hnd'.1.1 hb),l2.loc fun b hb=>r3 b (by rintro rfl;exact hnd'.1.2 hb),rfl⟩,by simpa using hnd',fun b hb=>.inl hb,fun b hb hn=>r3 b (by rintro rfl;exact hn (by simp))⟩
    rw [← b3]
    simp only [List.length_append,hle]

theorem LM.storeHoleN (ht:TTok P T){α:Type}{U:Ty α}{e:Nat}{A:Option Addr}{k m ln:Nat}{xs:List α}{es es':List Value}{B:List Res}(hS:St W w (Hole U e (.slice A ln k) xs m es::B)){q:Addr}(hq:ElAt U A m q)
    (hsk:skOf ops=sk∧ops.length=kk){ii:Nat}(m':Nat) (hm':mm ||| 2 ^ ii=m') (hwi:wm.testBit ii=true) (hni:nthv ops ii=some o) (hg:guardOf ops F o=some true){t:Nat}{x y:Operand}(ho:o.op=.store t x y) (hd:o.dst=none)
    {i:TI}(hi:T.get t=some i){q':Addr}(hx:F.ev x=some (.pointer (some q'))) (off:Nat) (hq':q'=q.add off){v:Value}(hy:F.ev y=some v) (hl:Nat.beq (cellsV v).length i.size=true)
    (h1:oneCells (cellsV v)=true) (hs:setAt es off (cellsV v)=some es') (h:∀ w',St W w' (Hole U e (.slice A ln k) xs m es'::B)→DM P n ops Q W w0 wm fuel kk m' F w'):LM P n ops Q W w0 wm fuel kk mm ii F w:=by
  obtain⟨hn,_,_⟩:=hS.hole_len
  subst hn
  obtain⟨w',r1,r2⟩:=z6W (P:=P) ht hS hq hi off hq' hl h1 hs
  refine LM.unitW hsk m' hm' hwi hni hg (w':=w') (fun a ha=>?_) hd r2.ext (h w' r2)
  unfold execOp
  rw [ho]
  simp [ha.ev hx,ha.ev hy,Instr.storeAt,Instr.sureAddr,r1]


end
end Go.E


namespace Go.E
open Go.RowKit
set_option linter.unusedVariables false
set_option linter.unusedSimpArgs false


inductive Rd (σ τ ρ:Type) where
  | next (s:σ)
  | brk (t:τ)
  | ret (r:ρ)

def iter {σ τ ρ:Type}(body:σ→Option (Rd σ τ ρ)):Nat→σ→Option (τ ⊕ ρ)
  | 0,_=>none
  | n+1,s=>match body s with
    | none=>none
    | some (.next s')=>iter body n s'
    | some (.brk t)=>some (.inl t)
    | some (.ret r)=>some (.inr r)

def idx {α:Type}(xs:List α) (i:Int):Option α:=if 0≤i then xs[i.toNat]? else none

theorem z3C {α:Type}{xs:List α}{i:Int}{x:α}(h:idx xs i=some x):0≤i∧xs[i.toNat]? = some x:=by
  unfold idx at h
  split at h
  · exact⟨by assumption,h⟩
  · cases h


def aft {τ A:Type}(o:τ ⊕ A) (k:τ→Option A):Option A:=
  match o with
  | .inl t=>k t
  | .inr a=>some a

theorem z13 {τ A:Type}(t:τ) (k:τ→Option A):aft (.inl t) k=k t:=rfl

theorem z9T {c:Bool}(h:c=false):¬ c=true:=by rw [h];simp

theorem bind_some {α β:Type}{x:Option α}{f:α→Option β}{b:β}(h:x.bind f=some b):∃ a,x=some a∧f a=some b:=by
  cases x with
  | none=>cases h
  | some a=>exact⟨a,rfl,h⟩

section
variable {P:Program}{n:Nat}{Q:Post}{F:Fr}{w:World}


theorem WP.iter {c:Code}{σ τ ρ:Type}(J:σ→Fr→World→Prop) (body:σ→Option (Rd σ τ ρ)){k:Nat}{s:σ}{out:τ ⊕ ρ}(hm:iter body k s=some out) (h0:J s F w)
    (round:∀ s F w k o,J s F w→body s=some o→(match o with | .next s'=>Go.E.iter body k s'=some out | .brk t=>out=.inl t | .ret r=>out=.inr r)→
      WP P n c (Q.after (fun F' w'=>∃ s' F'',F'.Has F''∧o=.next s'∧J s' F'' w')) F w):WP P n (.loop c) Q F w:=by
  refine WP.loop (σ:={ p:Nat × σ // Go.E.iter body p.1 p.2=some out }) (fun p F w=>J p.1.2 F w) (fun p=>p.1.1) ⟨(k,s),hm⟩ h0 ?_
  rintro⟨⟨k,s⟩,hk⟩ F w hJ
  cases k with
  | zero=>cases hk
  | succ k=>
    have hk':=hk
    simp only [Go.E.iter] at hk'
    cases hb:body s with
    | none=>rw [hb] at hk';cases hk'
    | some o=>
      rw [hb] at hk'
      refine(round s F w k o hJ hb ?_).mono ?_
      · cases o with
        | next s'=>exact hk'
        | brk t=>simp only [Option.some.injEq] at hk';exact hk'.symm
        | ret r=>simp only [Option.some.injEq] at hk';exact hk'.symm
      · intro e F' w' q
        cases e with
        | normal=>
          obtain⟨s',F2,hh,rfl,hJ'⟩:=q
          exact⟨⟨(k,s'),hk'⟩,F2,hh,hJ',Nat.lt_succ_self k⟩
        | _=>exact q


theorem WP.cut {c:Code}{τ:Type}(J:τ→Fr→World→Prop) (hk:∀ t F w,J t F w→Q .normal F w) (h:WP P n c (Q.after (fun F w=>∃ t F',F.Has F'∧J t F' w)) F w):WP P n c Q F w:=
  fun a ha=>wp_mono (h a ha) fun e a' w' ⟨F1,hf,q⟩=>by
    cases e with
    | normal=>obtain⟨t,F',hh,ht⟩:=q;exact⟨F',hf.weak hh,hk t F' w' ht⟩
    | _=>exact⟨F1,hf,q⟩

theorem RW.know {ops rest:List Oper}(i:Nat){v u:Value}(hg:F.get i=some v) (e:v=u) (h:RW P n ops Q rest ((i,u)::F) w):RW P n ops Q rest F w:=fun a ha=>
  h a ⟨ha.1,ha.2.1,fun j x hx=>by
    rw [Fr.get_cons] at hx
    split at hx
    · rename_i hj;subst hj;simp only [Option.some.injEq] at hx;subst hx;rw [← e];exact ha.2.2 _ _ hg
    · exact ha.2.2 _ _ hx⟩

theorem DW.know {ops:List Oper}{w0 W9:World}{wr:Nat→Bool}{fuel:Nat}{listed:Array Bool}(i:Nat){v u:Value}(hg:F.get i=some v) (e:v=u) (h:DW P n ops Q W9 w0 wr fuel listed ((i,u)::F) w):DW P n ops Q W9 w0 wr fuel listed F w:=fun hs he hv a ha=>
  h hs he hv a ⟨ha.1,ha.2.1,fun j x hx=>by
    rw [Fr.get_cons] at hx
    split at hx
    · rename_i hj;subst hj;simp only [Option.some.injEq] at hx;subst hx;rw [← e];exact ha.2.2 _ _ hg
    · exact ha.2.2 _ _ hx⟩

theorem DM.know {ops:List Oper}{w0 W9:World}{wm fuel k m:Nat}(i:Nat){v u:Value}(hg:F.get i=some v) (e:v=u) (h:DM P n ops Q W9 w0 wm fuel k m ((i,u)::F) w):DM P n ops Q W9 w0 wm fuel k m F w:=fun l hl=>DW.know i hg e (h l hl)

theorem zL {α:Type}{xs:List α}{l h:Nat}(h2:h≤xs.length):((xs.take h).drop l).length=h - l:=by
  rw [List.length_drop,List.length_take,Nat.min_eq_left h2]

theorem z9N {α:Type}{U:Ty α}{e:Nat}{xs:List α}{l h:Nat}{A:Option Addr}{c:Nat}{w:World}(_:l≤h) (h2:h≤xs.length) (hr:(tSl e U).ro w [.slice A (h - l) c] ((xs.take h).drop l)):
    (tSl e U).ro w [.slice A ((xs.take h).drop l).length c] ((xs.take h).drop l):=by
  rw [zL h2];exact hr

theorem ResIs.agg {T:TT}(ht:TTok P T){a:Tmp}{t:Nat}{q:Addr}(h:F.get a=some (.pointer (some q))){i:TI}(hi:T.get t=some i) (hag:i.agg=true){cs:List Value}(hat:At w q cs) (hl:Nat.beq cs.length i.size=true):
    ResIs P F w (.cell a t) (.agg ⟨cs⟩):=.cell h (by
  have hr:=run_loadCells_list (P:=P) w q cs fun j u hu=>hat j u hu
  rw [Nat.eq_of_beq_eq_true hl] at hr
  simp [loadVar,ht.isAgg hi,ht.sizeOf hi,hag,hr])

theorem ResIs.one {T:TT}(ht:TTok P T){a:Tmp}{t:Nat}{q:Addr}(h:F.get a=some (.pointer (some q))){i:TI}(hi:T.get t=some i) (hag:i.agg=false){c:Value}(hat:At w q [c]):
    ResIs P F w (.cell a t) c:=.cell h (by
  have hc:w.cell? q=some c:=by have:=hat 0 c rfl;simpa [Addr.add] using this
  simp [loadVar,ht.isAgg hi,hag,run_load,hc])

theorem At.sub {p:Addr}{cs:List Value}(h:At w p cs) (off m:Nat):At w (p.add off) ((cs.drop off).take m):=h.part fun j u hu=>by
  rw [List.getElem?_take] at hu
  split at hu
  · simpa using hu
  · cases hu
end
end Go.E


namespace Go.E
open Go.RowKit
set_option linter.unusedVariables false
set_option linter.unusedSimpArgs false

def I64 (n:Int):Prop:=-9223372036854775808≤n∧n≤9223372036854775807

theorem z7p {n:Int}(h:(Lit.int .i64 n).wf=true):I64 n:=by
  have h1:IntKind.i64.min = -9223372036854775808:=rfl
  have h2:IntKind.i64.max=9223372036854775807:=rfl
  simp only [Lit.wf,Bool.and_eq_true,decide_eq_true_eq,h1,h2] at h
  exact h

theorem z7M {n:Int}(h:I64 n):w64 n=n:=by
  obtain⟨h1,h2⟩:=h
  have e:w64 n=if n % 18446744073709551616≥9223372036854775808 then n % 18446744073709551616 - 18446744073709551616 else n % 18446744073709551616:=by
    unfold w64 IntKind.wrap
    show(if(true && decide (n % (2 ^ 64:Int)≥(2 ^ 63:Int)))=true then n % (2 ^ 64:Int) - (2 ^ 64:Int) else n % (2 ^ 64:Int))=_
    simp
  rw [e]
  split<;>omega

def Opens (P:Program) (t:TypeId){α:Type}(T:Ty α) (wf:α→Prop):Prop:=
  P.cellsOf t=T.size∧∀ {H:Type}{enc:TypeId × Value→H}{w:World}{base:Nat}{spare:Nat→Bool}{held:Bool}{fuel:Nat}{cs:List Value}{x:DataW H × List MemPlace},
    DataW.trod enc P w base spare held fuel t cs=some x→∃ a,T.ro w cs a∧wf a

theorem Opens.int {P:Program}{t:TypeId}(ht:P.underlying t=some (.int .i64)) (hc:P.cellsOf t=1):Opens P t tInt I64:=
  ⟨hc,fun h=>by
    obtain⟨n,rfl,_,hw⟩:=DataW.trod_int ht h
    exact⟨n,rfl,z7p hw⟩⟩

theorem Opens.bool {P:Program}{t:TypeId}(ht:P.underlying t=some .bool) (hc:P.cellsOf t=1):Opens P t tBool fun _=>True:=
  ⟨hc,fun h=>by
    obtain⟨n,rfl,_⟩:=DataW.trod_bool ht h
    exact⟨n,rfl,trivial⟩⟩

theorem Opens.str {P:Program}{t:TypeId}(ht:P.underlying t=some .string) (hc:P.cellsOf t=1):Opens P t tStr fun s=>s.size≤maxLen:=
  ⟨hc,fun h=>by
    obtain⟨n,rfl,_,hw⟩:=DataW.trod_string ht h
    exact⟨n,rfl,hw⟩⟩

theorem At.append {w:World}{p:Addr}{cs es:List Value}(ha:At w p cs) (hb:At w (p.add cs.length) es):At w p (cs++es):=fun j u hu=>by
  rcases Nat.lt_or_ge j cs.length with h | h
  · rw [List.getElem?_append_left h] at hu
    exact ha j u hu
  · rw [List.getElem?_append_right h] at hu
    have:=hb (j - cs.length) u hu
    rw [z8S] at this
    rwa [show cs.length+(j - cs.length)=j by omega] at this

theorem z7m {α:Type}{T:Ty α}{wf:α→Prop}{w:World}{a:Addr}{base:Nat}:∀ (n:Nat),(∀ i,i<n→∃ cs',w.cells? base (a.add (i*T.size)) T.size=some cs'∧∃ x,T.ro w cs' x∧wf x)→
    ∃ (xs:List α) (els:List Value),xs.length=n∧Els T w els xs∧At w a els∧∀ x,x∈xs→wf x
  | 0,_=>⟨[],[],rfl,rfl,fun j u hu=>by simp at hu,fun x hx=>by cases hx⟩
  | n+1,h=>by
    obtain⟨xs,els,hl,he,ha,hw⟩:=z7m n fun i hi=>h i (Nat.lt_succ_of_lt hi)
    obtain⟨cs',hc,x,hx,hwx⟩:=h n (Nat.lt_succ_self n)
    refine⟨xs++[x],els++cs',by simp [hl],he.append ⟨cs',[],by simp,hx,rfl⟩,ha.append ?_,fun y hy=>?_⟩
    · obtain⟨_,hcl,hat⟩:=World.cells?_some hc
      intro j u hu
      have hj:=(List.getElem?_eq_some_iff.1 hu).1
      rw [he.length,hl,hat j (by omega)]
      exact hu
    · rcases List.mem_append.1 hy with hy | hy
      · exact hw y hy
      · simp only [List.mem_singleton] at hy;subst hy;exact hwx

def WfL {α:Type}(wf:α→Prop) (xs:List α):Prop:=xs.length≤maxLen∧∀ x,x∈xs→wf x

theorem Opens.sl {P:Program}{t e:TypeId}{α:Type}{T:Ty α}{wf:α→Prop}(ht:P.underlying t=some (.slice e)) (hc:P.cellsOf t=1) (ho:Opens P e T wf):Opens P t (tSl e T) (WfL wf):=
  ⟨hc,by
    intro H enc w base spare held fuel cs x h
    rcases Go.Deep.open_slice ht h with⟨rfl,_⟩ | ⟨a,len,cap,m,n,D,Pl,rfl,_,hl,hm,hmm,_,hi⟩
    · exact⟨[],⟨none,0,[],rfl,Nat.le_refl _,rfl,fun h=>absurd rfl h⟩,⟨Nat.zero_le _,fun x hx=>by cases hx⟩⟩
    · have hlm:len≤m:=by rw [hmm];split<;>omega
      rw [ho.1] at hi
      obtain⟨xs,els,hxl,he,ha,hw⟩:=z7m (T:=T) (wf:=wf) (w:=w) (a:=a) (base:=base) len fun i hil=>by
        obtain⟨cs',h1,h2⟩:=hi i (by omega)
        exact⟨cs',h1,ho.2 h2⟩
      subst hxl
      exact⟨xs,⟨some a,cap,els,rfl,hl,he,fun _=>⟨a,rfl,ha⟩⟩,⟨by omega,hw⟩⟩⟩


def OpensF (P:Program) (o:Nat) (fs:List Field){α:Type}(T:Ty α) (wf:α→Prop):Prop:=
  ∀ {H:Type}{enc:TypeId × Value→H}{w:World}{base:Nat}{spare:Nat→Bool}{held:Bool}{fuel:Nat}{cs:List Value},
    (∀ (i:Nat) (f:Field),fs[i]? = some f→∃ x,DataW.trod enc P w base spare held fuel f.type ((cs.drop f.offset).take (P.cellsOf f.type))=some x)→∃ a,T.ro w ((cs.drop o).take T.size) a∧wf a

theorem OpensF.nil {P:Program}{o:Nat}:OpensF P o [] tUnit fun _=>True:=fun _=>⟨(),by show List.take 0 _=[];simp,trivial⟩

theorem OpensF.cons {P:Program}{o o':Nat}{f:Field}{fs:List Field}{α β:Type}{T:Ty α}{U:Ty β}{wf:α→Prop}{wg:β→Prop}(ho:Opens P f.type T wf) (hf:f.offset=o) (h':o'=o+T.size) (hr:OpensF P o' fs U wg):
    OpensF P o (f::fs) (tPair T U) fun x=>wf x.1∧wg x.2:=by
  intro H enc w base spare held fuel cs h
  obtain⟨x,hx⟩:=h 0 f rfl
  obtain⟨a,h1,h2⟩:=ho.2 hx
  obtain⟨b,h3,h4⟩:=hr (cs:=cs) fun i g hg=>h (i+1) g hg
  subst h'
  refine⟨(a,b),⟨_,_,?_,h1,h3⟩,h2,h4⟩
  rw [ho.1,hf]
  show List.take (T.size+U.size) _=_
  rw [List.take_add,List.drop_drop]

theorem Opens.struct {P:Program}{t:TypeId}{fs:Array Field}{α β:Type}{T:Ty α}{wf:α→Prop}{f:β→α}(ht:P.underlying t=some (.struct fs)) (hc:P.cellsOf t=T.size) (h:OpensF P 0 fs.toList T wf) (hs:∀ a,∃ b,f b=a):
    Opens P t (tMap f T) fun b=>wf (f b):=
  ⟨hc,by
    intro H enc w base spare held fuel cs x hx
    obtain⟨xs,n,_,_,hl,hxl,hf⟩:=DataW.trod_struct ht hx
    obtain⟨a,h1,h2⟩:=h (cs:=cs) (w:=w) (enc:=enc) (base:=base) (spare:=spare) (held:=held) (fuel:=n) fun i g hg=>by
      have hi:i<fs.size:=by simpa using (List.getElem?_eq_some_iff.1 hg).1
      exact⟨xs[i]'(by omega),(hf i g (by simpa using hg)).trans (List.getElem?_eq_getElem _)⟩
    obtain⟨b,rfl⟩:=hs a
    refine⟨b,?_,h2⟩
    show T.ro w cs (f b)
    rwa [List.drop_zero,List.take_of_length_le (by omega)] at h1⟩

section
variable {H:Type}{enc:TypeId × Value→H}{P:Program}{w:World}{base b0:Nat}{spare:Nat→Bool}{held:Bool}{r:Reach}{t:TypeId}{v:Value}{d:DataW H}{p:List MemPlace}

theorem z5h {α:Type}{T:Ty α}{wf:α→Prop}{fs:Array Field}(ht:P.underlying t=some (.struct fs)) (ho:Opens P t T wf) (hv:Value.okWide P w r b0 t v) (h:DataW.Trod enc P w base spare held t v d p):
    ∃ cs x,v=.agg ⟨cs⟩∧T.ro w cs x∧wf x:=by
  obtain⟨cs,rfl,_⟩:=WideShapes.okWide_struct ht hv
  obtain⟨fuel,hf⟩:=h
  obtain⟨x,h1,h2⟩:=ho.2 hf
  exact⟨cs.toList,x,rfl,h1,h2⟩

theorem z8Q {e:TypeId}{α:Type}{T:Ty α}{wf:α→Prop}(ht:P.underlying t=some (.slice e)) (ho:Opens P t (tSl e T) (WfL wf)) (hv:Value.okWide P w r b0 t v) (h:DataW.Trod enc P w base spare held t v d p):
    ∃ A c x,v=.slice A x.length c∧(tSl e T).ro w [.slice A x.length c] x∧WfL wf x:=by
  obtain⟨A,l,c,rfl⟩:=WideShapes.okWide_slice ht hv
  obtain⟨fuel,hf⟩:=h
  obtain⟨x,h1,h2⟩:=ho.2 hf
  obtain⟨A',c',els,he,h3⟩:=h1
  simp only [Value.cells,List.cons.injEq,Value.slice.injEq,and_true] at he
  obtain⟨rfl,rfl,rfl⟩:=he
  exact⟨A,c,x,rfl,⟨A,c,els,rfl,h3⟩,h2⟩

theorem z8R (ht:P.underlying t=some (.int .i64)) (hv:Value.okWide P w r b0 t v) (h:DataW.Trod enc P w base spare held t v d p):∃ x,v=.int .i64 x∧I64 x:=by
  obtain⟨x,rfl,_,_,hw⟩:=ChangeShapes.open_int ht hv h
  exact⟨x,rfl,z7p hw⟩

end

theorem Ret.out {Q:Value→World→Prop}{e:Ending}{w:World}(h:Ret Q e w):∃ v,e=.returned v∧Q v w:=by
  cases e with
  | returned v=>exact⟨v,rfl,h⟩
  | _=>exact False.elim h
end Go.E


namespace Go.E
set_option linter.unusedVariables false
set_option linter.unusedSimpArgs false

theorem zp {n:Int}(h0:-9223372036854775808≤n) (h1:n≤9223372036854775807):w64 n=n:=z7M ⟨h0,h1⟩


theorem z2W {σ τ ρ:Type}{body:σ→Option (Rd σ τ ρ)}(I:Nat→σ→Prop) (n:Nat) (Q:τ ⊕ ρ→Prop)
    (step:∀ i s,i<n→I i s→(∃ s',body s=some (.next s')∧I (i+1) s')∨(∃ r,body s=some (.ret r)∧Q (.inr r))∨∃ t,body s=some (.brk t)∧Q (.inl t))
    (last:∀ s,I n s→(∃ r,body s=some (.ret r)∧Q (.inr r))∨∃ t,body s=some (.brk t)∧Q (.inl t)):
    ∀ {fuel i s},i≤n→n - i<fuel→I i s→∃ o,iter body fuel s=some o∧Q o
  | 0,i,s,_,hf,_=>by omega
  | fuel+1,i,s,hi,hf,hI=>by
    have done:((∃ r,body s=some (.ret r)∧Q (.inr r))∨∃ t,body s=some (.brk t)∧Q (.inl t))→∃ o,iter body (fuel+1) s=some o∧Q o:=by
      rintro(⟨r,h1,h2⟩ | ⟨t,h1,h2⟩)
      · exact⟨_,by simp only [iter,h1],h2⟩
      · exact⟨_,by simp only [iter,h1],h2⟩
    rcases Nat.lt_or_ge i n with h | h
    · rcases step i s h hI with⟨s',h1,h2⟩ | h1
      · obtain⟨o,h3,h4⟩:=z2W I n Q step last (fuel:=fuel) (i:=i+1) h (by omega) h2
        exact⟨o,by simp only [iter,h1];exact h3,h4⟩
      · exact done h1
    · obtain rfl:i=n:=by omega
      exact done (last s hI)

def sumL {α:Type}(f:α→Nat):List α→Nat
  | []=>0
  | x::xs=>f x+sumL f xs


def szL {α:Type}(f:α→Nat) (xs:List α):Nat:=xs.length+sumL f xs

theorem z7P {α:Type}{f:α→Nat}{x:α}:∀ {xs:List α},x∈xs→f x≤sumL f xs
  | y::xs,h=>by
    rcases List.mem_cons.1 h with rfl | h
    · exact Nat.le_add_right _ _
    · exact Nat.le_trans (z7P h) (Nat.le_add_left _ _)

theorem z4H {α:Type}{f:α→Nat}:∀ {xs ys:List α},sumL f (xs++ys)=sumL f xs+sumL f ys
  | [],ys=>by simp [sumL]
  | x::xs,ys=>by simp only [List.cons_append,sumL,z4H (xs:=xs),Nat.add_assoc]

theorem z68 {α:Type}{f:α→Nat}{xs:List α}{i:Nat}{x:α}(h:xs[i]? = some x):sumL f (xs.take (i+1))=sumL f (xs.take i)+f x:=by
  rw [List.take_add_one,h,z4H]
  simp [sumL]

theorem z2P {α:Type}{f:α→Nat}{xs:List α}{n:Nat}(h:szL f xs≤n):xs.length≤n:=by unfold szL at h;omega
theorem z53 {α:Type}{f:α→Nat}{xs:List α}{n:Nat}(h:szL f xs≤n){x:α}(hx:x∈xs):f x≤n:=by
  have:=z7P (f:=f) hx
  unfold szL at h;omega
theorem z7O {α:Type}{f:α→Nat}(hf:∀ x,f x=0):∀ (xs:List α),szL f xs=xs.length
  | []=>rfl
  | x::xs=>by
    have:=z7O hf xs
    unfold szL at this ⊢
    simp only [sumL,hf,List.length_cons]
    omega

theorem z1z {α:Type}{xs:List α}{i:Nat}{x:α}(h:xs[i]? = some x):idx xs (i:Int)=some x:=by
  unfold idx
  simp [h]

theorem z51 {α:Type}{xs:List α}{i:Nat}(h:i<xs.length):∃ x,xs[i]? = some x:=⟨_,List.getElem?_eq_getElem h⟩
theorem lt_t {a b:Int}(h:a<b):(decide (a<b)=true)=True:=by simp [h]
theorem lt_f {a b:Int}(h:¬ a<b):(decide (a<b)=true)=False:=by simp [h]


def SzOk (n:Nat) (l:Int) (o:Option Int):Prop:=∃ r,o=some r∧(r<0∨0≤r∧r+(n:Int)=l)

theorem SzOk.fail {n:Nat}{l:Int}:SzOk n l (some (-1)):=⟨_,rfl,.inl (by decide)⟩
theorem SzOk.same {l:Int}(h:0≤l):SzOk 0 l (some l):=⟨_,rfl,.inr ⟨h,by omega⟩⟩

theorem SzOk.bind {n m k:Nat}{l:Int}{o:Option Int}{f:Int→Option Int}(h:SzOk n l o) (hk:k=n+m) (g:∀ r,0≤r→r≤l→SzOk m r (f r)):
    SzOk k l (o.bind fun r=>if decide (r<0)=true then some (-1) else f r):=by
  obtain⟨r,rfl,h⟩:=h
  subst hk
  show SzOk _ _ (if decide (r<0)=true then some (-1) else f r)
  rcases h with h | ⟨h1,h2⟩
  · simp only [lt_t h,if_true];exact SzOk.fail
  · simp only [lt_f (show ¬ r<0 by omega),if_false]
    obtain⟨s,h3,h4⟩:=g r h1 (by omega)
    exact⟨s,h3,h4.imp id fun⟨h5,h6⟩=>⟨h5,by omega⟩⟩

theorem SzOk.sub {n m k:Nat}{l:Int}{f:Int→Option Int}(h0:0≤l) (h1:l≤1048576) (hn:n≤maxLen) (hk:k=n+m) (g:∀ r,0≤r→r≤l→SzOk m r (f r)):
    SzOk k l (if decide (w64 (l - (n:Int))<0)=true then some (-1) else f (w64 (l - (n:Int)))):=by
  have hm:maxLen=9223372036854775807:=rfl
  rw [zp (show -9223372036854775808≤l - (n:Int) by omega) (by omega)]
  subst hk
  by_cases h:l - (n:Int)<0
  · simp only [lt_t h,if_true];exact SzOk.fail
  · simp only [lt_f h,if_false]
    obtain⟨s,h3,h4⟩:=g _ (show 0≤l - (n:Int) by omega) (by omega)
    exact⟨s,h3,h4.imp id fun⟨h5,h6⟩=>⟨h5,by omega⟩⟩

theorem SzOk.sub2 {n m k:Nat}{l z:Int}{e:Option Int}(h0:0≤l) (h1:l≤1048576) (hn:n≤maxLen) (hk:k=n+m) (hz:w64 (l - (n:Int))=z) (g:0≤z→z≤l→SzOk m z e):
    SzOk k l (if decide (z<0)=true then some (-1) else e):=by
  have hm:maxLen=9223372036854775807:=rfl
  rw [zp (show -9223372036854775808≤l - (n:Int) by omega) (by omega)] at hz
  subst hk
  by_cases h:z<0
  · simp only [lt_t h,if_true];exact SzOk.fail
  · simp only [lt_f h,if_false]
    obtain⟨s,h3,h4⟩:=g (by omega) (by omega)
    exact⟨s,h3,h4.imp id fun⟨h5,h6⟩=>⟨h5,by omega⟩⟩


theorem SzOk.loop {α:Type}{f:α→Nat}{xs:List α}{body:Int × Int→Option (Rd (Int × Int) Int Int)}{j:Int→Option Int}{l:Int}{fuel:Nat}(hl:xs.length≤maxLen) (hf:18446744073709551616≤fuel) (h0:0≤l) (h1:l≤1048576) (hj:∀ t,j t=some t)
    (step:∀ (i:Nat) (x:α) (l:Int),xs[i]? = some x→0≤l→l≤1048576→body (l,i)=some (.ret (-1))∨∃ r,body (l,i)=some (.next (r,w64 (i+1)))∧0≤r∧r+(f x:Int)=l)
    (last:∀ l,body (l,xs.length)=some (.brk l)):SzOk (sumL f xs) l ((iter body fuel (l,0)).bind fun o=>aft o j):=by
  have hm:maxLen=9223372036854775807:=rfl
  obtain⟨o,h2,h3⟩:=z2W (body:=body) (fun i s=>s.2=(i:Int)∧0≤s.1∧s.1+(sumL f (xs.take i):Int)=l) xs.length (fun o=>match o with | .inl t=>0≤t∧t+(sumL f xs:Int)=l | .inr r=>r = -1) (by
    rintro i ⟨s,t⟩ hi ⟨h2,h3,h4⟩
    dsimp only at h2 h3 h4
    subst h2
    obtain⟨x,hx⟩:=z51 hi
    rcases step i x s hx h3 (by omega) with h | ⟨r,h5,h6,h7⟩
    · exact .inr (.inl ⟨_,h,rfl⟩)
    · refine .inl ⟨_,h5,?_,h6,?_⟩
      · show w64 _=_
        rw [zp (by omega) (by omega)];simp
      · rw [z68 hx]
        show r+_=l
        omega) (by
    rintro⟨s,t⟩ ⟨h2,h3,h4⟩
    dsimp only at h2 h3 h4
    subst h2
    refine .inr ⟨_,last s,h3,?_⟩
    rwa [List.take_length] at h4) (fuel:=fuel) (i:=0) (s:=(l,0)) (Nat.zero_le _) (by omega) ⟨rfl,h0,by simp [sumL]⟩
  rw [h2]
  cases o with
  | inl t=>exact⟨t,hj t,.inr h3⟩
  | inr r=>exact⟨r,rfl,.inl (by rw [show r = -1 from h3];decide)⟩


theorem z6w {α:Type}{xs:List α}{z:α}{body:Int × List α→Option (Rd (Int × List α) (List α) (List α))}{j:List α→Option (List α)}{fuel:Nat}(hl:xs.length≤1048576) (hf:18446744073709551616≤fuel) (hj:∀ t,j t=some t)
    (step:∀ (i:Nat) (x:α) (out:List α),xs[i]? = some x→out.length=xs.length→body (i,out)=some (.next (w64 (i+1),out.set i x)))
    (last:∀ out,body (xs.length,out)=some (.brk out)):
    (if decide (0≤(xs.length:Int)∧(xs.length:Int)≤4294967296)=true then((iter body fuel (0,List.replicate (xs.length:Int).toNat z)).bind fun o=>aft o j) else none)=some xs:=by
  rw [if_pos (by simp;omega)]
  obtain⟨o,h2,h3⟩:=z2W (body:=body) (fun i s=>s.1=(i:Int)∧s.2.length=xs.length∧s.2.take i=xs.take i) xs.length (fun o=>o=.inl xs) (by
    rintro i ⟨s,t⟩ hi ⟨h2,h3,h4⟩
    dsimp only at h2 h3 h4
    subst h2
    obtain⟨x,hx⟩:=z51 hi
    refine .inl ⟨_,step i x t hx h3,?_,by simpa using h3,?_⟩
    · show w64 _=_
      rw [zp (by omega) (by omega)];simp
    · show(t.set i x).take (i+1)=_
      rw [List.take_add_one,List.take_add_one,hx,List.take_set_of_le (Nat.le_refl _),h4,List.getElem?_set_self (by omega)]) (by
    rintro⟨s,t⟩ ⟨h2,h3,h4⟩
    dsimp only at h2 h3 h4
    subst h2
    refine .inr ⟨_,last t,?_⟩
    rw [List.take_length,List.take_of_length_le (by omega)] at h4
    rw [h4]) (fuel:=fuel) (i:=0) (s:=(0,List.replicate (xs.length:Int).toNat z)) (Nat.zero_le _) (by omega) ⟨rfl,by simp,by simp⟩
  rw [h2,h3]
  exact hj xs


theorem z4d (s:ByteArray):seqb s s=true:=by simp [seqb]


theorem z5R {τ ρ:Type}{n:Nat}{body:Int→Option (Rd Int τ ρ)}{j:τ→Option ρ}{fuel:Nat}{t:τ}{b:ρ}(hl:n≤maxLen) (hf:18446744073709551616≤fuel) (hj:j t=some b)
    (step:∀ (i:Nat),i<n→body i=some (.next (w64 (i+1)))) (last:body n=some (.brk t)):((iter body fuel 0).bind fun o=>aft o j)=some b:=by
  have hm:maxLen=9223372036854775807:=rfl
  obtain⟨o,h2,h3⟩:=z2W (body:=body) (fun i s=>s=(i:Int)) n (fun o=>o=.inl t) (by
    rintro i s hi rfl
    exact .inl ⟨_,step i hi,by rw [zp (by omega) (by omega)];simp⟩) (by
    rintro s rfl
    exact .inr ⟨_,last,rfl⟩) (fuel:=fuel) (i:=0) (s:=0) (Nat.zero_le _) (by omega) rfl
  rw [h2,h3]
  exact hj


end Go.E


namespace Go.E
set_option linter.unusedVariables false
set_option linter.unusedSimpArgs false


end Go.E
namespace Go.E

end Go.E


namespace Go.E
set_option linter.unusedVariables false
set_option linter.unusedSimpArgs false

theorem z66 {a:Int}(h0:-4611686018427387904≤a) (h1:a≤4611686018427387904):w64 (a+1)=a+1:=zp (by omega) (by omega)
def markL {α:Type}(f:α→Int→α) (c:α→Nat):List α→Int→List α
  | [],_=>[]
  | x::xs,k=>f x k::markL f c xs (k+c x)

section
variable {α:Type}{f:α→Int→α}{c:α→Nat}

theorem z3o:∀ (xs:List α) (k:Int),(markL f c xs k).length=xs.length
  | [],_=>rfl
  | x::xs,k=>by simp only [markL,List.length_cons,z3o xs]

theorem z57:∀ (xs ys:List α) (k:Int),markL f c (xs++ys) k=markL f c xs k++markL f c ys (k+(sumL c xs:Nat))
  | [],ys,k=>by simp [markL,sumL]
  | x::xs,ys,k=>by
    simp only [List.cons_append,markL,z57 xs ys,sumL]
    rw [show k+(c x:Int)+(sumL c xs:Nat)=k+((c x+sumL c xs:Nat):Int) by omega]

theorem z93 {xs:List α}{k:Int}{i:Nat}{x:α}(h:xs[i]? = some x):(markL f c xs k)[i]? = some (f x (k+(sumL c (xs.take i):Nat))):=by
  have hi:=(List.getElem?_eq_some_iff.1 h).1
  have hs:xs=xs.take i++(x::xs.drop (i+1)):=by
    have h1:=(List.getElem?_eq_some_iff.1 h).2
    rw [← h1,← List.drop_eq_getElem_cons hi,List.take_append_drop]
  conv=>lhs;rw [hs]
  rw [z57,List.getElem?_append_right (by rw [z3o,List.length_take];omega),z3o,List.length_take,Nat.min_eq_left (by omega),Nat.sub_self]
  simp [markL]

theorem z6r {ρ:Type}{body:Int × Int × List α→Option (Rd (Int × Int × List α) (Int × List α) ρ)}{xs:List α}{k:Int}{fuel:Nat}(hl:xs.length≤4294967296) (hf:18446744073709551616≤fuel) (h0:0≤k) (h1:k+(sumL c xs:Nat)≤2147483648)
    (step:∀ (i:Nat) (x:α) (ys:List α) (k:Int),i<xs.length→ys.length=xs.length→ys[i]? = some x→x∈xs→0≤k→k+(c x:Nat)≤2147483648→body (k,(i:Int),ys)=some (.next (k+(c x:Nat),w64 ((i:Int)+1),ys.set i (f x k))))
    (last:∀ k ys,body (k,(xs.length:Int),ys)=some (.brk (k,ys))):iter body fuel (k,0,xs)=some (.inl (k+(sumL c xs:Nat),markL f c xs k)):=by
  obtain⟨o,h2,h3⟩:=z2W (body:=body) (fun i s=>s.1=k+(sumL c (xs.take i):Nat)∧s.2.1=(i:Int)∧s.2.2=markL f c (xs.take i) k++xs.drop i) xs.length (fun o=>o=.inl (k+(sumL c xs:Nat),markL f c xs k)) (by
    rintro i ⟨s,t,ys⟩ hi ⟨h2,h3,h4⟩
    dsimp only at h2 h3 h4
    subst h2;subst h3;subst h4
    obtain⟨x,hx⟩:=z51 hi
    have hlen:(markL f c (xs.take i) k).length=i:=by rw [z3o,List.length_take];omega
    have hdrop:xs.drop i=x::xs.drop (i+1):=by
      have h1:=(List.getElem?_eq_some_iff.1 hx).2
      rw [← h1,← List.drop_eq_getElem_cons hi]
    have hsum:sumL c (xs.take (i+1))=sumL c (xs.take i)+c x:=z68 hx
    have hle:sumL c (xs.take (i+1))≤sumL c xs:=by
      conv=>rhs;rw [← List.take_append_drop (i+1) xs,z4H]
      omega
    refine .inl ⟨_,step i x _ _ hi (by rw [List.length_append,hlen,List.length_drop];omega) (by rw [List.getElem?_append_right (by omega),hlen,Nat.sub_self,hdrop];rfl) (List.mem_of_getElem? hx) (by omega) (by omega),?_,?_,?_⟩
    · show _+_=_
      rw [hsum];omega
    · show w64 _=_
      rw [z66 (by omega) (by omega)];simp
    · show List.set _ _ _=_
      rw [hdrop,List.set_append_right _ _ (by omega),hlen,Nat.sub_self,List.set_cons_zero]
      have ht:xs.take (i+1)=xs.take i++[x]:=by rw [List.take_add_one,hx];rfl
      rw [ht,z57]
      simp [markL]) (by
    rintro⟨s,t,ys⟩ ⟨h2,h3,h4⟩
    dsimp only at h2 h3 h4
    subst h2;subst h3;subst h4
    refine .inr ⟨_,last _ _,?_⟩
    rw [List.take_length,List.drop_length,List.append_nil]) (fuel:=fuel) (i:=0) (s:=(k,0,xs)) (Nat.zero_le _) (by omega) ⟨by simp [sumL],rfl,by simp [markL]⟩
  rw [h2,h3]

theorem z7q {body:Int × Int→Option (Rd (Int × Int) Int Int)}{xs:List α}{k:Int}{fuel:Nat}(hl:xs.length≤4294967296) (hf:18446744073709551616≤fuel) (h0:0≤k) (h1:k+(sumL c xs:Nat)≤2147483648)
    (step:∀ (i:Nat) (x:α) (k':Int),i<xs.length→(markL f c xs k)[i]? = some (f x k')→x∈xs→0≤k'→k'+(c x:Nat)≤2147483648→body (k',(i:Int))=some (.next (k'+(c x:Nat),w64 ((i:Int)+1))))
    (last:∀ k',body (k',((markL f c xs k).length:Int))=some (.brk k')):iter body fuel (k,0)=some (.inl (k+(sumL c xs:Nat))):=by
  obtain⟨o,h2,h3⟩:=z2W (body:=body) (fun i s=>s.1=k+(sumL c (xs.take i):Nat)∧s.2=(i:Int)) xs.length (fun o=>o=.inl (k+(sumL c xs:Nat))) (by
    rintro i ⟨s,t⟩ hi ⟨h2,h3⟩
    dsimp only at h2 h3
    subst h2;subst h3
    obtain⟨x,hx⟩:=z51 hi
    have hsum:sumL c (xs.take (i+1))=sumL c (xs.take i)+c x:=z68 hx
    have hle:sumL c (xs.take (i+1))≤sumL c xs:=by
      conv=>rhs;rw [← List.take_append_drop (i+1) xs,z4H]
      omega
    refine .inl ⟨_,step i x _ hi (z93 hx) (List.mem_of_getElem? hx) (by omega) (by omega),?_,?_⟩
    · show _+_=_
      rw [hsum];omega
    · show w64 _=_
      rw [z66 (by omega) (by omega)];simp) (by
    rintro⟨s,t⟩ ⟨h2,h3⟩
    dsimp only at h2 h3
    subst h2;subst h3
    refine .inr ⟨_,by have:=last (k+(sumL c (xs.take xs.length):Nat));rw [z3o] at this;exact this,?_⟩
    rw [List.take_length]) (fuel:=fuel) (i:=0) (s:=(k,0)) (Nat.zero_le _) (by omega) ⟨by simp [sumL],rfl⟩
  rw [h2,h3]

theorem z6T {g:α→Nat}{m:Nat}:∀ {xs:List α},(∀ x,x∈xs→c x≤m*(g x+1))→sumL c xs≤m*szL g xs
  | [],_=>by simp [sumL]
  | x::xs,h=>by
    have h1:=h x (by simp)
    have h2:=z6T (g:=g) (m:=m) (xs:=xs) fun y hy=>h y (by simp [hy])
    unfold szL at h2 ⊢
    simp only [sumL,List.length_cons]
    have:m*(xs.length+1+(g x+sumL g xs))=m*(g x+1)+m*(xs.length+sumL g xs):=by rw [← Nat.mul_add];congr 1;omega
    omega

end
end Go.E
namespace Go.E
theorem z1K {α β:Type}{e:Option α}{a:α}{g:α→Option β}(h:e=some a):e.bind g=g a:=by rw [h];rfl
end Go.E


namespace Go.E
open Go.RowKit
set_option linter.unusedVariables false

def D.ChannelEvent.wf (x:D.ChannelEvent):Prop:=I64 x.Kind∧I64 x.Index∧True
def D.ChannelEvent.sz (x:D.ChannelEvent):Nat:=0
def D.Packet.wf (x:D.Packet):Prop:=True∧I64 x.Number∧x.Text.size≤maxLen∧True
def D.Packet.sz (x:D.Packet):Nat:=x.Text.size+(0)
def D.Channel.wf (x:D.Channel):Prop:=I64 x.Window∧WfL (fun s=>s.size≤maxLen) x.Messages∧I64 x.Base∧I64 x.Next∧I64 x.Expected∧WfL D.Packet.wf x.Early∧WfL (fun s=>s.size≤maxLen) x.Delivered∧WfL D.Packet.wf x.Flight∧True
def D.Channel.sz (x:D.Channel):Nat:=szL ByteArray.size x.Messages+(szL D.Packet.sz x.Early+(szL ByteArray.size x.Delivered+(szL D.Packet.sz x.Flight+(0))))
end Go.E


