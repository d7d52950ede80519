/- Structs some of whose slices are borrowed (written by program). Conditions: none. -/
import Derived.Test.YteommboffflkbaaGreatIter
namespace Go.E
open Go.RowKit Go.Proofs
set_option linter.unusedVariables false

def z99 (W0 : World) : Ty D.ShardCell := tMap (fun c : D.ShardCell => (c.Kind, c.Level, c.Value, c.Data, c.Aux, ())) (tPair tInt (tPair tInt (tPair tInt (tPair (tBor W0 ty29) (tPair (tBor W0 z77) tUnit)))))
instance {W0 : World} : Reads W0 (z99 W0) := inferInstanceAs (Reads W0 (tMap (fun c : D.ShardCell => (c.Kind, c.Level, c.Value, c.Data, c.Aux, ())) (tPair tInt (tPair tInt (tPair tInt (tPair (tBor W0 ty29) (tPair (tBor W0 z77) tUnit)))))))
theorem zgM {W0 : World} : (z99 W0).ro = z6k.ro := rfl
theorem zes {W0 w : World} {c : D.ShardCell} {A0 : Option Addr} {k0 : Nat} {A1 : Option Addr} {k1 : Nat} {G : List Nat} (h : (All [Own (tBor W0 ty29) [.slice A0 c.Data.length k0] c.Data, Own (tBor W0 z77) [.slice A1 c.Aux.length k1] c.Aux]).A w G) : (z99 W0).own w [.int .i64 c.Kind, .int .i64 c.Level, .int .i64 c.Value, .slice A0 c.Data.length k0, .slice A1 c.Aux.length k1] c G := by
  obtain ⟨G0, R0, rfl, h0, G1, R1, rfl, h1, hz⟩ := h
  have hz' : R1 = [] := hz
  subst hz'
  exact cast (congrArg _ (by simp)) (show (z99 W0).own w [.int .i64 c.Kind, .int .i64 c.Level, .int .i64 c.Value, .slice A0 c.Data.length k0, .slice A1 c.Aux.length k1] c (_) from ⟨_, _, _, _, rfl, rfl, ⟨rfl, rfl⟩, ⟨_, _, _, _, rfl, rfl, ⟨rfl, rfl⟩, ⟨_, _, _, _, rfl, rfl, ⟨rfl, rfl⟩, ⟨_, _, _, _, rfl, rfl, h0, ⟨_, _, _, _, rfl, rfl, h1, ⟨rfl, rfl⟩⟩⟩⟩⟩⟩)
theorem zdL {W0 W w : World} {B : List Res} {c : D.ShardCell} {A0 : Option Addr} {k0 : Nat} {A1 : Option Addr} {k1 : Nat} (h : St W w ([Own (tBor W0 ty29) [.slice A0 c.Data.length k0] c.Data, Own (tBor W0 z77) [.slice A1 c.Aux.length k1] c.Aux] ++ B)) : St W w (Own (z99 W0) [.int .i64 c.Kind, .int .i64 c.Level, .int .i64 c.Value, .slice A0 c.Data.length k0, .slice A1 c.Aux.length k1] c :: B) := (St.fuseAll h).conv fun _ hG => zes hG

def z6Q (W0 : World) : Ty (List D.ShardCell) := tSl 154 (z99 W0)
instance {W0 : World} : Reads W0 (z6Q W0) := inferInstanceAs (Reads W0 (tSl 154 (z99 W0)))
theorem zgK {W0 : World} : (z6Q W0).ro = z8e.ro := zkv zgM

end Go.E

