/- Structs some of whose slices are borrowed (written by program). Conditions: none. -/
import Derived.Test.YtomgmnacnchbeaaIter
namespace Go.E
open Go.RowKit Go.Proofs
set_option linter.unusedVariables false

def ty112b1 (W0 : World) : Ty D.Agent := tMap (fun c : D.Agent => (c.Kind, c.Level, c.Value, c.Data, c.Ports, ())) (tPair tInt (tPair tInt (tPair tInt (tPair (tBor W0 ty103) (tPair ty110 tUnit)))))
instance {W0 : World} : Reads W0 (ty112b1 W0) := inferInstanceAs (Reads W0 (tMap (fun c : D.Agent => (c.Kind, c.Level, c.Value, c.Data, c.Ports, ())) (tPair tInt (tPair tInt (tPair tInt (tPair (tBor W0 ty103) (tPair ty110 tUnit)))))))
theorem ty112b1_ro {W0 : World} : (ty112b1 W0).ro = ty112.ro := rfl
theorem ty112b1_own {W0 w : World} {cs : List Value} {c : D.Agent} {G : List Nat} (h : (ty112b1 W0).own w cs c G) : ∃ A0 k0 A1 k1, cs = [.int .i64 c.Kind, .int .i64 c.Level, .int .i64 c.Value, .slice A0 c.Data.length k0, .slice A1 c.Ports.length k1] ∧ (All [Own (tBor W0 ty103) [.slice A0 c.Data.length k0] c.Data, Own ty110 [.slice A1 c.Ports.length k1] c.Ports]).A w G := by
  obtain ⟨c0, d0, H0, K0, rfl, rfl, h0, c1, d1, H1, K1, rfl, rfl, h1, c2, d2, H2, K2, rfl, rfl, h2, c3, d3, H3, K3, rfl, rfl, h3, c4, d4, H4, K4, rfl, rfl, h4, hz, hk⟩ := h
  subst hz; subst hk
  obtain ⟨e0, k0⟩ := h0; subst e0; subst k0
  obtain ⟨e1, k1⟩ := h1; subst e1; subst k1
  obtain ⟨e2, k2⟩ := h2; subst e2; subst k2
  obtain ⟨A3_, k3_, e3⟩ := ty103_form h3.1
  subst e3
  obtain ⟨A4_, k4_, e4⟩ := slFormO h4
  subst e4
  refine ⟨A3_, k3_, A4_, k4_, rfl, ?_⟩
  show (All _).A w _
  exact cast (congrArg _ (by simp)) (show (All _).A w (H3 ++ (H4 ++ ([]))) from ⟨_, _, rfl, h3, ⟨_, _, rfl, h4, rfl⟩⟩)
theorem ty112b1_ownI {W0 w : World} {c : D.Agent} {A0 : Option Addr} {k0 : Nat} {A1 : Option Addr} {k1 : Nat} {G : List Nat} (h : (All [Own (tBor W0 ty103) [.slice A0 c.Data.length k0] c.Data, Own ty110 [.slice A1 c.Ports.length k1] c.Ports]).A w G) : (ty112b1 W0).own w [.int .i64 c.Kind, .int .i64 c.Level, .int .i64 c.Value, .slice A0 c.Data.length k0, .slice A1 c.Ports.length k1] c G := by
  obtain ⟨G0, R0, rfl, h0, G1, R1, rfl, h1, hz⟩ := h
  have hz' : R1 = [] := hz
  subst hz'
  exact cast (congrArg _ (by simp)) (show (ty112b1 W0).own w [.int .i64 c.Kind, .int .i64 c.Level, .int .i64 c.Value, .slice A0 c.Data.length k0, .slice A1 c.Ports.length k1] c (_) from ⟨_, _, _, _, rfl, rfl, ⟨rfl, rfl⟩, ⟨_, _, _, _, rfl, rfl, ⟨rfl, rfl⟩, ⟨_, _, _, _, rfl, rfl, ⟨rfl, rfl⟩, ⟨_, _, _, _, rfl, rfl, h0, ⟨_, _, _, _, rfl, rfl, h1, ⟨rfl, rfl⟩⟩⟩⟩⟩⟩)
theorem ty112b1_openS {W0 W w : World} {B : List Res} {cs : List Value} {c : D.Agent} (h : St W w (Own (ty112b1 W0) cs c :: B)) : ∃ A0 k0 A1 k1, cs = [.int .i64 c.Kind, .int .i64 c.Level, .int .i64 c.Value, .slice A0 c.Data.length k0, .slice A1 c.Ports.length k1] ∧ St W w ([Own (tBor W0 ty103) [.slice A0 c.Data.length k0] c.Data, Own ty110 [.slice A1 c.Ports.length k1] c.Ports] ++ B) := by
  obtain ⟨G, hA, _⟩ := h.sep.head
  obtain ⟨A0, k0, A1, k1, rfl, _⟩ := ty112b1_own hA
  refine ⟨A0, k0, A1, k1, rfl, St.splitAll (h.conv fun G hG => ?_)⟩
  obtain ⟨X0, Y0, X1, Y1, he, hh⟩ := ty112b1_own hG
  simp only [List.cons.injEq, Value.slice.injEq, and_true, true_and] at he
  obtain ⟨⟨rfl, rfl⟩, ⟨rfl, rfl⟩⟩ := he
  exact hh
theorem ty112b1_shutS {W0 W w : World} {B : List Res} {c : D.Agent} {A0 : Option Addr} {k0 : Nat} {A1 : Option Addr} {k1 : Nat} (h : St W w ([Own (tBor W0 ty103) [.slice A0 c.Data.length k0] c.Data, Own ty110 [.slice A1 c.Ports.length k1] c.Ports] ++ B)) : St W w (Own (ty112b1 W0) [.int .i64 c.Kind, .int .i64 c.Level, .int .i64 c.Value, .slice A0 c.Data.length k0, .slice A1 c.Ports.length k1] c :: B) := (St.fuseAll h).conv fun _ hG => ty112b1_ownI hG

def ty28b1 (W0 : World) : Ty (List D.Agent) := tSl 112 (ty112b1 W0)
instance {W0 : World} : Reads W0 (ty28b1 W0) := inferInstanceAs (Reads W0 (tSl 112 (ty112b1 W0)))
theorem ty28b1_ro {W0 : World} : (ty28b1 W0).ro = ty28.ro := tSl_ro ty112b1_ro

def ty112b2 (W0 : World) : Ty D.Agent := tMap (fun c : D.Agent => (c.Kind, c.Level, c.Value, c.Data, c.Ports, ())) (tPair tInt (tPair tInt (tPair tInt (tPair ty103 (tPair (tBor W0 ty110) tUnit)))))
instance {W0 : World} : Reads W0 (ty112b2 W0) := inferInstanceAs (Reads W0 (tMap (fun c : D.Agent => (c.Kind, c.Level, c.Value, c.Data, c.Ports, ())) (tPair tInt (tPair tInt (tPair tInt (tPair ty103 (tPair (tBor W0 ty110) tUnit)))))))
theorem ty112b2_ro {W0 : World} : (ty112b2 W0).ro = ty112.ro := rfl
theorem ty112b2_own {W0 w : World} {cs : List Value} {c : D.Agent} {G : List Nat} (h : (ty112b2 W0).own w cs c G) : ∃ A0 k0 A1 k1, cs = [.int .i64 c.Kind, .int .i64 c.Level, .int .i64 c.Value, .slice A0 c.Data.length k0, .slice A1 c.Ports.length k1] ∧ (All [Own ty103 [.slice A0 c.Data.length k0] c.Data, Own (tBor W0 ty110) [.slice A1 c.Ports.length k1] c.Ports]).A w G := by
  obtain ⟨c0, d0, H0, K0, rfl, rfl, h0, c1, d1, H1, K1, rfl, rfl, h1, c2, d2, H2, K2, rfl, rfl, h2, c3, d3, H3, K3, rfl, rfl, h3, c4, d4, H4, K4, rfl, rfl, h4, hz, hk⟩ := h
  subst hz; subst hk
  obtain ⟨e0, k0⟩ := h0; subst e0; subst k0
  obtain ⟨e1, k1⟩ := h1; subst e1; subst k1
  obtain ⟨e2, k2⟩ := h2; subst e2; subst k2
  obtain ⟨A3_, k3_, e3⟩ := slFormO h3
  subst e3
  obtain ⟨A4_, k4_, e4⟩ := ty110_form h4.1
  subst e4
  refine ⟨A3_, k3_, A4_, k4_, rfl, ?_⟩
  show (All _).A w _
  exact cast (congrArg _ (by simp)) (show (All _).A w (H3 ++ (H4 ++ ([]))) from ⟨_, _, rfl, h3, ⟨_, _, rfl, h4, rfl⟩⟩)
theorem ty112b2_ownI {W0 w : World} {c : D.Agent} {A0 : Option Addr} {k0 : Nat} {A1 : Option Addr} {k1 : Nat} {G : List Nat} (h : (All [Own ty103 [.slice A0 c.Data.length k0] c.Data, Own (tBor W0 ty110) [.slice A1 c.Ports.length k1] c.Ports]).A w G) : (ty112b2 W0).own w [.int .i64 c.Kind, .int .i64 c.Level, .int .i64 c.Value, .slice A0 c.Data.length k0, .slice A1 c.Ports.length k1] c G := by
  obtain ⟨G0, R0, rfl, h0, G1, R1, rfl, h1, hz⟩ := h
  have hz' : R1 = [] := hz
  subst hz'
  exact cast (congrArg _ (by simp)) (show (ty112b2 W0).own w [.int .i64 c.Kind, .int .i64 c.Level, .int .i64 c.Value, .slice A0 c.Data.length k0, .slice A1 c.Ports.length k1] c (_) from ⟨_, _, _, _, rfl, rfl, ⟨rfl, rfl⟩, ⟨_, _, _, _, rfl, rfl, ⟨rfl, rfl⟩, ⟨_, _, _, _, rfl, rfl, ⟨rfl, rfl⟩, ⟨_, _, _, _, rfl, rfl, h0, ⟨_, _, _, _, rfl, rfl, h1, ⟨rfl, rfl⟩⟩⟩⟩⟩⟩)
theorem ty112b2_openS {W0 W w : World} {B : List Res} {cs : List Value} {c : D.Agent} (h : St W w (Own (ty112b2 W0) cs c :: B)) : ∃ A0 k0 A1 k1, cs = [.int .i64 c.Kind, .int .i64 c.Level, .int .i64 c.Value, .slice A0 c.Data.length k0, .slice A1 c.Ports.length k1] ∧ St W w ([Own ty103 [.slice A0 c.Data.length k0] c.Data, Own (tBor W0 ty110) [.slice A1 c.Ports.length k1] c.Ports] ++ B) := by
  obtain ⟨G, hA, _⟩ := h.sep.head
  obtain ⟨A0, k0, A1, k1, rfl, _⟩ := ty112b2_own hA
  refine ⟨A0, k0, A1, k1, rfl, St.splitAll (h.conv fun G hG => ?_)⟩
  obtain ⟨X0, Y0, X1, Y1, he, hh⟩ := ty112b2_own hG
  simp only [List.cons.injEq, Value.slice.injEq, and_true, true_and] at he
  obtain ⟨⟨rfl, rfl⟩, ⟨rfl, rfl⟩⟩ := he
  exact hh
theorem ty112b2_shutS {W0 W w : World} {B : List Res} {c : D.Agent} {A0 : Option Addr} {k0 : Nat} {A1 : Option Addr} {k1 : Nat} (h : St W w ([Own ty103 [.slice A0 c.Data.length k0] c.Data, Own (tBor W0 ty110) [.slice A1 c.Ports.length k1] c.Ports] ++ B)) : St W w (Own (ty112b2 W0) [.int .i64 c.Kind, .int .i64 c.Level, .int .i64 c.Value, .slice A0 c.Data.length k0, .slice A1 c.Ports.length k1] c :: B) := (St.fuseAll h).conv fun _ hG => ty112b2_ownI hG

def ty28b2 (W0 : World) : Ty (List D.Agent) := tSl 112 (ty112b2 W0)
instance {W0 : World} : Reads W0 (ty28b2 W0) := inferInstanceAs (Reads W0 (tSl 112 (ty112b2 W0)))
theorem ty28b2_ro {W0 : World} : (ty28b2 W0).ro = ty28.ro := tSl_ro ty112b2_ro

def ty112b3 (W0 : World) : Ty D.Agent := tMap (fun c : D.Agent => (c.Kind, c.Level, c.Value, c.Data, c.Ports, ())) (tPair tInt (tPair tInt (tPair tInt (tPair (tBor W0 ty103) (tPair (tBor W0 ty110) tUnit)))))
instance {W0 : World} : Reads W0 (ty112b3 W0) := inferInstanceAs (Reads W0 (tMap (fun c : D.Agent => (c.Kind, c.Level, c.Value, c.Data, c.Ports, ())) (tPair tInt (tPair tInt (tPair tInt (tPair (tBor W0 ty103) (tPair (tBor W0 ty110) tUnit)))))))
theorem ty112b3_ro {W0 : World} : (ty112b3 W0).ro = ty112.ro := rfl
theorem ty112b3_own {W0 w : World} {cs : List Value} {c : D.Agent} {G : List Nat} (h : (ty112b3 W0).own w cs c G) : ∃ A0 k0 A1 k1, cs = [.int .i64 c.Kind, .int .i64 c.Level, .int .i64 c.Value, .slice A0 c.Data.length k0, .slice A1 c.Ports.length k1] ∧ (All [Own (tBor W0 ty103) [.slice A0 c.Data.length k0] c.Data, Own (tBor W0 ty110) [.slice A1 c.Ports.length k1] c.Ports]).A w G := by
  obtain ⟨c0, d0, H0, K0, rfl, rfl, h0, c1, d1, H1, K1, rfl, rfl, h1, c2, d2, H2, K2, rfl, rfl, h2, c3, d3, H3, K3, rfl, rfl, h3, c4, d4, H4, K4, rfl, rfl, h4, hz, hk⟩ := h
  subst hz; subst hk
  obtain ⟨e0, k0⟩ := h0; subst e0; subst k0
  obtain ⟨e1, k1⟩ := h1; subst e1; subst k1
  obtain ⟨e2, k2⟩ := h2; subst e2; subst k2
  obtain ⟨A3_, k3_, e3⟩ := ty103_form h3.1
  subst e3
  obtain ⟨A4_, k4_, e4⟩ := ty110_form h4.1
  subst e4
  refine ⟨A3_, k3_, A4_, k4_, rfl, ?_⟩
  show (All _).A w _
  exact cast (congrArg _ (by simp)) (show (All _).A w (H3 ++ (H4 ++ ([]))) from ⟨_, _, rfl, h3, ⟨_, _, rfl, h4, rfl⟩⟩)
theorem ty112b3_ownI {W0 w : World} {c : D.Agent} {A0 : Option Addr} {k0 : Nat} {A1 : Option Addr} {k1 : Nat} {G : List Nat} (h : (All [Own (tBor W0 ty103) [.slice A0 c.Data.length k0] c.Data, Own (tBor W0 ty110) [.slice A1 c.Ports.length k1] c.Ports]).A w G) : (ty112b3 W0).own w [.int .i64 c.Kind, .int .i64 c.Level, .int .i64 c.Value, .slice A0 c.Data.length k0, .slice A1 c.Ports.length k1] c G := by
  obtain ⟨G0, R0, rfl, h0, G1, R1, rfl, h1, hz⟩ := h
  have hz' : R1 = [] := hz
  subst hz'
  exact cast (congrArg _ (by simp)) (show (ty112b3 W0).own w [.int .i64 c.Kind, .int .i64 c.Level, .int .i64 c.Value, .slice A0 c.Data.length k0, .slice A1 c.Ports.length k1] c (_) from ⟨_, _, _, _, rfl, rfl, ⟨rfl, rfl⟩, ⟨_, _, _, _, rfl, rfl, ⟨rfl, rfl⟩, ⟨_, _, _, _, rfl, rfl, ⟨rfl, rfl⟩, ⟨_, _, _, _, rfl, rfl, h0, ⟨_, _, _, _, rfl, rfl, h1, ⟨rfl, rfl⟩⟩⟩⟩⟩⟩)
theorem ty112b3_openS {W0 W w : World} {B : List Res} {cs : List Value} {c : D.Agent} (h : St W w (Own (ty112b3 W0) cs c :: B)) : ∃ A0 k0 A1 k1, cs = [.int .i64 c.Kind, .int .i64 c.Level, .int .i64 c.Value, .slice A0 c.Data.length k0, .slice A1 c.Ports.length k1] ∧ St W w ([Own (tBor W0 ty103) [.slice A0 c.Data.length k0] c.Data, Own (tBor W0 ty110) [.slice A1 c.Ports.length k1] c.Ports] ++ B) := by
  obtain ⟨G, hA, _⟩ := h.sep.head
  obtain ⟨A0, k0, A1, k1, rfl, _⟩ := ty112b3_own hA
  refine ⟨A0, k0, A1, k1, rfl, St.splitAll (h.conv fun G hG => ?_)⟩
  obtain ⟨X0, Y0, X1, Y1, he, hh⟩ := ty112b3_own hG
  simp only [List.cons.injEq, Value.slice.injEq, and_true, true_and] at he
  obtain ⟨⟨rfl, rfl⟩, ⟨rfl, rfl⟩⟩ := he
  exact hh
theorem ty112b3_shutS {W0 W w : World} {B : List Res} {c : D.Agent} {A0 : Option Addr} {k0 : Nat} {A1 : Option Addr} {k1 : Nat} (h : St W w ([Own (tBor W0 ty103) [.slice A0 c.Data.length k0] c.Data, Own (tBor W0 ty110) [.slice A1 c.Ports.length k1] c.Ports] ++ B)) : St W w (Own (ty112b3 W0) [.int .i64 c.Kind, .int .i64 c.Level, .int .i64 c.Value, .slice A0 c.Data.length k0, .slice A1 c.Ports.length k1] c :: B) := (St.fuseAll h).conv fun _ hG => ty112b3_ownI hG

def ty28b3 (W0 : World) : Ty (List D.Agent) := tSl 112 (ty112b3 W0)
instance {W0 : World} : Reads W0 (ty28b3 W0) := inferInstanceAs (Reads W0 (tSl 112 (ty112b3 W0)))
theorem ty28b3_ro {W0 : World} : (ty28b3 W0).ro = ty28.ro := tSl_ro ty112b3_ro

end Go.E
