/- ShotDone: the plain law. Conditions: none but the argument's own size. -/
import Derived.Test.YteommboffflkbaaGreatWatchOk
import Derived.Test.YteommboffflkbaaGreatHS
namespace Go.E
open Go.RowKit Go.Proofs
set_option linter.unusedSimpArgs false
set_option linter.unusedVariables false

theorem zjq {fuel : Nat} {xs : List Bool} (hf : 18446744073709551616 ≤ fuel) (hl : xs.length ≤ maxLen) : zp fuel xs false = some (!xs.all id) := by
  unfold zp z26
  obtain ⟨r, h1, h2⟩ := askIndex (xs := xs) (p := fun x => !id x) (body := zE fuel xs false) (j := z2i fuel) (t := ()) hl hf rfl (fun i x hi hx => by
    simp only [zE, zd hx, lt_t (show (i : Int) < xs.length by omega), if_true, Option.bind_some]
    cases x <;> rfl) (by simp [zE])
  rw [h1, Option.bind_some, h2, z9f]
theorem zjc {fuel : Nat} {w : D.Watched} (hf : 18446744073709551616 ≤ fuel) (h1 : w.Shot.Taken.length ≤ maxLen) (h2 : w.Shot.Recording.length ≤ maxLen) : z6V fuel w = some (w.Shot.Taken.all id && !w.Shot.Recording.any id) := by
  unfold z6V
  have hA := allLoop (xs := w.Shot.Taken) (body := z58 fuel w) (p := fun _ x => id x) (t := ()) (v := false) (fuel := fuel) h1 hf (fun i x hi hx => by
    unfold z58
    rw [if_pos (decide_eq_true (by omega)), zd hx, Option.bind_some]
    cases x <;> rfl) (by
    unfold z58
    rw [if_neg (by simp)])
  rw [z5w (p := id)] at hA
  rw [hA, Option.bind_some]
  cases w.Shot.Taken.all id with
  | false => rfl
  | true =>
    rw [if_pos rfl, z8]
    unfold z7Z
    have hB := allLoop (xs := w.Shot.Recording) (body := z57 fuel w) (p := fun _ x => !id x) (t := ()) (v := false) (fuel := fuel) h2 hf (fun i x hi hx => by
      unfold z57
      rw [if_pos (decide_eq_true (by omega)), zd hx, Option.bind_some]
      cases x <;> rfl) (by
      unfold z57
      rw [if_neg (by simp)])
    rw [z5w (p := fun x => !id x)] at hB
    have e : (w.Shot.Recording.all fun x => !id x) = !w.Shot.Recording.any id := by
      induction w.Shot.Recording with
      | nil => rfl
      | cons x xs ih => simp only [List.all_cons, List.any_cons, ih]; cases x <;> rfl
    rw [e] at hB
    rw [hB, Option.bind_some]
    cases w.Shot.Recording.any id <;> rfl
theorem zdS {fuel : Nat} {x : D.Watched} (hf : 18446744073709551616 ≤ fuel) (_hw : D.Watched.wf x) (hs : x.sz ≤ 1048576) : ∃ b, z6u fuel x = some b ∧ z6C fuel x = some b := by
  have hm : maxLen = 9223372036854775807 := rfl
  unfold z6u z6C z6j
  dsimp only
  have hz := hs
  unfold D.Watched.sz D.Shot.sz at hz
  rw [zfW hf hs, zfX hf hs, Option.bind_some, Option.bind_some, zjc hf (by omega) (by omega), zjq hf (by omega), zgr hf (by omega)]
  cases watN x with
  | false => exact ⟨_, rfl, rfl⟩
  | true =>
    cases x.Shot.Taken.all id <;> exact ⟨_, rfl, rfl⟩
theorem lawShotDone {x0 : D.Watched} (h0 : D.Watched.wf x0) : ∃ fuel, z45 fuel x0 = some true := by
  obtain ⟨fuel, hf⟩ : ∃ n : Nat, 18446744073709551616 ≤ n := ⟨_, Nat.le_refl _⟩
  refine ⟨fuel, ?_⟩
  unfold z45
  obtain ⟨r0, e0, s0⟩ := zax (l := (1048576 : Int)) hf h0 (by decide) (by omega)
  rw [e0, Option.bind_some]
  rcases s0 with s0 | ⟨s0, t0⟩
  · rw [if_pos (by simp [s0])]
  rw [if_neg (by simp [s0])]
  have z0 : D.Watched.sz x0 ≤ 1048576 := by omega
  obtain ⟨q, a0, a1⟩ := zdS hf h0 z0
  simp only [Option.bind_some, a0, a1, zav hf z0, zaC hf z0]
  simp
end Go.E

