/- The plain law of CurveDistances, over the printed functions.
   No condition. -/
import Derived.Test.YteaidghanfjigaaCurveP
import Derived.Test.YteaidghanfjigaaRCurveDistancesx1
namespace Go.Proofs.Yteaidghanfjigaa.RCurveDistances
open Go.Proofs.Yteaidghanfjigaa.QCurveCurves
open Go.RowKit Go.Proofs.YteaidghanfjigaaW.PrintWords Go.Proofs.YteaidghanfjigaaW.PrintLast Go.Proofs.YteaidghanfjigaaW.PrintMore
set_option linter.unusedVariables false
set_option linter.unusedSimpArgs false
theorem up_fuel {α : Type} {f : Nat → Option α} (h : ∀ k, LeO (f k) (f (k + 1))) {n : Nat} {x : α} (hx : f n = some x) : ∀ m, n ≤ m → f m = some x := by
  intro m hm
  induction m with
  | zero => obtain rfl : n = 0 := by omega
            exact hx
  | succ m ih =>
    by_cases c : n = m + 1
    · subst c; exact hx
    · exact h m x (ih (by omega))
theorem lives100 : cellarlaw27_lives.f 100 = some true := by decide +kernel
theorem lives_ev : Evn (fun k => cellarlaw27_lives.f k) true := ⟨100, fun k hk => up_fuel cellarlaw27_lives.mono lives100 k hk⟩
theorem sameH_l0 (xs : List Int) (hx : xs.length < 4611686018427387904) : ∀ (d j : Nat), j + d = xs.length → Evn (fun k => cellarlaw27_sameHashes.l0 k xs xs (j : Int)) true := by
  intro d
  induction d with
  | zero =>
    intro j hj
    exact Evn.of_eq (fun k => by simp only [cellarlaw27_sameHashes.l0]; rw [if_neg (by omega)])
  | succ d ih =>
    intro j hj
    refine Evn.step (fun k => ?_) (ih (j + 1) (by omega))
    simp only [cellarlaw27_sameHashes.l0]
    rw [if_pos (by omega), if_pos (by omega), if_pos (by omega), if_pos trivial, cw64' (by omega) (by omega)]; rfl
theorem sameH_refl (xs : List Int) (hx : xs.length < 4611686018427387904) : Evn (fun k => cellarlaw27_sameHashes.f k xs xs) true := by
  obtain ⟨K, hK⟩ := sameH_l0 xs hx xs.length 0 (by omega)
  exact ⟨K, fun k hk => by simp only [cellarlaw27_sameHashes.f]; rw [if_pos trivial]; exact hK k hk⟩
theorem pure (l0 : List Int) (h1 : l0.length ≤ maxLen) (h2 : l0.length * 8 ≤ 140737488351232) (h3 : ∀ x ∈ l0, (Lit.int .u64 x).wf = true) : ∃ k, cellarlaw27_CurveDistances.f k l0 = some true := by
  have hw : ∀ x ∈ l0, 0 ≤ x ∧ x < 18446744073709551616 := fun x hx => by have := wf64 (h3 x hx); omega
  obtain ⟨⟨r1, r2⟩, hd, K1, hK1⟩ := rdist_eq l0 (by omega) hw
  obtain ⟨K2, hK2⟩ := same_refl r1 (by have := distF_len hd; omega)
  obtain ⟨K3, hK3⟩ := sameH_refl l0 (by omega)
  obtain ⟨K4, hK4⟩ := lives_ev
  refine ⟨K1 + K2 + K3 + K4, ?_⟩
  have g1 := hK1 (K1 + K2 + K3 + K4) (by omega)
  have g2 := hK2 (K1 + K2 + K3 + K4) (by omega)
  have g3 := hK3 (K1 + K2 + K3 + K4) (by omega)
  have g4 := hK4 (K1 + K2 + K3 + K4) (by omega)
  generalize K1 + K2 + K3 + K4 = k at g1 g2 g3 g4
  dsimp only at g1 g2 g3 g4
  unfold cellarlaw27_CurveDistances.f
  simp only [Option.bind_some, List.nil_append]
  rw [if_pos (by simp only [List.length_nil]; omega), show curve_Distances.f l0 = some (r1, r2) from hd]
  simp only [Option.bind_some]
  rw [g1]
  simp only [Option.bind_some]
  rw [g4]
  simp only [Option.bind_some, if_true]
  rw [g2]
  simp only [Option.bind_some, if_true]
  rw [g3]
  rfl
end Go.Proofs.Yteaidghanfjigaa.RCurveDistances
namespace Go.Proofs.Yteaidghanfjigaa.Pure
open Go.Proofs.Yteaidghanfjigaa.RCurveDistances
theorem CurveDistances : cellarlaw27_CurveDistances.Pure := fun l0 h1 h2 h3 => pure l0 h1 h2 h3
end Go.Proofs.Yteaidghanfjigaa.Pure
