/- The plain law of CurveCurves, over the printed functions.
   No condition. -/
import Derived.Test.YteaidghanfjigaaCurveP
import Derived.Test.YteaidghanfjigaaRCurveCurvesx1
namespace Go.Proofs.Yteaidghanfjigaa.RCurveCurves
open Go.Proofs.Yteaidghanfjigaa.QCurveCurves
open Go.RowKit Go.Proofs.YteaidghanfjigaaW.PrintWords Go.Proofs.YteaidghanfjigaaW.PrintLast Go.Proofs.YteaidghanfjigaaW.PrintMore
set_option linter.unusedVariables false
set_option linter.unusedSimpArgs false
theorem up_fuel {α : Type} {f : Nat → Option α} (h : ∀ k, LeO (f k) (f (k + 1))) {n : Nat} {x : α} (hx : f n = some x) : ∀ m, n ≤ m → f m = some x := by
  intro m hm
  induction m with
  | zero => obtain rfl : n = 0 := by omega
            exact hx
  | succ m ih =>
    by_cases c : n = m + 1
    · subst c; exact hx
    · exact h m x (ih (by omega))
theorem lives100 : cellarlaw27_lives.f 100 = some true := by decide +kernel
theorem lives_ev : Evn (fun k => cellarlaw27_lives.f k) true := ⟨100, fun k hk => up_fuel cellarlaw27_lives.mono lives100 k hk⟩
theorem pcurve_l1 (k : Nat) : ∀ (a : Int) (S : List Int) (i : Int), curve_Curve.l1 k a S i = cellarref27_Curve.l1 k a S i := by
  induction k with
  | zero => intro a S i; simp only [curve_Curve.l1, cellarref27_Curve.l1]
  | succ k ih => intro a S i; simp only [curve_Curve.l1, cellarref27_Curve.l1, ih]
theorem pcurve_l0 (k : Nat) : ∀ (a : Int) (S D : List Int) (i : Int), curve_Curve.l0 k a S D (D.length : Int) i = cellarref27_Curve.l0 k a D S i := by
  induction k with
  | zero => intro a S D i; simp only [curve_Curve.l0, cellarref27_Curve.l0]
  | succ k ih =>
    intro a S D i
    simp only [curve_Curve.l0, cellarref27_Curve.l0, ih, pcurve_l1]
    by_cases c : i < (D.length : Int)
    · rw [if_pos c, if_pos c, if_pos c]
      by_cases c2 : 0 ≤ i
      · rw [if_pos c2, if_pos c2]
        by_cases c3 : rd D i ≥ 1
        · rw [if_pos c3, if_pos (show rd D i > 0 by omega)]
        · rw [if_neg c3, if_neg (show ¬ rd D i > 0 by omega)]
      · rw [if_neg c2, if_neg c2]
    · rw [if_neg c, if_neg c]
theorem pcurve_j0 (k : Nat) (a : Int) (D : List Int) (b : Bool) : curve_Curve.j0 k a D b = cellarref27_Curve.j0 k a D b := by
  cases k with
  | zero => simp only [curve_Curve.j0, cellarref27_Curve.j0]
  | succ k => simp only [curve_Curve.j0, cellarref27_Curve.j0, pcurve_l0]
theorem pcurve_eq (l0 : List Int) (a : Int) {r : List Int × Int} (h : curveF l0 a = some r) : Evn (fun k => curve_Curve.f k l0 a) r := by
  unfold curveF at h
  cases hd : distF l0 with
  | none => rw [hd] at h; cases h
  | some q =>
    obtain ⟨r1, r2⟩ := q
    rw [hd] at h
    simp only [Option.bind_some] at h
    by_cases c : r2 = 0
    · rw [if_pos c] at h
      by_cases c1 : a < 0 ∨ a > 1024
      · rw [if_pos c1] at h
        obtain rfl := Option.some.inj h
        refine ⟨1, fun k hk => ?_⟩
        obtain ⟨j, rfl⟩ : ∃ j, k = j + 1 := ⟨k - 1, by omega⟩
        simp only [curve_Curve.f]
        rw [show curve_Distances.f l0 = some (r1, r2) from hd]
        simp only [Option.bind_some]
        rw [if_pos c]
        by_cases c2 : a < 0
        · rw [if_pos c2]; simp only [curve_Curve.j0]; rw [if_pos trivial]
        · rw [if_neg c2, decide_eq_true (by omega)]; simp only [curve_Curve.j0]; rw [if_pos trivial]
      · rw [if_neg c1] at h
        obtain rfl := Option.some.inj h
        obtain ⟨K2, hK2⟩ := rcurve_j0 r1 (distF_len hd) (distF_bd hd) a (by omega) (by omega)
        refine ⟨K2, fun k hk => ?_⟩
        have g2 := hK2 k (by omega)
        dsimp only at g2
        simp only [curve_Curve.f]
        rw [show curve_Distances.f l0 = some (r1, r2) from hd]
        simp only [Option.bind_some]
        rw [if_pos c, if_neg (by omega), decide_eq_false (by omega), pcurve_j0]
        exact g2
    · rw [if_neg c] at h
      obtain rfl := Option.some.inj h
      refine ⟨0, fun k hk => ?_⟩
      simp only [curve_Curve.f]
      rw [show curve_Distances.f l0 = some (r1, r2) from hd]
      simp only [Option.bind_some]
      rw [if_neg c]
theorem curveF_len {l0 : List Int} {a : Int} {r : List Int × Int} (h : curveF l0 a = some r) : r.1.length ≤ 1025 := by
  unfold curveF at h
  cases hd : distF l0 with
  | none => rw [hd] at h; cases h
  | some q =>
    rw [hd] at h
    simp only [Option.bind_some] at h
    split at h
    · split at h
      · obtain rfl := Option.some.inj h; simp
      · obtain rfl := Option.some.inj h; rw [curveL_length]; omega
    · obtain rfl := Option.some.inj h; simp
theorem pure (l0 : List Int) (a : Int) (h1 : l0.length ≤ maxLen) (h2 : l0.length * 8 ≤ 140737488351232) (h3 : ∀ x ∈ l0, (Lit.int .u64 x).wf = true) (h4 : (Lit.int .i64 a).wf = true) : ∃ k, cellarlaw27_CurveCurves.f k l0 a = some true := by
  have hw : ∀ x ∈ l0, 0 ≤ x ∧ x < 18446744073709551616 := fun x hx => by have := wf64 (h3 x hx); omega
  obtain ⟨⟨r1, r2⟩, hd, K1, hK1⟩ := rcurve_eq l0 a (by omega) hw
  obtain ⟨K2, hK2⟩ := pcurve_eq l0 a hd
  obtain ⟨K3, hK3⟩ := same_refl r1 (by have := curveF_len hd; simp only at this; omega)
  obtain ⟨K4, hK4⟩ := lives_ev
  refine ⟨K1 + K2 + K3 + K4, ?_⟩
  have g1 := hK1 (K1 + K2 + K3 + K4) (by omega)
  have g2 := hK2 (K1 + K2 + K3 + K4) (by omega)
  have g3 := hK3 (K1 + K2 + K3 + K4) (by omega)
  have g4 := hK4 (K1 + K2 + K3 + K4) (by omega)
  generalize K1 + K2 + K3 + K4 = k at g1 g2 g3 g4
  dsimp only at g1 g2 g3 g4
  unfold cellarlaw27_CurveCurves.f
  rw [g2, g1, g4]
  simp only [Option.bind_some, if_true]
  rw [g3]
  rfl
end Go.Proofs.Yteaidghanfjigaa.RCurveCurves
namespace Go.Proofs.Yteaidghanfjigaa.Pure
open Go.Proofs.Yteaidghanfjigaa.RCurveCurves
theorem CurveCurves : cellarlaw27_CurveCurves.Pure := fun l0 a1 h1 h2 h3 h4 => pure l0 a1 h1 h2 h3 h4
end Go.Proofs.Yteaidghanfjigaa.Pure
