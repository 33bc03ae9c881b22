/- The plain law of CurveAnomaly, over the printed functions.
   No condition. -/
import Derived.Test.YteaidghanfjigaaCurveP
import Derived.Test.YteaidghanfjigaaRCurveAnomalyx1
namespace Go.Proofs.Yteaidghanfjigaa.RCurveAnomaly
open Go.Proofs.Yteaidghanfjigaa.QCurveCurves
open Go.RowKit Go.Proofs.YteaidghanfjigaaW.PrintWords Go.Proofs.YteaidghanfjigaaW.PrintLast Go.Proofs.YteaidghanfjigaaW.PrintMore
set_option linter.unusedVariables false
set_option linter.unusedSimpArgs false
theorem fifo3 : curve_Fifo.f [1, 2, 3, 4, 1, 2, 5, 1, 2, 3, 4, 5] 3 = some (3, 0) := by decide +kernel
theorem fifo4 : curve_Fifo.f [1, 2, 3, 4, 1, 2, 5, 1, 2, 3, 4, 5] 4 = some (2, 0) := by decide +kernel
theorem pure (l0 : List Int) (a : Int) (h1 : l0.length ≤ maxLen) (h2 : l0.length * 8 ≤ 140737488351232) (h3 : ∀ x ∈ l0, (Lit.int .u64 x).wf = true) (h4 : (Lit.int .i64 a).wf = true) : ∃ k, cellarlaw27_CurveAnomaly.f k l0 a = some true := by
  have hw : ∀ x ∈ l0, 0 ≤ x ∧ x < 18446744073709551616 := fun x hx => by have := wf64 (h3 x hx); omega
  have ha : a < 9223372036854775808 := by simp [Lit.wf, IntKind.min, IntKind.max, IntKind.bits, IntKind.signed] at h4; omega
  refine ⟨2, ?_⟩
  unfold cellarlaw27_CurveAnomaly.f
  simp only [Option.bind_some]
  rw [fifo3, fifo4]
  simp only [Option.bind_some]
  rw [if_pos trivial]
  simp only [cellarlaw27_CurveAnomaly.j0]
  rw [if_neg (by decide)]
  have q : ∀ n, curve_Lru.f l0 n = queueF l0 n true := fun n => by unfold curve_Lru.f; rw [show curve_queue.f l0 n true = queueF l0 n true from rfl]; cases queueF l0 n true <;> rfl
  have out : (a < 0 ∨ a > 1048576 ∨ (l0.length : Int) > 1024) → cellarlaw27_CurveAnomaly.j1 1 l0 a true = some true := fun hc => by
    simp only [cellarlaw27_CurveAnomaly.j1]
    rw [if_pos trivial, q]
    unfold queueF
    by_cases c : (l0.length : Int) > 1024
    · rw [if_pos c]
      simp only [Option.bind_some]
      rw [if_neg (by decide)]
      by_cases c2 : a < 0
      · rw [if_pos c2]
      · rw [if_neg c2, decide_eq_true c]
    · rw [if_neg c]
      by_cases c2 : a < 0
      · rw [if_pos c2]
        simp only [Option.bind_some]
        rw [if_neg (by decide), if_pos c2]
      · rw [if_neg c2, if_pos ⟨hw, ha⟩]
        simp only [Option.bind_some]
        rw [if_pos trivial]
  by_cases c1 : a < 0
  · rw [if_pos c1]; exact out (.inl c1)
  · rw [if_neg c1]
    by_cases c2 : a > 1048576
    · rw [if_pos c2]; exact out (.inr (.inl c2))
    · rw [if_neg c2]
      by_cases c3 : (l0.length : Int) > 1024
      · rw [decide_eq_true c3]; exact out (.inr (.inr c3))
      · rw [decide_eq_false c3]
        simp only [cellarlaw27_CurveAnomaly.j1]
        rw [if_neg (by decide), q, q, cw64' (n := a + 1) (by omega) (by omega)]
        unfold queueF
        rw [if_neg c3, if_neg c3, if_neg (show ¬ a < 0 by omega), if_pos (show (∀ x ∈ l0, 0 ≤ x ∧ x < 18446744073709551616) ∧ a < 9223372036854775808 from ⟨hw, ha⟩), if_neg (show ¬ a + 1 < 0 by omega), if_pos (show (∀ x ∈ l0, 0 ≤ x ∧ x < 18446744073709551616) ∧ a + 1 < 9223372036854775808 from ⟨hw, by omega⟩)]
        simp only [Option.bind_some]
        rw [show (a + 1).toNat = a.toNat + 1 by omega]
        rw [decide_eq_true]
        have := qH_mono (l0.map Int.toNat) a.toNat l0.length
        omega
end Go.Proofs.Yteaidghanfjigaa.RCurveAnomaly
namespace Go.Proofs.Yteaidghanfjigaa.Pure
open Go.Proofs.Yteaidghanfjigaa.RCurveAnomaly
theorem CurveAnomaly : cellarlaw27_CurveAnomaly.Pure := fun l0 a1 h1 h2 h3 h4 => pure l0 a1 h1 h2 h3 h4
end Go.Proofs.Yteaidghanfjigaa.Pure
