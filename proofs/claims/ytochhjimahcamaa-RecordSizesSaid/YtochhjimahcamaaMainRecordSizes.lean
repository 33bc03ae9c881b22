/- The plain law of RecordSizes, over the printed functions; and the call.
   No condition. -/
import Derived.Test.YtochhjimahcamaaEncFacts
import Derived.Test.YtochhjimahcamaaRRecordSizesx2
namespace Go.Proofs.Ytochhjimahcamaa.RRecordSizes
open Go.Proofs.Ytochhjimahcamaa.QRecordEncodes
open Geo Crc
open Go.RowKit Go.Proofs.YtochhjimahcamaaW.PrintWords Go.Proofs.YtochhjimahcamaaW.PrintLast Go.Proofs.YtochhjimahcamaaW.PrintMore
set_option linter.unusedVariables false
set_option linter.unusedSimpArgs false

theorem pure (p s r a key val q : Int) (h0 : 0 ≤ q) : ∃ k, cellarlaw05_RecordSizes.f k p s r a key val q = some true := by
  have gen : ∀ N, 5001 ≤ N → cellarlaw05_RecordSizes.f N p s r a key val q = some true := by
    intro N hN
    obtain ⟨j, rfl⟩ : ∃ j, N = j + 5001 := ⟨N - 5001, by omega⟩
    have hl := lives_eq (j + 5001) (by omega)
    have hS : record_Salt.f q = some (q % 4294967296) := rfl
    have hT : cellarref05_Salt.f q = some (q % 4294967296) := by
      unfold cellarref05_Salt.f; rw [Int.tmod_eq_emod_of_nonneg h0, Int.emod_emod_of_dvd _ (Int.dvd_refl _)]
    unfold cellarlaw05_RecordSizes.f
    by_cases h : Ok p s r a
    · rw [show j + 5001 = j + 4999 + 2 from rfl, size_eq (j + 4999) h, show j + 4999 + 2 = j + 5001 from rfl, rsize_eq j h]
      simp only [Option.bind_some]
      rw [hl, Option.bind_some, if_pos rfl, if_true, if_true, hS, hT, Option.bind_some, Option.bind_some, beq_self_eq_true]
    · have e1 : record_Size.f (j + 5001) p s r a key val = some (0, 20) := by
        unfold record_Size.f; rw [show j + 5001 = j + 5000 + 1 from rfl, check_eq (j + 5000)]; unfold chk; rw [if_neg h]; rfl
      have e2 : cellarref05_Size.f (j + 5001) p s r a key val = some (0, 20) := by
        unfold cellarref05_Size.f; rw [show j + 5001 = j + 4981 + 20 from rfl, rcheck_eq (j + 4981)]; unfold chk; rw [if_neg h]; rfl
      rw [e1, e2]
      simp only [Option.bind_some]
      rw [hl, Option.bind_some, if_pos rfl, if_true, if_true, hS, hT, Option.bind_some, Option.bind_some, beq_self_eq_true]
  exact ⟨_, gen 5001 (Nat.le_refl _)⟩

end Go.Proofs.Ytochhjimahcamaa.RRecordSizes
namespace Go.Proofs.Ytochhjimahcamaa.Main
open Go.RowKit Go.Proofs.YtochhjimahcamaaW.PrintWords Go.Proofs.YtochhjimahcamaaW.PrintLast Go.Proofs.YtochhjimahcamaaW.PrintMore Go.Proofs.Ytochhjimahcamaa.RRecordSizes Geo Crc
set_option linter.unusedVariables false
set_option linter.unusedSimpArgs false
theorem RecordSizes (W : World) (a0_0 : Int) (a0_1 : Int) (a0_2 : Int) (a0_3 : Int) (a1 : Int) (a2 : Int) (a3 : Int) (w0_0 : (Lit.int .i64 a0_0).wf = true) (w0_1 : (Lit.int .i64 a0_1).wf = true) (w0_2 : (Lit.int .i64 a0_2).wf = true) (w0_3 : (Lit.int .i64 a0_3).wf = true) (w1 : (Lit.int .i64 a1).wf = true) (w2 : (Lit.int .i64 a2).wf = true) (w3 : (Lit.int .u64 a3).wf = true) :
    Calls Try.prog 7 #[.agg #[.int .i64 a0_0, .int .i64 a0_1, .int .i64 a0_2, .int .i64 a0_3], .int .i64 a1, .int .i64 a2, .int .u64 a3] W fun e w' => e = .returned (.bool true) ∧ Below W.heap.size W w' := by
  obtain ⟨k, h⟩ := pure a0_0 a0_1 a0_2 a0_3 a1 a2 a3 (wf_u64 w3).1
  exact cellarlaw05_RecordSizes.calls k a0_0 a0_1 a0_2 a0_3 a1 a2 a3 true W h
end Go.Proofs.Ytochhjimahcamaa.Main
