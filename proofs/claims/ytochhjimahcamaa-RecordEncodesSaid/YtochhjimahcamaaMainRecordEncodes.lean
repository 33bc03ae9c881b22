/- The plain law of RecordEncodes, over the printed functions; and the call.
   No condition. -/
import Derived.Test.YtochhjimahcamaaEncFacts
import Derived.Test.YtochhjimahcamaaQRecordEncodesx9
namespace Go.Proofs.Ytochhjimahcamaa.QRecordEncodes
open Geo Crc
open Go.RowKit Go.Proofs.YtochhjimahcamaaW.PrintWords Go.Proofs.YtochhjimahcamaaW.PrintLast Go.Proofs.YtochhjimahcamaaW.PrintMore
set_option linter.unusedVariables false
set_option linter.unusedSimpArgs false

theorem enc_length (p s r a : Int) (salt : Nat) (kind : Int) (ver : Nat) (K V : ByteArray) : (enc p s r a salt kind ver K V).1.length ≤ 263000 := by
  unfold enc
  by_cases h : Ok p s r a
  · rw [if_pos h]
    by_cases c : (kind = 1 ∨ kind = 2) ∧ ¬ (kind = 2 ∧ V.size ≠ 0)
    · rw [if_pos c]
      by_cases c0 : (siz p s r a K.size V.size).2 = 0
      · have hsm := siz_small h c0
        rw [if_pos c0]
        simp only [recs, List.length_append, hdr_length, leb_length, natsOf_length]
        omega
      · rw [if_neg c0]; simp
    · rw [if_neg c]; simp
  · rw [if_neg h]; simp
theorem pure (p s r a salt kind ver : Int) (K V : ByteArray) (h0 : 0 ≤ salt) (h1 : salt < 4294967296) (h2 : 0 ≤ ver) (h3 : ver < 18446744073709551616) : ∃ k, cellarlaw05_RecordEncodes.f k p s r a salt kind ver K V = some true := by
  obtain ⟨salt, rfl⟩ := Int.eq_ofNat_of_zero_le h0
  obtain ⟨ver, rfl⟩ := Int.eq_ofNat_of_zero_le h2
  have gen : ∀ N, 2630000 ≤ N → cellarlaw05_RecordEncodes.f (N + 1) p s r a salt kind ver K V = some true := by
    intro N hN
    unfold cellarlaw05_RecordEncodes.f
    rw [encode_eq N p s r a salt ver kind K V (by omega) (by omega) (by omega), rencode_eq N p s r a salt ver kind K V (by omega) (by omega) hN]
    simp only [Option.bind_some]
    rw [lives_eq (N + 1) (by omega), Option.bind_some, if_pos rfl, if_true, same_eq (N + 1) _ (by have := enc_length p s r a salt kind ver K V; omega) (by have := enc_length p s r a salt kind ver K V; omega)]
    rfl
  exact ⟨_, gen 2630000 (Nat.le_refl _)⟩

end Go.Proofs.Ytochhjimahcamaa.QRecordEncodes
namespace Go.Proofs.Ytochhjimahcamaa.Main
open Go.RowKit Go.Proofs.YtochhjimahcamaaW.PrintWords Go.Proofs.YtochhjimahcamaaW.PrintLast Go.Proofs.YtochhjimahcamaaW.PrintMore Go.Proofs.Ytochhjimahcamaa.QRecordEncodes Geo Crc
set_option linter.unusedVariables false
set_option linter.unusedSimpArgs false
theorem RecordEncodes (W : World) (a0_0 : Int) (a0_1 : Int) (a0_2 : Int) (a0_3 : Int) (a1 : Int) (a2_0 : Int) (a2_1 : Int) (a2_2 : ByteArray) (a2_3 : ByteArray) (w0_0 : (Lit.int .i64 a0_0).wf = true) (w0_1 : (Lit.int .i64 a0_1).wf = true) (w0_2 : (Lit.int .i64 a0_2).wf = true) (w0_3 : (Lit.int .i64 a0_3).wf = true) (w1 : (Lit.int .u32 a1).wf = true) (w2_0 : (Lit.int .i64 a2_0).wf = true) (w2_1 : (Lit.int .u64 a2_1).wf = true) (y2_2 : a2_2.size ≤ 140737488351232) (y2_3 : a2_3.size ≤ 140737488351232) :
    Calls Try.prog 3 #[.agg #[.int .i64 a0_0, .int .i64 a0_1, .int .i64 a0_2, .int .i64 a0_3], .int .u32 a1, .agg #[.int .i64 a2_0, .int .u64 a2_1, .string a2_2, .string a2_3]] W fun e w' => e = .returned (.bool true) ∧ Below W.heap.size W w' := by
  obtain ⟨k, h⟩ := pure a0_0 a0_1 a0_2 a0_3 a1 a2_0 a2_1 a2_2 a2_3 (wf_u32 w1).1 (by have := (wf_u32 w1).2; omega) (wf_u64 w2_1).1 (by have := (wf_u64 w2_1).2; omega)
  exact cellarlaw05_RecordEncodes.calls k a0_0 a0_1 a0_2 a0_3 a1 a2_0 a2_1 a2_2 a2_3 true W h
end Go.Proofs.Ytochhjimahcamaa.Main
