/- The law RecordFootBack: the call.
   No condition. -/
import Derived.Test.YtochhjimahcamaaBackA
import Derived.ArgAppend
import Derived.Lib.SlBytesConst
import Derived.BigRegion
import Derived.Deep.QuietTactic
import Derived.BigQuiet
import Derived.Deep.RegionHeld3
import Derived.ChangeAlike
import Derived.RegionTactic
namespace Go.Proofs.Ytochhjimahcamaa.QRecordEncodes
open Geo Crc
open Go.RowKit Go.Proofs.YtochhjimahcamaaW.PrintWords Go.Proofs.YtochhjimahcamaaW.PrintLast Go.Proofs.YtochhjimahcamaaW.PrintMore
set_option linter.unusedVariables false
set_option linter.unusedSimpArgs false
theorem ints_of (l : List Int) (h : ∀ x ∈ l, (Lit.int .u8 x).wf = true) : ∃ bs : List Nat, Bytes bs ∧ l = ints bs := by
  refine ⟨l.map Int.toNat, fun b hb => ?_, ?_⟩
  · obtain ⟨x, hx, rfl⟩ := List.mem_map.1 hb
    have := wf_u8 (h x hx); omega
  · unfold ints
    rw [List.map_map]
    refine ((List.map_congr_left (g := fun n => n) fun n hn => ?_).trans (List.map_id' _)).symm
    have := wf_u8 (h n hn)
    simp only [Function.comp]; omega
end Go.Proofs.Ytochhjimahcamaa.QRecordEncodes
namespace Go.Proofs.Ytochhjimahcamaa.Main
open Go.RowKit Go.Proofs.YtochhjimahcamaaW.PrintWords Go.Proofs.YtochhjimahcamaaW.PrintLast Go.Proofs.YtochhjimahcamaaW.PrintMore Geo Crc Go.Proofs.Ytochhjimahcamaa.QRecordEncodes
set_option linter.unusedVariables false
set_option linter.unusedSimpArgs false
theorem RecordFootBack (W : World) (a0_0 : Int) (a0_1 : Int) (a0_2 : Int) (a0_3 : Int) (A1 : Option Addr) (c1 : Nat) (l1 : List Int) (a2 : Int) (a3 : Int) (a4 : Int) (a5 : Int) (w0_0 : (Lit.int .i64 a0_0).wf = true) (w0_1 : (Lit.int .i64 a0_1).wf = true) (w0_2 : (Lit.int .i64 a0_2).wf = true) (w0_3 : (Lit.int .i64 a0_3).wf = true) (hC1 : Kd.C (Kd.int .u8) W A1 l1.length l1) (hc1 : l1.length ≤ c1) (hG1 : (fun l => l.length * 1 ≤ 140737488351232 ∧ l.length ≤ 9223372036854775807 ∧ ∀ x ∈ l, (fun x => (Lit.int .u8 x).wf = true) x) l1) (w2 : (Lit.int .i64 a2).wf = true) (w3 : (Lit.int .i64 a3).wf = true) (w4 : (Lit.int .u32 a4).wf = true) (w5 : (Lit.int .i64 a5).wf = true) :
    Calls Try.prog 10 #[.agg #[.int .i64 a0_0, .int .i64 a0_1, .int .i64 a0_2, .int .i64 a0_3], .slice A1 l1.length c1, .int .i64 a2, .int .i64 a3, .int .u32 a4, .int .i64 a5] W fun e w' => e = .returned (.bool true) ∧ Below W.heap.size W w' := by
  obtain ⟨bs, hb, rfl⟩ := ints_of l1 hG1.2.2
  obtain ⟨x, rfl⟩ := Int.eq_ofNat_of_zero_le (wf_u32 w4).1
  have hx : x < 4294967296 := by have := (wf_u32 w4).2; omega
  have h2 := wf_i64 w2
  have h3 := wf_i64 w3
  have h5 := wf_i64 w5
  by_cases h : Ok a0_0 a0_1 a0_2 a0_3 ∧ 32 ≤ a2 ∧ a2 ≤ a0_0 * a0_1 - 24 ∧ 0 ≤ a3 ∧ a3 ≤ 2147483647
  · obtain ⟨g1, g2, g3, g4, g5⟩ := h
    obtain ⟨u, rfl⟩ := Int.eq_ofNat_of_zero_le (show 0 ≤ a2 by omega)
    obtain ⟨n, rfl⟩ := Int.eq_ofNat_of_zero_le g4
    exact back_yes a0_0 a0_1 a0_2 a0_3 A1 c1 bs hb (by have := hG1.1; rw [ints_length] at this; omega) u n x hx a5 W hC1 hc1 h5.1 h5.2 g1 (by omega) g3 (by omega)
  · exact back_no a0_0 a0_1 a0_2 a0_3 A1 c1 _ a2 a3 x hx a5 W h2.1 h2.2 h3.1 h3.2 h
end Go.Proofs.Ytochhjimahcamaa.Main
