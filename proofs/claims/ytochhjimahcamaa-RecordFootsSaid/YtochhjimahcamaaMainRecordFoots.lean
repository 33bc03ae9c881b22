/- The law RecordFoots, walked by hand; and the call.
   No condition. -/
import Derived.Test.YtochhjimahcamaaFootA
import Derived.ArgAppend
import Derived.Lib.SlBytesConst
import Derived.BigRegion
import Derived.Deep.QuietTactic
import Derived.BigQuiet
import Derived.Deep.RegionHeld3
import Derived.ChangeAlike
import Derived.RegionTactic
namespace Go.Proofs.Ytochhjimahcamaa.QRecordEncodes
open Geo Crc
open Go.RowKit Go.Proofs.YtochhjimahcamaaW.PrintWords Go.Proofs.YtochhjimahcamaaW.PrintLast Go.Proofs.YtochhjimahcamaaW.PrintMore
set_option linter.unusedVariables false
set_option linter.unusedSimpArgs false
theorem efoot_length (p s r a n u : Int) (x y : Nat) : (efoot p s r a n u x y).1.length ≤ 24 := by
  unfold efoot
  by_cases h : Ok p s r a
  · rw [if_pos h]
    by_cases c : n < 0 ∨ n > 2147483647 ∨ u < 32 ∨ u > p * s - 24
    · rw [if_pos c]; simp
    · rw [if_neg c, foot_length]; omega
  · rw [if_neg h]; simp
set_option maxHeartbeats 4000000 in
set_option maxRecDepth 100000 in
theorem foots_walk (p s r a n u : Int) (x y : Nat) (hx : x < 4294967296) (hy : y < 4294967296) (W : World) :
    Calls Try.prog 8 #[.agg #[.int .i64 p, .int .i64 s, .int .i64 r, .int .i64 a], .agg #[.int .i64 n, .int .i64 u, .int .u32 (x : Int), .int .u32 (y : Int)]] W fun e w' => e = .returned (.bool true) ∧ Below W.heap.size W w' := by
  have HB := Aside0.mk (((Below.refl W.heap.size W).alloc (Nat.le_refl _) (.cells #[.int .i64 p, .int .i64 s, .int .i64 r, .int .i64 a] 23)).alloc (by simp) (.cells #[.int .i64 n, .int .i64 u, .int .u32 (x : Int), .int .u32 (y : Int)] 45))
  have SF := Aside0.mk (show ((W.alloc (.cells #[.int .i64 p, .int .i64 s, .int .i64 r, .int .i64 a] 23)).alloc (.cells #[.int .i64 n, .int .i64 u, .int .u32 (x : Int), .int .u32 (y : Int)] 45)).heap[W.heap.size + 1]? = some (.cells #[.int .i64 n, .int .i64 u, .int .u32 (x : Int), .int .u32 (y : Int)] 45) by
    have h := blk_new (W.alloc (.cells #[.int .i64 p, .int .i64 s, .int .i64 r, .int .i64 a] 23)) (.cells #[.int .i64 n, .int .i64 u, .int .u32 (x : Int), .int .u32 (y : Int)] 45)
    rwa [World.size_alloc] at h)
  have SG := Aside0.mk (blk_alloc (blk_new W (.cells #[.int .i64 p, .int .i64 s, .int .i64 r, .int .i64 a] 23)) (.cells #[.int .i64 n, .int .i64 u, .int .u32 (x : Int), .int .u32 (y : Int)] 45))
  have h1 := Aside0.mk (efoot_walk p s r a n u x y hx hy)
  have h2 := Aside0.mk (refoot_walk p s r a n u x y hx hy)
  have hl := efoot_length p s r a n u x y
  obtain ⟨⟨bs, ec⟩, hE⟩ : ∃ E, efoot p s r a n u x y = E := ⟨_, rfl⟩
  rw [hE] at h1 h2 hl
  simp only at hl
  have HL := Aside0.mk hl
  clear hE hl
  go_enter Try.func8, Try.ntmps8
  go_wp2_with (first
    | (go_at_call 21; refine (h1.out _).mono ?_; rintro e w1 ⟨v1, rfl, hR1, hb1⟩; obtain ⟨A1, c1, rfl⟩ := Kd.R_slice hR1; have R1 := Aside0.mk hR1; have B1 := Aside0.mk (below_then HB.out HB.out.size hb1); have F1 := blk_below SF.out hb1; have G1 := blk_below SG.out hb1; have x0 := blk_cell G1 0; have x1 := blk_cell G1 1; have x2 := blk_cell G1 2; have x3 := blk_cell G1 3; have y0 := blk_cell F1 0; have y1 := blk_cell F1 1; have y2 := blk_cell F1 2; have y3 := blk_cell F1 3; simp only [List.getElem?_toArray, List.getElem?_cons_zero, List.getElem?_cons_succ] at x0 x1 x2 x3 y0 y1 y2 y3; clear hR1 hb1)
    | (go_at_call 22; refine (h2.out _).mono ?_; rintro e w2 ⟨v2, rfl, hR2, hb2⟩; obtain ⟨A2, c2, rfl⟩ := Kd.R_slice hR2; have R2 := Aside0.mk hR2; have B2 := Aside0.mk (below_then B1.out B1.out.size hb2); have R1' := Aside0.mk (Kd.R_below R1.out hb2); clear hR2 hb2 x0 x1 x2 x3 y0 y1 y2 y3 F1 G1)
    | (go_at_call 13; refine (cellarlaw05_lives.calls 100 true _ (lives_eq 100 (by decide))).mono ?_; rintro e w3 ⟨rfl, hb3⟩; have B3 := Aside0.mk (below_then B2.out B2.out.size hb3); have R2' := Aside0.mk (Kd.R_below R2.out hb3); have R1'' := Aside0.mk (Kd.R_below R1'.out hb3); clear hb3)
    | (go_at_call 14; refine (cellarlaw05_same.calls 1000 A1 c1 (ints bs) A2 c2 (ints bs) true _ (Kd.R_reads' R1''.out).2.2 (Kd.R_reads' R1''.out).2.1 (Kd.R_reads' R2'.out).2.2 (Kd.R_reads' R2'.out).2.1 (same_eq 1000 bs (by have := HL.out; omega) (by have := HL.out; omega))).mono ?_; rintro e w4 ⟨rfl, ⟨nd, rfl⟩⟩))
  go_ret
  exact ⟨rfl, pw_below_drewN B3.out nd⟩
end Go.Proofs.Ytochhjimahcamaa.QRecordEncodes
namespace Go.Proofs.Ytochhjimahcamaa.Main
open Go.RowKit Go.Proofs.YtochhjimahcamaaW.PrintWords Go.Proofs.YtochhjimahcamaaW.PrintLast Go.Proofs.YtochhjimahcamaaW.PrintMore Geo Crc Go.Proofs.Ytochhjimahcamaa.QRecordEncodes
set_option linter.unusedVariables false
set_option linter.unusedSimpArgs false
theorem RecordFoots (W : World) (a0_0 : Int) (a0_1 : Int) (a0_2 : Int) (a0_3 : Int) (a1_0 : Int) (a1_1 : Int) (a1_2 : Int) (a1_3 : Int) (w0_0 : (Lit.int .i64 a0_0).wf = true) (w0_1 : (Lit.int .i64 a0_1).wf = true) (w0_2 : (Lit.int .i64 a0_2).wf = true) (w0_3 : (Lit.int .i64 a0_3).wf = true) (w1_0 : (Lit.int .i64 a1_0).wf = true) (w1_1 : (Lit.int .i64 a1_1).wf = true) (w1_2 : (Lit.int .u32 a1_2).wf = true) (w1_3 : (Lit.int .u32 a1_3).wf = true) :
    Calls Try.prog 8 #[.agg #[.int .i64 a0_0, .int .i64 a0_1, .int .i64 a0_2, .int .i64 a0_3], .agg #[.int .i64 a1_0, .int .i64 a1_1, .int .u32 a1_2, .int .u32 a1_3]] W fun e w' => e = .returned (.bool true) ∧ Below W.heap.size W w' := by
  obtain ⟨x, rfl⟩ := Int.eq_ofNat_of_zero_le (wf_u32 w1_2).1
  obtain ⟨y, rfl⟩ := Int.eq_ofNat_of_zero_le (wf_u32 w1_3).1
  exact foots_walk a0_0 a0_1 a0_2 a0_3 a1_0 a1_1 x y (by have := (wf_u32 w1_2).2; omega) (by have := (wf_u32 w1_3).2; omega) W
end Go.Proofs.Ytochhjimahcamaa.Main
