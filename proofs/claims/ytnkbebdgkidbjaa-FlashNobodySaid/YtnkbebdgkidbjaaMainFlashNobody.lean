/- The law FlashNobody, walked by hand; and the call.
   No condition. -/
import Derived.Test.YtnkbebdgkidbjaaFlF
import Derived.ArgAppend
import Derived.BigRegion
import Derived.Deep.QuietTactic
import Derived.BigQuiet
import Derived.Deep.RegionHeld3
import Derived.ChangeAlike
import Derived.RegionTactic
import Derived.Deep.DeepCutAuto
import Derived.Deep.CutBlock
import Derived.Deep.RegionLaw
import Derived.StillTailTactics
import Derived.WalkSpells
import Derived.Lib.SliceRun
import Derived.Laws.CopyRow
import Derived.Lib.SlBuf
import Derived.Lib.MakeNoZero
import Derived.Laws.BitsLemmas
import Derived.Lib.Bytes
import Derived.Lib.SlBytesConst
namespace Go.Proofs.Ytnkbebdgkidbjaa.Flash
open Go.Proofs.Ytnkbebdgkidbjaa.QFlashPlays
open Go.RowKit Go.Proofs.YtnkbebdgkidbjaaW.PrintWords Go.Proofs.YtnkbebdgkidbjaaW.PrintLast Go.Proofs.YtnkbebdgkidbjaaW.PrintMore
attribute [local go_sem] max2_int min2_int max_two min_two   -- for this text's walks alone
set_option linter.unusedVariables false
set_option linter.unusedSimpArgs false
set_option maxHeartbeats 2000000 in
theorem counts_nil (w : World) : Calls Try.prog 20 #[.pointer none] w (Near w (.agg #[.int .i64 0, .int .i64 0, .int .i64 0, .int .i64 0, .int .i64 0, .slice none 0 0])) := by
  obtain ⟨w1, hw1⟩ : ∃ w1, w.alloc (.cells #[.int .i64 0, .int .i64 0, .int .i64 0, .int .i64 0, .int .i64 0, .slice none 0 0] 45) = w1 := ⟨_, rfl⟩
  have B1 : Aside0 (Below w.heap.size w w1) := ⟨by rw [← hw1]; exact below_alloc (Below.refl _ _) _⟩
  have K1 : w1.heap[w.heap.size]? = some (.cells #[.int .i64 0, .int .i64 0, .int .i64 0, .int .i64 0, .int .i64 0, .slice none 0 0] 45 (0, 0)) := by rw [← hw1]; exact blk_new w _
  go_enter Try.func20, Try.ntmps20
  go_upto_region 1 with (fail)
  clear hw1
  obtain ⟨bx, hbx⟩ : ∃ bx, w.heap.size = bx := ⟨_, rfl⟩
  have HX := Aside0.mk hbx
  rw [hbx] at K1
  rw [hbx]
  have KK := Aside0.mk K1
  have k0 := blk_cell K1 0
  have k1 := blk_cell K1 1
  have k2 := blk_cell K1 2
  have k3 := blk_cell K1 3
  have k4 := blk_cell K1 4
  have k5 := blk_cell K1 5
  have f0 := blk_frozen K1 0
  have f1 := blk_frozen K1 1
  have f2 := blk_frozen K1 2
  have f3 := blk_frozen K1 3
  have f4 := blk_frozen K1 4
  have f5 := blk_frozen K1 5
  clear hbx K1
  go_wp2_with (go_at_call 39; refine (made_nil _).mono ?_; rintro e w' ⟨rfl, rfl⟩)
  have q1 := blk_put KK.out 0 (.int .i64 0) rfl
  have q2 := blk_put q1 1 (.int .i64 0) rfl
  have q3 := blk_put q2 2 (.int .i64 0) rfl
  have q4 := blk_put q3 3 (.int .i64 0) rfl
  have q5 := blk_put q4 4 (.int .i64 0) rfl
  have q6 := blk_put q5 5 (.slice none 0 0) rfl
  refine bodyPost_ret (results_cell_row rfl _ _ bx 45 #[.int .i64 0, .int .i64 0, .int .i64 0, .int .i64 0, .int .i64 0, .slice none 0 0] (0, 0) _ rfl q6 Try.underlying45 rfl (by kernel_rfl)) rfl ?_
  have hb := B1.out
  rw [HX.out] at hb
  refine ⟨rfl, ?_⟩
  rw [HX.out]
  exact (((((hb.setCell (p := ⟨bx, 0, none⟩) (Nat.le_refl _) _).setCell (p := ⟨bx, 1, none⟩) (Nat.le_refl _) _).setCell (p := ⟨bx, 2, none⟩) (Nat.le_refl _) _).setCell (p := ⟨bx, 3, none⟩) (Nat.le_refl _) _).setCell (p := ⟨bx, 4, none⟩) (Nat.le_refl _) _).setCell (p := ⟨bx, 5, none⟩) (Nat.le_refl _) _
theorem nil26 (w : World) : (binOp .eql 26 (.pointer none) (.pointer none)).run Try.prog w = .ok (.bool true) w := by kernel_rfl
set_option maxHeartbeats 8000000 in
set_option maxRecDepth 100000 in
theorem law_Nobody (W : World) (n : Int) (A : Option Addr) (l c : Nat) (s r : Int) (A2 : Option Addr) (l2 c2 : Nat) :
    Calls Try.prog 10 #[.int .i64 n, .slice A l c, .agg #[.int .i64 s, .int .i64 r, .slice A2 l2 c2]] W fun e w' => e = .returned (.bool true) ∧ Below W.heap.size W w' := by
  have q26 := nil26
  have nilC : ∀ w : World, (Kd.int .i64).C w none 0 [] := fun w => ⟨rfl, by decide, fun h => absurd h (by decide)⟩
  have KS := Aside0.mk (fun (w : World) => sameCounts_walk (w := w) (n0 := 0) (n1 := 0) (n2 := 0) (n3 := 0) (n4 := 0) (c := 0) (c' := 0) (l := []) (nilC w) (by decide) (nilC w) (by decide) (by decide))
  have BX : Aside0 (Below W.heap.size W (W.alloc (.cells #[.int .i64 s, .int .i64 r, .slice A2 l2 c2] 51))) := ⟨below_alloc (Below.refl _ _) _⟩
  have bb := blk_new W (.cells #[.int .i64 s, .int .i64 r, .slice A2 l2 c2] 51)
  clear nilC
  go_enter Try.func10, Try.ntmps10
  go_upto_region 3 with (go_at_call 26; refine (read_nil _ _).mono ?_; rintro e w' ⟨rfl, rfl⟩)
  obtain ⟨w1, hw1⟩ : ∃ w1, W.alloc (.cells #[.int .i64 s, .int .i64 r, .slice A2 l2 c2] 51) = w1 := ⟨_, rfl⟩
  rw [hw1] at bb BX
  rw [hw1]
  clear hw1
  obtain ⟨bx, hbx⟩ : ∃ bx, W.heap.size = bx := ⟨_, rfl⟩
  rw [hbx] at bb
  rw [hbx]
  have CC := Aside0.mk (fun (w' : World) (hb : Below w1.heap.size w1 w') => (show w'.cell? ⟨bx, 0, none⟩ = some (.int .i64 s) ∧ w'.cell? ⟨bx, 1, none⟩ = some (.int .i64 r) ∧ w'.cell? ⟨bx, 2, none⟩ = some (.slice A2 l2 c2) from ⟨blk_cell (blk_below bb hb) 0, blk_cell (blk_below bb hb) 1, blk_cell (blk_below bb hb) 2⟩))
  have HBX := Aside0.mk hbx
  clear bb hbx
  go_wp2_with (first
    | (go_at_call 11; refine (lives_walk _).mono ?_; rintro e w2 ⟨rfl, hb2⟩; have B2 := Aside0.mk hb2; clear hb2)
    | (go_at_call 34; refine (program_nil _ _ _ _ _).mono ?_; rintro e w3 ⟨rfl, hb3⟩; have B3 := Aside0.mk (B2.out.trans (hb3.mono B2.out.size)); clear hb3)
    | (go_at_call 30; refine (erase_nil _ _).mono ?_; rintro e w4 ⟨rfl, hb4⟩; have B4 := Aside0.mk (B3.out.trans (hb4.mono B3.out.size)); clear hb4)
    | (go_at_call 31; refine (sync_nil _).mono ?_; rintro e w5 ⟨rfl, hb5⟩; have B5 := Aside0.mk (B4.out.trans (hb5.mono B4.out.size)); clear hb5; obtain ⟨y0, y1, y2⟩ := CC.out _ B5.out)
    | (go_at_call 25; refine (crash_nil _ _ _ _).mono ?_; rintro e w6 ⟨rfl, hb6⟩; have B6 := Aside0.mk (B5.out.trans (hb6.mono B5.out.size)); clear hb6)
    | (go_at_call 24; refine (fail_nil _ _).mono ?_; rintro e w7 ⟨rfl, hb7⟩; have B7 := Aside0.mk (B6.out.trans (hb7.mono B6.out.size)); clear hb7)
    | (go_at_call 28; refine (next_nil _ _).mono ?_; rintro e w8 ⟨rfl, hb8⟩; have B8 := Aside0.mk (B7.out.trans (hb8.mono B7.out.size)); clear hb8)
    | (go_at_call 16; refine (unsynced_nil _).mono ?_; rintro e w9 ⟨rfl, hb9⟩; have B9 := Aside0.mk (B8.out.trans (hb9.mono B8.out.size)); clear hb9)
    | (go_at_call 15; refine (image_nil _).mono ?_; rintro e w10 ⟨rfl, hb10⟩; have B10 := Aside0.mk (B9.out.trans (hb10.mono B9.out.size)); clear hb10)
    | (go_at_call 20; refine (counts_nil _).mono ?_; rintro e w11 ⟨rfl, hb11⟩; have B11 := Aside0.mk (B10.out.trans (hb11.mono B10.out.size)); clear hb11)
    | (go_at_call 19; refine (KS.out _).mono ?_; rintro e w12 ⟨rfl, hb12⟩; have B12 := Aside0.mk (B11.out.trans (hb12.mono B11.out.size)); clear hb12)
    | (go_at_call 27; refine (fork_nil _).mono ?_; rintro e w13 ⟨rfl, hb13⟩; have B13 := Aside0.mk (B12.out.trans (hb13.mono B12.out.size)); clear hb13))
  go_ret
  rw [HBX.out] at BX
  refine ⟨rfl, ?_⟩
  rw [HBX.out]
  exact BX.out.trans (B13.out.mono (by have := BX.out.size; have := HBX.out; omega))
end Go.Proofs.Ytnkbebdgkidbjaa.Flash
namespace Go.Proofs.Ytnkbebdgkidbjaa.Main
open Go.Proofs.Ytnkbebdgkidbjaa.Flash Go.Proofs.Ytnkbebdgkidbjaa.QFlashPlays
open Go.RowKit Go.Proofs.YtnkbebdgkidbjaaW.PrintWords Go.Proofs.YtnkbebdgkidbjaaW.PrintLast Go.Proofs.YtnkbebdgkidbjaaW.PrintMore
set_option linter.unusedVariables false
set_option linter.unusedSimpArgs false
theorem FlashNobody (W : World) (a0 : Int) (A1 : Option Addr) (c1 : Nat) (l1 : List Int) (a2_0 : Int) (a2_1 : Int) (A2_2 : Option Addr) (c2_2 : Nat) (l2_2 : List (Int × (Int × Int))) (w0 : (Lit.int .i64 a0).wf = true) (hC1 : Kd.C (Kd.int .u8) W A1 l1.length l1) (hc1 : l1.length ≤ c1) (hG1 : (fun l => l.length * 1 ≤ 140737488351232 ∧ l.length ≤ 9223372036854775807 ∧ ∀ x ∈ l, (fun x => (Lit.int .u8 x).wf = true) x) l1) (w2_0 : (Lit.int .i64 a2_0).wf = true) (w2_1 : (Lit.int .i64 a2_1).wf = true) (hC2_2 : Kd.C (Kd.pair (Kd.int .i64) (Kd.pair (Kd.int .i64) (Kd.int .i64))) W A2_2 l2_2.length l2_2) (hc2_2 : l2_2.length ≤ c2_2) (hG2_2 : (fun l => l.length * 24 ≤ 140737488351232 ∧ l.length ≤ 9223372036854775807 ∧ ∀ x ∈ l, (fun x => (fun x => (Lit.int .i64 x).wf = true) x.1 ∧ (fun x => (fun x => (Lit.int .i64 x).wf = true) x.1 ∧ (fun x => (Lit.int .i64 x).wf = true) x.2) x.2) x) l2_2) :
    Calls Try.prog 10 #[.int .i64 a0, .slice A1 l1.length c1, .agg #[.int .i64 a2_0, .int .i64 a2_1, .slice A2_2 l2_2.length c2_2]] W fun e w' => e = .returned (.bool true) ∧ Below W.heap.size W w' := by
  exact law_Nobody W a0 A1 l1.length c1 a2_0 a2_1 A2_2 l2_2.length c2_2
end Go.Proofs.Ytnkbebdgkidbjaa.Main
