/- The law RecordDecodes, walked by hand; and the call.
   No condition. -/
import Derived.Test.YtochhjimahcamaaRdecA
import Derived.ArgAppend
import Derived.Lib.SlBytesConst
import Derived.BigRegion
import Derived.Deep.QuietTactic
import Derived.BigQuiet
import Derived.Deep.RegionHeld3
import Derived.ChangeAlike
import Derived.RegionTactic
namespace Go.Proofs.Ytochhjimahcamaa.QRecordEncodes
open Geo Crc
open Go.RowKit Go.Proofs.YtochhjimahcamaaW.PrintWords Go.Proofs.YtochhjimahcamaaW.PrintLast Go.Proofs.YtochhjimahcamaaW.PrintMore
set_option linter.unusedVariables false
set_option linter.unusedSimpArgs false
/-- The program's Decode answers dec. -/
theorem decode_calls (p s r a : Int) (salt : Nat) (hs : salt < 4294967296) (A : Option Addr) (c : Nat) (bs : List Nat) (x : Int) (hb : Bytes bs) (hm : bs.length < 140737488355328) (w : World) (hC : Kd.C (Kd.int .u8) w A (ints bs).length (ints bs)) (hc : (ints bs).length ≤ c) :
    Calls Try.prog 15 #[.agg #[.int .i64 p, .int .i64 s, .int .i64 r, .int .i64 a], .int .u32 (salt : Int), .slice A (ints bs).length c, .int .i64 x] w fun e w' => e = .returned (.tuple #[.agg #[.int .i64 (dec p s r a salt bs x).1, .int .u64 (dec p s r a salt bs x).2.1, .string (dec p s r a salt bs x).2.2.1, .string (dec p s r a salt bs x).2.2.2.1], .int .i64 (dec p s r a salt bs x).2.2.2.2.1, .int .i64 (dec p s r a salt bs x).2.2.2.2.2]) ∧ Below w.heap.size w w' := by
  have h := decode_eq 263000 p s r a salt bs x hb (by omega) hs (Nat.le_refl _)
  obtain ⟨⟨a1, a2, a3, a4, sz, er⟩, hF⟩ : ∃ F, dec p s r a salt bs x = F := ⟨_, rfl⟩
  rw [hF] at h ⊢
  exact record_Decode.calls 263002 p s r a (salt : Int) A c (ints bs) x a1 a2 a3 a4 sz er w hC hc h
set_option maxHeartbeats 4000000 in
set_option maxRecDepth 100000 in
theorem decodes_walk (p s r a : Int) (salt : Nat) (hs : salt < 4294967296) (A : Option Addr) (c : Nat) (bs : List Nat) (x : Int) (hx0 : -9223372036854775808 ≤ x) (hx1 : x < 9223372036854775808) (hb : Bytes bs) (hm : bs.length ≤ 140737488351232) (W : World) (hC : Kd.C (Kd.int .u8) W A (ints bs).length (ints bs)) (hc : (ints bs).length ≤ c) :
    Calls Try.prog 4 #[.agg #[.int .i64 p, .int .i64 s, .int .i64 r, .int .i64 a], .int .u32 (salt : Int), .slice A (ints bs).length c, .int .i64 x] W fun e w' => e = .returned (.bool true) ∧ Below W.heap.size W w' := by
  have HB := Aside0.mk ((Below.refl W.heap.size W).alloc (Nat.le_refl _) (.cells #[.int .i64 p, .int .i64 s, .int .i64 r, .int .i64 a] 23))
  have SG := Aside0.mk (blk_new W (.cells #[.int .i64 p, .int .i64 s, .int .i64 r, .int .i64 a] 23))
  have HC := Aside0.mk hC
  have HCC := Aside0.mk hc
  have SM := Aside0.mk (show (ints bs).length ≤ 140737488351232 by rw [ints_length]; exact hm)
  have SL := Aside0.mk (ints_length bs)
  have H1 := Aside0.mk (fun A c w hC hc => decode_calls p s r a salt hs A c bs x hb (by omega) w hC hc)
  have H2 := Aside0.mk (fun A c w hC hc => rdec_walk p s r a salt hs A c bs x hb (by omega) hx0 hx1 w hC hc)
  have HS := Aside0.mk (same_eq (bs.length + 1) bs (by omega) (by omega))
  obtain ⟨⟨a1, a2, a3, a4, sz, er⟩, hF⟩ : ∃ F, dec p s r a salt bs x = F := ⟨_, rfl⟩
  rw [hF] at H1 H2
  simp only at H1 H2
  obtain ⟨xs, hxs⟩ : ∃ xs, ints bs = xs := ⟨_, rfl⟩
  rw [hxs] at HC HCC SM SL H1 H2 HS
  rw [hxs]
  clear hC hc hm hb hF hxs
  go_enter Try.func4, Try.ntmps4
  go_upto_region 1 with fail
  obtain ⟨w0, hw0⟩ : ∃ w0, W.alloc (.cells #[.int .i64 p, .int .i64 s, .int .i64 r, .int .i64 a] 23) = w0 := ⟨_, rfl⟩
  rw [hw0] at HB SG
  rw [hw0]
  clear hw0
  go_upto_region 2 with (first
    | ((with_reducible refine gate_dst (N := 16) rfl ?_); refine Kd.R_lit (Kd.int .u8) _ 5 ?hg (N := 16) ?hd (xs := ([] : List Int)) (inner := []) (ok := fun _ => True) (okp := fun _ => True) ?hr ?hp (fun _ hk => hk) trivial (Below.refl _ _) (Nat.le_refl _) (by simp) ?_; (case hd => rfl); (case hg => rfl); (case hr => first | (go_simp; done) | (go_simp; rfl)); (case hp => exact (Reps.none _ _)); intro v1 w1 ho1 hb1 hg_ hnew_; clear hg_ hnew_; have O1 := Aside0.mk (Kd.R_lower (base' := W.heap.size) ho1 HB.out.size); have B1 := Aside0.mk (below_then HB.out HB.out.size hb1); have G1 := Aside0.mk (blk_below SG.out hb1); clear ho1 hb1)
    | ((with_reducible refine gate_builtin (b := .append) (xs := #[.tmp 16, .tmp 17]) rfl ?_); at_builtin; refine Kd.R_append_rows (Kd.int .u8) (w0 := W) W.heap.size rfl (.tmp 16) (.tmp 17) 28 5 (.int .u8 0) 1 rfl Try.underlying28 info5 rfl (by decide) (by omega) v1 ([] : List Int) xs _ _ _ (fun _ => True) (fun _ => False) rfl rfl ?aO ?aR (fun _ _ h => h) (fun _ h => h.elim) ?aF ?aB ?aS ?aL ?_; (case aR => exact Kd.C_below HC.out B1.out); (case aB => exact B1.out); (case aF => exact fun _ _ => trivial); (case aO => exact O1.out); (case aS => exact B1.out.size); (case aL => have := SM.out; simp; omega); intro v2 w2 ho hb hg hat; have O2 := Aside0.mk (show Kd.R (Kd.int .u8) 5 w2 W.heap.size (fun _ => True) v2 xs from ho); have B2 := Aside0.mk hb; have G2 := Aside0.mk (blk_grown G1.out hg (Kd.R_ne O1.out G1.out (by decide))); clear ho hb hg hat; obtain ⟨A2, c2, rfl⟩ := Kd.R_slice O2.out))
  have x0 := blk_cell G2.out 0
  have x1 := blk_cell G2.out 1
  have x2 := blk_cell G2.out 2
  have x3 := blk_cell G2.out 3
  simp only [List.getElem?_toArray, List.getElem?_cons_zero, List.getElem?_cons_succ] at x0 x1 x2 x3
  go_upto_region 3 with (go_at_call 15; refine (H1.out A2 c2 _ (Kd.R_reads' O2.out).2.2 (Kd.R_reads' O2.out).2.1).mono ?_; rintro e w3 ⟨rfl, hb3⟩; have U3 := Aside0.mk hb3; clear hb3 x0 x1 x2 x3)
  obtain ⟨w4, hw4⟩ : ∃ w4, w3.alloc (.cells #[.int .i64 a1, .int .u64 a2, .string a3, .string a4] 27) = w4 := ⟨_, rfl⟩
  have U4 : Below w2.heap.size w2 w4 := by rw [← hw4]; exact below_alloc U3.out _
  have X4 := Aside0.mk (show w4.heap[w3.heap.size]? = some (.cells #[.int .i64 a1, .int .u64 a2, .string a3, .string a4] 27) by rw [← hw4]; exact blk_new _ _)
  rw [hw4]
  clear hw4
  have B4 := Aside0.mk (below_then B2.out B2.out.size U4)
  have G4 := blk_below G2.out U4
  have O4 := Aside0.mk (Kd.R_below O2.out U4)
  clear U4
  have x0 := blk_cell G4 0
  have x1 := blk_cell G4 1
  have x2 := blk_cell G4 2
  have x3 := blk_cell G4 3
  simp only [List.getElem?_toArray, List.getElem?_cons_zero, List.getElem?_cons_succ] at x0 x1 x2 x3
  clear G4
  go_upto_region 4 with (go_at_call 16; refine (H2.out A c _ (Kd.C_below HC.out B4.out) HCC.out).mono ?_; rintro e w5 ⟨rfl, hb5⟩; have U5 := Aside0.mk hb5; clear hb5 x0 x1 x2 x3)
  obtain ⟨w6, hw6⟩ : ∃ w6, w5.alloc (.cells #[.int .i64 a1, .int .u64 a2, .string a3, .string a4] 27) = w6 := ⟨_, rfl⟩
  have U6 : Below w4.heap.size w4 w6 := by rw [← hw6]; exact below_alloc U5.out _
  have Y6 := Aside0.mk (show w6.heap[w5.heap.size]? = some (.cells #[.int .i64 a1, .int .u64 a2, .string a3, .string a4] 27) by rw [← hw6]; exact blk_new _ _)
  rw [hw6]
  clear hw6
  have B6 := Aside0.mk (below_then B4.out B4.out.size U6)
  have X6 := Aside0.mk (blk_below X4.out U6)
  have O6 := Aside0.mk (Kd.R_below O4.out U6)
  clear U6
  go_wp2_with (first
    | (go_at_call 13; refine (cellarlaw05_lives.calls 100 true _ (lives_eq 100 (by decide))).mono ?_; rintro e w7 ⟨rfl, hb7⟩; have B7 := Aside0.mk (below_then B6.out B6.out.size hb7); have O7 := Aside0.mk (Kd.R_below O6.out hb7); have X7 := blk_below X6.out hb7; have Y7 := blk_below Y6.out hb7; have x0 := blk_cell X7 0; have x1 := blk_cell X7 1; have x2 := blk_cell X7 2; have x3 := blk_cell X7 3; have y0 := blk_cell Y7 0; have y1 := blk_cell Y7 1; have y2 := blk_cell Y7 2; have y3 := blk_cell Y7 3; simp only [List.getElem?_toArray, List.getElem?_cons_zero, List.getElem?_cons_succ] at x0 x1 x2 x3 y0 y1 y2 y3; clear hb7 X7 Y7)
    | (go_at_call 14; refine (cellarlaw05_same.calls (bs.length + 1) A2 c2 xs A c xs true _ (Kd.R_reads' O7.out).2.2 (Kd.R_reads' O7.out).2.1 (Kd.C_below HC.out B7.out) HCC.out HS.out).mono ?_; rintro e w8 ⟨rfl, ⟨nd, rfl⟩⟩))
  go_ret
  exact ⟨by first | rfl | simp, pw_below_drewN B7.out nd⟩
theorem ints_of (l : List Int) (h : ∀ x ∈ l, (Lit.int .u8 x).wf = true) : ∃ bs : List Nat, Bytes bs ∧ l = ints bs := by
  refine ⟨l.map Int.toNat, fun b hb => ?_, ?_⟩
  · obtain ⟨x, hx, rfl⟩ := List.mem_map.1 hb
    have := wf_u8 (h x hx); omega
  · unfold ints
    rw [List.map_map]
    refine ((List.map_congr_left (g := fun n => n) fun n hn => ?_).trans (List.map_id' _)).symm
    have := wf_u8 (h n hn)
    simp only [Function.comp]; omega
end Go.Proofs.Ytochhjimahcamaa.QRecordEncodes
namespace Go.Proofs.Ytochhjimahcamaa.Main
open Go.RowKit Go.Proofs.YtochhjimahcamaaW.PrintWords Go.Proofs.YtochhjimahcamaaW.PrintLast Go.Proofs.YtochhjimahcamaaW.PrintMore Geo Crc Go.Proofs.Ytochhjimahcamaa.QRecordEncodes
set_option linter.unusedVariables false
set_option linter.unusedSimpArgs false
theorem RecordDecodes (W : World) (a0_0 : Int) (a0_1 : Int) (a0_2 : Int) (a0_3 : Int) (a1 : Int) (A2 : Option Addr) (c2 : Nat) (l2 : List Int) (a3 : Int) (w0_0 : (Lit.int .i64 a0_0).wf = true) (w0_1 : (Lit.int .i64 a0_1).wf = true) (w0_2 : (Lit.int .i64 a0_2).wf = true) (w0_3 : (Lit.int .i64 a0_3).wf = true) (w1 : (Lit.int .u32 a1).wf = true) (hC2 : Kd.C (Kd.int .u8) W A2 l2.length l2) (hc2 : l2.length ≤ c2) (hG2 : (fun l => l.length * 1 ≤ 140737488351232 ∧ l.length ≤ 9223372036854775807 ∧ ∀ x ∈ l, (fun x => (Lit.int .u8 x).wf = true) x) l2) (w3 : (Lit.int .i64 a3).wf = true) :
    Calls Try.prog 4 #[.agg #[.int .i64 a0_0, .int .i64 a0_1, .int .i64 a0_2, .int .i64 a0_3], .int .u32 a1, .slice A2 l2.length c2, .int .i64 a3] W fun e w' => e = .returned (.bool true) ∧ Below W.heap.size W w' := by
  obtain ⟨bs, hb, rfl⟩ := ints_of l2 hG2.2.2
  obtain ⟨x, rfl⟩ := Int.eq_ofNat_of_zero_le (wf_u32 w1).1
  have h3 := wf_i64 w3
  exact decodes_walk a0_0 a0_1 a0_2 a0_3 x (by have := (wf_u32 w1).2; omega) A2 c2 bs a3 h3.1 (by omega) hb (by have := hG2.1; rw [ints_length] at this; omega) W hC2 hc2
end Go.Proofs.Ytochhjimahcamaa.Main
