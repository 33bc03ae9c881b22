/- Distances walked.
   No condition. -/
import Derived.Test.YteaidghanfjigaaDistA
import Derived.ArgAppend
import Derived.BigRegion
import Derived.Deep.QuietTactic
import Derived.BigQuiet
import Derived.Deep.RegionHeld3
import Derived.ChangeAlike
import Derived.RegionTactic
import Derived.Maps.OwnSet
import Derived.Maps.OwnOps
import Derived.Deep.DeepCutAuto
import Derived.Deep.CutBlock
import Derived.Deep.RegionLaw
import Derived.StillTailTactics
namespace Go.Proofs.Yteaidghanfjigaa.QCurveCurves
open Go.RowKit Go.Proofs.YteaidghanfjigaaW.PrintWords Go.Proofs.YteaidghanfjigaaW.PrintLast Go.Proofs.YteaidghanfjigaaW.PrintMore
set_option linter.unusedVariables false
set_option linter.unusedSimpArgs false
theorem zero3 (w : World) : (zeroValue 3).run Try.prog w = .ok (.int .i64 0) w := by kernel_rfl
theorem make_ints (n : Nat) (h : n ≤ 2000) (W : World) : (Instr.makeSlice 44 (.int .i64 (n : Int)) (.int .i64 (n : Int))).run Try.prog W = .ok (.slice (some ⟨W.heap.size, 0, none⟩) n n) (W.alloc (.cells (nums .i64 (List.replicate n 0)).toArray 3)) := by
  obtain ⟨i0, hi, hz0, hz1, hz2⟩ := info_parts (show (Try.prog.info? 3).map (fun i => (i.zero, i.size, i.bytes)) = some (some (.int .i64 0), 1, 8) by kernel_rfl)
  have := run_make (P := Try.prog) W 44 3 i0 (.int .i64 0) Try.underlying44 hi hz0 .i64 .i64 (n : Int) (n : Int) (by omega) (by omega) (by rw [hz2]; omega) (by omega)
  rw [this, hz1]
  rw [Int.toNat_natCast]
  congr 3
  apply Array.toList_inj.1
  simp [madeCells, nums, Value.cells]
  rw [List.eq_replicate_iff]
  refine ⟨by simp, fun b hb => ?_⟩
  obtain ⟨x, _, rfl⟩ := List.mem_map.1 hb
  simp [Nat.mod_one]
theorem row_own (W : World) (base g : Nat) (l : List Int) (n : Nat) (hl : l.length = n) (hb : base ≤ g) (hm : n ≤ 17592186043904) (h : W.heap[g]? = some (.cells (nums .i64 l).toArray 3 (0, 0))) :
    Kd.R (Kd.int .i64) 3 W base (fun k => k = g) (.slice (some ⟨g, 0, none⟩) n n) l := by
  subst hl
  refine Kd.R_of_own ⟨by simp [encs], .inr ⟨g, l.length, _, rfl, hb, h, by omega, by unfold maxLen; omega, ?_, ?_⟩⟩ (fun k hk => by simp [Value.ownBlock] at hk; exact hk.symm)
  · rw [List.size_toArray, nums_length, Nat.mul_one]
  · rw [List.toList_toArray, Nat.mul_one]
    unfold nums encs
    exact List.take_of_length_le (by simp)
theorem upTo_call (w : World) (base nb ln : Nat) (S : List Int) (hS : S.length = ln + 1) (j r : Int) (hR : Kd.R (Kd.int .i64) 3 w base (fun k => k = nb) (.slice (some ⟨nb, 0, none⟩) (ln + 1) (ln + 1)) S) (h : curve_sums_upTo.f 1100 S j = some r) :
    Calls Try.prog 30 #[.slice (some ⟨nb, 0, none⟩) (ln + 1) (ln + 1), .int .i64 j] w fun e w' => e = .returned (.int .i64 r) ∧ Drawn0 w w' := by
  have h1 := Kd.R_reads' hR
  have := curve_sums_upTo.calls 1100 (some ⟨nb, 0, none⟩) (ln + 1) S j r w (by exact h1.2.2) (by rw [hS]; exact Nat.le_refl _) h
  rw [hS] at this
  exact this
theorem add_call (w0 w : World) (hB : Below w0.heap.size w0 w) (nb ln : Nat) (S S' : List Int) (a v : Int) (hR : Kd.R (Kd.int .i64) 3 w w0.heap.size (fun k => k = nb) (.slice (some ⟨nb, 0, none⟩) (ln + 1) (ln + 1)) S) (h : curve_sums_add.f 1100 S a v = some S') :
    Calls Try.prog 31 #[.slice (some ⟨nb, 0, none⟩) (ln + 1) (ln + 1), .int .i64 a, .int .i64 v] w fun e w' => e = .returned (.tuple #[]) ∧ Kd.R (Kd.int .i64) 3 w' w0.heap.size (fun k => k = nb) (.slice (some ⟨nb, 0, none⟩) (ln + 1) (ln + 1)) S' ∧ Below w0.heap.size w0 w' ∧ Kept w w' (fun k => k = nb) := by
  refine (curve_sums_add.calls 1100 (fun k => k = nb) _ S a v S' w0 w hB hR h).mono ?_
  rintro e w' ⟨h1, h2, h3, h4⟩
  exact ⟨h1, R_same h2, h3, h4⟩
set_option maxHeartbeats 4000000 in
set_option maxRecDepth 100000 in
theorem dist_walk (A : Option Addr) (c : Nat) (L : List Nat) (hL : L.length ≤ 1024) (hwf : ∀ x ∈ L, x < 18446744073709551616) (w : World) (hC : Kd.C (Kd.int .u64) w A (zs L).length (zs L)) (hc : L.length ≤ c) :
    Calls Try.prog 13 #[.slice A L.length c] w fun e w' => ∃ v, e = .returned (.tuple #[v, .int .i64 0]) ∧ Kd.R (Kd.int .i64) 3 w' w.heap.size (fun _ => True) v (outD L L.length) ∧ Below w.heap.size w w' := by
  have HC := Aside0.mk hC
  have HWF := Aside0.mk hwf
  obtain ⟨ln, hln⟩ : ∃ ln, L.length = ln := ⟨_, rfl⟩
  have htl : Aside0 (∀ w', Kd.C (Kd.int .u64) w' A (zs L).length (zs L) → Calls Try.prog 29 #[.slice A ln c] w' fun e w'' => e = .returned (.int .i64 0) ∧ Drawn0 w' w'') := ⟨fun w' h => by
    have := curve_tooLong.calls A c (zs L) 0 w' h (by rw [zs_length]; exact hc) (by unfold curve_tooLong.f; rw [if_neg (by rw [zs_length]; omega)])
    rw [zs_length, hln] at this
    exact this⟩
  rw [hln] at hL
  have hmm := @run_makeMap Try.prog
  have hmk : ∀ W : World, (Instr.makeSlice 44 (.int .i64 ((ln : Int) + 1)) (.int .i64 ((ln : Int) + 1))).run Try.prog W = .ok (.slice (some ⟨W.heap.size, 0, none⟩) (ln + 1) (ln + 1)) (W.alloc (.cells (nums .i64 (List.replicate (ln + 1) 0)).toArray 3)) := fun W => make_ints (ln + 1) (by omega) W
  have HL := Aside0.mk hL
  have HLN := Aside0.mk hln
  rw [hln]
  have l1 : IntKind.i64.wrap ((ln : Int) + 1) = (ln : Int) + 1 := by rw [IntKind.wrap_i64]; omega
  have l2 : wrap64 ((ln : Int) + 1) = (ln : Int) + 1 := cw64' (by omega) (by omega)
  clear hC hc hwf hln
  go_enter Try.func13, Try.ntmps13
  go_upto_region 6 with (go_at_call 29; refine (htl.out _ HC.out).mono ?_; rintro e w1 ⟨rfl, ⟨n1, hn1⟩⟩; have B1 := Aside0.mk (show Below w.heap.size w w1 by rw [hn1]; exact pw_below_drewN (Below.refl _ _) n1); clear hn1)
  obtain ⟨w2, hw2⟩ : ∃ w2, (w1.alloc (.map #[] 0)).alloc (.cells (nums .i64 (List.replicate (ln + 1) 0)).toArray 3) = w2 := ⟨_, rfl⟩
  have U2 : Below w1.heap.size w1 w2 := by rw [← hw2]; exact below_alloc (below_alloc (Below.refl _ _) _) _
  have M2 : w2.heap[w1.heap.size]? = some (.map #[] 0) := by rw [← hw2]; exact blk_alloc (blk_new w1 _) _
  have N2 : w2.heap[w1.heap.size + 1]? = some (.cells (nums .i64 (List.replicate (ln + 1) 0)).toArray 3 (0, 0)) := by
    have h := blk_new (w1.alloc (.map #[] 0)) (.cells (nums .i64 (List.replicate (ln + 1) 0)).toArray 3)
    rw [World.size_alloc] at h
    rw [← hw2]; exact h
  have S2 := blk_lt N2
  rw [hw2]
  clear hw2 hmk hmm l1 l2
  have D0 : DSt w L (w1.heap.size + 1) w1.heap.size 0 (.slice none 0 0) w2 := by
    have h1 := B1.out.size
    refine DSt.start (below_then B1.out B1.out.size U2) ?_ M2 (by omega) (by omega) (by omega) S2
    rw [HLN.out]
    exact row_own w2 w.heap.size (w1.heap.size + 1) _ (ln + 1) (by simp) (by omega) (by have := HL.out; omega) N2
  clear U2 M2 N2 S2 B1
  obtain ⟨nb, hnb⟩ : ∃ nb, w1.heap.size + 1 = nb := ⟨_, rfl⟩
  obtain ⟨mb, hmb⟩ : ∃ mb, w1.heap.size = mb := ⟨_, rfl⟩
  rw [hnb, hmb] at D0
  have e1 : w1.heap.size + 1 = nb := hnb
  have SD0 := Aside0.mk D0
  rw [hmb]
  try rw [hnb]
  try (rw [← hmb, hnb, hmb])
  clear D0 e1
  go_wp2
  go_loopw [7, 25] (fun v idx wr => ∃ i : Nat, i ≤ ln ∧ idx = .int .i64 i ∧ Aside0 (DSt w L nb mb i v wr)) (fun _ idx _ => ln - (intOf idx).toNat)
  case atStart => exact ⟨0, Nat.zero_le _, rfl, SD0⟩
  case round =>
    clear SD0
    rename_i v idx wr
    obtain ⟨i, hi, rfl, HD⟩ := hrel
    by_cases hlt : i < ln
    · obtain ⟨ad, eA, k0⟩ := Kd.at_int (Kd.C_below HC.out HD.out.below) (i : Int) (by omega) (by rw [zs_length, HLN.out]; omega)
      subst eA
      rw [rd_zs] at k0
      simp only [Int.toNat_natCast] at k0
      have m0 : (0 : Int) ≤ (i : Int) := by omega
      have m1 : (i : Int) < (ln : Int) := by omega
      have WFX := Aside0.mk (wf64_mk (n := L.getD i 0) (HWF.out _ (by rw [List.getD_eq_getElem?_getD, List.getElem?_eq_getElem (by rw [HLN.out]; exact hlt)]; exact List.getElem_mem _)))
      obtain ⟨S, P, f, hs, hR⟩ := HD.out.sums
      rw [HLN.out] at hR
      have hst := hs.step (by rw [HLN.out]; exact hlt) (by rw [HLN.out]; exact HL.out)
      have hsl : S.length = ln + 1 := by rw [hs.len, HLN.out]
      obtain ⟨Ao, co, eo⟩ := Kd.R_slice HD.out.out
      subst eo
      rw [outD_length] at HD
      rw [outD_length]
      have RW := Aside0.mk hR
      have SL := Aside0.mk hsl
      clear hs hR hsl
      rcases hst with ⟨hl, hd0, S', P', f', ha, hs'⟩ | ⟨p, u, d, S1, hl, hp, hu, hdn, hsub, hbd, ha1, S', P', f', ha, hs'⟩
      · have SS := Aside0.mk hs'
        have HA := Aside0.mk ha
        have HF := Aside0.mk (show lastF L i ((L.getD i 0 : Nat) : Int) = none by unfold lastF; rw [Int.toNat_natCast, hl]; rfl)
        have HD0 := Aside0.mk hd0
        obtain ⟨cnt, hm⟩ := HD.out.map
        have HM := Aside0.mk hm
        clear hs' ha hl hd0 hm
        go_wp2_with (first
          | (at_lookup; refine wpList_mapv_miss _ rfl (.tmp 31) (.tmp 32) 43 3 rfl Try.underlying43 (.int .i64 0) (zero3 _) (.lit (.int .i64 0)) [] (intElem_mk (by decide)) (fun v ps h => intElem_inv v 0 ps h) mb i cnt (lastF L i) rfl HM.out ((L.getD i 0 : Nat) : Int) WFX.out rfl HF.out ?_)
          | (go_at_call 31; refine (add_call w wr HD.out.below nb ln S S' (i : Int) 1 RW.out HA.out).mono ?_; rintro e w2 ⟨rfl, hR2, hb2, hk2⟩; have RB := Aside0.mk (show Kd.R (Kd.int .i64) 3 w2 w.heap.size (fun k => k = nb) (.slice (some ⟨nb, 0, none⟩) (L.length + 1) (L.length + 1)) S' by rw [HLN.out]; exact hR2); have BB := Aside0.mk hb2; have KEPT := Aside0.mk hk2; obtain ⟨cntb, hmb2⟩ := HD.out.mapAt hk2; have MB := Aside0.mk hmb2; clear hR2 hb2 hk2 hmb2 k0)
          | (at_mapUpdate; refine wpList_mapv_put _ rfl (.tmp 50) (.tmp 51) (.tmp 52) 43 3 rfl Try.underlying43 mb i cntb (lastF L i) rfl MB.out (by unfold maxLen; have := HL.out; omega) ((L.getD i 0 : Nat) : Int) WFX.out rfl (.int .i64 (i : Int)) rfl (i : Int) [] (intElem_mk (WalkArith.wf_i64 (by have := HL.out; omega))) ?_; intro w3 hm3 hg3; have M3 := Aside0.mk hm3; have G3 := Aside0.mk hg3; have B3 := Aside0.mk (BB.out.grown hg3 BB.out.size (fun k hk => by cases hk; exact HD.out.mb0)); have OUT3 := Aside0.mk (HD.out.outAt KEPT.out hg3); have NL := Aside0.mk (show nb < w3.heap.size ∧ mb < w3.heap.size from ⟨Nat.lt_of_lt_of_le (Nat.lt_of_lt_of_le HD.out.nbl KEPT.out.1) hg3.size, Nat.lt_of_lt_of_le (Nat.lt_of_lt_of_le HD.out.mbl KEPT.out.1) hg3.size⟩); clear hm3 hg3)
          | ((with_reducible refine gate_builtin (b := .append) (xs := #[.tmp 53, .tmp 55]) rfl ?_); at_builtin; refine Kd.R_append (Kd.int .i64) (w0 := w) w.heap.size rfl (.tmp 53) (.tmp 55) 28 3 (.int .i64 0) 8 rfl Try.underlying28 info3 rfl (by decide) (by decide) (.slice Ao i co) (outD L i) (0 : Int) [.int .i64 0] (fun k => k ≠ nb ∧ k ≠ mb) (fun _ => False) rfl rfl ?aP (fun _ hk => hk.elim) ?aF ?aO ?aB ?aS ?aL ?_; (case aP => exact rfl); (case aF => exact fun k hk => ⟨fun e => by have := NL.out; omega, fun e => by have := NL.out; omega⟩); (case aO => exact OUT3.out); (case aB => exact B3.out); (case aS => exact B3.out.size); (case aL => (rw [outD_length]; have := HL.out; omega)); intro v4 w4 ho4 hb4 hg4 hat4; have D4 := Aside0.mk (HD.out.next KEPT.out RB.out SS.out M3.out G3.out (by rw [HD0.out]; exact ho4) hb4 hg4); clear ho4 hb4 hg4 hat4))
        go_roundw
        case rel => exact ⟨i + 1, by omega, by go_num, D4⟩
        case measure => simp [intOf]; omega
      · have SS := Aside0.mk hs'
        have HA := Aside0.mk ha
        have HA1 := Aside0.mk ha1
        have HU := Aside0.mk hu
        have HD1 := Aside0.mk hdn
        have HF := Aside0.mk (show lastF L i ((L.getD i 0 : Nat) : Int) = some (p : Int) by unfold lastF; rw [Int.toNat_natCast, hl]; rfl)
        have hw1 : wrap64 (u - d) = ((dd L i : Nat) : Int) := (cw64' (by omega) (by omega)).trans hsub
        have hw2 : IntKind.i64.wrap (u - d) = ((dd L i : Nat) : Int) := by rw [IntKind.wrap_i64]; omega
        obtain ⟨cnt, hm⟩ := HD.out.map
        have HM := Aside0.mk hm
        clear hs' ha ha1 hu hdn hl hsub hbd hp hm
        obtain ⟨dv, hdv⟩ : ∃ dv : Int, ((dd L i : Nat) : Int) = dv := ⟨_, rfl⟩
        rw [hdv] at hw1 hw2
        have HDV := Aside0.mk hdv
        clear hdv
        go_wp2_with (first
          | (at_lookup; refine wpList_mapv_hit _ rfl (.tmp 31) (.tmp 32) 43 3 rfl Try.underlying43 (.int .i64 0) (zero3 _) (.lit (.int .i64 0)) [] (intElem_mk (by decide)) (Value.int .i64) intElem_inv mb i cnt (lastF L i) rfl HM.out ((L.getD i 0 : Nat) : Int) WFX.out rfl (p : Int) HF.out ?_)
          | (go_at_call 30; refine (upTo_call wa1 w.heap.size nb ln S SL.out (p : Int) d RA1.out HD1.out).mono ?_; rintro e wa2 ⟨rfl, ⟨n2, hn2⟩⟩; have UA2 := Aside0.mk (show Below wr.heap.size wr wa2 by rw [hn2]; exact pw_below_drewN UA1.out n2); have RA2 := Aside0.mk (Kd.R_below RW.out UA2.out); clear hn2)
          | (go_at_call 30; refine (upTo_call wr w.heap.size nb ln S SL.out (i : Int) u RW.out HU.out).mono ?_; rintro e wa1 ⟨rfl, ⟨n1, hn1⟩⟩; have UA1 := Aside0.mk (show Below wr.heap.size wr wa1 by rw [hn1]; exact pw_below_drewN (Below.refl _ _) n1); have RA1 := Aside0.mk (Kd.R_below RW.out UA1.out); clear hn1)
          | (go_at_call 31; refine (add_call w wb1 BB1.out nb ln S1 S' (i : Int) 1 RB1.out HA.out).mono ?_; rintro e w2 ⟨rfl, hR2, hb2, hk2⟩; have RB := Aside0.mk (show Kd.R (Kd.int .i64) 3 w2 w.heap.size (fun k => k = nb) (.slice (some ⟨nb, 0, none⟩) (L.length + 1) (L.length + 1)) S' by rw [HLN.out]; exact hR2); have BB := Aside0.mk hb2; have KEPT := Aside0.mk (show Kept wr w2 (fun k => k = nb) from K1.out.then_ hk2 (fun k hk => .inl hk)); obtain ⟨cntb, hmb2⟩ := HD.out.mapAt KEPT.out; have MB := Aside0.mk hmb2; clear hR2 hb2 hk2 hmb2)
          | (go_at_call 31; refine (add_call w wa2 (below_then HD.out.below HD.out.below.size UA2.out) nb ln S S1 (p : Int) (-1) RA2.out HA1.out).mono ?_; rintro e wb1 ⟨rfl, hR1, hb1, hk1⟩; have RB1 := Aside0.mk hR1; have BB1 := Aside0.mk hb1; have K1 := Aside0.mk (show Kept wr wb1 (fun k => k = nb) from (Kept.of_below UA2.out (fun k => k = nb)).then_ hk1 (fun k hk => .inl hk)); clear hR1 hb1 hk1 k0)
          | (at_mapUpdate; refine wpList_mapv_put _ rfl (.tmp 50) (.tmp 51) (.tmp 52) 43 3 rfl Try.underlying43 mb i cntb (lastF L i) rfl MB.out (by unfold maxLen; have := HL.out; omega) ((L.getD i 0 : Nat) : Int) WFX.out rfl (.int .i64 (i : Int)) rfl (i : Int) [] (intElem_mk (WalkArith.wf_i64 (by have := HL.out; omega))) ?_; intro w3 hm3 hg3; have M3 := Aside0.mk hm3; have G3 := Aside0.mk hg3; have B3 := Aside0.mk (BB.out.grown hg3 BB.out.size (fun k hk => by cases hk; exact HD.out.mb0)); have OUT3 := Aside0.mk (HD.out.outAt KEPT.out hg3); have NL := Aside0.mk (show nb < w3.heap.size ∧ mb < w3.heap.size from ⟨Nat.lt_of_lt_of_le (Nat.lt_of_lt_of_le HD.out.nbl KEPT.out.1) hg3.size, Nat.lt_of_lt_of_le (Nat.lt_of_lt_of_le HD.out.mbl KEPT.out.1) hg3.size⟩); clear hm3 hg3)
          | ((with_reducible refine gate_builtin (b := .append) (xs := #[.tmp 53, .tmp 55]) rfl ?_); at_builtin; refine Kd.R_append (Kd.int .i64) (w0 := w) w.heap.size rfl (.tmp 53) (.tmp 55) 28 3 (.int .i64 0) 8 rfl Try.underlying28 info3 rfl (by decide) (by decide) (.slice Ao i co) (outD L i) dv [.int .i64 dv] (fun k => k ≠ nb ∧ k ≠ mb) (fun _ => False) rfl rfl ?aP (fun _ hk => hk.elim) ?aF ?aO ?aB ?aS ?aL ?_; (case aP => exact rfl); (case aF => exact fun k hk => ⟨fun e => by have := NL.out; omega, fun e => by have := NL.out; omega⟩); (case aO => exact OUT3.out); (case aB => exact B3.out); (case aS => exact B3.out.size); (case aL => (rw [outD_length]; have := HL.out; omega)); intro v4 w4 ho4 hb4 hg4 hat4; have D4 := Aside0.mk (HD.out.next KEPT.out RB.out SS.out M3.out G3.out (by rw [HDV.out]; exact ho4) hb4 hg4); clear ho4 hb4 hg4 hat4))
        go_roundw
        case rel => exact ⟨i + 1, by omega, by go_num, D4⟩
        case measure => simp [intOf]; omega
    · obtain rfl : i = ln := by omega
      have R1 := Aside0.mk HD.out.out
      have B1 := Aside0.mk HD.out.below
      go_wp2
      go_ret2
      exact ⟨_, rfl, Kd.R_mono R1.out (fun _ _ => trivial), B1.out⟩
set_option maxHeartbeats 4000000 in
set_option maxRecDepth 100000 in
theorem dist_long (A : Option Addr) (c ln : Nat) (w : World) (h : ∀ w', Below w.heap.size w w' → Calls Try.prog 29 #[.slice A ln c] w' fun e w'' => e = .returned (.int .i64 270) ∧ Drawn0 w' w'') :
    Calls Try.prog 13 #[.slice A ln c] w fun e w' => e = .returned (.tuple #[.slice none 0 0, .int .i64 270]) ∧ Below w.heap.size w w' := by
  have H := Aside0.mk h
  clear h
  go_enter Try.func13, Try.ntmps13
  go_wp2_with (go_at_call 29; refine (H.out w (Below.refl _ _)).mono ?_; rintro e w1 ⟨rfl, ⟨n1, hn1⟩⟩; have B1 := Aside0.mk (show Below w.heap.size w w1 by rw [hn1]; exact pw_below_drewN (Below.refl _ _) n1); clear hn1)
  go_ret2
  exact ⟨rfl, B1.out⟩
/-- What Distances answers. -/
def distF (l0 : List Int) : Option (List Int × Int) := if (l0.length : Int) > 1024 then some ([], 270) else if ∀ x ∈ l0, 0 ≤ x ∧ x < 18446744073709551616 then some (outD (l0.map Int.toNat) l0.length, 0) else none
theorem zs_toNat {l : List Int} (h : ∀ x ∈ l, 0 ≤ x ∧ x < 18446744073709551616) : zs (l.map Int.toNat) = l := by
  unfold zs
  rw [List.map_map]
  refine (List.map_congr_left (g := fun n => n) fun n hn => ?_).trans (List.map_id' _)
  have := h n hn
  simp only [Function.comp]; omega
theorem long_call (A : Option Addr) (c : Nat) (l0 : List Int) (w : World) (hC : Kd.C (Kd.int .u64) w A l0.length l0) (hc : l0.length ≤ c) (h : (l0.length : Int) > 1024) : ∀ w', Below w.heap.size w w' → Calls Try.prog 29 #[.slice A l0.length c] w' fun e w'' => e = .returned (.int .i64 270) ∧ Drawn0 w' w'' :=
  fun w' hb => curve_tooLong.calls A c l0 270 w' (Kd.C_below hC hb) hc (by unfold curve_tooLong.f; rw [if_pos h])
theorem dist_calls (A0 : Option Addr) (c0 : Nat) (l0 : List Int) (r1 : List Int) (r2 : Int) (w : World) (hr0 : Kd.C (Kd.int .u64) w A0 l0.length l0) (hc0 : l0.length ≤ c0) (h : distF l0 = some (r1, r2)) :
    Calls Try.prog 13 #[.slice A0 l0.length c0] w fun e w' => ∃ v0_ : Value, e = .returned (.tuple #[v0_, .int .i64 r2]) ∧ Kd.R (Kd.int .i64) 3 w' w.heap.size (fun _ => True) v0_ r1 ∧ Below w.heap.size w w' := by
  unfold distF at h
  by_cases c : (l0.length : Int) > 1024
  · rw [if_pos c] at h
    injection h with h; injection h with h1 h2; subst h1 h2
    refine (dist_long A0 c0 l0.length w (long_call A0 c0 l0 w hr0 hc0 c)).mono ?_
    rintro e w' ⟨rfl, hb⟩
    exact ⟨_, rfl, Kd.R_nil _ _ _ _ _, hb⟩
  · rw [if_neg c] at h
    by_cases hw : ∀ x ∈ l0, 0 ≤ x ∧ x < 18446744073709551616
    · rw [if_pos hw] at h
      injection h with h; injection h with h1 h2; subst h1 h2
      have e := zs_toNat hw
      have hl : (l0.map Int.toNat).length = l0.length := List.length_map ..
      have := dist_walk A0 c0 (l0.map Int.toNat) (by rw [hl]; omega) (fun x hx => by obtain ⟨y, hy, rfl⟩ := List.mem_map.1 hx; have := hw y hy; omega) w (by rw [e]; exact hr0) (by rw [hl]; exact hc0)
      rw [hl] at this
      exact this
    · rw [if_neg hw] at h; cases h
end Go.Proofs.Yteaidghanfjigaa.QCurveCurves
