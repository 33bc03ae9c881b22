/- The document's Decode of a record.
   No condition. -/
import Derived.Test.YtochhjimahcamaaNumc
import Derived.ArgAppend
import Derived.Lib.SlBytesConst
import Derived.BigRegion
import Derived.Deep.QuietTactic
import Derived.BigQuiet
import Derived.Deep.RegionHeld3
import Derived.ChangeAlike
import Derived.RegionTactic
namespace Go.Proofs.Ytochhjimahcamaa.QRecordEncodes
open Geo Crc
open Go.RowKit Go.Proofs.YtochhjimahcamaaW.PrintWords Go.Proofs.YtochhjimahcamaaW.PrintLast Go.Proofs.YtochhjimahcamaaW.PrintMore
set_option linter.unusedVariables false
set_option linter.unusedSimpArgs false
theorem conv_seg (w' : World) (ad2 : Addr) (c3 : Nat) (t : List Nat) (lo hi : Nat) (hC : Kd.C (Kd.int .u8) w' (some ad2) (ints t).length (ints t)) (hc : (ints t).length ≤ c3) (h1 : lo ≤ hi) (h2 : hi ≤ t.length) :
    Sem.run Try.prog (convert 28 9 (.slice (if c3 = lo then some ad2 else some (ad2.add lo)) (hi - lo) (c3 - lo))) w' = .ok (.string (strOfNums (ints ((t.take hi).drop lo)))) w' := by
  have hl : (ints t).length = t.length := ints_length t
  have hl2 : ((ints t).take hi).length = hi := by rw [List.length_take]; omega
  have h := Kd.C_drop (c := c3) (m := lo) (Kd.C_take hC (m := hi) (by omega)) (by omega) (by omega)
  have e2 : lo * (Kd.int .u8).sz = lo := Nat.mul_one lo
  rw [e2] at h
  have hc2 := Kd.C_string (P := Try.prog) (c := c3 - lo) Try.underlying28 Try.underlying5 Try.underlying9 h
  rw [ints_take, ints_drop, ints_length, List.length_drop, List.length_take, Nat.min_eq_left h2] at hc2
  exact hc2
theorem rnumC (A : Option Addr) (c : Nat) (t : List Nat) (tl a n : Nat) (K N : Int) (v : Nat) (w' : World) (hb : Bytes t) (hl : t.length = tl) (hm : tl < 140737488355328) (ha : a + n ≤ tl) (hn : n ≤ 8) (hK : K = (a : Int)) (hN : N = (n : Int)) (hC : Kd.C (Kd.int .u8) w' A (ints t).length (ints t)) (hc : tl ≤ c) (hv : num ((t.drop a).take n) = v) :
    Calls Try.prog 37 #[.slice A tl c, .int .i64 K, .int .i64 N] w' fun e w'' => e = .returned (.int .u64 (v : Int)) ∧ Drawn0 w' w'' := by
  subst hK hN
  have h := cellarref05_number.calls 9 A c (ints t) (a : Int) (n : Int) _ w' hC (by rw [ints_length, hl]; exact hc) (rnumber_eq 9 t a n hb hn (by omega) (by omega) (by decide))
  rw [show (ints t).length = tl by rw [ints_length, hl], hv] at h
  exact h
theorem keyN_eq (t : List Nat) : num ((t.drop 2).take 2) = keyN t := by unfold keyN; rw [List.drop_take]
theorem valN_eq (t : List Nat) : num ((t.drop 4).take 4) = valN t := by unfold valN; rw [List.drop_take]
theorem verN_eq (t : List Nat) : num ((t.drop 8).take 8) = verN t := by unfold verN; rw [List.drop_take]
theorem keyN_lt (t : List Nat) (hb : Bytes t) : keyN t < 65536 := by
  rw [← keyN_eq]
  exact Nat.lt_of_lt_of_le (num_lt _ (bytes_take (bytes_drop hb 2) 2)) (Nat.le_trans (Nat.pow_le_pow_right (n := 256) (by decide) (show _ ≤ 2 by rw [List.length_take]; omega)) (by decide))
theorem valN_lt (t : List Nat) (hb : Bytes t) : valN t < 4294967296 := by
  rw [← valN_eq]
  exact Nat.lt_of_lt_of_le (num_lt _ (bytes_take (bytes_drop hb 4) 4)) (Nat.le_trans (Nat.pow_le_pow_right (n := 256) (by decide) (show _ ≤ 4 by rw [List.length_take]; omega)) (by decide))
theorem dec_bad {p s r a : Int} {salt : Nat} {bs : List Nat} {x : Int} (h : ¬ Ok p s r a) : dec p s r a salt bs x = noA 20 := by unfold dec; rw [if_neg h]
theorem enc_len (p s r a : Int) (salt : Nat) (kind : Int) (ver : Nat) (K V : ByteArray) : (enc p s r a salt kind ver K V).1.length ≤ 262144 + 24 + 255 := by
  unfold enc
  by_cases h : Ok p s r a
  · rw [if_pos h]
    by_cases c : (kind = 1 ∨ kind = 2) ∧ ¬ (kind = 2 ∧ V.size ≠ 0)
    · rw [if_pos c]
      by_cases c0 : (siz p s r a K.size V.size).2 = 0
      · rw [if_pos c0]
        have hz := siz_small h c0
        simp only [recs, List.length_append, hdr_length, leb_length]
        have e1 : (natsOf K).length = K.size := by simp [natsOf]
        have e2 : (natsOf V).length = V.size := by simp [natsOf]
        rw [e1, e2]
        omega
      · rw [if_neg c0]; simp
    · rw [if_neg c]; simp
  · rw [if_neg h]; simp
set_option maxHeartbeats 4000000 in
set_option maxRecDepth 100000 in
/-- The document's Decode answers dec. -/
theorem rdec_walk (p s r a : Int) (salt : Nat) (hs : salt < 4294967296) (A : Option Addr) (c : Nat) (bs : List Nat) (x : Int) (hb : Bytes bs) (hm : bs.length < 140737488355328) (hx0 : -9223372036854775808 ≤ x) (hx1 : x < 9223372036854775808) (w : World) (hC : Kd.C (Kd.int .u8) w A (ints bs).length (ints bs)) (hc : (ints bs).length ≤ c) :
    Calls Try.prog 16 #[.agg #[.int .i64 p, .int .i64 s, .int .i64 r, .int .i64 a], .int .u32 (salt : Int), .slice A (ints bs).length c, .int .i64 x] w fun e w' => e = .returned (.tuple #[.agg #[.int .i64 (dec p s r a salt bs x).1, .int .u64 (dec p s r a salt bs x).2.1, .string (dec p s r a salt bs x).2.2.1, .string (dec p s r a salt bs x).2.2.2.1], .int .i64 (dec p s r a salt bs x).2.2.2.2.1, .int .i64 (dec p s r a salt bs x).2.2.2.2.2]) ∧ Below w.heap.size w w' := by
  have hB0 := ((Below.refl w.heap.size w).alloc (Nat.le_refl _) (.cells #[.int .i64 p, .int .i64 s, .int .i64 r, .int .i64 a] 23)).alloc (by simp) (.cells #[.int .i64 0, .int .u64 0, .string (⟨#[]⟩ : ByteArray), .string (⟨#[]⟩ : ByteArray)] 27)
  have hF := blk_new (w.alloc (.cells #[.int .i64 p, .int .i64 s, .int .i64 r, .int .i64 a] 23)) (.cells #[.int .i64 0, .int .u64 0, .string (⟨#[]⟩ : ByteArray), .string (⟨#[]⟩ : ByteArray)] 27)
  have hG := blk_alloc (blk_new w (.cells #[.int .i64 p, .int .i64 s, .int .i64 r, .int .i64 a] 23)) (.cells #[.int .i64 0, .int .u64 0, .string (⟨#[]⟩ : ByteArray), .string (⟨#[]⟩ : ByteArray)] 27)
  simp only [World.size_alloc] at hF
  have SB := Aside0.mk hB0
  have SF := Aside0.mk hF
  have SG := Aside0.mk hG
  have HC := Aside0.mk hC
  have HCC := Aside0.mk hc
  have SM := Aside0.mk (show (ints bs).length < 140737488355328 by rw [ints_length]; exact hm)
  clear hB0 hF hG hC hc
  by_cases ho : Ok p s r a
  · have hck : Aside0 (cellarref02_Check.f (0 + 20) p s r a = some 0) := ⟨by rw [rcheck_eq]; unfold chk; rw [if_pos ho]⟩
    obtain ⟨n, hn⟩ : ∃ n, (ints bs).length = n := ⟨_, rfl⟩
    have hbn : bs.length = n := by rw [← hn, ints_length]
    rw [hn]
    by_cases h1 : x < 0 ∨ x > (n : Int)
    · have hr : dec p s r a salt bs x = noA 1 := by unfold dec; rw [if_pos ho, if_pos (by rw [hbn]; exact h1)]
      rw [hr]
      clear ho hr hbn hn hm hb
      have h1' : x < 0 ∨ (n : Int) < x := h1
      clear h1
      go_enter Try.func16, Try.ntmps16
      go_wp2_with (go_at_call 31; refine (cellarref02_Check.calls (0 + 20) p s r a 0 _ hck.out).mono ?_; rintro e w1 ⟨rfl, hb1⟩; have B1 := Aside0.mk (below_then SB.out SB.out.size hb1); have F1 := Aside0.mk (blk_below SF.out hb1); have G1 := Aside0.mk (blk_below SG.out hb1); have y0 := blk_cell F1.out 0; have y1 := blk_cell F1.out 1; have y2 := blk_cell F1.out 2; have y3 := blk_cell F1.out 3; have z0 := blk_frozen F1.out 0; have z1 := blk_frozen F1.out 1; have z2 := blk_frozen F1.out 2; have z3 := blk_frozen F1.out 3; simp only [List.getElem?_toArray, List.getElem?_cons_zero, List.getElem?_cons_succ] at y0 y1 y2 y3; clear hb1)
      all_goals (first
        | (exfalso; omega)
        | (refine bodyPost_ret (results_ctt rfl _ _ (w.heap.size + 1) 27 #[.int .i64 0, .int .u64 0, .string (⟨#[]⟩ : ByteArray), .string (⟨#[]⟩ : ByteArray)] (0, 0) _ rfl (put4 (by first | exact F1.out | exact blk_drewN F1.out _) _ _ _ _) Try.underlying27 rfl (by kernel_rfl)) rfl ?_; exact ⟨rfl, below4 (by first | exact B1.out | exact pw_below_drewN B1.out _) (by omega) _ _ _ _⟩))
    · obtain ⟨x, rfl⟩ := Int.eq_ofNat_of_zero_le (show 0 ≤ x by omega)
      have hxn : x ≤ n := by omega
      clear h1 hx0 hx1
      have g1 : decide ((x : Int) < 0) = false := decide_eq_false (by omega)
      have g2 : decide ((n : Int) < (x : Int)) = false := decide_eq_false (by omega)
      have g3 : decide (n < x) = false := decide_eq_false (by omega)
      have hd0 : dec p s r a salt bs (x : Int) = if (x : Int) = (n : Int) then noA 53 else if bs.getD x 0 = 255 then noA 53 else decT p s r a salt (bs.drop x) := by
        unfold dec; rw [if_pos ho, if_neg (by rw [hbn]; omega), hbn, Int.toNat_natCast]
      by_cases h2 : x = n
      · have hr : dec p s r a salt bs (x : Int) = noA 53 := by rw [hd0, if_pos (by omega)]
        rw [hr]
        have g4 : ((x : Int) == (n : Int)) = true := beq_iff_eq.2 (by omega)
        have g5 : decide (x = n) = true := decide_eq_true h2
        have SX := Aside0.mk h2
        clear ho hr hbn hn hm hb hd0 h2 hxn
        go_enter Try.func16, Try.ntmps16
        go_wp2_with (go_at_call 31; refine (cellarref02_Check.calls (0 + 20) p s r a 0 _ hck.out).mono ?_; rintro e w1 ⟨rfl, hb1⟩; have B1 := Aside0.mk (below_then SB.out SB.out.size hb1); have F1 := Aside0.mk (blk_below SF.out hb1); have G1 := Aside0.mk (blk_below SG.out hb1); have y0 := blk_cell F1.out 0; have y1 := blk_cell F1.out 1; have y2 := blk_cell F1.out 2; have y3 := blk_cell F1.out 3; have z0 := blk_frozen F1.out 0; have z1 := blk_frozen F1.out 1; have z2 := blk_frozen F1.out 2; have z3 := blk_frozen F1.out 3; simp only [List.getElem?_toArray, List.getElem?_cons_zero, List.getElem?_cons_succ] at y0 y1 y2 y3; clear hb1)
        refine bodyPost_ret (results_ctt rfl _ _ (w.heap.size + 1) 27 #[.int .i64 0, .int .u64 0, .string (⟨#[]⟩ : ByteArray), .string (⟨#[]⟩ : ByteArray)] (0, 0) _ rfl (put4 (by first | exact F1.out | exact blk_drewN F1.out _) _ _ _ _) Try.underlying27 rfl (by kernel_rfl)) rfl ?_
        exact ⟨rfl, below4 (by first | exact B1.out | exact pw_below_drewN B1.out _) (by omega) _ _ _ _⟩
      · have hxl : x < n := by omega
        have g4 : ((x : Int) == (n : Int)) = false := beq_eq_false_iff_ne.2 (by omega)
        have g5 : decide (x = n) = false := decide_eq_false h2
        have m0 : (0 : Int) ≤ (x : Int) := by omega
        have m1 : (x : Int) < (n : Int) := by omega
        have HN := Aside0.mk hn
        have HBN := Aside0.mk hbn
        obtain ⟨b, hbx⟩ : ∃ b, bs.getD x 0 = b := ⟨_, rfl⟩
        rw [if_neg (by omega), hbx] at hd0
        by_cases h3 : b = 255
        · have hr : dec p s r a salt bs (x : Int) = noA 53 := by rw [hd0, if_pos h3]
          rw [hr]
          subst h3
          have HX := Aside0.mk hbx
          clear ho hr hbn hn hm hb hd0 h2 hbx
          go_enter Try.func16, Try.ntmps16
          go_upto_region 4 with (go_at_call 31; refine (cellarref02_Check.calls (0 + 20) p s r a 0 _ hck.out).mono ?_; rintro e w1 ⟨rfl, hb1⟩; have B1 := Aside0.mk (below_then SB.out SB.out.size hb1); have F1 := Aside0.mk (blk_below SF.out hb1); have G1 := Aside0.mk (blk_below SG.out hb1); have y0 := blk_cell F1.out 0; have y1 := blk_cell F1.out 1; have y2 := blk_cell F1.out 2; have y3 := blk_cell F1.out 3; have z0 := blk_frozen F1.out 0; have z1 := blk_frozen F1.out 1; have z2 := blk_frozen F1.out 2; have z3 := blk_frozen F1.out 3; simp only [List.getElem?_toArray, List.getElem?_cons_zero, List.getElem?_cons_succ] at y0 y1 y2 y3; clear hb1; have CR := Kd.C_below HC.out B1.out; obtain ⟨ad, ea, k0⟩ := Kd.at_int CR (x : Int) (by omega) (by rw [HN.out]; omega); subst ea; rw [show rd (ints bs) (x : Int) = ((bs.getD x 0 : Nat) : Int) by rw [rd_getD, Int.toNat_natCast]] at k0; simp only [Int.toNat_natCast] at k0; clear CR)
          rw [HX.out] at k0
          go_wp2
          refine bodyPost_ret (results_ctt rfl _ _ (w.heap.size + 1) 27 #[.int .i64 0, .int .u64 0, .string (⟨#[]⟩ : ByteArray), .string (⟨#[]⟩ : ByteArray)] (0, 0) _ rfl (put4 (by first | exact F1.out | exact blk_drewN F1.out _) _ _ _ _) Try.underlying27 rfl (by kernel_rfl)) rfl ?_
          exact ⟨rfl, below4 (by first | exact B1.out | exact pw_below_drewN B1.out _) (by omega) _ _ _ _⟩
        · rw [if_neg h3] at hd0
          have hb2 : b < 256 := by rw [← hbx, List.getD_eq_getElem?_getD, List.getElem?_eq_getElem (by omega)]; exact hb _ (List.getElem_mem _)
          have g6 : ((b : Int) == 255) = false := beq_eq_false_iff_ne.2 (by omega)
          have g7 : decide (b = 255) = false := decide_eq_false h3
          obtain ⟨tl, hnx⟩ : ∃ tl, n - x = tl := ⟨_, rfl⟩
          have hcn : n ≤ c := by have := HCC.out; omega
          have htl : (bs.drop x).length = tl := by rw [List.length_drop, hbn]; omega
          have hbt : Bytes (bs.drop x) := bytes_drop hb x
          obtain ⟨t, ht⟩ : ∃ t, bs.drop x = t := ⟨_, rfl⟩
          rw [ht] at hd0 htl hbt
          have CT : Aside0 (∀ ad, A = some ad → Kd.C (Kd.int .u8) w (some (ad.add x)) (ints t).length (ints t)) := ⟨fun ad e => by
            have h := Kd.C_drop (c := c) (m := x) HC.out (by rw [hn]; omega) HCC.out
            rw [if_neg (by omega), e, ints_drop, ht] at h
            have e2 : x * (Kd.int .u8).sz = x := Nat.mul_one x
            rw [e2] at h
            exact h⟩
          have HX := Aside0.mk hbx
          have SO := Aside0.mk ho
          have SBT := Aside0.mk hbt
          have STL := Aside0.mk htl
          have SD := Aside0.mk hd0
          have k1 : (x : Int) ≤ (n : Int) := by omega
          have k2 : (x : Int) ≤ (c : Int) := by omega
          have k3 : (n : Int) ≤ (c : Int) := by omega
          have k4 : (c = x) = False := eq_false (by omega)
          have SNX := Aside0.mk hnx
          clear ho hbn hn hm hb h2 hbx hd0 hbt htl ht h3 hnx
          go_enter Try.func16, Try.ntmps16
          go_upto_region 4 with (go_at_call 31; refine (cellarref02_Check.calls (0 + 20) p s r a 0 _ hck.out).mono ?_; rintro e w1 ⟨rfl, hb1⟩; have B1 := Aside0.mk (below_then SB.out SB.out.size hb1); have F1 := Aside0.mk (blk_below SF.out hb1); have G1 := Aside0.mk (blk_below SG.out hb1); have y0 := blk_cell F1.out 0; have y1 := blk_cell F1.out 1; have y2 := blk_cell F1.out 2; have y3 := blk_cell F1.out 3; have z0 := blk_frozen F1.out 0; have z1 := blk_frozen F1.out 1; have z2 := blk_frozen F1.out 2; have z3 := blk_frozen F1.out 3; simp only [List.getElem?_toArray, List.getElem?_cons_zero, List.getElem?_cons_succ] at y0 y1 y2 y3; clear hb1; have CR := Kd.C_below HC.out B1.out; obtain ⟨ad, ea, k0⟩ := Kd.at_int CR (x : Int) (by omega) (by rw [HN.out]; omega); subst ea; rw [show rd (ints bs) (x : Int) = ((bs.getD x 0 : Nat) : Int) by rw [rd_getD, Int.toNat_natCast]] at k0; simp only [Int.toNat_natCast] at k0; clear CR)
          rw [HX.out] at k0
          go_upto_region 9 with fail
          rw [SNX.out]
          clear y0 y1 y2 y3 z0 z1 z2 z3 k0 k1 k2 k3 k4 g1 g2 g3 g4 g5 g6 g7 m0 m1
          have hcx : tl ≤ c - x := by have := SNX.out; omega
          have htm : tl < 140737488355328 := by have h5 := SNX.out; have h6 := SM.out; rw [HN.out] at h6; omega
          have CT1 : Aside0 (Kd.C (Kd.int .u8) w1 (some (ad.add x)) (ints t).length (ints t)) := ⟨Kd.C_below (CT.out ad rfl) B1.out⟩
          obtain ⟨A3, hA3⟩ : ∃ A3, some (ad.add x) = A3 := ⟨_, rfl⟩
          obtain ⟨c3, hc3⟩ : ∃ c3, c - x = c3 := ⟨_, rfl⟩
          rw [hA3] at CT1
          rw [hA3, hc3]
          rw [hc3] at hcx
          have y0 := blk_cell F1.out 0
          have y1 := blk_cell F1.out 1
          have y2 := blk_cell F1.out 2
          have y3 := blk_cell F1.out 3
          have z0 := blk_frozen F1.out 0
          have z1 := blk_frozen F1.out 1
          have z2 := blk_frozen F1.out 2
          have z3 := blk_frozen F1.out 3
          simp only [List.getElem?_toArray, List.getElem?_cons_zero, List.getElem?_cons_succ] at y0 y1 y2 y3
          clear hA3 hc3
          by_cases h4 : tl < 24
          · have hr : dec p s r a salt bs (x : Int) = noA 52 := by rw [SD.out]; unfold decT; rw [if_pos (by rw [STL.out]; omega)]
            have g1 : decide ((tl : Int) < 24) = true := decide_eq_true (by omega)
            have g2 : decide (tl < 24) = true := decide_eq_true h4
            clear htm hcx hcn hxl hxn hb2
            go_wp2
            try rw [hr]
            refine bodyPost_ret (results_ctt rfl _ _ (w.heap.size + 1) 27 #[.int .i64 0, .int .u64 0, .string (⟨#[]⟩ : ByteArray), .string (⟨#[]⟩ : ByteArray)] (0, 0) _ rfl (put4 (by first | exact F1.out | exact blk_drewN F1.out _) _ _ _ _) Try.underlying27 rfl (by kernel_rfl)) rfl ?_
            exact ⟨rfl, below4 (by first | exact B1.out | exact pw_below_drewN B1.out _) (by omega) _ _ _ _⟩
          · have g1 : decide ((tl : Int) < 24) = false := decide_eq_false (by omega)
            have g2 : decide (tl < 24) = false := decide_eq_false h4
            obtain ⟨ky, hky⟩ : ∃ ky, keyN t = ky := ⟨_, rfl⟩
            obtain ⟨vl, hvl⟩ : ∃ vl, valN t = vl := ⟨_, rfl⟩
            have kl : ky < 65536 := hky ▸ keyN_lt t SBT.out
            have vb : vl < 4294967296 := hvl ▸ valN_lt t SBT.out
            have H1 := Aside0.mk (fun w' (hB : Below w1.heap.size w1 w') => rnumC A3 c3 t tl 2 2 2 2 ky w' SBT.out STL.out htm (by omega) (by decide) rfl rfl (Kd.C_below CT1.out hB) hcx ((keyN_eq t).trans hky))
            have H2 := Aside0.mk (fun w' (hB : Below w1.heap.size w1 w') => rnumC A3 c3 t tl 4 4 4 4 vl w' SBT.out STL.out htm (by omega) (by decide) rfl rfl (Kd.C_below CT1.out hB) hcx ((valN_eq t).trans hvl))
            have c1 : IntKind.i64.wrap (ky : Int) = (ky : Int) := by rw [i64_w]; exact w64 (by omega) (by omega)
            have c2 : IntKind.i64.wrap (vl : Int) = (vl : Int) := by rw [i64_w]; exact w64 (by omega) (by omega)
            have SK := Aside0.mk (And.intro hky hvl)
            clear hky hvl
            go_upto_region 12 with (first
              | (go_at_call 37; refine (H2.out w2 U2.out).mono ?_; rintro e w3 ⟨rfl, ⟨nd, hnd⟩⟩; have U3 := Aside0.mk (show Below w1.heap.size w1 w3 by rw [hnd]; exact pw_below_drewN U2.out nd); clear hnd)
              | (go_at_call 37; refine (H1.out w1 (Below.refl _ _)).mono ?_; rintro e w2 ⟨rfl, ⟨nd, hnd⟩⟩; have U2 := Aside0.mk (show Below w1.heap.size w1 w2 by rw [hnd]; exact pw_below_drewN (Below.refl _ _) nd); clear hnd))
            have B3 := Aside0.mk (below_then B1.out B1.out.size U3.out)
            have F3 := Aside0.mk (blk_below F1.out U3.out)
            have G3 := Aside0.mk (blk_below G1.out U3.out)
            have CT3 := Aside0.mk (Kd.C_below CT1.out U3.out)
            clear y0 y1 y2 y3 z0 z1 z2 z3 c1 c2 g1 g2
            by_cases h5 : tl < 24 + ky + vl
            · have hr : dec p s r a salt bs (x : Int) = noA 52 := by rw [SD.out]; unfold decT; rw [STL.out, SK.out.1, SK.out.2, if_pos h5]
              have y0 := blk_cell F3.out 0
              have y1 := blk_cell F3.out 1
              have y2 := blk_cell F3.out 2
              have y3 := blk_cell F3.out 3
              have z0 := blk_frozen F3.out 0
              have z1 := blk_frozen F3.out 1
              have z2 := blk_frozen F3.out 2
              have z3 := blk_frozen F3.out 3
              simp only [List.getElem?_toArray, List.getElem?_cons_zero, List.getElem?_cons_succ] at y0 y1 y2 y3
              have e1 : IntKind.i64.wrap ((ky : Int) + (vl : Int)) = (ky : Int) + (vl : Int) := by rw [i64_w]; exact w64 (by omega) (by omega)
              have e2 : IntKind.i64.wrap ((tl : Int) - 24) = (tl : Int) - 24 := by rw [i64_w]; exact w64 (by omega) (by omega)
              have e3 : decide ((tl : Int) - 24 < (ky : Int) + (vl : Int)) = true := decide_eq_true (by omega)
              clear htm hcx hcn hxl hxn hb2 kl vb h4 h5
              go_wp2
              try rw [hr]
              refine bodyPost_ret (results_ctt rfl _ _ (w.heap.size + 1) 27 #[.int .i64 0, .int .u64 0, .string (⟨#[]⟩ : ByteArray), .string (⟨#[]⟩ : ByteArray)] (0, 0) _ rfl (put4 (by first | exact F3.out | exact blk_drewN F3.out _) _ _ _ _) Try.underlying27 rfl (by kernel_rfl)) rfl ?_
              exact ⟨rfl, below4 (by first | exact B3.out | exact pw_below_drewN B3.out _) (by omega) _ _ _ _⟩
            · have e1 : IntKind.i64.wrap ((ky : Int) + (vl : Int)) = (ky : Int) + (vl : Int) := by rw [i64_w]; exact w64 (by omega) (by omega)
              have e2 : IntKind.i64.wrap ((tl : Int) - 24) = (tl : Int) - 24 := by rw [i64_w]; exact w64 (by omega) (by omega)
              have e3 : decide ((tl : Int) - 24 < (ky : Int) + (vl : Int)) = false := decide_eq_false (by omega)
              go_upto_region 14 with fail
              clear e1 e2 e3
              have m1 : (0 : Int) < (tl : Int) := by omega
              have m2 : 0 < tl := by omega
              have m3 : (tl = 0) = False := eq_false (by omega)
              obtain ⟨ad2, ea2, k0⟩ := Kd.at_int CT3.out 0 (by omega) (by rw [ints_length, STL.out]; exact m1)
              have k24 : (24 : Int) ≤ 24 + (ky : Int) := by omega
              have k25 : 24 + (ky : Int) ≤ 24 + (ky : Int) + (vl : Int) := by omega
              have k26 : 24 + (ky : Int) ≤ (c3 : Int) := by omega
              have k27 : 24 + (ky : Int) + (vl : Int) ≤ (c3 : Int) := by omega
              have k28 : (0 : Int) ≤ 24 + (ky : Int) := by omega
              have e4 : IntKind.i64.wrap (24 + (ky : Int)) = 24 + (ky : Int) := by rw [i64_w]; exact w64 (by omega) (by omega)
              have e5 : IntKind.i64.wrap (24 + (ky : Int) + (vl : Int)) = 24 + (ky : Int) + (vl : Int) := by rw [i64_w]; exact w64 (by omega) (by omega)
              subst ea2
              rw [Int.toNat_zero, show rd (ints t) 0 = ((t.getD 0 0 : Nat) : Int) by rw [rd_getD]; rfl] at k0
              obtain ⟨b0, hb0⟩ : ∃ b0, t.getD 0 0 = b0 := ⟨_, rfl⟩
              rw [hb0, show ad2.add 0 = ad2 by simp [Addr.add]] at k0
              have hb0l : b0 < 256 := by rw [← hb0]; cases t with | nil => simp | cons y l => exact SBT.out y (by simp)
              have c0 : IntKind.i64.wrap (b0 : Int) = (b0 : Int) := by rw [i64_w]; exact w64 (by omega) (by omega)
              have SB0 := Aside0.mk hb0
              have H3 := Aside0.mk (fun w' (hB : Below w1.heap.size w1 w') => rnumC (some ad2) c3 t tl 8 8 8 8 (verN t) w' SBT.out STL.out htm (by omega) (by decide) rfl rfl (Kd.C_below CT1.out hB) hcx (verN_eq t))
              have hkk : (24 + (ky : Int)).toNat = 24 + ky := by omega
              have hkv : (24 + (ky : Int) + (vl : Int)).toNat = 24 + ky + vl := by omega
              have ht1 : (24 + (ky : Int)).toNat - 24 = ky := by omega
              have ht2 : (24 + (ky : Int) + (vl : Int)).toNat - (24 + (ky : Int)).toNat = vl := by omega
              obtain ⟨a1, hi1⟩ : ∃ a1, (if c3 = 24 then some ad2 else some (⟨ad2.block, ad2.off + 24, none⟩ : Addr)) = a1 := ⟨_, rfl⟩
              obtain ⟨a2, hi2⟩ : ∃ a2, (if c3 = (24 + (ky : Int)).toNat then some ad2 else some (ad2.add (24 + (ky : Int)).toNat)) = a2 := ⟨_, rfl⟩
              have htc : (ints t).length ≤ c3 := by rw [ints_length, STL.out]; exact hcx
              have HV1 : Aside0 (∀ w', Kd.C (Kd.int .u8) w' (some ad2) (ints t).length (ints t) → Sem.run Try.prog (convert 28 9 (.slice a1 ky (c3 - 24))) w' = .ok (.string (keyS t)) w') := ⟨fun w' hC => by
                have h := conv_seg w' ad2 c3 t 24 (24 + ky) hC htc (by omega) (by rw [STL.out]; omega)
                rw [show ad2.add 24 = (⟨ad2.block, ad2.off + 24, none⟩ : Addr) by simp [Addr.add], hi1, Nat.add_sub_cancel_left] at h
                rw [h, keyS, SK.out.1]⟩
              have HV2 : Aside0 (∀ w', Kd.C (Kd.int .u8) w' (some ad2) (ints t).length (ints t) → Sem.run Try.prog (convert 28 9 (.slice a2 vl (c3 - (24 + (ky : Int)).toNat))) w' = .ok (.string (valS t)) w') := ⟨fun w' hC => by
                have h := conv_seg w' ad2 c3 t (24 + ky) (24 + ky + vl) hC htc (by omega) (by rw [STL.out]; omega)
                rw [← hkk, hi2, hkk, Nat.add_sub_cancel_left] at h
                rw [hkk, h, valS, SK.out.1, SK.out.2]⟩
              have hS := Aside0.mk (show ∀ W', Below w3.heap.size w3 W' → (W'.cell? ad2 = some (.int .u8 (b0 : Int)) ∧ Sem.run Try.prog (convert 28 9 (.slice a1 ky (c3 - 24))) W' = .ok (.string (keyS t)) W' ∧ Sem.run Try.prog (convert 28 9 (.slice a2 vl (c3 - (24 + (ky : Int)).toNat))) W' = .ok (.string (valS t)) W') from fun W' hB => ⟨pw_cell_below hB k0, HV1.out _ (Kd.C_below CT3.out hB), HV2.out _ (Kd.C_below CT3.out hB)⟩)
              have hR3 := Aside0.mk (Below.refl w3.heap.size w3)
              clear hb0 htc hkk hkv
              go_region_held (fun w' => w'.cell? ad2 = some (.int .u8 (b0 : Int)) ∧ Sem.run Try.prog (convert 28 9 (.slice a1 ky (c3 - 24))) w' = .ok (.string (keyS t)) w' ∧ Sem.run Try.prog (convert 28 9 (.slice a2 vl (c3 - (24 + (ky : Int)).toNat))) w' = .ok (.string (valS t)) w')
                (first
                  | (refine hS.out _ ?_; (with_reducible repeat (first | exact U4'.out | exact hR3.out | apply below_alloc | apply below_drew | apply pw_below_drewN)); done)
                  | (refine hS.out _ (below4 U4'.out (Nat.le_refl _) _ _ _ _))
                  | (refine hS.out _ (below4 (below_alloc U4'.out _) U4'.out.size _ _ _ _))
                  | go_keep
                  | (trace_state; fail))
                ((first
                  | (go_at_call 37; refine (H3.out _ (by (with_reducible repeat (first | exact U3.out | apply below_alloc | apply below_drew | apply pw_below_drewN)))).mono ?_; rintro e w4 ⟨rfl, ⟨nd, hnd⟩⟩; have U4' := Aside0.mk (show Below w3.heap.size w3 w4 by rw [hnd]; (with_reducible repeat (first | exact hR3.out | apply below_alloc | apply below_drew | apply pw_below_drewN))); (first | (have N4 : w4.heap[w3.heap.size]? = some (.cells #[.int .i64 0, .int .u64 0, .string (⟨#[]⟩ : ByteArray), .string (⟨#[]⟩ : ByteArray)] 27) := (by rw [hnd]; exact blk_drewN (blk_drew (blk_new w3 _)) nd); have n0 := blk_cell N4 0; have n1 := blk_cell N4 1; have n2 := blk_cell N4 2; have n3 := blk_cell N4 3; have o0 := blk_frozen N4 0; have o1 := blk_frozen N4 1; have o2 := blk_frozen N4 2; have o3 := blk_frozen N4 3; simp only [List.getElem?_toArray, List.getElem?_cons_zero, List.getElem?_cons_succ] at n0 n1 n2 n3; have S4 := Aside0.mk N4; clear N4) | skip); clear hnd)))
              all_goals (first
                | (obtain ⟨w5, hw5⟩ : ∃ w5, w4.alloc (.cells #[.int .i64 (b0 : Int), .int .u64 ((verN t : Nat) : Int), .string (keyS t), .string (valS t)] 27) = w5 := ⟨_, rfl⟩
                   have N5 : w5.heap[w4.heap.size]? = some (.cells #[.int .i64 (b0 : Int), .int .u64 ((verN t : Nat) : Int), .string (keyS t), .string (valS t)] 27) := by rw [← hw5]; exact blk_new _ _
                   have V5 : Below w3.heap.size w3 w5 := by rw [← hw5]; exact below_alloc U4'.out _
                   rw [hw5]
                   obtain ⟨rb, hrb⟩ : ∃ rb, w4.heap.size = rb := ⟨_, rfl⟩
                   rw [hrb] at N5
                   rw [hrb]
                   clear hw5 hrb)
                | (obtain ⟨w5, hw5⟩ : ∃ w5, ((((w4.setCell ⟨w3.heap.size, 0, none⟩ (.int .i64 (b0 : Int))).setCell ⟨w3.heap.size, 1, none⟩ (.int .u64 ((verN t : Nat) : Int))).setCell ⟨w3.heap.size, 2, none⟩ (.string (keyS t))).setCell ⟨w3.heap.size, 3, none⟩ (.string (valS t))) = w5 := ⟨_, rfl⟩
                   have N5 : w5.heap[w3.heap.size]? = some (.cells #[.int .i64 (b0 : Int), .int .u64 ((verN t : Nat) : Int), .string (keyS t), .string (valS t)] 27) := by rw [← hw5]; exact put4 S4.out _ _ _ _
                   have V5 : Below w3.heap.size w3 w5 := by rw [← hw5]; exact below4 U4'.out (Nat.le_refl _) _ _ _ _
                   rw [hw5]
                   obtain ⟨rb, hrb⟩ : ∃ rb, w3.heap.size = rb := ⟨_, rfl⟩
                   rw [hrb] at N5
                   rw [hrb]
                   clear hw5 hrb n0 n1 n2 n3 o0 o1 o2 o3 S4))
              all_goals (
                have B5 := Aside0.mk (below_then B3.out B3.out.size V5)
                have F5 := Aside0.mk (blk_below F3.out V5)
                have G5 := Aside0.mk (blk_below G3.out V5)
                have CT5 := Aside0.mk (Kd.C_below CT3.out V5)
                have S5 := Aside0.mk N5
                clear V5 N5
                clear U4' hS hR3 HV1 HV2 H3 e4 e5 k24 k25 k26 k27 k28 ht1 ht2 hi1 hi2 k0 c0 m1 m2 m3
                have x0 := blk_cell G5.out 0
                have x1 := blk_cell G5.out 1
                have x2 := blk_cell G5.out 2
                have x3 := blk_cell G5.out 3
                have n0 := blk_cell S5.out 0
                have n1 := blk_cell S5.out 1
                have n2 := blk_cell S5.out 2
                have n3 := blk_cell S5.out 3
                simp only [List.getElem?_toArray, List.getElem?_cons_zero, List.getElem?_cons_succ] at x0 x1 x2 x3 n0 n1 n2 n3
                have hver : verN t < 18446744073709551616 := by rw [← verN_eq]; exact num_le8 _ (bytes_take (bytes_drop SBT.out _) _) (by rw [List.length_take]; omega)
                have hE := fun w => cellarref05_Encode.calls (2630000 + 1) p s r a (salt : Int) (b0 : Int) ((verN t : Nat) : Int) (keyS t) (valS t) _ _ w (rencode_eq 2630000 p s r a salt (verN t) (b0 : Int) (keyS t) (valS t) hs hver (Nat.le_refl _))
                have hEB := enc_bytes p s r a salt (b0 : Int) (verN t) (keyS t) (valS t)
                have hEL := enc_len p s r a salt (b0 : Int) (verN t) (keyS t) (valS t)
                have hans : dec p s r a salt bs (x : Int) = if enc p s r a salt (b0 : Int) (verN t) (keyS t) (valS t) = (t.take (24 + ky + vl), 0) then ((b0 : Int), ((verN t : Nat) : Int), keyS t, valS t, ((24 + ky + vl : Nat) : Int), 0) else noA 52 := by
                  rw [SD.out]; unfold decT; rw [SK.out.1, SK.out.2, if_neg (by rw [STL.out]; omega), SB0.out]
                obtain ⟨⟨es, ec⟩, hEE⟩ : ∃ E, enc p s r a salt (b0 : Int) (verN t) (keyS t) (valS t) = E := ⟨_, rfl⟩
                rw [hEE] at hE hEB hans hEL
                simp only at hE hEB hans hEL
                have SEL := Aside0.mk hEL
                have SA := Aside0.mk hans
                have SE := Aside0.mk hE
                clear hEE hE hans hEL
                obtain ⟨ver, hve⟩ : ∃ v : Nat, verN t = v := ⟨_, rfl⟩
                obtain ⟨kS, hkS⟩ : ∃ v, keyS t = v := ⟨_, rfl⟩
                obtain ⟨vS, hvS⟩ : ∃ v, valS t = v := ⟨_, rfl⟩
                rw [hve, hkS, hvS] at SA SE S5
                rw [hve] at n1
                rw [hkS] at n2
                rw [hvS] at n3
                rw [hve, hkS, hvS]
                clear hver hve hkS hvS
                go_upto_region 16 with (go_at_call 12; refine (SE.out _).mono ?_; rintro e w9 ⟨v9, rfl, hR9, hb9⟩; obtain ⟨A9, c9, rfl⟩ := Kd.R_slice hR9; have R9 := Aside0.mk hR9; have U9 := Aside0.mk hb9; clear hR9 hb9)
                clear x0 x1 x2 x3 n0 n1 n2 n3
                have B9 := Aside0.mk (below_then B5.out B5.out.size U9.out)
                have F9 := Aside0.mk (blk_below F5.out U9.out)
                have N9 := blk_below S5.out U9.out
                have C9 := Aside0.mk (Kd.C_below CT5.out U9.out)
                have y0 := blk_cell F9.out 0
                have y1 := blk_cell F9.out 1
                have y2 := blk_cell F9.out 2
                have y3 := blk_cell F9.out 3
                have z0 := blk_frozen F9.out 0
                have z1 := blk_frozen F9.out 1
                have z2 := blk_frozen F9.out 2
                have z3 := blk_frozen F9.out 3
                have n0 := blk_cell N9 0
                have n1 := blk_cell N9 1
                have n2 := blk_cell N9 2
                have n3 := blk_cell N9 3
                simp only [List.getElem?_toArray, List.getElem?_cons_zero, List.getElem?_cons_succ] at y0 y1 y2 y3 n0 n1 n2 n3
                clear N9
                have e4 : IntKind.i64.wrap (24 + (ky : Int)) = 24 + (ky : Int) := by rw [i64_w]; exact w64 (by omega) (by omega)
                have e5 : IntKind.i64.wrap (24 + (ky : Int) + (vl : Int)) = 24 + (ky : Int) + (vl : Int) := by rw [i64_w]; exact w64 (by omega) (by omega)
                have k27 : 24 + (ky : Int) + (vl : Int) ≤ (c3 : Int) := by omega
                have k28 : (0 : Int) ≤ 24 + (ky : Int) + (vl : Int) := by omega
                have hkv : (24 + (ky : Int) + (vl : Int)).toNat = 24 + ky + vl := by omega
                have HEQ : Aside0 (Calls Try.prog 38 #[.slice A9 (ints es).length c9, .slice (some ad2) (24 + ky + vl) c3] w9 fun e w'' => e = .returned (.bool (decide (es = t.take (24 + ky + vl)))) ∧ Drawn0 w9 w'') := ⟨by
                  have hlt : ((ints t).take (24 + ky + vl)).length = 24 + ky + vl := by rw [List.length_take, ints_length, STL.out]; omega
                  have h := cellarref05_same.calls (es.length + 10) A9 c9 (ints es) (some ad2) c3 ((ints t).take (24 + ky + vl)) _ w9 (Kd.R_reads' R9.out).2.2 (Kd.R_reads' R9.out).2.1 (Kd.C_take C9.out (by rw [ints_length, STL.out]; omega)) (by rw [hlt]; omega) (by rw [ints_take]; exact rsame_eq (es.length + 10) es _ (by have := SEL.out; omega) (by omega))
                  rw [hlt] at h
                  exact h⟩
                clear hEB
                by_cases he : ec = 0
                · subst he
                  by_cases heq : es = t.take (24 + ky + vl)
                  · have he1 : decide (es = t.take (24 + ky + vl)) = true := decide_eq_true heq
                    have hr : dec p s r a salt bs (x : Int) = ((b0 : Int), ((ver : Nat) : Int), kS, vS, ((24 + ky + vl : Nat) : Int), 0) := by rw [SA.out, if_pos (by rw [heq])]
                    have hln : (ints es).length = 24 + ky + vl := by rw [ints_length, heq, List.length_take, STL.out]; omega
                    rw [he1, hln] at HEQ
                    rw [hln]
                    have SHR := Aside0.mk hr
                    clear he1 heq hln hr
                    go_wp2_with (go_at_call 38; refine HEQ.out.mono ?_; rintro e w10 ⟨rfl, ⟨nd, rfl⟩⟩)
                    try rw [SHR.out]
                    refine bodyPost_ret (results_ctt rfl _ _ (w.heap.size + 1) 27 #[.int .i64 (b0 : Int), .int .u64 (ver : Int), .string kS, .string vS] (0, 0) _ rfl (put4 (by first | exact F9.out | exact blk_drewN F9.out _) _ _ _ _) Try.underlying27 rfl (by kernel_rfl)) rfl ?_
                    exact ⟨rfl, below4 (by first | exact B9.out | exact pw_below_drewN B9.out _) (by omega) _ _ _ _⟩
                  · have he1 : decide (es = t.take (24 + ky + vl)) = false := decide_eq_false heq
                    have hr : dec p s r a salt bs (x : Int) = noA 52 := by rw [SA.out, if_neg (fun h => heq (congrArg Prod.fst h))]
                    rw [he1] at HEQ
                    have SHR := Aside0.mk hr
                    clear he1 heq hr
                    go_wp2_with (go_at_call 38; refine HEQ.out.mono ?_; rintro e w10 ⟨rfl, ⟨nd, rfl⟩⟩)
                    try rw [SHR.out]
                    refine bodyPost_ret (results_ctt rfl _ _ (w.heap.size + 1) 27 #[.int .i64 0, .int .u64 0, .string (⟨#[]⟩ : ByteArray), .string (⟨#[]⟩ : ByteArray)] (0, 0) _ rfl (put4 (by first | exact F9.out | exact blk_drewN F9.out _) _ _ _ _) Try.underlying27 rfl (by kernel_rfl)) rfl ?_
                    exact ⟨rfl, below4 (by first | exact B9.out | exact pw_below_drewN B9.out _) (by omega) _ _ _ _⟩
                · have hr : dec p s r a salt bs (x : Int) = noA 52 := by rw [SA.out, if_neg (fun h => he (congrArg Prod.snd h))]
                  have he1 : (ec != 0) = true := by simpa using he
                  have he2 : decide (ec = 0) = false := decide_eq_false he
                  have SHR := Aside0.mk hr
                  clear hr HEQ
                  go_wp2
                  try rw [SHR.out]
                  refine bodyPost_ret (results_ctt rfl _ _ (w.heap.size + 1) 27 #[.int .i64 0, .int .u64 0, .string (⟨#[]⟩ : ByteArray), .string (⟨#[]⟩ : ByteArray)] (0, 0) _ rfl (put4 (by first | exact F9.out | exact blk_drewN F9.out _) _ _ _ _) Try.underlying27 rfl (by kernel_rfl)) rfl ?_
                  exact ⟨rfl, below4 (by first | exact B9.out | exact pw_below_drewN B9.out _) (by omega) _ _ _ _⟩)
  · have hck : Aside0 (cellarref02_Check.f (0 + 20) p s r a = some 20) := ⟨by rw [rcheck_eq]; unfold chk; rw [if_neg ho]⟩
    have hr : dec p s r a salt bs x = noA 20 := dec_bad ho
    try rw [hr]
    clear ho hr
    go_enter Try.func16, Try.ntmps16
    go_wp2_with (go_at_call 31; refine (cellarref02_Check.calls (0 + 20) p s r a 20 _ hck.out).mono ?_; rintro e w1 ⟨rfl, hb1⟩; have B1 := Aside0.mk (below_then SB.out SB.out.size hb1); have F1 := Aside0.mk (blk_below SF.out hb1); have y0 := blk_cell F1.out 0; have y1 := blk_cell F1.out 1; have y2 := blk_cell F1.out 2; have y3 := blk_cell F1.out 3; have z0 := blk_frozen F1.out 0; have z1 := blk_frozen F1.out 1; have z2 := blk_frozen F1.out 2; have z3 := blk_frozen F1.out 3; simp only [List.getElem?_toArray, List.getElem?_cons_zero, List.getElem?_cons_succ] at y0 y1 y2 y3; clear hb1)
    refine bodyPost_ret (results_ctt rfl _ _ (w.heap.size + 1) 27 #[.int .i64 0, .int .u64 0, .string (⟨#[]⟩ : ByteArray), .string (⟨#[]⟩ : ByteArray)] (0, 0) _ rfl (put4 F1.out _ _ _ _) Try.underlying27 rfl (by kernel_rfl)) rfl ?_
    exact ⟨rfl, below4 B1.out (by omega) _ _ _ _⟩
end Go.Proofs.Ytochhjimahcamaa.QRecordEncodes
