/- The call of SumZerosAre: true, whatever the arguments; and the facts that it rests on.
   No condition. -/
import Derived.Test.YtbnbpnnpbnpidaaRSumZerosArex1
import Derived.Test.YtbnbpnnpbnpidaaSame
namespace Go.Proofs.Ytbnbpnnpbnpidaa.RSumZerosAre
open Go.Proofs.Ytbnbpnnpbnpidaa.QSumHashes Hash Crc Hasher
open Go.RowKit Go.Proofs.YtbnbpnnpbnpidaaW.PrintWords Go.Proofs.YtbnbpnnpbnpidaaW.PrintLast Go.Proofs.YtbnbpnnpbnpidaaW.PrintMore
set_option linter.unusedVariables false
set_option linter.unusedSimpArgs false
theorem u32_lit (n : Nat) : ((n : Nat) : Int) = (n : Int) := rfl
theorem shifted1_eq (k x : Nat) (hx : x < 4294967296) (hk : 2 ≤ k) : sum_shifted.f k (x : Int) 1 = some ((cstep x : Nat) : Int) := by
  obtain ⟨k, rfl⟩ : ∃ k', k = k' + 2 := ⟨k - 2, by omega⟩
  unfold sum_shifted.f
  simp only [sum_shifted.l0]
  have ew : wrap64 (0 + 1) = 1 := by unfold wrap64; omega
  rw [ew, if_neg (by omega : ¬ (1 : Int) < 1), if_neg (by omega : ¬ (1 : Int) < 1), if_pos (by omega : (0 : Int) < 1), show (1 : Int) = ((1 : Nat) : Int) from rfl, u32_and_nat x 1 hx (by decide), Nat.and_one_is_mod, show ((x : Int) / 2) = ((x / 2 : Nat) : Int) from rfl, show (2197175160 : Int) = ((2197175160 : Nat) : Int) from rfl, u32_xor_nat (x / 2) 2197175160 (by omega) (by decide)]
  unfold cstep
  by_cases c : x % 2 = 1
  · rw [if_pos (by omega), if_pos c]
  · rw [if_neg (by omega), if_neg c]
def bitAt (m : Nat) : Nat := if m = 0 then 0 else 2 ^ (m - 1)
theorem bitAt_half (m : Nat) : bitAt (m + 1) / 2 = bitAt m := by
  unfold bitAt
  rw [if_neg (Nat.succ_ne_zero m), Nat.add_sub_cancel]
  cases m with
  | zero => decide
  | succ m => rw [if_neg (Nat.succ_ne_zero m), Nat.add_sub_cancel, Nat.pow_succ]; omega
theorem mul_lt (m : Nat) : ∀ a b, b < 4294967296 → mul m a b < 4294967296 := by
  induction m with
  | zero => intro a b _; exact Nat.zero_lt_of_lt (by decide : 0 < 4294967296)
  | succ m ih =>
    intro a b hb
    simp only [mul]
    refine xor32 ?_ (ih _ _ (cstep_lt hb))
    by_cases c : a.testBit m = true
    · rw [if_pos c]; exact hb
    · rw [if_neg c]; exact Nat.zero_lt_of_lt (by decide : 0 < 4294967296)
theorem and_pow (a m : Nat) : a &&& 2 ^ m = if a.testBit m then 2 ^ m else 0 := by
  apply Nat.eq_of_testBit_eq
  intro j
  rw [Nat.testBit_and, Nat.testBit_two_pow]
  by_cases h : m = j
  · subst h
    cases c : a.testBit m with
    | true => simp
    | false => simp
  · cases c : a.testBit m with
    | true => simp [h]
    | false => simp [h]
theorem times_l0 (a : Nat) (ha : a < 4294967296) (m : Nat) : ∀ (k b p : Nat), m ≤ 32 → b < 4294967296 → p < 4294967296 → m + 2 ≤ k → sum_times.l0 k (a : Int) (b : Int) (p : Int) ((bitAt m : Nat) : Int) = some ((p ^^^ mul m a b : Nat) : Int) := by
  induction m with
  | zero =>
    intro k b p _ hb hp hk
    obtain ⟨k, rfl⟩ : ∃ k', k = k' + 1 := ⟨k - 1, by omega⟩
    simp only [sum_times.l0]
    rw [if_pos (show ((bitAt 0 : Nat) : Int) = 0 from rfl), show mul 0 a b = 0 from rfl, Nat.xor_zero]
  | succ m ih =>
    intro k b p hm hb hp hk
    obtain ⟨k, rfl⟩ : ∃ k', k = k' + 1 := ⟨k - 1, by omega⟩
    simp only [sum_times.l0]
    have hbit : bitAt (m + 1) = 2 ^ m := by unfold bitAt; rw [if_neg (Nat.succ_ne_zero m), Nat.add_sub_cancel]
    have hlt : 2 ^ m < 4294967296 := Nat.lt_of_lt_of_le (Nat.pow_lt_pow_right (by decide) (show m < 32 by omega)) (by decide)
    have hpos : 0 < 2 ^ m := Nat.two_pow_pos m
    have hhalf : (((bitAt (m + 1) : Nat) : Int) / 2) = ((bitAt m : Nat) : Int) := by rw [← bitAt_half m]; rfl
    rw [if_neg (by rw [hbit]; omega), shifted1_eq k b hb (by omega), Option.bind_some, Option.bind_some, hhalf, hbit, u32_and_nat a (2 ^ m) ha hlt, and_pow, u32_xor_nat p b hp hb]
    have hmul : mul (m + 1) a b = (if a.testBit m then b else 0) ^^^ mul m a (cstep b) := rfl
    rw [hmul]
    cases c : a.testBit m with
    | false =>
      rw [if_neg Bool.false_ne_true, if_pos (show ((0 : Nat) : Int) = 0 from rfl), if_neg Bool.false_ne_true, Nat.zero_xor]
      exact ih k (cstep b) p (by omega) (cstep_lt hb) hp (by omega)
    | true =>
      rw [if_pos rfl, if_neg (by omega), if_pos rfl, ← Nat.xor_assoc]
      exact ih k (cstep b) (p ^^^ b) (by omega) (cstep_lt hb) (xor32 hp hb) (by omega)
theorem times_eq (k a b : Nat) (ha : a < 4294967296) (hb : b < 4294967296) (hk : 34 ≤ k) : sum_times.f k (a : Int) (b : Int) = some ((mul 32 a b : Nat) : Int) := by
  unfold sum_times.f
  have h := times_l0 a ha 32 k b 0 (by omega) hb (by decide) (by omega)
  rw [Nat.zero_xor] at h
  exact h
theorem pw_lt (m : Nat) : csteps m 2147483648 < 4294967296 := csteps_lt m (by decide)
theorem times_pw (k m n : Nat) (hk : 34 ≤ k) : sum_times.f k ((csteps m 2147483648 : Nat) : Int) ((csteps n 2147483648 : Nat) : Int) = some ((csteps (m + n) 2147483648 : Nat) : Int) := by
  rw [times_eq k _ _ (pw_lt m) (pw_lt n) hk, mul_power m _ (pw_lt n), ← csteps_add, Nat.add_comm]
theorem i64_odd (n : Nat) (hn : n < 9223372036854775808) : Go.bits .and .i64 (n : Int) 1 = ((n % 2 : Nat) : Int) := by
  have h1 : (BitVec.ofInt 64 1).toNat = 2 ^ 1 - 1 := by decide
  have key : (BitVec.ofInt 64 (n : Int) &&& BitVec.ofInt 64 1).toNat = ((n : Int) % ((2 ^ 64 : Nat) : Int)).toNat % 2 ^ 1 := by
    rw [BitVec.toNat_and, BitVec.toNat_ofInt, h1, Nat.and_two_pow_sub_one_eq_mod]
  show IntKind.i64.wrap ((BitVec.ofInt 64 (n : Int) &&& BitVec.ofInt 64 1).toNat : Nat) = _
  rw [key, IntKind.wrap_i64]
  omega
theorem power_l1 (m : Nat) : ∀ (k n s o : Nat), n < 2 ^ m → n < 9223372036854775808 → m + 36 ≤ k → sum_power.l1 k (n : Int) ((csteps s 2147483648 : Nat) : Int) ((csteps o 2147483648 : Nat) : Int) = some ((csteps (o + s * n) 2147483648 : Nat) : Int) := by
  induction m with
  | zero =>
    intro k n s o hn _ hk
    obtain ⟨k, rfl⟩ : ∃ k', k = k' + 1 := ⟨k - 1, by omega⟩
    obtain rfl : n = 0 := by simpa using hn
    simp only [sum_power.l1]
    rw [if_neg (by omega)]; rfl
  | succ m ih =>
    intro k n s o hn hn63 hk
    obtain ⟨k, rfl⟩ : ∃ k', k = k' + 1 := ⟨k - 1, by omega⟩
    simp only [sum_power.l1]
    by_cases h0 : n = 0
    · subst h0; rw [if_neg (by omega)]; rfl
    · rw [if_pos (by omega), i64_odd n hn63, times_pw k o s (by omega), times_pw k s s (by omega), Option.bind_some, Option.bind_some, Option.bind_some, show ((n : Int) / 2) = ((n / 2 : Nat) : Int) from rfl]
      have hh : n / 2 < 2 ^ m := by rw [Nat.pow_succ] at hn; omega
      rcases Nat.mod_two_eq_zero_or_one n with c | c
      · rw [if_neg (by omega), ih k (n / 2) (s + s) o hh (by omega) (by omega)]
        have e : o + (s + s) * (n / 2) = o + s * n := by
          have hn2 : n = 2 * (n / 2) := by omega
          generalize n / 2 = q at hn2
          subst hn2
          rw [← Nat.mul_assoc, Nat.mul_comm s 2, Nat.two_mul]
        rw [e]
      · rw [if_pos (by omega), ih k (n / 2) (s + s) (o + s) hh (by omega) (by omega)]
        have e : o + s + (s + s) * (n / 2) = o + s * n := by
          have hn2 : n = 2 * (n / 2) + 1 := by omega
          generalize n / 2 = q at hn2
          subst hn2
          rw [Nat.mul_add, Nat.mul_one, ← Nat.mul_assoc, Nat.mul_comm s 2, Nat.two_mul, Nat.add_assoc, Nat.add_comm s]
        rw [e]
theorem power_neg (k : Nat) (n : Int) (h : n ≤ 0) (s : Int) : sum_power.l1 (k + 1) n s 2147483648 = some 2147483648 := by
  simp only [sum_power.l1]; rw [if_neg (by omega)]
theorem power_eq (k n : Nat) (hn : n < 9223372036854775808) (hk : 110 ≤ k) : sum_power.f k (n : Int) = some ((csteps (8 * n) 2147483648 : Nat) : Int) := by
  obtain ⟨k, rfl⟩ : ∃ k', k = k' + 1 + 1 + 1 + 1 := ⟨k - 4, by omega⟩
  have e1 : (1073741824 : Int) = ((csteps 1 2147483648 : Nat) : Int) := by rw [show csteps 1 2147483648 = 1073741824 by decide]; rfl
  have w1 : wrap64 (0 + 1) = 1 := by unfold wrap64; omega
  have w2 : wrap64 (1 + 1) = 2 := by unfold wrap64; omega
  have w3 : wrap64 (2 + 1) = 3 := by unfold wrap64; omega
  unfold sum_power.f
  rw [e1]
  rw [sum_power.l0, if_pos (by omega), times_pw _ 1 1 (by omega), Option.bind_some, w1, sum_power.l0, if_pos (by omega), times_pw _ _ _ (by omega), Option.bind_some, w2, sum_power.l0, if_pos (by omega), times_pw _ _ _ (by omega), Option.bind_some, w3, sum_power.l0, if_neg (by omega)]
  have h := power_l1 63 k n 8 0 (by simpa using hn) hn (by omega)
  rw [Nat.zero_add] at h
  exact h
theorem power_low (k : Nat) (n : Int) (hn : n ≤ 0) (hk : 110 ≤ k) : sum_power.f k n = some 2147483648 := by
  obtain ⟨k, rfl⟩ : ∃ k', k = k' + 1 + 1 + 1 + 1 + 1 := ⟨k - 5, by omega⟩
  have e1 : (1073741824 : Int) = ((csteps 1 2147483648 : Nat) : Int) := by rw [show csteps 1 2147483648 = 1073741824 by decide]; rfl
  have w1 : wrap64 (0 + 1) = 1 := by unfold wrap64; omega
  have w2 : wrap64 (1 + 1) = 2 := by unfold wrap64; omega
  have w3 : wrap64 (2 + 1) = 3 := by unfold wrap64; omega
  unfold sum_power.f
  rw [e1]
  rw [sum_power.l0, if_pos (by omega), times_pw _ 1 1 (by omega), Option.bind_some, w1, sum_power.l0, if_pos (by omega), times_pw _ _ _ (by omega), Option.bind_some, w2, sum_power.l0, if_pos (by omega), times_pw _ _ _ (by omega), Option.bind_some, w3, sum_power.l0, if_neg (by omega)]
  exact power_neg _ n hn _
theorem reg_zeros (n x : Nat) : reg x (List.replicate n 0) = csteps (8 * n) x := by
  have hb : Bytes (List.replicate n 0) := fun b hb => by rw [List.eq_of_mem_replicate hb]; omega
  have hn : ∀ m, num (List.replicate m 0) = 0 := by
    intro m
    induction m with
    | zero => rfl
    | succ m ih => rw [List.replicate_succ]; simp only [num]; rw [ih]
  rw [reg_num _ _ hb, hn, Nat.xor_zero, List.length_replicate]
theorem zeros_eq (k s n : Nat) (hs : s < 4294967296) (hn : n < 9223372036854775808) (hk : 200 ≤ k) : sum_Zeros.f k (s : Int) (n : Int) = some ((4294967295 ^^^ csteps (8 * n) (4294967295 ^^^ s) : Nat) : Int) := by
  have hx : 4294967295 ^^^ s < 4294967296 := xor32 (by decide) hs
  unfold sum_Zeros.f
  rw [power_eq k n hn (by omega), Option.bind_some, show (4294967295 : Int) = ((4294967295 : Nat) : Int) from rfl, u32_xor_nat _ _ (by decide) hs, times_eq k _ _ (pw_lt _) hx (by omega), Option.bind_some, mul_power _ _ hx, u32_xor_nat _ _ (by decide) (csteps_lt _ hx)]
theorem ext_zeros (s n : Nat) : ext s (List.replicate n 0) = 4294967295 ^^^ csteps (8 * n) (4294967295 ^^^ s) := by
  unfold ext; rw [reg_zeros]
theorem zeros_walk (s n : Nat) (hs : s < 4294967296) (hn : n < 9223372036854775808) (w : World) : Calls Try.prog 38 #[.int .u32 (s : Int), .int .i64 (n : Int)] w fun e w' => e = .returned (.int .u32 ((ext s (List.replicate n 0) : Nat) : Int)) ∧ Drawn0 w w' := by
  rw [ext_zeros]
  exact sum_Zeros.calls 200 _ _ _ w (zeros_eq 200 s n hs hn (by omega))
theorem make_zeros (n : Nat) (h : n ≤ 281474976710656) (k : IntKind) (W : World) : (Instr.makeSlice 23 (.int k (n : Int)) (.int k (n : Int))).run Try.prog W = .ok (.slice (some ⟨W.heap.size, 0, none⟩) n n) (W.alloc (.cells (nums .u8 (ints (List.replicate n 0))).toArray 5)) := by
  obtain ⟨i0, hi, hz0, hz1, hz2⟩ := info_parts (show (Try.prog.info? 5).map (fun i => (i.zero, i.size, i.bytes)) = some (some (.int .u8 0), 1, 1) by kernel_rfl)
  have := run_make (P := Try.prog) W 23 5 i0 (.int .u8 0) Try.underlying23 hi hz0 k k (n : Int) (n : Int) (by omega) (by omega) (by rw [hz2]; omega) (by omega)
  rw [this, hz1]
  congr 3
  apply Array.toList_inj.1
  simp [madeCells, nums, ints, Value.cells]
  rw [List.eq_replicate_iff]
  refine ⟨by simp, fun b hb => ?_⟩
  obtain ⟨x, _, rfl⟩ := List.mem_map.1 hb
  simp [Nat.mod_one]
theorem below_undrew {W w1 : World} (h : Below W.drew.heap.size W.drew w1) : Below W.heap.size W w1 := ⟨h.os, h.tape, h.output, h.size, h.block⟩
set_option maxHeartbeats 4000000 in
set_option maxRecDepth 100000 in
theorem law (s n : Nat) (hs : s < 4294967296) (hn : n < 65536) (W : World) : Calls Try.prog 14 #[.int .u32 (s : Int), .int .u16 (n : Int)] W fun e w' => e = .returned (.bool true) ∧ Below W.heap.size W w' := by
  have hmk := make_zeros n (by omega) .u16
  obtain ⟨x, hx⟩ : ∃ x, ext s (List.replicate n 0) = x := ⟨_, rfl⟩
  have hz := fun (w : World) => zeros_walk s n hs (by omega) w
  have hb : Bytes (List.replicate n 0) := fun b hb => by rw [List.eq_of_mem_replicate hb]; omega
  have he := fun (g : Nat) (w : World) (hS : w.heap[g]? = some (.cells (nums .u8 (ints (List.replicate n 0))).toArray 5 (0, 0))) => extend_walk s (some ⟨g, 0, none⟩) n n (List.replicate n 0) w (List.length_replicate) hs (src_of_block hS) (Nat.le_refl _) hb (by omega)
  rw [hx] at hz
  simp only [hx] at he
  obtain ⟨cs, hcs⟩ : ∃ cs, cs = (nums .u8 (ints (List.replicate n 0))).toArray := ⟨_, rfl⟩
  rw [← hcs] at hmk
  simp only [← hcs] at he
  have n0 : (0 : Int) ≤ (n : Int) := by omega
  have n1 : (n : Int) < 65536 := by omega
  have n2 : IntKind.i64.wrap (n : Int) = (n : Int) := IntWalk.i64_in _ (by omega)
  have HZ := Aside0.mk hz
  have HE := Aside0.mk he
  clear hz hx hs hn hb he hcs
  go_enter Try.func14, Try.ntmps14
  go_wp2
  go_region_with (first
    | (go_at_call 18; refine (Hasher.lives_walk _).mono ?_; rintro e w1 ⟨rfl, hb⟩; have HB := Aside0.mk (below_undrew hb); clear hb)
    | (go_at_call 38; refine (HZ.out _).mono ?_; rintro e w' ⟨rfl, ⟨nd, rfl⟩⟩)
    | (go_at_call 21; (first | refine (HE.out _ _ (blk_drewN (blk_new _ _) _)).mono ?_ | refine (HE.out _ _ (blk_new _ _)).mono ?_); rintro e w' ⟨rfl, ⟨ne, rfl⟩⟩))
  all_goals go_wp2
  all_goals go_ret
  all_goals exact ⟨rfl, by repeat (first | exact HB.out | apply pw_below_drewN | apply below_drew1 | apply below_alloc)⟩
end Go.Proofs.Ytbnbpnnpbnpidaa.RSumZerosAre
namespace Go.Proofs.Ytbnbpnnpbnpidaa.Main
open Go.RowKit Go.Proofs.YtbnbpnnpbnpidaaW.PrintWords Go.Proofs.YtbnbpnnpbnpidaaW.PrintLast Go.Proofs.YtbnbpnnpbnpidaaW.PrintMore Go.Proofs.Ytbnbpnnpbnpidaa.QSumHashes Crc
set_option linter.unusedVariables false
set_option linter.unusedSimpArgs false
theorem SumZerosAre (W : World) (a0 : Int) (a1 : Int) (w0 : (Lit.int .u32 a0).wf = true) (w1 : (Lit.int .u16 a1).wf = true) :
    Calls Try.prog 14 #[.int .u32 a0, .int .u16 a1] W fun e w' => e = .returned (.bool true) ∧ Below W.heap.size W w' := by
  obtain ⟨x, rfl, hx⟩ := nat_u32 w0
  obtain ⟨n, rfl, hn⟩ := nat_u16 w1
  exact RSumZerosAre.law x n hx hn W
end Go.Proofs.Ytbnbpnnpbnpidaa.Main
