/- The plain law of SumCombines, over the printed functions.
   No condition. -/
import Derived.Test.YtbnbpnnpbnpidaaRSumCombinesx1
import Derived.Test.YtbnbpnnpbnpidaaSame
namespace Go.Proofs.Ytbnbpnnpbnpidaa.RSumCombines
open Go.Proofs.Ytbnbpnnpbnpidaa.QSumHashes Hash Crc Hasher
open Go.RowKit Go.Proofs.YtbnbpnnpbnpidaaW.PrintWords Go.Proofs.YtbnbpnnpbnpidaaW.PrintLast Go.Proofs.YtbnbpnnpbnpidaaW.PrintMore
set_option linter.unusedVariables false
set_option linter.unusedSimpArgs false
theorem u32_lit (n : Nat) : ((n : Nat) : Int) = (n : Int) := rfl
theorem shifted1_eq (k x : Nat) (hx : x < 4294967296) (hk : 2 ≤ k) : sum_shifted.f k (x : Int) 1 = some ((cstep x : Nat) : Int) := by
  obtain ⟨k, rfl⟩ : ∃ k', k = k' + 2 := ⟨k - 2, by omega⟩
  unfold sum_shifted.f
  simp only [sum_shifted.l0]
  have ew : wrap64 (0 + 1) = 1 := by unfold wrap64; omega
  rw [ew, if_neg (by omega : ¬ (1 : Int) < 1), if_neg (by omega : ¬ (1 : Int) < 1), if_pos (by omega : (0 : Int) < 1), show (1 : Int) = ((1 : Nat) : Int) from rfl, u32_and_nat x 1 hx (by decide), Nat.and_one_is_mod, show ((x : Int) / 2) = ((x / 2 : Nat) : Int) from rfl, show (2197175160 : Int) = ((2197175160 : Nat) : Int) from rfl, u32_xor_nat (x / 2) 2197175160 (by omega) (by decide)]
  unfold cstep
  by_cases c : x % 2 = 1
  · rw [if_pos (by omega), if_pos c]
  · rw [if_neg (by omega), if_neg c]
def bitAt (m : Nat) : Nat := if m = 0 then 0 else 2 ^ (m - 1)
theorem bitAt_half (m : Nat) : bitAt (m + 1) / 2 = bitAt m := by
  unfold bitAt
  rw [if_neg (Nat.succ_ne_zero m), Nat.add_sub_cancel]
  cases m with
  | zero => decide
  | succ m => rw [if_neg (Nat.succ_ne_zero m), Nat.add_sub_cancel, Nat.pow_succ]; omega
theorem mul_lt (m : Nat) : ∀ a b, b < 4294967296 → mul m a b < 4294967296 := by
  induction m with
  | zero => intro a b _; exact Nat.zero_lt_of_lt (by decide : 0 < 4294967296)
  | succ m ih =>
    intro a b hb
    simp only [mul]
    refine xor32 ?_ (ih _ _ (cstep_lt hb))
    by_cases c : a.testBit m = true
    · rw [if_pos c]; exact hb
    · rw [if_neg c]; exact Nat.zero_lt_of_lt (by decide : 0 < 4294967296)
theorem and_pow (a m : Nat) : a &&& 2 ^ m = if a.testBit m then 2 ^ m else 0 := by
  apply Nat.eq_of_testBit_eq
  intro j
  rw [Nat.testBit_and, Nat.testBit_two_pow]
  by_cases h : m = j
  · subst h
    cases c : a.testBit m with
    | true => simp
    | false => simp
  · cases c : a.testBit m with
    | true => simp [h]
    | false => simp [h]
theorem times_l0 (a : Nat) (ha : a < 4294967296) (m : Nat) : ∀ (k b p : Nat), m ≤ 32 → b < 4294967296 → p < 4294967296 → m + 2 ≤ k → sum_times.l0 k (a : Int) (b : Int) (p : Int) ((bitAt m : Nat) : Int) = some ((p ^^^ mul m a b : Nat) : Int) := by
  induction m with
  | zero =>
    intro k b p _ hb hp hk
    obtain ⟨k, rfl⟩ : ∃ k', k = k' + 1 := ⟨k - 1, by omega⟩
    simp only [sum_times.l0]
    rw [if_pos (show ((bitAt 0 : Nat) : Int) = 0 from rfl), show mul 0 a b = 0 from rfl, Nat.xor_zero]
  | succ m ih =>
    intro k b p hm hb hp hk
    obtain ⟨k, rfl⟩ : ∃ k', k = k' + 1 := ⟨k - 1, by omega⟩
    simp only [sum_times.l0]
    have hbit : bitAt (m + 1) = 2 ^ m := by unfold bitAt; rw [if_neg (Nat.succ_ne_zero m), Nat.add_sub_cancel]
    have hlt : 2 ^ m < 4294967296 := Nat.lt_of_lt_of_le (Nat.pow_lt_pow_right (by decide) (show m < 32 by omega)) (by decide)
    have hpos : 0 < 2 ^ m := Nat.two_pow_pos m
    have hhalf : (((bitAt (m + 1) : Nat) : Int) / 2) = ((bitAt m : Nat) : Int) := by rw [← bitAt_half m]; rfl
    rw [if_neg (by rw [hbit]; omega), shifted1_eq k b hb (by omega), Option.bind_some, Option.bind_some, hhalf, hbit, u32_and_nat a (2 ^ m) ha hlt, and_pow, u32_xor_nat p b hp hb]
    have hmul : mul (m + 1) a b = (if a.testBit m then b else 0) ^^^ mul m a (cstep b) := rfl
    rw [hmul]
    cases c : a.testBit m with
    | false =>
      rw [if_neg Bool.false_ne_true, if_pos (show ((0 : Nat) : Int) = 0 from rfl), if_neg Bool.false_ne_true, Nat.zero_xor]
      exact ih k (cstep b) p (by omega) (cstep_lt hb) hp (by omega)
    | true =>
      rw [if_pos rfl, if_neg (by omega), if_pos rfl, ← Nat.xor_assoc]
      exact ih k (cstep b) (p ^^^ b) (by omega) (cstep_lt hb) (xor32 hp hb) (by omega)
theorem times_eq (k a b : Nat) (ha : a < 4294967296) (hb : b < 4294967296) (hk : 34 ≤ k) : sum_times.f k (a : Int) (b : Int) = some ((mul 32 a b : Nat) : Int) := by
  unfold sum_times.f
  have h := times_l0 a ha 32 k b 0 (by omega) hb (by decide) (by omega)
  rw [Nat.zero_xor] at h
  exact h
theorem pw_lt (m : Nat) : csteps m 2147483648 < 4294967296 := csteps_lt m (by decide)
theorem times_pw (k m n : Nat) (hk : 34 ≤ k) : sum_times.f k ((csteps m 2147483648 : Nat) : Int) ((csteps n 2147483648 : Nat) : Int) = some ((csteps (m + n) 2147483648 : Nat) : Int) := by
  rw [times_eq k _ _ (pw_lt m) (pw_lt n) hk, mul_power m _ (pw_lt n), ← csteps_add, Nat.add_comm]
theorem i64_odd (n : Nat) (hn : n < 9223372036854775808) : Go.bits .and .i64 (n : Int) 1 = ((n % 2 : Nat) : Int) := by
  have h1 : (BitVec.ofInt 64 1).toNat = 2 ^ 1 - 1 := by decide
  have key : (BitVec.ofInt 64 (n : Int) &&& BitVec.ofInt 64 1).toNat = ((n : Int) % ((2 ^ 64 : Nat) : Int)).toNat % 2 ^ 1 := by
    rw [BitVec.toNat_and, BitVec.toNat_ofInt, h1, Nat.and_two_pow_sub_one_eq_mod]
  show IntKind.i64.wrap ((BitVec.ofInt 64 (n : Int) &&& BitVec.ofInt 64 1).toNat : Nat) = _
  rw [key, IntKind.wrap_i64]
  omega
theorem power_l1 (m : Nat) : ∀ (k n s o : Nat), n < 2 ^ m → n < 9223372036854775808 → m + 36 ≤ k → sum_power.l1 k (n : Int) ((csteps s 2147483648 : Nat) : Int) ((csteps o 2147483648 : Nat) : Int) = some ((csteps (o + s * n) 2147483648 : Nat) : Int) := by
  induction m with
  | zero =>
    intro k n s o hn _ hk
    obtain ⟨k, rfl⟩ : ∃ k', k = k' + 1 := ⟨k - 1, by omega⟩
    obtain rfl : n = 0 := by simpa using hn
    simp only [sum_power.l1]
    rw [if_neg (by omega)]; rfl
  | succ m ih =>
    intro k n s o hn hn63 hk
    obtain ⟨k, rfl⟩ : ∃ k', k = k' + 1 := ⟨k - 1, by omega⟩
    simp only [sum_power.l1]
    by_cases h0 : n = 0
    · subst h0; rw [if_neg (by omega)]; rfl
    · rw [if_pos (by omega), i64_odd n hn63, times_pw k o s (by omega), times_pw k s s (by omega), Option.bind_some, Option.bind_some, Option.bind_some, show ((n : Int) / 2) = ((n / 2 : Nat) : Int) from rfl]
      have hh : n / 2 < 2 ^ m := by rw [Nat.pow_succ] at hn; omega
      rcases Nat.mod_two_eq_zero_or_one n with c | c
      · rw [if_neg (by omega), ih k (n / 2) (s + s) o hh (by omega) (by omega)]
        have e : o + (s + s) * (n / 2) = o + s * n := by
          have hn2 : n = 2 * (n / 2) := by omega
          generalize n / 2 = q at hn2
          subst hn2
          rw [← Nat.mul_assoc, Nat.mul_comm s 2, Nat.two_mul]
        rw [e]
      · rw [if_pos (by omega), ih k (n / 2) (s + s) (o + s) hh (by omega) (by omega)]
        have e : o + s + (s + s) * (n / 2) = o + s * n := by
          have hn2 : n = 2 * (n / 2) + 1 := by omega
          generalize n / 2 = q at hn2
          subst hn2
          rw [Nat.mul_add, Nat.mul_one, ← Nat.mul_assoc, Nat.mul_comm s 2, Nat.two_mul, Nat.add_assoc, Nat.add_comm s]
        rw [e]
theorem power_neg (k : Nat) (n : Int) (h : n ≤ 0) (s : Int) : sum_power.l1 (k + 1) n s 2147483648 = some 2147483648 := by
  simp only [sum_power.l1]; rw [if_neg (by omega)]
theorem power_eq (k n : Nat) (hn : n < 9223372036854775808) (hk : 110 ≤ k) : sum_power.f k (n : Int) = some ((csteps (8 * n) 2147483648 : Nat) : Int) := by
  obtain ⟨k, rfl⟩ : ∃ k', k = k' + 1 + 1 + 1 + 1 := ⟨k - 4, by omega⟩
  have e1 : (1073741824 : Int) = ((csteps 1 2147483648 : Nat) : Int) := by rw [show csteps 1 2147483648 = 1073741824 by decide]; rfl
  have w1 : wrap64 (0 + 1) = 1 := by unfold wrap64; omega
  have w2 : wrap64 (1 + 1) = 2 := by unfold wrap64; omega
  have w3 : wrap64 (2 + 1) = 3 := by unfold wrap64; omega
  unfold sum_power.f
  rw [e1]
  rw [sum_power.l0, if_pos (by omega), times_pw _ 1 1 (by omega), Option.bind_some, w1, sum_power.l0, if_pos (by omega), times_pw _ _ _ (by omega), Option.bind_some, w2, sum_power.l0, if_pos (by omega), times_pw _ _ _ (by omega), Option.bind_some, w3, sum_power.l0, if_neg (by omega)]
  have h := power_l1 63 k n 8 0 (by simpa using hn) hn (by omega)
  rw [Nat.zero_add] at h
  exact h
theorem power_low (k : Nat) (n : Int) (hn : n ≤ 0) (hk : 110 ≤ k) : sum_power.f k n = some 2147483648 := by
  obtain ⟨k, rfl⟩ : ∃ k', k = k' + 1 + 1 + 1 + 1 + 1 := ⟨k - 5, by omega⟩
  have e1 : (1073741824 : Int) = ((csteps 1 2147483648 : Nat) : Int) := by rw [show csteps 1 2147483648 = 1073741824 by decide]; rfl
  have w1 : wrap64 (0 + 1) = 1 := by unfold wrap64; omega
  have w2 : wrap64 (1 + 1) = 2 := by unfold wrap64; omega
  have w3 : wrap64 (2 + 1) = 3 := by unfold wrap64; omega
  unfold sum_power.f
  rw [e1]
  rw [sum_power.l0, if_pos (by omega), times_pw _ 1 1 (by omega), Option.bind_some, w1, sum_power.l0, if_pos (by omega), times_pw _ _ _ (by omega), Option.bind_some, w2, sum_power.l0, if_pos (by omega), times_pw _ _ _ (by omega), Option.bind_some, w3, sum_power.l0, if_neg (by omega)]
  exact power_neg _ n hn _
theorem csteps_of_num (n : Nat) : ∀ x, x < 4294967296 → mul 32 (csteps n 2147483648) x = csteps n x := fun x hx => mul_power n x hx
/-- The sum of both is that of the first, shifted, and that of the second. -/
theorem ext_split (a b : List Nat) (ha : Bytes a) (hb : Bytes b) : csteps (8 * b.length) (ext 0 a) ^^^ ext 0 b = ext 0 (a ++ b) := by
  unfold ext
  rw [reg_append, reg_num b _ hb, reg_num b _ hb, csteps_xor, csteps_xor, csteps_xor (8 * b.length) (reg _ a)]
  simp only [Nat.xor_zero]
  generalize csteps (8 * b.length) 4294967295 = x
  generalize csteps (8 * b.length) (reg 4294967295 a) = y
  generalize csteps (8 * b.length) (num b) = z
  rw [Nat.xor_comm x y, Nat.xor_assoc, Nat.xor_comm 4294967295 (x ^^^ z), ← Nat.xor_assoc x, ← Nat.xor_assoc x, Nat.xor_self, Nat.zero_xor, ← Nat.xor_assoc, Nat.xor_comm _ 4294967295]
theorem pure : cellarlaw01_SumCombines.Pure := by
  intro l0 l1 _ hl0 hw0 _ hl1 hw1
  obtain ⟨a, rfl, ha⟩ := nats_wf l0 hw0
  obtain ⟨b, rfl, hb⟩ := nats_wf l1 hw1
  rw [ints_length] at hl0 hl1
  have hs := ext_lt (s := 0) (by decide) ha
  have ht := ext_lt (s := 0) (by decide) hb
  refine ⟨a.length + b.length + 200, ?_⟩
  unfold cellarlaw01_SumCombines.f cellarlaw01_joined.f cellarlaw01_lives.f sum_Combine.f
  rw [Option.bind_some, if_pos rfl, crc_eq _ a ha (by omega) (by omega), Option.bind_some, crc_eq _ b hb (by omega) (by omega), Option.bind_some, ints_length, power_eq _ b.length (by omega) (by omega), Option.bind_some,
    times_eq _ _ _ (pw_lt _) hs (by omega), Option.bind_some, csteps_of_num _ _ hs, u32_xor_nat _ _ (csteps_lt _ hs) ht, Option.bind_some, ints_length, if_pos (by omega), Option.bind_some,
    ← ints_append, crc_eq _ (a ++ b) (Bytes.append ha hb) (by rw [List.length_append]; omega) (by rw [List.length_append]; omega), Option.bind_some, ext_split a b ha hb, beq_self_eq_true]
end Go.Proofs.Ytbnbpnnpbnpidaa.RSumCombines
namespace Go.Proofs.Ytbnbpnnpbnpidaa.Pure
theorem SumCombines : RSumCombines.cellarlaw01_SumCombines.Pure := RSumCombines.pure
end Go.Proofs.Ytbnbpnnpbnpidaa.Pure
