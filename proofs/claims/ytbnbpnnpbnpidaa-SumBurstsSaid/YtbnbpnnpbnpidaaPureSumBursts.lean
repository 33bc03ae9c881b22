/- The plain law of SumBursts, over the printed functions.
   No condition. -/
import Derived.Test.YtbnbpnnpbnpidaaRSumBurstsx1
import Derived.Test.YtbnbpnnpbnpidaaSame
namespace Go.Proofs.Ytbnbpnnpbnpidaa.RSumBursts
open Go.Proofs.Ytbnbpnnpbnpidaa.QSumHashes Hash Crc Hasher
open Go.RowKit Go.Proofs.YtbnbpnnpbnpidaaW.PrintWords Go.Proofs.YtbnbpnnpbnpidaaW.PrintLast Go.Proofs.YtbnbpnnpbnpidaaW.PrintMore
set_option linter.unusedVariables false
set_option linter.unusedSimpArgs false
theorem ints_set (l : List Nat) (j v : Nat) : (ints l).set j (v : Int) = ints (l.set j v) := by
  unfold ints; rw [List.map_set]
/-- The bytes differ from what they were by T, laid at a place. -/
def Differ (B B0 : List Nat) (place T : Nat) : Prop := num B = num B0 ^^^ 2 ^ place * T
def Under (T i : Nat) : Prop := T < 2 ^ i
theorem add_w (a b : Nat) (h : a + b < 9000000000000000000) : wrap64 ((a : Int) + (b : Int)) = ((a + b : Nat) : Int) := by
  rw [cw64 (by omega) (by omega)]; exact (Int.natCast_add a b).symm
theorem rem_at (q : Nat) : Int.tmod (q : Int) 8 = ((q % 8 : Nat) : Int) := by rw [Int.tmod_eq_emod_of_nonneg (by omega)]; omega
theorem getD_byte (B : List Nat) (x : Nat) (hB : Bytes B) (hx : x < B.length) : B.getD x 0 < 256 := by
  rw [List.getD_eq_getElem?_getD, List.getElem?_eq_getElem hx]; exact hB _ (List.getElem_mem hx)
theorem pow_byte (m : Nat) (h : m < 8) : 2 ^ m < 256 := Nat.pow_lt_pow_right (n := 8) (by decide) h
theorem shl_byte (m : Nat) (h : m < 8) : shl .u8 1 (m : Int) = ((2 ^ m : Nat) : Int) := by
  have hp := pow_byte m h
  unfold shl
  rw [Int.toNat_natCast, show min m (IntKind.bits .u8) = m from Nat.min_eq_left (by simp only [IntKind.bits]; omega), Int.one_mul, show (2 : Int) ^ m = ((2 ^ m : Nat) : Int) from (Int.natCast_pow 2 _).symm, IntKind.wrap_u8]
  generalize 2 ^ m = z at hp
  omega
theorem set_bytes (B : List Nat) (x v : Nat) (hB : Bytes B) (hv : v < 256) : Bytes (B.set x v) := fun y hy => by
  rcases List.mem_or_eq_of_mem_set hy with h | h
  · exact hB y h
  · rw [h]; exact hv
theorem differ_step (B B0 : List Nat) (place T i : Nat) (hB : Bytes B) (hj : (place + i) / 8 < B.length) (h : Differ B B0 place T) (hT : Under T i) :
    Differ (B.set ((place + i) / 8) (B.getD ((place + i) / 8) 0 ^^^ 2 ^ ((place + i) % 8))) B0 place (2 ^ i * 1 + T) := by
  have hns := num_set ((place + i) % 8) (Nat.mod_lt _ (by decide)) B ((place + i) / 8) hB hj
  rw [Nat.div_add_mod] at hns
  unfold Differ at h ⊢
  rw [hns, h, Nat.xor_assoc]
  congr 1
  rw [add_xor i 1 T hT, Nat.mul_one]
  apply Nat.eq_of_testBit_eq; intro j
  rw [Nat.pow_add]
  simp only [Nat.testBit_xor, Nat.testBit_two_pow_mul]
  by_cases c : place ≤ j <;> simp [c, Bool.xor_comm]
theorem under_step {T i : Nat} (h : Under T i) : Under (2 ^ i * 1 + T) (i + 1) := by
  unfold Under at h ⊢
  rw [Nat.pow_succ]
  generalize 2 ^ i = z at h
  omega
theorem under_up {T i : Nat} (h : Under T i) : Under T (i + 1) := Nat.lt_of_lt_of_le h (Nat.pow_le_pow_right (by decide) (Nat.le_succ i))
theorem some_bit (i T : Nat) : decide (2 ^ i * 1 + T ≠ 0) = true := by
  have := Nat.two_pow_pos i
  generalize 2 ^ i = z at this
  exact decide_eq_true (by omega)
theorem cut_at (q : Nat) (h : q < 9000000000000000000) : wrap64 (Int.tdiv (q : Int) 8) = ((q / 8 : Nat) : Int) := by
  rw [Int.tdiv_eq_ediv_of_nonneg (by omega), cw64 (n := (q : Int) / 8) (by omega) (by omega)]; omega
/-- The law's loop: behind it the bytes differ from what they were by a change of up to 32 bits that lie together. -/
theorem turn_loop (turn : Nat) (B0 : List Nat) (place : Nat) (hbn : B0.length < 1000000000000000000) (hpl : place < 8 * B0.length) (m : Nat) :
    ∀ (k i : Nat) (B : List Nat) (T : Nat) (X : Option Bool), i + m = 32 → Bytes B → B.length = B0.length → Differ B B0 place T → Under T i → m < k →
      (∀ (B' : List Nat) (T' k' : Nat), k ≤ k' + m + 1 → Bytes B' → B'.length = B0.length → Differ B' B0 place T' → Under T' 32 →
        ((sum_Crc.f k' (ints B')).bind fun t114 => ((sum_Crc.f k' (ints B0)).bind fun t115 => (some ((t114 != t115) == decide (T' ≠ 0))))) = X) →
      cellarlaw01_SumBursts.l0 k (ints B0) (turn : Int) (place : Int) (ints B) (decide (T ≠ 0)) (i : Int) = X := by
  induction m with
  | zero =>
    intro k i B T X hi hB hl hT hTi hk hX
    obtain ⟨k, rfl⟩ := Nat.exists_eq_add_of_lt hk
    obtain rfl : i = 32 := hi
    simp only [Nat.zero_add]
    rw [cellarlaw01_SumBursts.l0, if_neg (by decide)]
    exact hX B T k (by omega) hB hl hT hTi
  | succ m ih =>
    intro k i B T X hi hB hl hT hTi hk hX
    obtain ⟨k, rfl⟩ := Nat.exists_eq_add_of_lt (Nat.zero_lt_of_lt hk)
    simp only [Nat.zero_add]
    rw [cellarlaw01_SumBursts.l0]
    have hX2 : ∀ (B' : List Nat) (T' k' : Nat), k ≤ k' + m + 1 → Bytes B' → B'.length = B0.length → Differ B' B0 place T' → Under T' 32 →
        ((sum_Crc.f k' (ints B')).bind fun t114 => ((sum_Crc.f k' (ints B0)).bind fun t115 => (some ((t114 != t115) == decide (T' ≠ 0))))) = X := fun B' T' k' hk' => hX B' T' k' (by omega)
    clear hX
    have hi32 : (i : Int) < 32 := by omega
    have hskip := ih k (i + 1) B T X (by omega) hB hl hT (under_up hTi) (by omega) hX2
    rw [if_pos hi32, if_pos (Int.natCast_nonneg i), show ((i : Int) + 1) = ((i : Int) + ((1 : Nat) : Int)) from rfl, add_w i 1 (by omega), add_w place i (by omega), ints_length, cw64 (n := 8 * (B.length : Int)) (by omega) (by omega)]
    by_cases c1 : Int.tmod (shr .u32 (turn : Int) (i : Int)) 2 = 1
    · rw [if_pos c1]
      by_cases c2 : ((place + i : Nat) : Int) < 8 * (B.length : Int)
      · have hq : place + i < 8 * B0.length := by omega
        have hj : (place + i) / 8 < B.length := by omega
        have hbj := getD_byte B _ hB hj
        have hlt : (((place + i) / 8 : Nat) : Int) < ((B.length : Nat) : Int) := by omega
        have hm8 : (place + i) % 8 < 8 := Nat.mod_lt _ (by decide)
        rw [if_pos c2, cut_at (place + i) (by omega), rem_at, if_pos (Int.natCast_nonneg _), if_pos hlt, if_pos (Int.natCast_nonneg _), Int.toNat_natCast, rd_nat, shl_byte _ hm8,
          u8_xor_nat _ _ hbj (pow_byte _ hm8), ints_set, ← some_bit i T]
        exact ih k (i + 1) _ (2 ^ i * 1 + T) X (by omega) (set_bytes B _ _ hB (Nat.xor_lt_two_pow (n := 8) hbj (pow_byte _ hm8))) (by rw [List.length_set]; exact hl) (differ_step B B0 place T i hB hj hT hTi) (under_step hTi) (by omega) hX2
      · rw [if_neg c2]; exact hskip
    · rw [if_neg c1]; exact hskip
theorem ext_burst (B B0 : List Nat) (place T : Nat) (hB : Bytes B) (hB0 : Bytes B0) (hl : B.length = B0.length) (hp : place < 8 * B0.length) (hT : T < 4294967296) (h : Differ B B0 place T) :
    ((((ext 0 B : Nat) : Int) != ((ext 0 B0 : Nat) : Int)) == decide (T ≠ 0)) = true := by
  unfold Differ at h
  by_cases h0 : T = 0
  · subst h0
    rw [Nat.mul_zero, Nat.xor_zero] at h
    rw [num_inj B B0 hB hB0 hl.symm h]
    simp
  · have hd : num B0 ^^^ num B = 2 ^ place * T := by rw [h, ← Nat.xor_assoc, Nat.xor_self, Nat.zero_xor]
    have hne := burst (4294967295 ^^^ 0) T place B0 B hB0 hB hl hd (by omega) hT h0
    have : ext 0 B ≠ ext 0 B0 := by
      intro e
      unfold ext at e
      have e2 := congrArg (fun z => 4294967295 ^^^ z) e
      simp only [xor_twice] at e2
      exact hne e2.symm
    have h2 : (((ext 0 B : Nat) : Int) != ((ext 0 B0 : Nat) : Int)) = true := by rw [bne_iff_ne]; intro e; exact this (Int.ofNat.inj e)
    rw [h2, decide_eq_true h0]; rfl
theorem place_of (at' : Int) (n : Nat) (hn : 0 < n) (hn2 : n < 1000000000000000000) : ∃ q : Nat, q < 8 * n ∧ (if Int.tmod at' (8 * (n : Int)) < 0 then wrap64 (Int.tmod at' (8 * (n : Int)) + 8 * (n : Int)) else Int.tmod at' (8 * (n : Int))) = (q : Int) := by
  have h1 := Int.tmod_lt_of_pos at' (show 0 < 8 * (n : Int) by omega)
  have h2 : -(8 * (n : Int)) < Int.tmod at' (8 * (n : Int)) := by
    have h3 := Int.neg_tmod (a := at') (b := 8 * (n : Int))
    have h4 := Int.tmod_lt_of_pos (-at') (show 0 < 8 * (n : Int) by omega)
    omega
  generalize Int.tmod at' (8 * (n : Int)) = z at h1 h2
  by_cases c : z < 0
  · exact ⟨(z + 8 * (n : Int)).toNat, by omega, by rw [if_pos c, cw64 (by omega) (by omega)]; omega⟩
  · exact ⟨z.toNat, by omega, by rw [if_neg c]; omega⟩
theorem pure : cellarlaw01_SumBursts.Pure := by
  intro l0 at' a2 _ hl hw _ h2
  obtain ⟨b, rfl, hb⟩ := nats_wf l0 hw
  obtain ⟨turn, rfl, ht⟩ := nat_u32 h2
  rw [ints_length] at hl
  have hs := ext_lt (s := 0) (by decide) hb
  have h0 : ∀ k, b.length + 20 ≤ k → cellarlaw01_SumBursts.j0 (k + 1) (ints b) at' (turn : Int) true = some true := by
    intro k hk
    rw [cellarlaw01_SumBursts.j0, if_pos rfl, crc_eq _ b hb (by omega) (by omega), show (0 : Int) = ((0 : Nat) : Int) from rfl, extend_eq _ 0 b (by decide) hb (by omega) (by omega), Option.bind_some, Option.bind_some, beq_self_eq_true]
  refine ⟨b.length + 100 + 1, ?_⟩
  unfold cellarlaw01_SumBursts.f cellarlaw01_lives.f
  rw [Option.bind_some, if_pos rfl, ints_length]
  by_cases hz : b.length = 0
  · rw [if_pos (by omega)]; exact h0 _ (by omega)
  · rw [if_neg (by omega)]
    by_cases ht0 : turn = 0
    · subst ht0
      rw [show ((((0 : Nat) : Int)) == 0) = true from rfl]; exact h0 _ (by omega)
    · rw [show (((turn : Nat) : Int) == 0) = false by rw [beq_eq_false_iff_ne]; omega, cellarlaw01_SumBursts.j0, if_neg (by decide), ints_length, cw64 (n := 8 * (b.length : Int)) (by omega) (by omega), if_neg (by omega)]
      obtain ⟨q, hq, he⟩ := place_of at' b.length (by omega) (by omega)
      have hj : ∀ z : Int, z = (q : Int) → cellarlaw01_SumBursts.j1 (b.length + 100) (ints b) (turn : Int) z = some true := by
        intro z hz
        subst hz
        rw [show b.length + 100 = b.length + 99 + 1 from rfl, cellarlaw01_SumBursts.j1]
        unfold cellarlaw01_joined.f
        rw [if_pos (by rw [ints_length]; simp; omega), Option.bind_some, List.append_nil]
        refine turn_loop turn b q (by omega) hq 32 _ 0 b 0 _ rfl hb rfl (by unfold Differ; simp) (by unfold Under; decide) (by omega) ?_
        intro B' T' k' hk' hB' hl' hD hU
        rw [crc_eq _ B' hB' (by omega) (by omega), crc_eq _ b hb (by omega) (by omega), Option.bind_some, Option.bind_some, ext_burst B' b q T' hB' hb hl' hq (by unfold Under at hU; omega) hD]
      by_cases c : Int.tmod at' (8 * (b.length : Int)) < 0
      · rw [if_pos c] at he ⊢; exact hj _ he
      · rw [if_neg c] at he ⊢; exact hj _ he
end Go.Proofs.Ytbnbpnnpbnpidaa.RSumBursts
namespace Go.Proofs.Ytbnbpnnpbnpidaa.Pure
theorem SumBursts : RSumBursts.cellarlaw01_SumBursts.Pure := RSumBursts.pure
end Go.Proofs.Ytbnbpnnpbnpidaa.Pure
