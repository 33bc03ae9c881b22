/- Numbers out of bytes; whether two rows of bytes are one.
   No condition. -/
import Derived.Test.YtochhjimahcamaaEncFacts
namespace Go.Proofs.Ytochhjimahcamaa.QRecordEncodes
open Geo Crc
open Go.RowKit Go.Proofs.YtochhjimahcamaaW.PrintWords Go.Proofs.YtochhjimahcamaaW.PrintLast Go.Proofs.YtochhjimahcamaaW.PrintMore
set_option linter.unusedVariables false
set_option linter.unusedSimpArgs false

theorem num_le8 (l : List Nat) (h : Bytes l) (hl : l.length ≤ 8) : num l < 18446744073709551616 :=
  Nat.lt_of_lt_of_le (num_lt l h) (Nat.le_trans (Nat.pow_le_pow_right (by decide) hl) (by decide))
theorem shl8 (b i : Nat) (hb : b < 256) (hi : i < 8) : shl .u64 (IntKind.u64.wrap (b : Int)) (wrap64 (8 * (i : Int))) = ((2 ^ (8 * i) * b : Nat) : Int) := by
  have hp : 2 ^ (8 * i) ≤ 2 ^ 56 := Nat.pow_le_pow_right (by decide) (by omega)
  have hm : 2 ^ (8 * i) * b ≤ 2 ^ 56 * 255 := Nat.mul_le_mul hp (by omega)
  rw [u64w (by omega), cw64 (by omega) (by omega)]
  unfold shl
  rw [show (8 * (i : Int)).toNat = 8 * i by omega, show min (8 * i) (IntKind.bits .u64) = 8 * i from Nat.min_eq_left (by simp only [IntKind.bits]; omega), show (2 : Int) ^ (8 * i) = ((2 ^ (8 * i) : Nat) : Int) from (Int.natCast_pow 2 (8 * i)).symm, ← Int.natCast_mul, Nat.mul_comm]
  exact u64w (Nat.lt_of_le_of_lt hm (by decide))
theorem number_l0 (bs : List Nat) : ∀ (pre : List Nat) (k : Nat), Bytes pre → Bytes bs → pre.length + bs.length ≤ 8 → bs.length < k →
    record_number.l0 k ((num pre : Nat) : Int) (ints (pre ++ bs)) ((pre.length + bs.length : Nat) : Int) (pre.length : Int) = some ((num (pre ++ bs) : Nat) : Int) := by
  induction bs with
  | nil =>
    intro pre k hp hb hl hk
    obtain ⟨k, rfl⟩ := Nat.exists_eq_add_of_lt (Nat.zero_lt_of_lt hk)
    simp only [Nat.zero_add, record_number.l0]
    rw [if_neg (by simp), List.append_nil]
  | cons b bs ih =>
    intro pre k hp hb hl hk
    have hb0 := hb b (by simp)
    have hbs : Bytes bs := fun y hy => hb y (by simp [hy])
    simp only [List.length_cons] at hl hk ⊢
    obtain ⟨k, rfl⟩ := Nat.exists_eq_add_of_lt (Nat.zero_lt_of_lt hk)
    simp only [Nat.zero_add, record_number.l0]
    have hpn := num_lt pre hp
    rw [show 256 ^ pre.length = 2 ^ (8 * pre.length) by rw [show 256 = 2 ^ 8 from rfl, ← Nat.pow_mul]] at hpn
    have hpm : 2 ^ (8 * pre.length) * b < 18446744073709551616 :=
      Nat.lt_of_le_of_lt (Nat.mul_le_mul (Nat.pow_le_pow_right (n := 2) (by decide) (show 8 * pre.length ≤ 56 by omega)) (show b ≤ 255 by omega)) (by decide)
    have hp8 := num_le8 pre hp (by omega)
    rw [if_pos (by omega), if_pos (by omega), if_pos (by rw [ints_length, List.length_append, List.length_cons]; omega), if_pos (by rw [cw64 (by omega) (by omega)]; omega), rd_ints, shl8 b pre.length hb0 (by omega), u64_or_nat _ _ hp8 hpm, cw64 (by omega) (by omega)]
    have hor : num pre ||| 2 ^ (8 * pre.length) * b = num (pre ++ [b]) := by
      rw [Nat.or_comm, ← Nat.two_pow_add_eq_or_of_lt hpn, num_append]
      simp only [num, Nat.mul_zero, Nat.add_zero]
      rw [show 256 ^ pre.length = 2 ^ (8 * pre.length) by rw [show 256 = 2 ^ 8 from rfl, ← Nat.pow_mul]]
      omega
    have h := ih (pre ++ [b]) k (Bytes.append hp (fun y hy => by rcases List.mem_singleton.1 hy with rfl; exact hb0)) hbs (by simp only [List.length_append, List.length_cons, List.length_nil]; omega) (by omega)
    rw [List.append_assoc, List.singleton_append, List.length_append, List.length_singleton] at h
    rw [hor, show ((pre.length : Int) + 1) = ((pre.length + 1 : Nat) : Int) from rfl, show pre.length + (bs.length + 1) = pre.length + 1 + bs.length by omega]
    exact h
theorem number_eq (k : Nat) (bs : List Nat) (hb : Bytes bs) (hl : bs.length ≤ 8) (hk : 8 < k) : record_number.f k (ints bs) = some ((num bs : Nat) : Int) := by
  unfold record_number.f
  have h := number_l0 bs [] k (fun _ h => by cases h) hb (by simpa using hl) (by omega)
  simp only [List.nil_append, List.length_nil, Nat.zero_add] at h
  rw [ints_length]
  exact h
theorem ints_take (n : Nat) (l : List Nat) : (ints l).take n = ints (l.take n) := by simp [ints, List.map_take]
theorem ints_drop (n : Nat) (l : List Nat) : (ints l).drop n = ints (l.drop n) := by simp [ints, List.map_drop]
theorem bytes_take {l : List Nat} (h : Bytes l) (n : Nat) : Bytes (l.take n) := fun b hb => h b (List.mem_of_mem_take hb)
theorem bytes_drop {l : List Nat} (h : Bytes l) (n : Nat) : Bytes (l.drop n) := fun b hb => h b (List.mem_of_mem_drop hb)
theorem natsOf_str {l : List Nat} (h : Bytes l) : natsOf (strOfNums (ints l)) = l := by
  unfold natsOf
  rw [strOfNums_data]
  unfold ints
  rw [List.map_map, List.map_map]
  refine (List.map_congr_left (g := fun n => n) fun n hn => ?_).trans (List.map_id' _)
  have := h n hn
  simp only [Function.comp, Int.toNat_natCast]
  exact UInt8.toNat_ofNat_of_lt' this
theorem str_natsOf (s : ByteArray) : strOfNums (ints (natsOf s)) = s := by
  have : (strOfNums (ints (natsOf s))).data.toList = s.data.toList := by
    rw [strOfNums_data]
    unfold ints natsOf
    rw [List.map_map, List.map_map]
    refine (List.map_congr_left (g := fun n => n) fun n hn => ?_).trans (List.map_id' _)
    simp
  cases s with | mk d =>
  simp only [strOfNums] at this ⊢
  congr 1
  exact Array.toList_inj.mp this
theorem str_size (l : List Nat) : (strOfNums (ints l)).size = l.length := by rw [strOfNums_size, ints_length]
theorem equal_eq (a b : List Nat) (ha : Bytes a) (hb : Bytes b) : bytes_Equal.f (ints a) (ints b) = some (decide (a = b)) := by
  unfold bytes_Equal.f
  rw [Go.ByteArray.toList_eq, Go.ByteArray.toList_eq]
  refine congrArg some ?_
  rw [Bool.eq_iff_iff, beq_iff_eq, decide_eq_true_iff]
  constructor
  · intro h
    rw [← natsOf_str ha, ← natsOf_str hb]
    unfold natsOf
    rw [h]
  · intro h; rw [h]

end Go.Proofs.Ytochhjimahcamaa.QRecordEncodes
