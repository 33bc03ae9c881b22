import Derived.RowKit
import Derived.Laws.BitsLemmas
import Derived.Laws.BitsAllLaws
import Derived.Test.YtnkbebdgkidbjaaWMore
namespace Go.Proofs.Ytnkbebdgkidbjaa.Geo
open Go.RowKit Go.Proofs.YtnkbebdgkidbjaaW.PrintMore

/-- One of the powers of two from 1 to 4096. -/
def P2 (n : Int) : Prop := n = 1 ∨ n = 2 ∨ n = 4 ∨ n = 8 ∨ n = 16 ∨ n = 32 ∨ n = 64 ∨ n = 128 ∨ n = 256 ∨ n = 512 ∨ n = 1024 ∨ n = 2048 ∨ n = 4096
instance (n : Int) : Decidable (P2 n) := by unfold P2; infer_instance

/-- A geometry that may be. -/
def Ok (p s r a : Int) : Prop := (P2 p ∧ 16 ≤ p) ∧ (1 ≤ s ∧ s ≤ 64) ∧ (2 ≤ r ∧ r ≤ 256) ∧ (P2 a ∧ a ≤ p) ∧ 128 ≤ p * s ∧ a ≤ p * s - 48 ∧ p * s * r ≤ 1048576
instance (p s r a : Int) : Decidable (Ok p s r a) := by unfold Ok; infer_instance

theorem iteI {α : Type} {c : Prop} [Decidable c] {a b r : α} (h1 : c → a = r) (h2 : ¬ c → b = r) : (if c then a else b) = r := by
  by_cases h : c
  · rw [if_pos h]; exact h1 h
  · rw [if_neg h]; exact h2 h

theorem w64 {n : Int} (h0 : -9223372036854775808 ≤ n) (h1 : n < 9223372036854775808) : wrap64 n = n := by unfold wrap64; omega

theorem p2_range {n : Int} (h : P2 n) : 1 ≤ n ∧ n ≤ 4096 := by unfold P2 at h; omega

/-- m is 0 or one of the powers of two up to 4096 (as a Bool). -/
def powB (m : Nat) : Bool := [0, 1, 2, 4, 8, 16, 32, 64, 128, 256, 512, 1024, 2048, 4096].contains m
theorem and_pow0 : ∀ i : Fin 65, ∀ j : Fin 64, ((64 * i.val + j.val) &&& (64 * i.val + j.val - 1) == 0) = powB (64 * i.val + j.val) := by
  decide +kernel
theorem and_pow (m : Nat) (h : m ≤ 4096) : ((m &&& (m - 1)) == 0) = powB m := by
  have := and_pow0 ⟨m / 64, by omega⟩ ⟨m % 64, by omega⟩
  simp only [Nat.div_add_mod] at this
  exact this

theorem i64_nat (n : Int) (h0 : 0 ≤ n) (h1 : n < 2 ^ 62) : IntKind.i64.wrap n = n := by rw [IntKind.wrap_i64]; omega

theorem bits_pow {n : Int} (h0 : 1 ≤ n) (h1 : n ≤ 4096) : (Go.bits .and .i64 n (wrap64 (n - 1)) == 0) = decide (P2 n) := by
  obtain ⟨m, rfl⟩ := Int.eq_ofNat_of_zero_le (show 0 ≤ n by omega)
  rw [w64 (by omega) (by omega), show ((m : Int) - 1) = ((m - 1 : Nat) : Int) by omega]
  have hp := (bits_nat .i64 62 (by decide) i64_nat m (m - 1) (by omega) (by omega)).1
  rw [hp]
  have := and_pow m (by omega)
  have hc : (((m &&& (m - 1) : Nat) : Int) == 0) = ((m &&& (m - 1)) == 0) := by
    rw [Bool.eq_iff_iff, beq_iff_eq, beq_iff_eq]; exact Int.natCast_eq_zero
  rw [hc, this, Bool.eq_iff_iff, decide_eq_true_iff]
  simp only [powB, List.contains_eq_mem, List.mem_cons, List.not_mem_nil, or_false, decide_eq_true_eq, P2]
  omega

theorem pq_bound {p s : Int} (hp : 1 ≤ p ∧ p ≤ 4096) (hs : 1 ≤ s ∧ s ≤ 64) : 1 ≤ p * s ∧ p * s ≤ 262144 := by
  refine ⟨?_, ?_⟩
  · have := Int.mul_le_mul hp.1 hs.1 (by omega) (by omega); omega
  · have := Int.mul_le_mul hp.2 hs.2 (by omega) (by omega); omega

theorem prod3_bound {q r : Int} (hq : 1 ≤ q ∧ q ≤ 262144) (hr : 2 ≤ r ∧ r ≤ 256) : 1 ≤ q * r ∧ q * r ≤ 67108864 := by
  refine ⟨?_, ?_⟩
  · have := Int.mul_le_mul hq.1 hr.1 (by omega) (by omega); omega
  · have := Int.mul_le_mul hq.2 hr.2 (by omega) (by omega); omega


theorem p2_pow {a : Int} (h : P2 a) : ∃ j : Nat, j ≤ 12 ∧ a = ((2 ^ j : Nat) : Int) := by
  rcases h with h | h | h | h | h | h | h | h | h | h | h | h | h
  · exact ⟨0, by decide, h⟩
  · exact ⟨1, by decide, h⟩
  · exact ⟨2, by decide, h⟩
  · exact ⟨3, by decide, h⟩
  · exact ⟨4, by decide, h⟩
  · exact ⟨5, by decide, h⟩
  · exact ⟨6, by decide, h⟩
  · exact ⟨7, by decide, h⟩
  · exact ⟨8, by decide, h⟩
  · exact ⟨9, by decide, h⟩
  · exact ⟨10, by decide, h⟩
  · exact ⟨11, by decide, h⟩
  · exact ⟨12, by decide, h⟩

theorem andNot_pow {x a : Int} (h : P2 a) (h0 : 0 ≤ x) (h1 : x < 2 ^ 62) : Go.bits .andNot .i64 x (a - 1) = x / a * a := by
  obtain ⟨j, hj, rfl⟩ := p2_pow h
  obtain ⟨m, rfl⟩ := Int.eq_ofNat_of_zero_le h0
  have hp : 0 < 2 ^ j := Nat.two_pow_pos j
  have hle : 2 ^ j ≤ 2 ^ 12 := Nat.pow_le_pow_right (by decide) hj
  have hm : m < 2 ^ 62 := by omega
  rw [show ((2 ^ j : Nat) : Int) - 1 = ((2 ^ j - 1 : Nat) : Int) by omega]
  simp only [Go.bits, BitVec.ofInt_natCast, BitVec.toNat_and, BitVec.toNat_not, BitVec.toNat_ofNat]
  have e1 : m % 2 ^ IntKind.i64.bits = m := Nat.mod_eq_of_lt (by show m < 2 ^ 64; omega)
  have e2 : (2 ^ j - 1) % 2 ^ IntKind.i64.bits = 2 ^ j - 1 := Nat.mod_eq_of_lt (by show 2 ^ j - 1 < 2 ^ 64; omega)
  have e3 : 2 ^ IntKind.i64.bits - 1 - (2 ^ j - 1) = 2 ^ 64 - 2 ^ j := by show 2 ^ 64 - 1 - (2 ^ j - 1) = _; omega
  rw [e1, e2, e3, nat_midmask 64 j m (by omega), Nat.mod_eq_of_lt (by omega)]
  have hle2 : m / 2 ^ j * 2 ^ j ≤ m := Nat.div_mul_le_self m _
  rw [i64_nat _ (by omega) (by omega)]
  simp

/-- The least multiple of a power of two. -/
theorem up_eq {n a : Int} (h : P2 a) (h0 : 0 ≤ n) (h1 : n < 2 ^ 60) : Go.bits .andNot .i64 (wrap64 (wrap64 (n + a) - 1)) (wrap64 (a - 1)) = (n + a - 1) / a * a := by
  have ha := p2_range h
  rw [w64 (n := n + a) (by omega) (by omega), w64 (n := n + a - 1) (by omega) (by omega), w64 (n := a - 1) (by omega) (by omega), andNot_pow h (by omega) (by omega)]

theorem up_facts {n a : Int} (ha : 1 ≤ a) : n ≤ (n + a - 1) / a * a ∧ (n + a - 1) / a * a < n + a ∧ ((n + a - 1) / a * a) % a = 0 := by
  have h1 := Int.emod_add_mul_ediv (n + a - 1) a
  have h2 := Int.emod_nonneg (n + a - 1) (show a ≠ 0 by omega)
  have h3 := Int.emod_lt_of_pos (n + a - 1) (show 0 < a by omega)
  rw [Int.mul_comm] at h1
  exact ⟨by omega, by omega, Int.mul_emod_left _ _⟩

theorem mask24 {x : Int} (h0 : 0 ≤ x) (h1 : x < 18446744073709551616) : Go.bits .and .u64 x 16777215 = x % 16777216 := by
  have := bits_mask .u64 64 (by decide) (fun n h0 h1 => by simp [IntKind.wrap, IntKind.bits, IntKind.signed]; omega) 24 (by decide) x h0 (by omega)
  simpa using this

theorem wu64 {n : Int} (h0 : 0 ≤ n) (h1 : n < 18446744073709551616) : IntKind.u64.wrap n = n := by simp [IntKind.wrap, IntKind.bits, IntKind.signed]; omega

theorem wf_i64 {x : Int} (h : (Lit.int .i64 x).wf = true) : -9223372036854775808 ≤ x ∧ x ≤ 9223372036854775807 := by
  simp [Lit.wf, IntKind.min, IntKind.max, IntKind.bits, IntKind.signed] at h; omega
theorem wf_u64 {x : Int} (h : (Lit.int .u64 x).wf = true) : 0 ≤ x ∧ x ≤ 18446744073709551615 := by
  simp [Lit.wf, IntKind.min, IntKind.max, IntKind.bits, IntKind.signed] at h; omega
theorem wf_u8 {x : Int} (h : (Lit.int .u8 x).wf = true) : 0 ≤ x ∧ x ≤ 255 := by
  simp [Lit.wf, IntKind.min, IntKind.max, IntKind.bits, IntKind.signed] at h; omega
end Go.Proofs.Ytnkbebdgkidbjaa.Geo
