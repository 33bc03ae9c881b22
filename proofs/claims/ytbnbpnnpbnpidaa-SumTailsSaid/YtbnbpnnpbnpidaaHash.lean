/- Plain facts on xxHash64 by blocks, and on products of polynomials modulo that of the check sum.
   No condition. -/
import Derived.Test.YtbnbpnnpbnpidaaCrc
namespace Go.Proofs.Ytbnbpnnpbnpidaa.Hash
open Go.RowKit Go.Proofs.YtbnbpnnpbnpidaaW.PrintWords Go.Proofs.YtbnbpnnpbnpidaaW.PrintMore Crc
def rol (x n : Nat) : Nat := x * 2 ^ n % 18446744073709551616 ||| x / 2 ^ (64 - n)
def rnd (a w : Nat) : Nat := rol ((a + w * 14029467366897019727 % 18446744073709551616) % 18446744073709551616) 31 * 11400714785074694791 % 18446744073709551616
def stepL (lanes blk : List Nat) : List Nat := (List.range 4).map fun i => rnd (lanes.getD i 0) (num ((blk.drop (8 * i)).take 8))
def lanesOf (lanes : List Nat) : Nat → List Nat → List Nat
  | 0, _ => lanes
  | q + 1, b => stepL (lanesOf lanes q b) (b.drop (32 * q))
def lanes0 (seed : Nat) : List Nat := [((seed + 11400714785074694791) % 18446744073709551616 + 14029467366897019727) % 18446744073709551616, (seed + 14029467366897019727) % 18446744073709551616, seed, (seed + 18446744073709551616 - 11400714785074694791) % 18446744073709551616]
theorem stepL_length (lanes blk : List Nat) : (stepL lanes blk).length = 4 := by simp [stepL]
theorem lanesOf_length (lanes : List Nat) (h : lanes.length = 4) (q : Nat) (b : List Nat) : (lanesOf lanes q b).length = 4 := by
  cases q with
  | zero => exact h
  | succ q => exact stepL_length _ _
theorem stepL_append (lanes y x : List Nat) (h : 32 ≤ y.length) : stepL lanes (y ++ x) = stepL lanes y := by
  unfold stepL
  apply List.map_congr_left
  intro i hi
  have hi := List.mem_range.1 hi
  rw [List.drop_append_of_le_length (by omega), List.take_append_of_le_length (by rw [List.length_drop]; omega)]
theorem lanesOf_append (lanes : List Nat) (b x : List Nat) (q : Nat) (h : 32 * q ≤ b.length) : lanesOf lanes q (b ++ x) = lanesOf lanes q b := by
  induction q with
  | zero => rfl
  | succ q ih =>
    simp only [lanesOf]
    rw [ih (by omega), List.drop_append_of_le_length (by omega), stepL_append _ _ _ (by rw [List.length_drop]; omega)]
/-- What a hasher holds once these bytes are written. -/
structure St (seed : Nat) (all lanes left : List Nat) (kept : Nat) : Prop where
  l4 : lanes.length = 4
  l32 : left.length = 32
  bl : Bytes left
  ba : Bytes all
  hk : kept = all.length % 32
  hl : lanes = lanesOf (lanes0 seed) (all.length / 32) all
  hr : left.take kept = all.drop (32 * (all.length / 32))
theorem St.zero (seed : Nat) : St seed [] (lanes0 seed) (List.replicate 32 0) 0 := by
  refine ⟨rfl, by simp, ?_, fun b hb => (by cases hb), rfl, rfl, rfl⟩
  intro b hb
  rw [List.eq_of_mem_replicate hb]; omega
/-- Bytes laid into what is left. -/
def lay (left : List Nat) (kept : Nat) (x : List Nat) : List Nat := left.take kept ++ (x ++ left.drop (kept + x.length))
theorem lay_length (left : List Nat) (kept : Nat) (x : List Nat) (h : kept + x.length ≤ left.length) : (lay left kept x).length = left.length := by
  simp [lay]; omega
theorem lay_bytes {left : List Nat} {kept : Nat} {x : List Nat} (h1 : Bytes left) (h2 : Bytes x) : Bytes (lay left kept x) := by
  intro b hb
  unfold lay at hb
  rcases List.mem_append.1 hb with h | h
  · exact h1 b (List.mem_of_mem_take h)
  · rcases List.mem_append.1 h with h | h
    · exact h2 b h
    · exact h1 b (List.mem_of_mem_drop h)
theorem St.part {seed : Nat} {all lanes left x : List Nat} {kept : Nat} (h : St seed all lanes left kept) (hx : Bytes x) (hn : kept + x.length < 32) : St seed (all ++ x) lanes (lay left kept x) (kept + x.length) := by
  have hk := h.hk
  have hq : (all ++ x).length / 32 = all.length / 32 := by rw [List.length_append]; omega
  refine ⟨h.l4, by rw [lay_length _ _ _ (by rw [h.l32]; omega), h.l32], lay_bytes h.bl hx, h.ba.append hx, by rw [List.length_append]; omega, ?_, ?_⟩
  · rw [hq, lanesOf_append _ _ _ _ (by omega)]; exact h.hl
  · rw [hq, List.drop_append_of_le_length (by omega), ← h.hr]
    unfold lay
    rw [← List.append_assoc, List.take_append_of_le_length (by rw [List.length_append, List.length_take, h.l32]; omega), List.take_of_length_le (by rw [List.length_append, List.length_take, h.l32]; omega)]
theorem St.full {seed : Nat} {all lanes left x : List Nat} {kept : Nat} (h : St seed all lanes left kept) (hx : Bytes x) (hn : kept + x.length = 32) : St seed (all ++ x) (stepL lanes (lay left kept x)) (lay left kept x) 0 := by
  have hk := h.hk
  have hq : (all ++ x).length / 32 = all.length / 32 + 1 := by rw [List.length_append]; omega
  have hlay : lay left kept x = all.drop (32 * (all.length / 32)) ++ x := by
    unfold lay
    rw [hn, List.drop_of_length_le (by rw [h.l32]; omega), List.append_nil, h.hr]
  refine ⟨stepL_length _ _, by rw [lay_length _ _ _ (by rw [h.l32]; omega), h.l32], lay_bytes h.bl hx, h.ba.append hx, by rw [List.length_append]; omega, ?_, ?_⟩
  · rw [hq]
    simp only [lanesOf]
    rw [lanesOf_append _ _ _ _ (by omega), List.drop_append_of_le_length (by omega), ← hlay, ← h.hl]
  · rw [hq, List.take_zero, List.drop_of_length_le (by rw [List.length_append]; omega)]
def turn (i : Nat) : Nat := [1, 7, 12, 18].getD i 0
def lpart (lanes : List Nat) : Nat → Nat
  | 0 => 0
  | i + 1 => (lpart lanes i + rol (lanes.getD i 0) (turn i)) % 18446744073709551616
def lfold (o v : Nat) : Nat := ((o ^^^ rnd 0 v) * 11400714785074694791 % 18446744073709551616 + 9650029242287828579) % 18446744073709551616
def lsum (lanes : List Nat) : Nat := lanes.foldl lfold (lpart lanes 4)
def s8v (x v : Nat) : Nat := (rol (x ^^^ rnd 0 v) 27 * 11400714785074694791 % 18446744073709551616 + 9650029242287828579) % 18446744073709551616
def e8 : Nat → Nat → List Nat → Nat
  | 0, x, _ => x
  | q + 1, x, b => s8v (e8 q x b) (num ((b.drop (8 * q)).take 8))
def s4v (x v : Nat) : Nat := (rol (x ^^^ (v * 11400714785074694791 % 18446744073709551616)) 23 * 14029467366897019727 % 18446744073709551616 + 1609587929392839161) % 18446744073709551616
def s1 (x c : Nat) : Nat := rol (x ^^^ (c * 2870177450012600261 % 18446744073709551616)) 11 * 11400714785074694791 % 18446744073709551616
def fin (x : Nat) : Nat :=
  let y := (x ^^^ x / 2 ^ 33) * 14029467366897019727 % 18446744073709551616
  let z := (y ^^^ y / 2 ^ 29) * 1609587929392839161 % 18446744073709551616
  z ^^^ z / 2 ^ 32
/-- The end of a hash: fewer than 32 bytes are left. -/
def ending (x : Nat) (b : List Nat) : Nat :=
  let y := e8 (b.length / 8) x b
  let c := b.drop (8 * (b.length / 8))
  let z := if 4 ≤ c.length then s4v y (num (c.take 4)) else y
  let d := if 4 ≤ c.length then c.drop 4 else c
  fin (d.foldl s1 z)
def begun (seed : Nat) (all : List Nat) : Nat := if 32 ≤ all.length then lsum (lanesOf (lanes0 seed) (all.length / 32) all) else (seed + 2870177450012600261) % 18446744073709551616
def hashN (seed : Nat) (all : List Nat) : Nat := ending ((begun seed all + all.length) % 18446744073709551616) (all.drop (32 * (all.length / 32)))
theorem hash_abc : hashN 0 [97, 98, 99] = 0x44bc2cf5ad770999 := by decide +kernel
theorem crc_digits : ext 0 [49, 50, 51, 52, 53, 54, 55, 56, 57] = 0xe3069283 := by decide +kernel
end Go.Proofs.Ytbnbpnnpbnpidaa.Hash
namespace Go.Proofs.Ytbnbpnnpbnpidaa.Crc
theorem xor4 (a b c d : Nat) : a ^^^ b ^^^ (c ^^^ d) = a ^^^ c ^^^ (b ^^^ d) := by
  rw [Nat.xor_assoc, Nat.xor_assoc, ← Nat.xor_assoc b c d, Nat.xor_comm b c, Nat.xor_assoc c b d]
/-- The product of two polynomials, the highest of m coefficients of a first. -/
def mul : Nat → Nat → Nat → Nat
  | 0, _, _ => 0
  | m + 1, a, b => (if a.testBit m then b else 0) ^^^ mul m a (cstep b)
theorem cstep_zero : cstep 0 = 0 := by decide
theorem csteps_zero (m : Nat) : csteps m 0 = 0 := by
  induction m with
  | zero => rfl
  | succ m ih => simp only [csteps]; rw [cstep_zero, ih]
theorem mul_xor_right (m : Nat) : ∀ a b c, mul m a (b ^^^ c) = mul m a b ^^^ mul m a c := by
  induction m with
  | zero => intro a b c; simp [mul]
  | succ m ih =>
    intro a b c
    simp only [mul]
    rw [cstep_xor, ih, xor4]
    congr 1
    by_cases h : a.testBit m = true
    · rw [if_pos h, if_pos h, if_pos h]
    · rw [if_neg h, if_neg h, if_neg h]; rfl
theorem mul_xor_left (m : Nat) : ∀ a c b, mul m (a ^^^ c) b = mul m a b ^^^ mul m c b := by
  induction m with
  | zero => intro a b c; simp [mul]
  | succ m ih =>
    intro a c b
    simp only [mul]
    rw [ih, xor4, Nat.testBit_xor]
    congr 1
    cases a.testBit m <;> cases c.testBit m <;> simp
theorem mul_cstep (m : Nat) : ∀ a b, mul m a (cstep b) = cstep (mul m a b) := by
  induction m with
  | zero => intro a b; exact cstep_zero.symm
  | succ m ih =>
    intro a b
    simp only [mul]
    rw [ih, ih, cstep_xor]
    congr 1
    by_cases h : a.testBit m = true
    · rw [if_pos h, if_pos h]
    · rw [if_neg h, if_neg h]; exact cstep_zero.symm
theorem csteps_cstep (m : Nat) : ∀ b, csteps m (cstep b) = cstep (csteps m b) := by
  intro b
  have h1 := csteps_add m 1 b
  have h2 := csteps_add 1 m b
  rw [Nat.add_comm 1 m, h1] at h2
  exact h2.symm
theorem mul_half (m : Nat) : ∀ a b, mul (m + 1) a b = mul m (a / 2) b ^^^ (if a % 2 = 1 then csteps m b else 0) := by
  induction m with
  | zero =>
    intro a b
    simp only [mul, csteps]
    rw [Nat.xor_zero, Nat.zero_xor, Nat.testBit_zero]
    by_cases h : a % 2 = 1
    · rw [if_pos h, if_pos (decide_eq_true h)]
    · rw [if_neg h, if_neg (by simpa using h)]
  | succ m ih =>
    intro a b
    have e : mul (m + 1 + 1) a b = (if a.testBit (m + 1) then b else 0) ^^^ mul (m + 1) a (cstep b) := rfl
    have e2 : mul (m + 1) (a / 2) b = (if (a / 2).testBit m then b else 0) ^^^ mul m (a / 2) (cstep b) := rfl
    rw [e, e2, ih, Nat.testBit_succ, Nat.xor_assoc]
    rfl
/-- What is additive and 0 at each power is 0. -/
theorem add_zero {f : Nat → Nat} (hf : ∀ a b, f (a ^^^ b) = f a ^^^ f b) (n : Nat) (h : ∀ j, j < n → f (2 ^ j) = 0) : ∀ x, x < 2 ^ n → f x = 0 := by
  induction n with
  | zero =>
    intro x hx
    obtain rfl : x = 0 := by simpa using hx
    have := hf 0 0
    simpa using this
  | succ n ih =>
    intro x hx
    have ih := ih (fun j hj => h j (by omega))
    by_cases c : x < 2 ^ n
    · exact ih x c
    · have h1 : x ^^^ 2 ^ n < 2 ^ n := by
        rw [Nat.pow_succ] at hx
        have e : x = 2 ^ n * 1 + (x - 2 ^ n) := by omega
        have : 2 ^ n * 1 + (x - 2 ^ n) = 2 ^ n * 1 ^^^ (x - 2 ^ n) := add_xor n 1 _ (by omega)
        rw [e, this, Nat.mul_one, Nat.xor_comm, ← Nat.xor_assoc, Nat.xor_self, Nat.zero_xor]
        omega
      have h2 := hf (x ^^^ 2 ^ n) (2 ^ n)
      rw [Nat.xor_assoc, Nat.xor_self, Nat.xor_zero, ih _ h1, h n (by omega)] at h2
      simpa using h2
theorem add_eq {f g : Nat → Nat} (hf : ∀ a b, f (a ^^^ b) = f a ^^^ f b) (hg : ∀ a b, g (a ^^^ b) = g a ^^^ g b) (n : Nat) (h : ∀ j, j < n → f (2 ^ j) = g (2 ^ j)) (x : Nat) (hx : x < 2 ^ n) : f x = g x := by
  have := add_zero (f := fun y => f y ^^^ g y) (fun a b => by rw [hf, hg, xor4]) n (fun j hj => by rw [h j hj, Nat.xor_self]) x hx
  have h2 : f x ^^^ g x ^^^ g x = 0 ^^^ g x := by rw [show f x ^^^ g x = 0 from this]
  rwa [Nat.xor_assoc, Nat.xor_self, Nat.xor_zero, Nat.zero_xor] at h2
theorem csteps_one (j : Nat) (hj : j < 32) : csteps (31 - j) 2147483648 = 2 ^ j := by
  have h : ∀ i : Fin 32, csteps (31 - i.val) 2147483648 = 2 ^ i.val := by decide +kernel
  exact h ⟨j, hj⟩
theorem mul_csteps (m n : Nat) : ∀ a b, mul m a (csteps n b) = csteps n (mul m a b) := by
  induction n with
  | zero => intro a b; rfl
  | succ n ih => intro a b; simp only [csteps]; rw [ih, mul_cstep]
theorem csteps_comm (m n x : Nat) : csteps m (csteps n x) = csteps n (csteps m x) := by rw [← csteps_add, ← csteps_add, Nat.add_comm]
theorem mul_poly (b : Nat) (hb : b < 4294967296) : mul 32 2197175160 b = csteps 32 b := by
  refine add_eq (mul_xor_right 32 _) (csteps_xor 32) 32 (fun j hj => ?_) b hb
  rw [← csteps_one j hj, mul_csteps, csteps_comm]
  rw [show mul 32 2197175160 2147483648 = csteps 32 2147483648 by decide +kernel]
theorem mul_shift (a b : Nat) (ha : a < 4294967296) (hb : b < 4294967296) : mul 32 (cstep a) b = cstep (mul 32 a b) := by
  have e1 : mul 32 (a / 2) b = mul 31 (a / 2) (cstep b) := by
    have : mul 32 (a / 2) b = (if (a / 2).testBit 31 then b else 0) ^^^ mul 31 (a / 2) (cstep b) := rfl
    rw [this, Nat.testBit_lt_two_pow (by omega), if_neg (by decide), Nat.zero_xor]
  have e2 := mul_half 31 a b
  rw [e2, cstep_xor, ← mul_cstep, ← e1]
  unfold cstep
  by_cases c : a % 2 = 1
  · rw [if_pos c, if_pos c, mul_xor_left, mul_poly b hb]
    rfl
  · rw [if_neg c, if_neg c]; exact (Nat.xor_zero _).symm
theorem csteps_lt' (m : Nat) : ∀ {n : Nat}, n < 4294967296 → csteps m n < 4294967296 := by
  induction m with
  | zero => exact fun h => h
  | succ m ih => exact fun h => ih (cstep_lt h)
theorem mul_shifts (m : Nat) : ∀ (a b : Nat), a < 4294967296 → b < 4294967296 → mul 32 (csteps m a) b = csteps m (mul 32 a b) := by
  induction m with
  | zero => intro a b _ _; rfl
  | succ m ih =>
    intro a b ha hb
    simp only [csteps]
    rw [ih _ _ (cstep_lt ha) hb, mul_shift a b ha hb]
theorem mul_none (b : Nat) : ∀ m a, (∀ j, j < m → a.testBit j = false) → mul m a b = 0 := by
  intro m
  induction m generalizing b with
  | zero => intro a _; rfl
  | succ m ih => intro a h; simp only [mul]; rw [h m (by omega), ih _ _ (fun j hj => h j (by omega))]; simp
theorem mul_one (b : Nat) : mul 32 2147483648 b = b := by
  have e : mul 32 2147483648 b = (if Nat.testBit 2147483648 31 then b else 0) ^^^ mul 31 2147483648 (cstep b) := rfl
  rw [e, if_pos (by decide), mul_none]
  · exact Nat.xor_zero b
  · have h : ∀ i : Fin 31, Nat.testBit 2147483648 i.val = false := by decide
    exact fun j hj => h ⟨j, hj⟩
theorem mul_power (m b : Nat) (hb : b < 4294967296) : mul 32 (csteps m 2147483648) b = csteps m b := by
  rw [mul_shifts m _ _ (by decide) hb, mul_one]
end Go.Proofs.Ytbnbpnnpbnpidaa.Crc
