/- Plain facts on check sums bit by bit and on numbers as bytes.
   No condition. -/
import Derived.RowKit
import Derived.Laws.BitsLemmas
import Derived.Laws.BitsAllLaws
import Derived.Laws.BytesArg
import Derived.Test.YtochhjimahcamaaWMore
namespace Go.Proofs.Ytochhjimahcamaa.Crc
open Go.RowKit Go.Proofs.YtochhjimahcamaaW.PrintWords Go.Proofs.YtochhjimahcamaaW.PrintMore

def ints (l : List Nat) : List Int := l.map (fun (n : Nat) => (n : Int))
theorem ints_length (l : List Nat) : (ints l).length = l.length := by simp [ints]
theorem ints_append (a b : List Nat) : ints (a ++ b) = ints a ++ ints b := by simp [ints]
def cstep (n : Nat) : Nat := if n % 2 = 1 then n / 2 ^^^ 2197175160 else n / 2
def csteps : Nat → Nat → Nat
  | 0, x => x
  | m + 1, x => csteps m (cstep x)
def reg : Nat → List Nat → Nat
  | x, [] => x
  | x, b :: l => reg (csteps 8 (x ^^^ b)) l
def ext (s : Nat) (l : List Nat) : Nat := 4294967295 ^^^ reg (4294967295 ^^^ s) l
def leb : Nat → Nat → List Nat
  | 0, _ => []
  | m + 1, x => x % 256 :: leb m (x / 256)
/-- Each is a byte. -/
def Bytes (l : List Nat) : Prop := ∀ b ∈ l, b < 256
theorem Bytes.append {a b : List Nat} (ha : Bytes a) (hb : Bytes b) : Bytes (a ++ b) := fun x hx => by
  rcases List.mem_append.1 hx with h | h
  · exact ha x h
  · exact hb x h
theorem leb_length (m x : Nat) : (leb m x).length = m := by
  induction m generalizing x with
  | zero => rfl
  | succ m ih => simp [leb, ih]
theorem leb_bytes (m x : Nat) : Bytes (leb m x) := by
  induction m generalizing x with
  | zero => intro b hb; cases hb
  | succ m ih =>
    intro b hb
    rcases List.mem_cons.1 hb with h | h
    · rw [h]; omega
    · exact ih _ b h
theorem cstep_lt {n : Nat} (h : n < 4294967296) : cstep n < 4294967296 := by
  unfold cstep
  by_cases c : n % 2 = 1
  · rw [if_pos c]; exact Nat.xor_lt_two_pow (n := 32) (by omega) (by omega)
  · rw [if_neg c]; omega
theorem csteps_lt (m : Nat) : ∀ {n : Nat}, n < 4294967296 → csteps m n < 4294967296 := by
  induction m with
  | zero => exact fun h => h
  | succ m ih => exact fun h => ih (cstep_lt h)
theorem xor32 {a b : Nat} (ha : a < 4294967296) (hb : b < 4294967296) : a ^^^ b < 4294967296 := Nat.xor_lt_two_pow (n := 32) ha hb
theorem reg_lt (l : List Nat) : ∀ {x : Nat}, x < 4294967296 → Bytes l → reg x l < 4294967296 := by
  induction l with
  | nil => exact fun h _ => h
  | cons b l ih => exact fun h hb => ih (csteps_lt 8 (xor32 h (by have := hb b (by simp); omega))) (fun y hy => hb y (by simp [hy]))
theorem ext_lt {s : Nat} {l : List Nat} (hs : s < 4294967296) (hl : Bytes l) : ext s l < 4294967296 := xor32 (by decide) (reg_lt l (xor32 (by decide) hs) hl)
theorem reg_append (a b : List Nat) : ∀ x, reg x (a ++ b) = reg (reg x a) b := by
  induction a with
  | nil => intro x; rfl
  | cons c a ih => intro x; exact ih _
theorem xor_twice (f x : Nat) : f ^^^ (f ^^^ x) = x := by rw [← Nat.xor_assoc, Nat.xor_self, Nat.zero_xor]
theorem ext_append (s : Nat) (a b : List Nat) : ext (ext s a) b = ext s (a ++ b) := by
  unfold ext; rw [xor_twice, reg_append]
theorem rd_ints (pre : List Nat) (b : Nat) (l : List Nat) : rd (ints (pre ++ b :: l)) ((pre.length : Nat) : Int) = (b : Int) := by
  unfold rd ints
  rw [Int.toNat_natCast, List.getD_eq_getElem?_getD, List.getElem?_map, List.getElem?_append_right (Nat.le_refl _)]
  simp
def natsOf (s : ByteArray) : List Nat := s.data.toList.map fun b => b.toNat
theorem bytesOf_ints (s : ByteArray) : bytesOf s = ints (natsOf s) := by
  unfold bytesOf ints natsOf; rw [List.map_map]; rfl
theorem natsOf_bytes (s : ByteArray) : Bytes (natsOf s) := by
  intro b hb
  unfold natsOf at hb
  obtain ⟨c, _, rfl⟩ := List.mem_map.1 hb
  exact c.toNat_lt
theorem natsOf_length (s : ByteArray) : (natsOf s).length = s.size := by unfold natsOf; rw [List.length_map, data_length]
theorem natsOf_append (s t : ByteArray) : natsOf (s ++ t) = natsOf s ++ natsOf t := by
  unfold natsOf; rw [← List.map_append, ByteArray.data_append, Array.toList_append]
theorem cw64 {n : Int} (h0 : -9223372036854775808 ≤ n) (h1 : n < 9223372036854775808) : wrap64 n = n := by unfold wrap64; omega
theorem u64w {n : Nat} (h1 : n < 18446744073709551616) : IntKind.u64.wrap (n : Int) = (n : Int) := by
  rw [IntKind.wrap_u64]; omega
theorem div_leb (x i : Nat) : x / 2 ^ (8 * i) / 256 = x / 2 ^ (8 * (i + 1)) := by
  rw [Nat.div_div_eq_div_mul, show 8 * (i + 1) = 8 * i + 8 by omega, Nat.pow_add]
theorem shr8 (x i : Nat) (hi : i < 8) : shr .u64 (x : Int) (wrap64 (8 * (i : Int))) % 256 = ((x / 2 ^ (8 * i) % 256 : Nat) : Int) := by
  rw [cw64 (by omega) (by omega)]
  unfold shr
  rw [show (8 * (i : Int)).toNat = 8 * i by omega, show min (8 * i) (IntKind.bits .u64) = 8 * i from Nat.min_eq_left (by simp only [IntKind.bits]; omega)]
  rw [show (2 : Int) ^ (8 * i) = ((2 ^ (8 * i) : Nat) : Int) from (Int.natCast_pow 2 (8 * i)).symm, ← Int.natCast_ediv]; rfl
def num : List Nat → Nat
  | [] => 0
  | b :: l => b + 256 * num l
theorem num_append (a b : List Nat) : num (a ++ b) = num a + 256 ^ a.length * num b := by
  induction a with
  | nil => simp [num]
  | cons c a ih => simp only [List.cons_append, num, ih, List.length_cons, Nat.pow_succ]; rw [Nat.mul_add, Nat.mul_comm (256 ^ a.length) 256, Nat.mul_assoc]; omega
theorem num_lt (l : List Nat) (h : Bytes l) : num l < 256 ^ l.length := by
  induction l with
  | nil => simp [num]
  | cons b l ih =>
    have h1 := h b (by simp)
    have h2 := ih (fun y hy => h y (by simp [hy]))
    simp only [num, List.length_cons, Nat.pow_succ]
    omega
theorem num_leb (m x : Nat) : num (leb m x) = x % 256 ^ m := by
  induction m generalizing x with
  | zero => simp [num, leb, Nat.mod_one]
  | succ m ih =>
    simp only [num, leb, ih]
    rw [Nat.pow_succ, Nat.mul_comm (256 ^ m) 256, Nat.mod_mul]
theorem cstep_xor (a b : Nat) : cstep (a ^^^ b) = cstep a ^^^ cstep b := by
  have hd : (a ^^^ b) / 2 = a / 2 ^^^ b / 2 := Nat.xor_div_two
  have hm : (a ^^^ b) % 2 = a % 2 ^^^ b % 2 := Nat.xor_mod_two_pow (n := 1)
  unfold cstep
  rw [hd]
  rcases Nat.mod_two_eq_zero_or_one a with ha | ha <;> rcases Nat.mod_two_eq_zero_or_one b with hb | hb
  · rw [hm, ha, hb, if_neg (by decide), if_neg (by decide), if_neg (by decide)]
  · rw [hm, ha, hb, if_pos (by decide), if_neg (by decide), if_pos (by decide), Nat.xor_assoc]
  · rw [hm, ha, hb, if_pos (by decide), if_pos (by decide), if_neg (by decide), Nat.xor_assoc, Nat.xor_comm (b / 2), Nat.xor_assoc]
  · rw [hm, ha, hb, if_neg (by decide), if_pos (by decide), if_pos (by decide), Nat.xor_assoc, ← Nat.xor_assoc 2197175160, Nat.xor_comm 2197175160 (b / 2), Nat.xor_assoc (b / 2), Nat.xor_self, Nat.xor_zero]
theorem csteps_xor (m : Nat) : ∀ a b, csteps m (a ^^^ b) = csteps m a ^^^ csteps m b := by
  induction m with
  | zero => intro a b; rfl
  | succ m ih => intro a b; simp only [csteps]; rw [cstep_xor, ih]
theorem csteps_add (m n : Nat) : ∀ x, csteps (m + n) x = csteps n (csteps m x) := by
  induction m with
  | zero => intro x; rw [Nat.zero_add]; rfl
  | succ m ih => intro x; rw [Nat.succ_add]; exact ih _
theorem csteps_even (m : Nat) : ∀ x, csteps m (2 ^ m * x) = x := by
  induction m with
  | zero => intro x; simp [csteps]
  | succ m ih =>
    intro x
    have e : 2 ^ (m + 1) * x = 2 * (2 ^ m * x) := by rw [Nat.pow_succ, Nat.mul_comm (2 ^ m) 2, Nat.mul_assoc]
    simp only [csteps]
    rw [e]
    have : cstep (2 * (2 ^ m * x)) = 2 ^ m * x := by unfold cstep; rw [if_neg (by omega)]; omega
    rw [this, ih]
theorem cstep_ne {x : Nat} (h : x < 4294967296) (h0 : x ≠ 0) : cstep x ≠ 0 := by
  unfold cstep
  by_cases c : x % 2 = 1
  · rw [if_pos c]
    intro he
    have h1 : x / 2 ^^^ 2197175160 ^^^ 2197175160 = 2197175160 := by rw [he, Nat.zero_xor]
    rw [Nat.xor_assoc, Nat.xor_self, Nat.xor_zero] at h1
    omega
  · rw [if_neg c]; omega
theorem csteps_ne (m : Nat) : ∀ {x : Nat}, x < 4294967296 → x ≠ 0 → csteps m x ≠ 0 := by
  induction m with
  | zero => exact fun _ h => h
  | succ m ih => exact fun h h0 => ih (cstep_lt h) (cstep_ne h h0)
theorem add_xor (i a b : Nat) (h : b < 2 ^ i) : 2 ^ i * a + b = 2 ^ i * a ^^^ b := by
  apply Nat.eq_of_testBit_eq
  intro j
  rw [Nat.testBit_xor, Nat.testBit_two_pow_mul_add a h, Nat.testBit_two_pow_mul]
  by_cases c : j < i
  · rw [if_pos c]; simp [show ¬ i ≤ j by omega]
  · rw [if_neg c, Nat.testBit_lt_two_pow (Nat.lt_of_lt_of_le h (Nat.pow_le_pow_right (by decide) (by omega)))]
    simp [show i ≤ j by omega]
theorem num_cons (b : Nat) (l : List Nat) (h : b < 256) : num (b :: l) = 2 ^ 8 * num l ^^^ b := by
  rw [← add_xor 8 _ _ h]; simp only [num]; omega
theorem reg_num (l : List Nat) : ∀ x, Bytes l → reg x l = csteps (8 * l.length) (x ^^^ num l) := by
  induction l with
  | nil => intro x _; exact (Nat.xor_zero x).symm
  | cons b l ih =>
    intro x hb
    have e : reg x (b :: l) = reg (csteps 8 (x ^^^ b)) l := rfl
    rw [e, ih _ (fun y hy => hb y (by simp [hy])), List.length_cons, show 8 * (l.length + 1) = 8 + 8 * l.length by omega, csteps_add]
    congr 1
    rw [num_cons b l (hb b (by simp)), Nat.xor_comm (2 ^ 8 * num l), ← Nat.xor_assoc, csteps_xor, csteps_xor 8 (x ^^^ b), csteps_even, csteps_xor 8 x b]
/-- BURSTS: a change of up to 32 bits that lie together is told. -/
theorem burst (x T place : Nat) (l l' : List Nat) (hl : Bytes l) (hl' : Bytes l') (hn : l'.length = l.length) (h : num l ^^^ num l' = 2 ^ place * T) (hp : place ≤ 8 * l.length) (hT : T < 4294967296) (h0 : T ≠ 0) : reg x l ≠ reg x l' := by
  intro he
  have h1 : reg x l ^^^ reg x l' = 0 := by rw [he, Nat.xor_self]
  rw [reg_num l x hl, reg_num l' x hl', hn, ← csteps_xor, Nat.xor_assoc, ← Nat.xor_assoc (num l), Nat.xor_comm (num l) x, Nat.xor_assoc x, ← Nat.xor_assoc x x, Nat.xor_self, Nat.zero_xor, h,
    show 8 * l.length = place + (8 * l.length - place) by omega, csteps_add, csteps_even] at h1
  exact csteps_ne _ hT h0 h1
theorem num_set (m : Nat) (hm : m < 8) : ∀ (l : List Nat) (j : Nat), Bytes l → j < l.length → num (l.set j (l.getD j 0 ^^^ 2 ^ m)) = num l ^^^ 2 ^ (8 * j + m) := by
  intro l
  induction l with
  | nil => intro j _ hj; exact absurd hj (by simp)
  | cons b l ih =>
    intro j hb hj
    have hb0 := hb b (by simp)
    have hp : 2 ^ m < 2 ^ 8 := Nat.pow_lt_pow_right (by decide) hm
    cases j with
    | zero =>
      simp only [List.set_cons_zero, List.getD_cons_zero, Nat.mul_zero, Nat.zero_add]
      rw [num_cons _ _ (Nat.xor_lt_two_pow (n := 8) hb0 hp), num_cons b l hb0, Nat.xor_assoc]
    | succ j =>
      simp only [List.set_cons_succ, List.getD_cons_succ]
      rw [num_cons b _ hb0, ih j (fun y hy => hb y (by simp [hy])) (by simpa using hj), num_cons b l hb0, Nat.xor_assoc, Nat.xor_comm b, ← Nat.xor_assoc]
      congr 1
      have hs : ∀ y, 2 ^ 8 * (num l ^^^ y) = 2 ^ 8 * num l ^^^ 2 ^ 8 * y := fun y => by
        apply Nat.eq_of_testBit_eq; intro i
        simp only [Nat.testBit_xor, Nat.testBit_two_pow_mul]
        by_cases c : 8 ≤ i <;> simp [c]
      rw [hs, show 8 * (j + 1) + m = 8 + (8 * j + m) by omega, Nat.pow_add 2 8]
theorem num_inj : ∀ (l l' : List Nat), Bytes l → Bytes l' → l'.length = l.length → num l = num l' → l = l' := by
  intro l
  induction l with
  | nil => intro l' _ _ hn _; exact (List.eq_nil_of_length_eq_zero hn).symm
  | cons b l ih =>
    intro l' hb hb' hn h
    cases l' with
    | nil => simp at hn
    | cons b' l' =>
      have h1 := hb b (by simp)
      have h2 := hb' b' (by simp)
      simp only [num] at h
      have h3 : num l = num l' := by omega
      rw [ih l' (fun y hy => hb y (by simp [hy])) (fun y hy => hb' y (by simp [hy])) (by simpa using hn) h3, show b = b' by omega]
theorem wf_u32 {x : Int} (h : (Lit.int .u32 x).wf = true) : 0 ≤ x ∧ x ≤ 4294967295 := by
  simp [Lit.wf, IntKind.min, IntKind.max, IntKind.bits, IntKind.signed] at h; omega
end Go.Proofs.Ytochhjimahcamaa.Crc
