/- Zeros and Combine: the matrices of the document's answer and the program's products.
   No condition. -/
import Derived.Test.YtbnbpnnpbnpidaaRSumZerosArex1
import Derived.Test.YtbnbpnnpbnpidaaSame
import Derived.Laws.Tables
import Derived.StillTailTactics
namespace Go.Proofs.Ytbnbpnnpbnpidaa.RSumZerosAre
open Go.Proofs.Ytbnbpnnpbnpidaa.QSumHashes Hash Crc Hasher
open Go.RowKit Go.Proofs.YtbnbpnnpbnpidaaW.PrintWords Go.Proofs.YtbnbpnnpbnpidaaW.PrintLast Go.Proofs.YtbnbpnnpbnpidaaW.PrintMore
set_option linter.unusedVariables false
set_option linter.unusedSimpArgs false
theorem u32_lit (n : Nat) : ((n : Nat) : Int) = (n : Int) := rfl
theorem shifted1_eq (k x : Nat) (hx : x < 4294967296) (hk : 2 ≤ k) : sum_shifted.f k (x : Int) 1 = some ((cstep x : Nat) : Int) := by
  obtain ⟨k, rfl⟩ : ∃ k', k = k' + 2 := ⟨k - 2, by omega⟩
  unfold sum_shifted.f
  simp only [sum_shifted.l0]
  have ew : wrap64 (0 + 1) = 1 := by unfold wrap64; omega
  rw [ew, if_neg (by omega : ¬ (1 : Int) < 1), if_neg (by omega : ¬ (1 : Int) < 1), if_pos (by omega : (0 : Int) < 1), show (1 : Int) = ((1 : Nat) : Int) from rfl, u32_and_nat x 1 hx (by decide), Nat.and_one_is_mod, show ((x : Int) / 2) = ((x / 2 : Nat) : Int) from rfl, show (2197175160 : Int) = ((2197175160 : Nat) : Int) from rfl, u32_xor_nat (x / 2) 2197175160 (by omega) (by decide)]
  unfold cstep
  by_cases c : x % 2 = 1
  · rw [if_pos (by omega), if_pos c]
  · rw [if_neg (by omega), if_neg c]
def bitAt (m : Nat) : Nat := if m = 0 then 0 else 2 ^ (m - 1)
theorem bitAt_half (m : Nat) : bitAt (m + 1) / 2 = bitAt m := by
  unfold bitAt
  rw [if_neg (Nat.succ_ne_zero m), Nat.add_sub_cancel]
  cases m with
  | zero => decide
  | succ m => rw [if_neg (Nat.succ_ne_zero m), Nat.add_sub_cancel, Nat.pow_succ]; omega
theorem mul_lt (m : Nat) : ∀ a b, b < 4294967296 → mul m a b < 4294967296 := by
  induction m with
  | zero => intro a b _; exact Nat.zero_lt_of_lt (by decide : 0 < 4294967296)
  | succ m ih =>
    intro a b hb
    simp only [mul]
    refine xor32 ?_ (ih _ _ (cstep_lt hb))
    by_cases c : a.testBit m = true
    · rw [if_pos c]; exact hb
    · rw [if_neg c]; exact Nat.zero_lt_of_lt (by decide : 0 < 4294967296)
theorem and_pow (a m : Nat) : a &&& 2 ^ m = if a.testBit m then 2 ^ m else 0 := by
  apply Nat.eq_of_testBit_eq
  intro j
  rw [Nat.testBit_and, Nat.testBit_two_pow]
  by_cases h : m = j
  · subst h
    cases c : a.testBit m with
    | true => simp
    | false => simp
  · cases c : a.testBit m with
    | true => simp [h]
    | false => simp [h]
theorem times_l0 (a : Nat) (ha : a < 4294967296) (m : Nat) : ∀ (k b p : Nat), m ≤ 32 → b < 4294967296 → p < 4294967296 → m + 2 ≤ k → sum_times.l0 k (a : Int) (b : Int) (p : Int) ((bitAt m : Nat) : Int) = some ((p ^^^ mul m a b : Nat) : Int) := by
  induction m with
  | zero =>
    intro k b p _ hb hp hk
    obtain ⟨k, rfl⟩ : ∃ k', k = k' + 1 := ⟨k - 1, by omega⟩
    simp only [sum_times.l0]
    rw [if_pos (show ((bitAt 0 : Nat) : Int) = 0 from rfl), show mul 0 a b = 0 from rfl, Nat.xor_zero]
  | succ m ih =>
    intro k b p hm hb hp hk
    obtain ⟨k, rfl⟩ : ∃ k', k = k' + 1 := ⟨k - 1, by omega⟩
    simp only [sum_times.l0]
    have hbit : bitAt (m + 1) = 2 ^ m := by unfold bitAt; rw [if_neg (Nat.succ_ne_zero m), Nat.add_sub_cancel]
    have hlt : 2 ^ m < 4294967296 := Nat.lt_of_lt_of_le (Nat.pow_lt_pow_right (by decide) (show m < 32 by omega)) (by decide)
    have hpos : 0 < 2 ^ m := Nat.two_pow_pos m
    have hhalf : (((bitAt (m + 1) : Nat) : Int) / 2) = ((bitAt m : Nat) : Int) := by rw [← bitAt_half m]; rfl
    rw [if_neg (by rw [hbit]; omega), shifted1_eq k b hb (by omega), Option.bind_some, Option.bind_some, hhalf, hbit, u32_and_nat a (2 ^ m) ha hlt, and_pow, u32_xor_nat p b hp hb]
    have hmul : mul (m + 1) a b = (if a.testBit m then b else 0) ^^^ mul m a (cstep b) := rfl
    rw [hmul]
    cases c : a.testBit m with
    | false =>
      rw [if_neg Bool.false_ne_true, if_pos (show ((0 : Nat) : Int) = 0 from rfl), if_neg Bool.false_ne_true, Nat.zero_xor]
      exact ih k (cstep b) p (by omega) (cstep_lt hb) hp (by omega)
    | true =>
      rw [if_pos rfl, if_neg (by omega), if_pos rfl, ← Nat.xor_assoc]
      exact ih k (cstep b) (p ^^^ b) (by omega) (cstep_lt hb) (xor32 hp hb) (by omega)
theorem times_eq (k a b : Nat) (ha : a < 4294967296) (hb : b < 4294967296) (hk : 34 ≤ k) : sum_times.f k (a : Int) (b : Int) = some ((mul 32 a b : Nat) : Int) := by
  unfold sum_times.f
  have h := times_l0 a ha 32 k b 0 (by omega) hb (by decide) (by omega)
  rw [Nat.zero_xor] at h
  exact h
theorem pw_lt (m : Nat) : csteps m 2147483648 < 4294967296 := csteps_lt m (by decide)
theorem times_pw (k m n : Nat) (hk : 34 ≤ k) : sum_times.f k ((csteps m 2147483648 : Nat) : Int) ((csteps n 2147483648 : Nat) : Int) = some ((csteps (m + n) 2147483648 : Nat) : Int) := by
  rw [times_eq k _ _ (pw_lt m) (pw_lt n) hk, mul_power m _ (pw_lt n), ← csteps_add, Nat.add_comm]
theorem i64_odd (n : Nat) (hn : n < 9223372036854775808) : Go.bits .and .i64 (n : Int) 1 = ((n % 2 : Nat) : Int) := by
  have h1 : (BitVec.ofInt 64 1).toNat = 2 ^ 1 - 1 := by decide
  have key : (BitVec.ofInt 64 (n : Int) &&& BitVec.ofInt 64 1).toNat = ((n : Int) % ((2 ^ 64 : Nat) : Int)).toNat % 2 ^ 1 := by
    rw [BitVec.toNat_and, BitVec.toNat_ofInt, h1, Nat.and_two_pow_sub_one_eq_mod]
  show IntKind.i64.wrap ((BitVec.ofInt 64 (n : Int) &&& BitVec.ofInt 64 1).toNat : Nat) = _
  rw [key, IntKind.wrap_i64]
  omega
theorem power_l1 (m : Nat) : ∀ (k n s o : Nat), n < 2 ^ m → n < 9223372036854775808 → m + 36 ≤ k → sum_power.l1 k (n : Int) ((csteps s 2147483648 : Nat) : Int) ((csteps o 2147483648 : Nat) : Int) = some ((csteps (o + s * n) 2147483648 : Nat) : Int) := by
  induction m with
  | zero =>
    intro k n s o hn _ hk
    obtain ⟨k, rfl⟩ : ∃ k', k = k' + 1 := ⟨k - 1, by omega⟩
    obtain rfl : n = 0 := by simpa using hn
    simp only [sum_power.l1]
    rw [if_neg (by omega)]; rfl
  | succ m ih =>
    intro k n s o hn hn63 hk
    obtain ⟨k, rfl⟩ : ∃ k', k = k' + 1 := ⟨k - 1, by omega⟩
    simp only [sum_power.l1]
    by_cases h0 : n = 0
    · subst h0; rw [if_neg (by omega)]; rfl
    · rw [if_pos (by omega), i64_odd n hn63, times_pw k o s (by omega), times_pw k s s (by omega), Option.bind_some, Option.bind_some, Option.bind_some, show ((n : Int) / 2) = ((n / 2 : Nat) : Int) from rfl]
      have hh : n / 2 < 2 ^ m := by rw [Nat.pow_succ] at hn; omega
      rcases Nat.mod_two_eq_zero_or_one n with c | c
      · rw [if_neg (by omega), ih k (n / 2) (s + s) o hh (by omega) (by omega)]
        have e : o + (s + s) * (n / 2) = o + s * n := by
          have hn2 : n = 2 * (n / 2) := by omega
          generalize n / 2 = q at hn2
          subst hn2
          rw [← Nat.mul_assoc, Nat.mul_comm s 2, Nat.two_mul]
        rw [e]
      · rw [if_pos (by omega), ih k (n / 2) (s + s) (o + s) hh (by omega) (by omega)]
        have e : o + s + (s + s) * (n / 2) = o + s * n := by
          have hn2 : n = 2 * (n / 2) + 1 := by omega
          generalize n / 2 = q at hn2
          subst hn2
          rw [Nat.mul_add, Nat.mul_one, ← Nat.mul_assoc, Nat.mul_comm s 2, Nat.two_mul, Nat.add_assoc, Nat.add_comm s]
        rw [e]
theorem power_neg (k : Nat) (n : Int) (h : n ≤ 0) (s : Int) : sum_power.l1 (k + 1) n s 2147483648 = some 2147483648 := by
  simp only [sum_power.l1]; rw [if_neg (by omega)]
theorem power_eq (k n : Nat) (hn : n < 9223372036854775808) (hk : 110 ≤ k) : sum_power.f k (n : Int) = some ((csteps (8 * n) 2147483648 : Nat) : Int) := by
  obtain ⟨k, rfl⟩ : ∃ k', k = k' + 1 + 1 + 1 + 1 := ⟨k - 4, by omega⟩
  have e1 : (1073741824 : Int) = ((csteps 1 2147483648 : Nat) : Int) := by rw [show csteps 1 2147483648 = 1073741824 by decide]; rfl
  have w1 : wrap64 (0 + 1) = 1 := by unfold wrap64; omega
  have w2 : wrap64 (1 + 1) = 2 := by unfold wrap64; omega
  have w3 : wrap64 (2 + 1) = 3 := by unfold wrap64; omega
  unfold sum_power.f
  rw [e1]
  rw [sum_power.l0, if_pos (by omega), times_pw _ 1 1 (by omega), Option.bind_some, w1, sum_power.l0, if_pos (by omega), times_pw _ _ _ (by omega), Option.bind_some, w2, sum_power.l0, if_pos (by omega), times_pw _ _ _ (by omega), Option.bind_some, w3, sum_power.l0, if_neg (by omega)]
  have h := power_l1 63 k n 8 0 (by simpa using hn) hn (by omega)
  rw [Nat.zero_add] at h
  exact h
theorem power_low (k : Nat) (n : Int) (hn : n ≤ 0) (hk : 110 ≤ k) : sum_power.f k n = some 2147483648 := by
  obtain ⟨k, rfl⟩ : ∃ k', k = k' + 1 + 1 + 1 + 1 + 1 := ⟨k - 5, by omega⟩
  have e1 : (1073741824 : Int) = ((csteps 1 2147483648 : Nat) : Int) := by rw [show csteps 1 2147483648 = 1073741824 by decide]; rfl
  have w1 : wrap64 (0 + 1) = 1 := by unfold wrap64; omega
  have w2 : wrap64 (1 + 1) = 2 := by unfold wrap64; omega
  have w3 : wrap64 (2 + 1) = 3 := by unfold wrap64; omega
  unfold sum_power.f
  rw [e1]
  rw [sum_power.l0, if_pos (by omega), times_pw _ 1 1 (by omega), Option.bind_some, w1, sum_power.l0, if_pos (by omega), times_pw _ _ _ (by omega), Option.bind_some, w2, sum_power.l0, if_pos (by omega), times_pw _ _ _ (by omega), Option.bind_some, w3, sum_power.l0, if_neg (by omega)]
  exact power_neg _ n hn _
theorem add_split (n x : Nat) : x % 2 ^ (n + 1) = x % 2 ^ n ^^^ (if x / 2 ^ n % 2 = 1 then 2 ^ n else 0) := by
  have h1 : x % 2 ^ (n + 1) = 2 ^ n * (x / 2 ^ n % 2) + x % 2 ^ n := by
    rw [Nat.pow_succ, Nat.mod_mul]; omega
  have hl : x % 2 ^ n < 2 ^ n := Nat.mod_lt _ (Nat.two_pow_pos n)
  rw [h1, add_xor n _ _ hl, Nat.xor_comm]
  congr 1
  rcases Nat.mod_two_eq_zero_or_one (x / 2 ^ n) with h | h
  · rw [h, if_neg (by decide)]; rfl
  · rw [h, if_pos rfl, Nat.mul_one]
/-- The matrix of so many steps. -/
def Mt (s : Nat) : List Nat := (List.range 32).map fun i => csteps s (2 ^ i)
theorem Mt_length (s : Nat) : (Mt s).length = 32 := by simp [Mt]
theorem Mt_get (s i : Nat) (hi : i < 32) : (Mt s).getD i 0 = csteps s (2 ^ i) := by
  unfold Mt
  rw [List.getD_eq_getElem?_getD, List.getElem?_map, List.getElem?_range hi]; rfl
theorem pow32 {i : Nat} (hi : i < 32) : 2 ^ i < 4294967296 := Nat.lt_of_lt_of_le (Nat.pow_lt_pow_right (by decide) hi) (by decide)
theorem step_next (s v i : Nat) : csteps s (v % 2 ^ i) ^^^ (if v / 2 ^ i % 2 = 1 then csteps s (2 ^ i) else 0) = csteps s (v % 2 ^ (i + 1)) := by
  rw [add_split, csteps_xor]
  by_cases c : v / 2 ^ i % 2 = 1
  · rw [if_pos c, if_pos c]
  · rw [if_neg c, if_neg c, csteps_zero]
set_option maxHeartbeats 2000000 in
set_option maxRecDepth 100000 in
theorem mtimes_walk (s v : Nat) (hv : v < 4294967296) (w : World) : Calls Try.prog 58 #[.agg (nums .u32 (ints (Mt s))).toArray, .int .u32 (v : Int)] w fun e w' => e = .returned (.int .u32 ((csteps s v : Nat) : Int)) ∧ Below w.heap.size w w' := by
  obtain ⟨cs, hcs⟩ : ∃ cs, cs = (nums .u32 (ints (Mt s))).toArray := ⟨_, rfl⟩
  have hget : ∀ i, i < 32 → cs[i]? = some (.int .u32 ((csteps s (2 ^ i) : Nat) : Int)) := by
    intro i hi
    rw [hcs, List.getElem?_toArray, nums, ints, List.getElem?_map, List.getElem?_map, Mt, List.getElem?_map, List.getElem?_range hi]; rfl
  rw [← hcs]
  have HG := Aside0.mk hget
  have HV := Aside0.mk hv
  clear hcs hget hv
  go_enter Try.func58, Try.ntmps58
  go_wp2
  go_loop [1, 5, 6] (fun y x i => ∃ k : Nat, k ≤ 32 ∧ i = .int .i64 k ∧ y = .int .u32 ((v / 2 ^ k : Nat) : Int) ∧ x = .int .u32 ((csteps s (v % 2 ^ k) : Nat) : Int)) (fun _ _ i => 32 - (intOf i).toNat)
  case atStart => exact ⟨0, by omega, rfl, by rw [Nat.pow_zero, Nat.div_one], by rw [Nat.pow_zero, Nat.mod_one, csteps_zero]; rfl⟩
  case round =>
    obtain ⟨k, hk, rfl, rfl, rfl⟩ := hrel
    by_cases hlt : k < 32
    · have hcell := HG.out k hlt
      obtain ⟨c, hc⟩ : ∃ c, csteps s (2 ^ k) = c := ⟨_, rfl⟩
      obtain ⟨y, hy⟩ : ∃ y, v / 2 ^ k = y := ⟨_, rfl⟩
      obtain ⟨x, hx⟩ : ∃ x, csteps s (v % 2 ^ k) = x := ⟨_, rfl⟩
      have hnx := step_next s v k
      have hy2 : v / 2 ^ (k + 1) = y / 2 := by rw [Nat.pow_succ, ← Nat.div_div_eq_div_mul, hy]
      have hcl : c < 4294967296 := by rw [← hc]; exact csteps_lt s (pow32 hlt)
      have hxl : x < 4294967296 := by rw [← hx]; exact csteps_lt s (Nat.lt_of_le_of_lt (Nat.mod_le _ _) HV.out)
      rw [hc] at hcell
      rw [hc, hx, hy] at hnx
      rw [hy, hx]
      have hxc : Go.bits .xor .u32 (x : Int) (c : Int) = ((x ^^^ c : Nat) : Int) := u32_xor_nat _ _ hxl hcl
      have HNX := Aside0.mk hnx
      have HY2 := Aside0.mk hy2
      have y0 : (0 : Int) ≤ (y : Int) := by omega
      have HYL : Aside0 (y < 4294967296) := ⟨by rw [← hy]; exact Nat.lt_of_le_of_lt (Nat.div_le_self _ _) HV.out⟩
      clear hc hy hx hnx hy2 hcl hxl
      by_cases hodd : y % 2 = 1
      · have o1 : ((y : Int) % 2 == 1) = true := beq_iff_eq.2 (by omega)
        have HO := Aside0.mk hodd
        clear hodd
        go_wp2
        go_round
        case rel => exact ⟨k + 1, by omega, by go_num, by rw [HY2.out, show ((y : Int) / 2 % 4294967296) = ((y / 2 : Nat) : Int) by have := HYL.out; omega], by rw [← HNX.out, if_pos HO.out]⟩
        case measure => simp [intOf]; omega
      · have o1 : ((y : Int) % 2 == 1) = false := beq_eq_false_iff_ne.2 (by omega)
        have HO := Aside0.mk hodd
        clear hodd
        go_wp2
        go_round
        case rel => exact ⟨k + 1, by omega, by go_num, by rw [HY2.out, show ((y : Int) / 2 % 4294967296) = ((y / 2 : Nat) : Int) by have := HYL.out; omega], by rw [← HNX.out, if_neg HO.out, Nat.xor_zero]⟩
        case measure => simp [intOf]; omega
    · obtain rfl : k = 32 := by omega
      have hfin : ((csteps s (v % 2 ^ 32) : Nat) : Int) = ((csteps s v : Nat) : Int) := by rw [Nat.mod_eq_of_lt (by have := HV.out; omega)]
      have HF := Aside0.mk hfin
      clear hfin
      go_wp2
      go_ret
      exact ⟨congrArg (fun z : Int => Ending.returned (.int .u32 z)) HF.out, below_alloc (Below.refl _ w) _⟩
/-- A whole array is read in a region that draws its order. -/
theorem still_load_row {P : Program} {o : Oper} {a : Act} {w : World} {K : Act → Prop} (ty : TypeId) (x : Operand) (ho : o.op = .load ty x)
    (g : Nat) (hx : a.eval x = .pointer (some ⟨g, 0, none⟩)) (t : TypeId) (cs : Array Value) (fr : Nat × Nat) (d : TypeDesc) (hg : w.heap[g]? = some (.cells cs t fr))
    (hu : P.underlying ty = some d) (hd : (match d with | .struct _ | .array _ _ => true | _ => false) = true) (hi : (P.info? ty).map (·.size) = some cs.size)
    (h : K (a.put o.dst (.agg cs))) : o.still P a w K := by
  have hrun : (execOp a.eval o).run P w = .ok (.value (.agg cs)) w := by
    unfold execOp
    simp only [ho, hx, Instr.loadAt, Instr.sureAddr, Sem.run_bind, Sem.run_pure, Result.andThen_ok, run_loadVar_row w g t ty cs fr d hg hu hd hi]
  unfold Oper.still
  rw [hrun]
  exact ⟨rfl, h⟩
theorem exec_load_row {P : Program} {o : Oper} {a : Act} {w : World} (ty : TypeId) (x : Operand) (ho : o.op = .load ty x)
    (g : Nat) (hx : a.eval x = .pointer (some ⟨g, 0, none⟩)) (t : TypeId) (cs : Array Value) (fr : Nat × Nat) (d : TypeDesc) (hg : w.heap[g]? = some (.cells cs t fr))
    (hu : P.underlying ty = some d) (hd : (match d with | .struct _ | .array _ _ => true | _ => false) = true) (hi : (P.info? ty).map (·.size) = some cs.size) : (execOp a.eval o).run P w = .ok (.value (.agg cs)) w := by
  unfold execOp
  simp only [ho, hx, Instr.loadAt, Instr.sureAddr, Sem.run_bind, Sem.run_pure, Result.andThen_ok, run_loadVar_row w g t ty cs fr d hg hu hd hi]
/-- The matrix of twice so many steps, as far as it is reckoned. -/
def Sq (s i : Nat) : List Nat := (List.range 32).map fun j => if j < i then csteps (s + s) (2 ^ j) else 0
theorem Sq_length (s i : Nat) : (Sq s i).length = 32 := by simp [Sq]
theorem Sq_zero (s : Nat) : Sq s 0 = List.replicate 32 0 := by
  unfold Sq
  rw [List.eq_replicate_iff]
  refine ⟨by simp, fun b hb => ?_⟩
  obtain ⟨j, _, rfl⟩ := List.mem_map.1 hb
  rw [if_neg (by omega)]
theorem Sq_all (s : Nat) : Sq s 32 = Mt (s + s) := by
  unfold Sq Mt
  apply List.map_congr_left
  intro i hi
  rw [if_pos (List.mem_range.1 hi)]
theorem Sq_set (s i : Nat) (hi : i < 32) : (Sq s i).set i (csteps (s + s) (2 ^ i)) = Sq s (i + 1) := by
  apply List.ext_getElem
  · simp [Sq]
  · intro n h1 h2
    have hn : n < 32 := by simpa [Sq] using h2
    rw [List.getElem_set]
    simp only [Sq, List.getElem_map, List.getElem_range]
    by_cases c : i = n
    · subst c; rw [if_pos rfl, if_pos (by omega)]
    · rw [if_neg c]
      by_cases c2 : n < i
      · rw [if_pos c2, if_pos (by omega)]
      · rw [if_neg c2, if_neg (by omega)]
/-- A matrix in memory. -/
def mcells (l : List Nat) : Array Value := (nums .u32 (ints l)).toArray
theorem mcells_size (l : List Nat) : (mcells l).size = l.length := by simp [mcells, nums, ints]
theorem mcells_get (l : List Nat) (i : Nat) (hi : i < l.length) : (mcells l)[i]? = some (.int .u32 ((l.getD i 0 : Nat) : Int)) := by
  rw [mcells, List.getElem?_toArray, nums, ints, List.getElem?_map, List.getElem?_map, List.getElem?_eq_getElem hi, List.getD_eq_getElem?_getD, List.getElem?_eq_getElem hi]; rfl
theorem mcells_set (l : List Nat) (i v : Nat) : (mcells l).setIfInBounds i (.int .u32 (v : Int)) = mcells (l.set i v) := by
  unfold mcells
  rw [List.setIfInBounds_toArray]
  congr 1
  simp [nums, ints, List.map_set]
theorem mcells_one (l : List Nat) : (mcells l).all (·.oneCell') = true := by
  simp [mcells, nums, ints, Value.oneCell']
theorem info70 : (Try.prog.info? 70).map (·.size) = some 32 := by kernel_rfl
theorem Sq_get (s i j : Nat) (hj : j < 32) : (Sq s i).getD j 0 = if j < i then csteps (s + s) (2 ^ j) else 0 := by
  unfold Sq
  rw [List.getD_eq_getElem?_getD, List.getElem?_map, List.getElem?_range hj]; rfl
set_option maxHeartbeats 4000000 in
set_option maxRecDepth 100000 in
theorem square_walk (s : Nat) (w : World) : Calls Try.prog 59 #[.agg (mcells (Mt s))] w fun e w' => e = .returned (.agg (mcells (Mt (s + s)))) ∧ Below w.heap.size w w' := by
  have hcall := fun (v : Nat) (hv : v < 4294967296) (wz : World) => mtimes_walk s v hv wz
  have hm : ∀ i, i < 32 → (mcells (Mt s))[i]? = some (.int .u32 ((csteps s (2 ^ i) : Nat) : Int)) := fun i hi => by rw [mcells_get _ _ (by rw [Mt_length]; exact hi), Mt_get s i hi]
  have hsz : (mcells (Mt s)).size = 32 := by rw [mcells_size, Mt_length]
  change ∀ (v : Nat) (hv : v < 4294967296) (wz : World), Calls Try.prog 58 #[.agg (mcells (Mt s)), .int .u32 (v : Int)] wz fun e w' => e = .returned (.int .u32 ((csteps s v : Nat) : Int)) ∧ Below wz.heap.size wz w' at hcall
  obtain ⟨cs, hcs⟩ : ∃ cs, cs = mcells (Mt s) := ⟨_, rfl⟩
  rw [← hcs] at hcall hm hsz ⊢
  have HC := Aside0.mk hcall
  have HM := Aside0.mk hm
  have HSZ := Aside0.mk hsz
  clear hcall hm hsz hcs
  go_enter Try.func59, Try.ntmps59
  go_wp2
  have z0 : #[Value.int .u32 0, .int .u32 0, .int .u32 0, .int .u32 0, .int .u32 0, .int .u32 0, .int .u32 0, .int .u32 0, .int .u32 0, .int .u32 0, .int .u32 0, .int .u32 0, .int .u32 0, .int .u32 0, .int .u32 0, .int .u32 0, .int .u32 0, .int .u32 0, .int .u32 0, .int .u32 0, .int .u32 0, .int .u32 0, .int .u32 0, .int .u32 0, .int .u32 0, .int .u32 0, .int .u32 0, .int .u32 0, .int .u32 0, .int .u32 0, .int .u32 0, .int .u32 0] = mcells (Sq s 0) := by rw [Sq_zero]; rfl
  rw [z0]
  have B0 := Aside0.mk (blk_alloc (blk_alloc (blk_new w (.cells cs 70)) (.cells (mcells (Sq s 0)) 70)) (.cells (mcells (Sq s 0)) 70))
  have b1 := blk_alloc (blk_new (w.alloc (.cells cs 70)) (.cells (mcells (Sq s 0)) 70)) (.cells (mcells (Sq s 0)) 70)
  rw [World.size_alloc] at b1
  have B1 := Aside0.mk b1
  have b2 := blk_new ((w.alloc (.cells cs 70)).alloc (.cells (mcells (Sq s 0)) 70)) (.cells (mcells (Sq s 0)) 70)
  rw [World.size_alloc, World.size_alloc] at b2
  have B2 := Aside0.mk b2
  have BL := Aside0.mk (below_alloc (below_alloc (below_alloc (Below.refl _ w) (.cells cs 70)) (.cells (mcells (Sq s 0)) 70)) (.cells (mcells (Sq s 0)) 70))
  clear b1 b2 z0
  go_loopw [4] (fun i wr => ∃ k : Nat, k ≤ 32 ∧ i = .int .i64 k ∧ Aside0 (wr.heap[w.heap.size]? = some (.cells cs 70 (0, 0))) ∧ Aside0 (wr.heap[w.heap.size + 1]? = some (.cells (mcells (Sq s 0)) 70 (0, 0))) ∧ Aside0 (wr.heap[w.heap.size + 1 + 1]? = some (.cells (mcells (Sq s k)) 70 (0, 0))) ∧ Aside0 (Below w.heap.size w wr)) (fun i _ => 32 - (intOf i).toNat)
  case atStart => exact ⟨0, by omega, rfl, B0, B1, B2, BL⟩
  case round =>
    clear B0 B1 B2 BL
    obtain ⟨k, hk, rfl, B0, B1, B2, BL⟩ := hrel
    by_cases hlt : k < 32
    · obtain ⟨c, hc⟩ : ∃ c, csteps s (2 ^ k) = c := ⟨_, rfl⟩
      obtain ⟨d, hd⟩ : ∃ d, csteps s c = d := ⟨_, rfl⟩
      have hcl : c < 4294967296 := by rw [← hc]; exact csteps_lt s (pow32 hlt)
      have hcell : wr.cell? ⟨w.heap.size, k, none⟩ = some (.int .u32 (c : Int)) := by rw [blk_cell B0.out, HM.out k hlt, hc]
      have hdd : csteps (s + s) (2 ^ k) = d := by rw [csteps_add, hc, hd]
      have hcall := fun wz => HC.out c hcl wz
      rw [hd] at hcall
      have HCL := Aside0.mk hcall
      have HD := Aside0.mk hdd
      have HCC := Aside0.mk hc
      have k0 : (0 : Int) ≤ (k : Int) := by omega
      have k1 : (k : Int) < 32 := by omega
      clear hc hd hcl hcall hdd
      go_wp2
      refine start_ (n := 8) (S := fun w' => w'.heap[w.heap.size]? = some (.cells cs 70 (0, 0)) ∧ w'.cell? ⟨w.heap.size, k, none⟩ = some (.int .u32 (c : Int))) (ds := [7]) #[false, false, false, false, false, false, false, false] (by kernel_rfl) rfl rfl ⟨B0.out, hcell⟩ (fun hHeld => ?_)
      generalize hwq : wr.drew = wq at hHeld ⊢
      have C0 : Aside0 (wq.heap[w.heap.size]? = some (.cells cs 70 (0, 0))) := ⟨hHeld.1⟩
      have C1 : Aside0 (wq.heap[w.heap.size + 1]? = some (.cells (mcells (Sq s 0)) 70 (0, 0))) := ⟨by rw [← hwq]; exact B1.out⟩
      have C2 : Aside0 (wq.heap[w.heap.size + 1 + 1]? = some (.cells (mcells (Sq s k)) 70 (0, 0))) := ⟨by rw [← hwq]; exact B2.out⟩
      have CL : Aside0 (Below w.heap.size w wq) := ⟨by rw [← hwq]; exact below_drew1 BL.out⟩
      clear hwq hcell B0 B1 B2 BL
      refine pure_ (i := 0) (N := some 9) (v := ?_) (a' := ?_) #[true, false, false, false, false, false, false, false] rfl rfl (by kernel_rfl) (fun _ _ _ h => h) (Or.inl ⟨by rfl, ?_⟩) ?_ ?_
      rotate_left
      · intro w'
        go_simp
        with_reducible rfl
      rotate_left
      · simp only [Act.put, List.setIfInBounds_toArray, List.set_cons_zero, List.set_cons_succ, i64_w, i32_w]
        rfl
      refine take_ (i := 1) (N := some 10) (v := ?_) (a' := ?_) #[true, true, false, false, false, false, false, false] rfl rfl (by kernel_rfl) (fun _ _ _ h => h) (Or.inl ⟨by rfl, ?_⟩) hHeld ?_ ?_
      rotate_left
      · intro w' s0
        refine exec_load_row 70 (.tmp 1) ?_ w.heap.size ?_ 70 cs (0, 0) _ s0.1 Try.underlying70 ?_ ?_
        · rfl
        · rfl
        · rfl
        · rw [HSZ.out]; exact info70
      rotate_left
      · simp only [Act.put, List.setIfInBounds_toArray, List.set_cons_zero, List.set_cons_succ, i64_w, i32_w]
        rfl
      refine pure_ (i := 2) (N := some 11) (v := ?_) (a' := ?_) #[true, true, true, false, false, false, false, false] rfl rfl (by kernel_rfl) (fun _ _ _ h => h) (Or.inl ⟨by rfl, ?_⟩) ?_ ?_
      rotate_left
      · intro w'
        go_simp
        with_reducible rfl
      rotate_left
      · simp only [Act.put, List.setIfInBounds_toArray, List.set_cons_zero, List.set_cons_succ, i64_w, i32_w]
        rfl
      refine pure_ (i := 3) (N := some 12) (v := ?_) (a' := ?_) #[true, true, true, true, false, false, false, false] rfl rfl (by kernel_rfl) (fun _ _ _ h => h) (Or.inl ⟨by rfl, ?_⟩) ?_ ?_
      rotate_left
      · intro w'
        go_simp
        with_reducible rfl
      rotate_left
      · simp only [Act.put, List.setIfInBounds_toArray, List.set_cons_zero, List.set_cons_succ, i64_w, i32_w]
        rfl
      refine take_ (i := 4) (N := some 13) (v := ?_) (a' := ?_) #[true, true, true, true, true, false, false, false] rfl rfl (by kernel_rfl) (fun _ _ _ h => h) (Or.inl ⟨by rfl, ?_⟩) hHeld ?_ ?_
      rotate_left
      · intro w' s0
        obtain ⟨_, s1⟩ := s0
        go_simp
        with_reducible rfl
      rotate_left
      · simp only [Act.put, List.setIfInBounds_toArray, List.set_cons_zero, List.set_cons_succ, i64_w, i32_w]
        rfl
      refine one_ (i := 5) (N := some 14) #[true, true, true, true, true, true, false, false] rfl rfl (by kernel_rfl) (by decide) (fun K hK => ?_)
      refine goes_ Try.func58 (by kernel_rfl) rfl #[.agg cs, .int .u32 (c : Int)] (by rfl) rfl rfl (by (try simp only [List.map_toArray, List.map_cons, List.map_nil]); first | done | rfl) ?_
      refine (HCL.out _).mono ?_
      rintro e w2 ⟨rfl, hb⟩
      refine ⟨_, rfl, ?_⟩
      have c0 := Aside0.mk (blk_below C0.out hb)
      have c1 := Aside0.mk (blk_below C1.out hb)
      have c2 := Aside0.mk (blk_below C2.out hb)
      have DL := Aside0.mk (below_step CL.out hb)
      clear hb C0 C1 C2 CL hHeld
      have hcell2 := blk_cell c2.out k
      rw [mcells_get _ _ (by rw [Sq_length]; exact hlt)] at hcell2
      have hfz2 := blk_frozen c2.out k
      refine hK.out _ _ ⟨c0.out, by rw [blk_cell c0.out, HM.out k hlt, HCC.out]⟩ (fun hHeld => ?_)
      clear hK K
      refine norm_ (a' := ?_) ?_ ?_
      rotate_left
      · show Act.put _ (some 14) _ = _
        simp only [Act.put, List.setIfInBounds_toArray, List.set_cons_zero, List.set_cons_succ, i64_w, i32_w]
        rfl
      refine pure_ (i := 6) (N := some 15) (v := ?_) (a' := ?_) #[true, true, true, true, true, true, true, false] rfl rfl (by kernel_rfl) (fun _ _ _ h => h) (Or.inl ⟨by rfl, ?_⟩) ?_ ?_
      rotate_left
      · intro w'
        go_simp
        with_reducible rfl
      rotate_left
      · simp only [Act.put, List.setIfInBounds_toArray, List.set_cons_zero, List.set_cons_succ, i64_w, i32_w]
        rfl
      refine last_ (i := 7) (N := none) #[true, true, true, true, true, true, true, true] rfl rfl (by kernel_rfl) (by decide) (fun K hK => ?_)
      refine skip_ (w1 := ?_) (by rfl) rfl ?_ ?_
      rotate_left
      · go_simp
        rfl
      refine hK.out _ _ ?_
      clear hK K
      refine done_ (by kernel_rfl) ?_
      try go_wp2
      have HNE : Aside0 (w.heap.size ≠ w.heap.size + 1 + 1 ∧ w.heap.size + 1 ≠ w.heap.size + 1 + 1) := ⟨by omega, by omega⟩
      go_roundw
      case rel => exact ⟨k + 1, by omega, by go_num, ⟨blk_far c0.out HNE.out.1 _⟩, ⟨blk_far c1.out HNE.out.2 _⟩, ⟨blk_put c2.out k _ (by rw [mcells_set, ← HD.out, Sq_set s k hlt])⟩, ⟨Below.setCell DL.out (by show w.heap.size ≤ w.heap.size + 1 + 1; omega) _⟩⟩
      case measure => simp [intOf]; omega
    · obtain rfl : k = 32 := by omega
      go_wp2_with (first
        | (refine wpList_load_row rfl 70 (.tmp 3) rfl (w.heap.size + 1 + 1) rfl 70 (mcells (Sq s 32)) (0, 0) _ B2.out Try.underlying70 rfl (by rw [mcells_size, Sq_length]; exact info70) ?_)
        | (refine wpList_store_row rfl 70 (.tmp 2) (.tmp 16) rfl (w.heap.size + 1) (mcells (Sq s 32)) rfl rfl 70 (mcells (Sq s 0)) B1.out (by rw [mcells_size, Sq_length]; exact info70) (by rw [mcells_size, mcells_size, Sq_length, Sq_length]) (mcells_one _) ?_))
      refine bodyPost_ret (v := .agg (mcells (Sq s 32))) (results_cell_row rfl _ _ (w.heap.size + 1) 70 _ (0, 0) _ rfl (setRow_heap _ _ _ _ _ _ B1.out) Try.underlying70 rfl (by rw [mcells_size, Sq_length]; exact info70)) rfl ⟨by rw [Sq_all], below_setRow BL.out (by omega) _⟩
theorem lanes_step (x : Nat) (hx : x < 4294967296) (h : x % 2 = 1) : Go.bits .xor .u32 ((x : Int) / 2 % 4294967296) 2197175160 = ((cstep x : Nat) : Int) := by
  rw [show ((x : Int) / 2 % 4294967296) = ((x / 2 : Nat) : Int) by omega, show (2197175160 : Int) = ((2197175160 : Nat) : Int) from rfl, u32_xor_nat (x / 2) 2197175160 (by omega) (by decide)]
  unfold cstep; rw [if_pos h]
theorem lanes_even (x : Nat) (hx : x < 4294967296) (h : ¬ x % 2 = 1) : (x : Int) / 2 % 4294967296 = ((cstep x : Nat) : Int) := by
  unfold cstep; rw [if_neg h]; omega
theorem csteps_next (k x : Nat) : csteps (k + 1) x = cstep (csteps k x) := csteps_add k 1 x
theorem one_shl (i : Nat) (hi : i < 32) : (2 : Int) ^ i % 4294967296 = ((2 ^ i : Nat) : Int) := by
  have := pow32 hi
  rw [show (2 : Int) ^ i = ((2 ^ i : Nat) : Int) from (Int.natCast_pow 2 i).symm]
  generalize 2 ^ i = z at this
  omega
theorem half_steps (s q y : Nat) (h : q % 2 = 1) : csteps ((s + s) * (q / 2)) (csteps s y) = csteps (s * q) y := by
  rw [← csteps_add]
  congr 1
  have hq : q = 2 * (q / 2) + 1 := by omega
  generalize q / 2 = r at hq
  subst hq
  rw [Nat.mul_add, Nat.mul_one, ← Nat.mul_assoc, Nat.mul_comm s 2, Nat.two_mul, Nat.add_comm]
theorem half_even (s q y : Nat) (h : ¬ q % 2 = 1) : csteps ((s + s) * (q / 2)) y = csteps (s * q) y := by
  congr 1
  have hq : q = 2 * (q / 2) := by omega
  generalize q / 2 = r at hq
  subst hq
  rw [← Nat.mul_assoc, Nat.mul_comm s 2, Nat.two_mul]
set_option maxHeartbeats 4000000 in
set_option maxRecDepth 100000 in
theorem mshifted_walk (v : Nat) (n : Int) (hv : v < 4294967296) (hn0 : -9223372036854775808 ≤ n) (hn : n ≤ 9223372036854775807) (w : World) : Calls Try.prog 57 #[.int .u32 (v : Int), .int .i64 n] w fun e w' => e = .returned (.int .u32 ((csteps (8 * n.toNat) v : Nat) : Int)) ∧ Below w.heap.size w w' := by
  obtain ⟨R, hR⟩ : ∃ R, csteps (8 * n.toNat) v = R := ⟨_, rfl⟩
  rw [hR]
  have HR := Aside0.mk hR
  have HV := Aside0.mk hv
  have HN0 := Aside0.mk hn0
  have HN := Aside0.mk hn
  clear hR hv hn hn0
  go_enter Try.func57, Try.ntmps57
  go_wp2
  have z0 : #[Value.int .u32 0, .int .u32 0, .int .u32 0, .int .u32 0, .int .u32 0, .int .u32 0, .int .u32 0, .int .u32 0, .int .u32 0, .int .u32 0, .int .u32 0, .int .u32 0, .int .u32 0, .int .u32 0, .int .u32 0, .int .u32 0, .int .u32 0, .int .u32 0, .int .u32 0, .int .u32 0, .int .u32 0, .int .u32 0, .int .u32 0, .int .u32 0, .int .u32 0, .int .u32 0, .int .u32 0, .int .u32 0, .int .u32 0, .int .u32 0, .int .u32 0, .int .u32 0] = mcells (Sq 4 0) := by rw [Sq_zero]; rfl
  rw [z0]
  have B0 := Aside0.mk (blk_new w (.cells (mcells (Sq 4 0)) 70))
  have BL := Aside0.mk (below_alloc (Below.refl _ w) (.cells (mcells (Sq 4 0)) 70))
  clear z0
  go_loopw [6, 7, 8] (fun i _ _ wr => ∃ k : Nat, k ≤ 32 ∧ i = .int .i64 k ∧ Aside0 (wr.heap[w.heap.size]? = some (.cells (mcells (Sq 4 k)) 70 (0, 0))) ∧ Aside0 (Below w.heap.size w wr)) (fun i _ _ _ => 32 - (intOf i).toNat)
  case atStart => exact ⟨0, by omega, rfl, B0, BL⟩
  case round =>
    clear B0 BL
    obtain ⟨k, hk, rfl, B0, BL⟩ := hrel
    by_cases hlt : k < 32
    · have k0 : (0 : Int) ≤ (k : Int) := by omega
      have k1 : (k : Int) < 32 := by omega
      have k2 : (k : Int).toNat = k := by omega
      obtain ⟨p, hp⟩ : ∃ p, 2 ^ k = p := ⟨_, rfl⟩
      have hsh := one_shl k hlt
      have hpl := pow32 hlt
      rw [hp] at hsh hpl
      have HSH := Aside0.mk hsh
      clear hsh
      have HP := Aside0.mk hp
      have HPL := Aside0.mk hpl
      clear hp hpl
      go_wp2
      obtain ⟨wo, hwo⟩ : ∃ wo : World, wo = wr := ⟨_, rfl⟩
      subst hwo
      go_loop [7, 8] (fun x i => ∃ j : Nat, j ≤ 8 ∧ i = .int .i64 j ∧ x = .int .u32 ((csteps j p : Nat) : Int)) (fun _ i => 8 - (intOf i).toNat)
      case atStart => exact ⟨0, by omega, rfl, by rw [HSH.out]; rfl⟩
      case round =>
        obtain ⟨j, hj, rfl, rfl⟩ := hrel
        obtain ⟨x, hx⟩ : ∃ x, csteps j p = x := ⟨_, rfl⟩
        have hxl : x < 4294967296 := by rw [← hx]; exact csteps_lt j HPL.out
        have hnx : csteps (j + 1) p = cstep x := by rw [csteps_next, hx]
        rw [hx]
        have HX := Aside0.mk hx
        have HNX := Aside0.mk hnx
        have HXL := Aside0.mk hxl
        have x0 : (0 : Int) ≤ (x : Int) := by omega
        clear hx hnx hxl
        by_cases hl8 : j < 8
        · by_cases hodd : x % 2 = 1
          · have o1 : ((x : Int) % 2 == 1) = true := beq_iff_eq.2 (by omega)
            have HO := Aside0.mk hodd
            clear hodd
            go_wp2
            go_round
            case rel => exact ⟨j + 1, by omega, by go_num, by rw [HNX.out, lanes_step x HXL.out HO.out]⟩
            case measure => simp [intOf]; omega
          · have o1 : ((x : Int) % 2 == 1) = false := beq_eq_false_iff_ne.2 (by omega)
            have HO := Aside0.mk hodd
            clear hodd
            go_wp2
            go_round
            case rel => exact ⟨j + 1, by omega, by go_num, by rw [HNX.out, lanes_even x HXL.out HO.out]⟩
            case measure => simp [intOf]; omega
        · obtain rfl : j = 8 := by omega
          have hcell := blk_cell B0.out k
          rw [mcells_get _ _ (by rw [Sq_length]; exact hlt)] at hcell
          have hfz := blk_frozen B0.out k
          go_wp2
          go_roundw
          case rel => exact ⟨k + 1, by omega, by go_num, ⟨blk_put B0.out k _ (by rw [mcells_set, ← HX.out, ← HP.out, Sq_set 4 k hlt])⟩, ⟨Below.setCell BL.out (Nat.le_refl _) _⟩⟩
          case measure => simp [intOf]; omega
    · obtain rfl : k = 32 := by omega
      have B1 : Aside0 (wr.heap[w.heap.size]? = some (.cells (mcells (Mt 8)) 70 (0, 0))) := ⟨by rw [← Sq_all 4]; exact B0.out⟩
      have HI : Aside0 (csteps (8 * n.toNat) v = R) := HR
      clear B0
      rw [show ((32 : Nat) : Int) = 32 from rfl]
      go_wp2
      go_loopw [0, 1] (fun y m wz => ∃ (z : Int) (s q : Nat), m = .int .i64 z ∧ y = .int .u32 (q : Int) ∧ Aside0 (q < 4294967296) ∧ Aside0 (csteps (s * z.toNat) q = R) ∧ Aside0 (-9223372036854775808 ≤ z ∧ z ≤ 9223372036854775807) ∧ Aside0 (wz.heap[w.heap.size]? = some (.cells (mcells (Mt s)) 70 (0, 0))) ∧ Aside0 (Below w.heap.size w wz)) (fun _ m _ => (intOf m).toNat)
      case atStart => exact ⟨n, 8, v, rfl, rfl, HV, HI, ⟨HN0.out, HN.out⟩, B1, BL⟩
      case round =>
      clear B1 BL HI
      obtain ⟨z, s, q, rfl, rfl, HQ, HI, HZ, B1, BL⟩ := hrel
      by_cases hz : 0 < z
      · have hz1 : z ≤ 9223372036854775807 := HZ.out.2
        have hz2 : (0 : Int) ≤ z := by omega
        have hz3 : (z / 2).toNat = z.toNat / 2 := by omega
        have HZ3 := Aside0.mk hz3
        clear hz3
        by_cases hodd : z % 2 = 1
        · have o1 : (z % 2 == 1) = true := beq_iff_eq.2 hodd
          have HO : Aside0 (z.toNat % 2 = 1) := ⟨by omega⟩
          clear hodd
          go_wp2_with (first
            | ((with_reducible refine gate_dst (N := 35) rfl ?_); refine wpList_load_row rfl 70 (.tmp 5) rfl w.heap.size rfl 70 (mcells (Mt s)) (0, 0) _ B1.out Try.underlying70 rfl (by rw [mcells_size, Mt_length]; exact info70) ?_)
            | (go_at_call 58; refine (mtimes_walk s q HQ.out _).mono ?_; rintro e w2 ⟨rfl, hb⟩; have C1 := Aside0.mk (blk_below B1.out hb); have CL := Aside0.mk (below_step BL.out hb); clear hb)
            | ((with_reducible refine gate_dst (N := 38) rfl ?_); refine wpList_load_row rfl 70 (.tmp 5) rfl w.heap.size rfl 70 (mcells (Mt s)) (0, 0) _ C1.out Try.underlying70 rfl (by rw [mcells_size, Mt_length]; exact info70) ?_)
            | (go_at_call 59; refine (square_walk s _).mono ?_; rintro e w3 ⟨rfl, hb⟩; have D1 := Aside0.mk (blk_below C1.out hb); have DL := Aside0.mk (below_step CL.out hb); clear hb)
            | (refine wpList_store_row rfl 70 (.tmp 5) (.tmp 39) rfl w.heap.size (mcells (Mt (s + s))) rfl rfl 70 (mcells (Mt s)) D1.out (by rw [mcells_size, Mt_length]; exact info70) (by rw [mcells_size, mcells_size, Mt_length, Mt_length]) (mcells_one _) ?_))
          go_roundw
          case rel => exact ⟨z / 2, s + s, csteps s q, rfl, rfl, ⟨csteps_lt s HQ.out⟩, ⟨by rw [HZ3.out, half_steps s _ q HO.out]; exact HI.out⟩, ⟨by omega, by omega⟩, ⟨setRow_heap _ _ _ _ _ _ D1.out⟩, ⟨below_setRow DL.out (Nat.le_refl _) _⟩⟩
          case measure => simp [intOf]; omega
        · have o1 : (z % 2 == 1) = false := beq_eq_false_iff_ne.2 hodd
          have HO : Aside0 (¬ z.toNat % 2 = 1) := ⟨by omega⟩
          clear hodd
          go_wp2_with (first
            | ((with_reducible refine gate_dst (N := 38) rfl ?_); refine wpList_load_row rfl 70 (.tmp 5) rfl w.heap.size rfl 70 (mcells (Mt s)) (0, 0) _ B1.out Try.underlying70 rfl (by rw [mcells_size, Mt_length]; exact info70) ?_)
            | (go_at_call 59; refine (square_walk s _).mono ?_; rintro e w3 ⟨rfl, hb⟩; have D1 := Aside0.mk (blk_below B1.out hb); have DL := Aside0.mk (below_step BL.out hb); clear hb)
            | (refine wpList_store_row rfl 70 (.tmp 5) (.tmp 39) rfl w.heap.size (mcells (Mt (s + s))) rfl rfl 70 (mcells (Mt s)) D1.out (by rw [mcells_size, Mt_length]; exact info70) (by rw [mcells_size, mcells_size, Mt_length, Mt_length]) (mcells_one _) ?_))
          go_roundw
          case rel => exact ⟨z / 2, s + s, q, rfl, rfl, HQ, ⟨by rw [HZ3.out, half_even s _ q HO.out]; exact HI.out⟩, ⟨by omega, by omega⟩, ⟨setRow_heap _ _ _ _ _ _ D1.out⟩, ⟨below_setRow DL.out (Nat.le_refl _) _⟩⟩
          case measure => simp [intOf]; omega
      · have hfin : q = R := by
          have := HI.out
          rw [show z.toNat = 0 by omega, Nat.mul_zero] at this
          exact this
        have HF := Aside0.mk (congrArg (fun m : Nat => ((m : Nat) : Int)) hfin)
        clear hfin
        go_wp2
        go_ret
        exact ⟨congrArg (fun m : Int => Ending.returned (.int .u32 m)) HF.out, BL.out⟩
def zv (s : Nat) (n : Int) : Nat := 4294967295 ^^^ csteps (8 * n.toNat) (4294967295 ^^^ s)
theorem zv_lt (s : Nat) (n : Int) (hs : s < 4294967296) : zv s n < 4294967296 := xor32 (by decide) (csteps_lt _ (xor32 (by decide) hs))
theorem not_val {s : Nat} (hs : s < 4294967296) : Go.bits .xor .u32 4294967295 (s : Int) = ((4294967295 ^^^ s : Nat) : Int) := by
  rw [show (4294967295 : Int) = ((4294967295 : Nat) : Int) from rfl, u32_xor_nat _ _ (by decide) hs]
theorem not_max {s : Nat} (hs : s < 4294967296) : Go.bits .xor .u32 IntKind.u32.max (s : Int) = ((4294967295 ^^^ s : Nat) : Int) := by
  rw [show IntKind.u32.max = 4294967295 by decide, not_val hs]
theorem power_any (n : Int) (hn : n ≤ 9223372036854775807) : sum_power.f 200 n = some ((csteps (8 * n.toNat) 2147483648 : Nat) : Int) := by
  by_cases h : n ≤ 0
  · rw [power_low 200 n h (by decide), show n.toNat = 0 by omega]; rfl
  · have := power_eq 200 n.toNat (by omega) (by decide)
    rw [show ((n.toNat : Nat) : Int) = n by omega] at this
    exact this
theorem zeros_any (s : Nat) (n : Int) (hs : s < 4294967296) (hn : n ≤ 9223372036854775807) : sum_Zeros.f 200 (s : Int) n = some ((zv s n : Nat) : Int) := by
  have hx : 4294967295 ^^^ s < 4294967296 := xor32 (by decide) hs
  unfold sum_Zeros.f
  rw [power_any n hn, Option.bind_some, not_val hs, times_eq 200 _ _ (pw_lt _) hx (by decide), Option.bind_some, mul_power _ _ hx, not_val (csteps_lt _ hx)]
  rfl
theorem zeros_call (s : Nat) (n : Int) (hs : s < 4294967296) (hn : n ≤ 9223372036854775807) (w : World) : Calls Try.prog 38 #[.int .u32 (s : Int), .int .i64 n] w fun e w' => e = .returned (.int .u32 ((zv s n : Nat) : Int)) ∧ Drawn0 w w' :=
  sum_Zeros.calls 200 _ _ _ w (zeros_any s n hs hn)
set_option maxHeartbeats 2000000 in
set_option maxRecDepth 100000 in
theorem rzeros_call (s : Nat) (y : Int) (hy : y = (s : Int)) (n : Int) (hs : s < 4294967296) (hn0 : -9223372036854775808 ≤ n) (hn : n ≤ 9223372036854775807) (w : World) : Calls Try.prog 39 #[.int .u32 y, .int .i64 n] w fun e w' => e = .returned (.int .u32 ((zv s n : Nat) : Int)) ∧ Below w.heap.size w w' := by
  subst hy
  have hx : 4294967295 ^^^ s < 4294967296 := xor32 (by decide) hs
  have hr := not_max (csteps_lt (8 * n.toNat) hx)
  obtain ⟨x, hxe⟩ : ∃ x, 4294967295 ^^^ s = x := ⟨_, rfl⟩
  obtain ⟨r, hre⟩ : ∃ r, csteps (8 * n.toNat) x = r := ⟨_, rfl⟩
  have hz : zv s n = 4294967295 ^^^ r := by unfold zv; rw [hxe, hre]
  have hn1 := not_max hs
  rw [hxe] at hx hr hn1
  rw [hre] at hr
  have hc := mshifted_walk x n hx hn0 hn
  simp only [hre] at hc
  rw [hz]
  obtain ⟨t, ht⟩ : ∃ t, 4294967295 ^^^ r = t := ⟨_, rfl⟩
  rw [ht] at hr ⊢
  have HC := Aside0.mk hc
  clear hc hz hxe hre hx hn0 hn ht hs
  go_enter Try.func39, Try.ntmps39
  go_wp2_with (go_at_call 57; (with_reducible refine (HC.out _).mono ?_); rintro e w1 ⟨rfl, hb⟩; have HB := Aside0.mk hb; clear hb)
  go_ret
  exact ⟨rfl, HB.out⟩
set_option maxHeartbeats 2000000 in
set_option maxRecDepth 100000 in
theorem law (s : Nat) (n : Int) (hs : s < 4294967296) (hn0 : -9223372036854775808 ≤ n) (hn : n ≤ 9223372036854775807) (W : World) : Calls Try.prog 13 #[.int .u32 (s : Int), .int .i64 n] W fun e w' => e = .returned (.bool true) ∧ Below W.heap.size W w' := by
  obtain ⟨z, hz⟩ : ∃ z, zv s n = z := ⟨_, rfl⟩
  have h1 := fun w => zeros_call s n hs hn w
  have h2 := fun w => rzeros_call s (s : Int) rfl n hs hn0 hn w
  rw [hz] at h1 h2
  have H1 := Aside0.mk h1
  have H2 := Aside0.mk h2
  clear h1 h2 hz hs hn0 hn
  go_enter Try.func13, Try.ntmps13
  go_wp2_with (first
    | (go_at_call 18; refine (Hasher.lives_walk _).mono ?_; rintro e w1 ⟨rfl, hb⟩; have HB := Aside0.mk hb; clear hb)
    | (go_at_call 38; refine (H1.out _).mono ?_; rintro e w' ⟨rfl, ⟨nd, rfl⟩⟩)
    | (go_at_call 39; refine (H2.out _).mono ?_; rintro e w2 ⟨rfl, hb⟩; have HB2 := Aside0.mk hb; clear hb))
  go_ret
  exact ⟨rfl, below_step (pw_below_drewN HB.out nd) HB2.out⟩
theorem xor_four (a b c d : Nat) : a ^^^ b ^^^ (a ^^^ c) ^^^ d = b ^^^ c ^^^ d := by
  rw [xor4, Nat.xor_self, Nat.zero_xor]
set_option maxHeartbeats 2000000 in
set_option maxRecDepth 100000 in
theorem combine_call (a b : Nat) (n : Int) (ha : a < 4294967296) (hb : b < 4294967296) (hn : n ≤ 9223372036854775807) (w : World) : Calls Try.prog 40 #[.int .u32 (a : Int), .int .u32 (b : Int), .int .i64 n] w fun e w' => e = .returned (.int .u32 ((csteps (8 * n.toNat) a ^^^ b : Nat) : Int)) ∧ Drawn0 w w' := by
  have h1 := fun w => sum_power.calls 200 n _ w (power_any n hn)
  have h2 := fun w => sum_times.calls 200 _ _ _ w (times_eq 200 (csteps (8 * n.toNat) 2147483648) a (pw_lt _) ha (by decide))
  rw [mul_power _ a ha] at h2
  have h3 := u32_xor_nat _ _ (csteps_lt (8 * n.toNat) ha) hb
  have H1 := Aside0.mk h1
  have H2 := Aside0.mk h2
  have H3 := Aside0.mk h3
  clear h1 h2 h3 ha hb hn
  go_enter Try.func40, Try.ntmps40
  go_wp2_with (first
    | (go_at_call 56; refine (H1.out _).mono ?_; rintro e w' ⟨rfl, ⟨n1, rfl⟩⟩)
    | (go_at_call 55; refine (H2.out _).mono ?_; rintro e w' ⟨rfl, ⟨n2, rfl⟩⟩))
  go_ret
  exact ⟨congrArg (fun m : Int => Ending.returned (.int .u32 m)) H3.out, by repeat (first | exact Drawn0.refl _ | apply Drawn0.step)⟩
set_option maxHeartbeats 2000000 in
set_option maxRecDepth 100000 in
theorem rcombine_call (a b : Nat) (n : Int) (ha : a < 4294967296) (hb : b < 4294967296) (hn0 : -9223372036854775808 ≤ n) (hn : n ≤ 9223372036854775807) (w : World) : Calls Try.prog 41 #[.int .u32 (a : Int), .int .u32 (b : Int), .int .i64 n] w fun e w' => e = .returned (.int .u32 ((csteps (8 * n.toNat) a ^^^ b : Nat) : Int)) ∧ Below w.heap.size w w' := by
  have h1 := fun w => rzeros_call a (a : Int) rfl n ha hn0 hn w
  have h2 := fun w => rzeros_call 0 0 rfl n (by decide) hn0 hn w
  have e : zv a n ^^^ zv 0 n ^^^ b = csteps (8 * n.toNat) a ^^^ b := by
    unfold zv
    rw [xor_four, ← csteps_xor, Nat.xor_zero, Nat.xor_comm 4294967295 a, Nat.xor_assoc, Nat.xor_self, Nat.xor_zero]
  have ha1 := zv_lt a n ha
  have ha2 := zv_lt 0 n (by decide)
  obtain ⟨p, hp⟩ : ∃ p, zv a n = p := ⟨_, rfl⟩
  obtain ⟨q, hq⟩ : ∃ q, zv 0 n = q := ⟨_, rfl⟩
  rw [hp] at h1 ha1
  rw [hq] at h2 ha2
  rw [hp, hq] at e
  have h3 : Go.bits .xor .u32 (Go.bits .xor .u32 (p : Int) (q : Int)) (b : Int) = ((csteps (8 * n.toNat) a ^^^ b : Nat) : Int) := by rw [u32_xor_nat _ _ ha1 ha2, u32_xor_nat _ _ (xor32 ha1 ha2) hb, e]
  have H1 := Aside0.mk h1
  have H2 := Aside0.mk h2
  have H3 := Aside0.mk h3
  clear h1 h2 h3 ha hb hn hn0 e ha1 ha2 hp hq
  go_enter Try.func41, Try.ntmps41
  go_wp2_with (first
    | (go_at_call 39; with_reducible refine (H1.out _).mono ?_; rintro e w1 ⟨rfl, hb⟩; have HB1 := Aside0.mk hb; clear hb)
    | (go_at_call 39; with_reducible refine (H2.out _).mono ?_; rintro e w2 ⟨rfl, hb⟩; have HB2 := Aside0.mk hb; clear hb))
  go_ret
  exact ⟨congrArg (fun m : Int => Ending.returned (.int .u32 m)) H3.out, below_step HB1.out HB2.out⟩
set_option maxHeartbeats 2000000 in
set_option maxRecDepth 100000 in
theorem joins (a b : Nat) (n : Int) (ha : a < 4294967296) (hb : b < 4294967296) (hn0 : -9223372036854775808 ≤ n) (hn : n ≤ 9223372036854775807) (W : World) : Calls Try.prog 16 #[.int .u32 (a : Int), .int .u32 (b : Int), .int .i64 n] W fun e w' => e = .returned (.bool true) ∧ Below W.heap.size W w' := by
  have h1 := fun w => combine_call a b n ha hb hn w
  have h2 := fun w => rcombine_call a b n ha hb hn0 hn w
  obtain ⟨z, hz⟩ : ∃ z, csteps (8 * n.toNat) a ^^^ b = z := ⟨_, rfl⟩
  rw [hz] at h1 h2
  have H1 := Aside0.mk h1
  have H2 := Aside0.mk h2
  clear h1 h2 hz ha hb hn0 hn
  go_enter Try.func16, Try.ntmps16
  go_wp2_with (first
    | (go_at_call 18; refine (Hasher.lives_walk _).mono ?_; rintro e w1 ⟨rfl, hb⟩; have HB := Aside0.mk hb; clear hb)
    | (go_at_call 40; refine (H1.out _).mono ?_; rintro e w' ⟨rfl, ⟨nd, rfl⟩⟩)
    | (go_at_call 41; refine (H2.out _).mono ?_; rintro e w2 ⟨rfl, hb⟩; have HB2 := Aside0.mk hb; clear hb))
  go_ret
  exact ⟨rfl, below_step (pw_below_drewN HB.out nd) HB2.out⟩
theorem wf_i64 {x : Int} (h : (Lit.int .i64 x).wf = true) : -9223372036854775808 ≤ x ∧ x ≤ 9223372036854775807 := by
  simp [Lit.wf, IntKind.min, IntKind.max, IntKind.bits, IntKind.signed] at h; omega
end Go.Proofs.Ytbnbpnnpbnpidaa.RSumZerosAre
