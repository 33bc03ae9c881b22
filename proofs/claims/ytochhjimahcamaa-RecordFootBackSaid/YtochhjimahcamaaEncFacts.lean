/- What the printed functions of Check, Up, Size, Crc and Encode tell, of the program and of the document's answer.
   No condition. -/
import Derived.Test.YtochhjimahcamaaGeo
import Derived.Test.YtochhjimahcamaaCrc
import Derived.Test.YtochhjimahcamaaQRecordEncodesx9
namespace Go.Proofs.Ytochhjimahcamaa.QRecordEncodes
open Go.RowKit Go.Proofs.YtochhjimahcamaaW.PrintWords Go.Proofs.YtochhjimahcamaaW.PrintLast Go.Proofs.YtochhjimahcamaaW.PrintMore
set_option linter.unusedVariables false
set_option linter.unusedSimpArgs false
open Geo
/-- What Check answers. -/
def chk (p s r a : Int) : Int := if Ok p s r a then 0 else 20

theorem power_eq (n lo hi : Int) (h0 : 1 ≤ lo) (h1 : hi ≤ 4096) : geom_power.f n lo hi = some (decide (lo ≤ n ∧ n ≤ hi ∧ P2 n)) := by
  unfold geom_power.f
  by_cases a : n ≥ lo
  · by_cases b : n ≤ hi
    · rw [if_pos a, if_pos b, bits_pow (by omega) (by omega)]
      congr 1
      rw [Bool.eq_iff_iff, decide_eq_true_iff, decide_eq_true_iff]
      exact ⟨fun h => ⟨a, b, h⟩, fun h => h.2.2⟩
    · rw [if_pos a, if_neg b, decide_eq_false (fun h => b h.2.1)]
  · rw [if_neg a, decide_eq_false (fun h => a h.1)]

theorem check_eq (k : Nat) (p s r a : Int) : geom_Check.f (k + 1) p s r a = some (chk p s r a) := by
  unfold geom_Check.f
  rw [power_eq p 16 4096 (by decide) (by decide)]
  simp only [Option.bind_some]
  by_cases hp : 16 ≤ p ∧ p ≤ 4096 ∧ P2 p
  · rw [decide_eq_true hp, if_pos rfl]
    have no : ∀ x, x = true → geom_Check.j0 (k + 1) x p s r a = some 20 := by intro x hx; subst hx; simp only [geom_Check.j0, if_true]
    by_cases hs : 1 ≤ s ∧ s ≤ 64
    · by_cases hr : 2 ≤ r ∧ r ≤ 256
      · rw [if_neg (by omega), if_neg (by omega), if_neg (by omega), decide_eq_false (show ¬ r > 256 by omega)]
        have q := pq_bound (p := p) (s := s) (by omega) hs
        have q3 := prod3_bound q hr
        simp only [geom_Check.j0]
        rw [if_neg (by decide), power_eq a 1 p (by decide) (by omega)]
        simp only [Option.bind_some]
        by_cases ha : 1 ≤ a ∧ a ≤ p ∧ P2 a
        · rw [decide_eq_true ha, if_pos rfl, w64 (n := p * s) (by omega) (by omega), w64 (n := p * s * r) (by omega) (by omega)]
          have hm : wrap64 (wrap64 (mx 32 a + 24) + 24) = mx 32 a + 48 := by
            unfold mx wrap64; split <;> omega
          rw [hm]
          unfold chk mx
          by_cases c : Ok p s r a
          · have c' := c; unfold Ok at c'; rw [if_pos c, if_neg (by omega), if_neg (by omega), if_neg (by split <;> omega)]
          · rw [if_neg c]
            by_cases c1 : p * s < 128
            · rw [if_pos c1]
            · rw [if_neg c1]
              by_cases c2 : p * s * r > 1048576
              · rw [if_pos c2]
              · rw [if_neg c2, if_pos]
                have : ¬ a ≤ p * s - 48 := fun h => c ⟨⟨hp.2.2, hp.1⟩, hs, hr, ⟨ha.2.2, ha.2.1⟩, by omega, h, by omega⟩
                split <;> omega
        · rw [decide_eq_false ha, if_neg (by decide)]
          unfold chk; rw [if_neg]; intro h; exact ha ⟨(p2_range h.2.2.2.1.1).1, h.2.2.2.1.2, h.2.2.2.1.1⟩
      · have e : chk p s r a = 20 := by unfold chk; rw [if_neg]; intro h; exact hr h.2.2.1
        rw [e]
        rw [if_neg (by omega), if_neg (by omega)]
        split
        · exact no _ rfl
        · exact no _ (decide_eq_true (by omega))
    · have e : chk p s r a = 20 := by unfold chk; rw [if_neg]; intro h; exact hs h.2.1
      rw [e]
      split
      · exact no _ rfl
      · rw [if_pos (by omega)]; exact no _ (decide_eq_true (by omega))
  · rw [decide_eq_false hp, if_neg (by decide)]
    have e : chk p s r a = 20 := by unfold chk; rw [if_neg]; intro h; exact hp ⟨h.1.2, (p2_range h.1.1).2, h.1.1⟩
    rw [e]; simp only [geom_Check.j0, Bool.not_false, if_true]

theorem chk_cases (p s r a : Int) : (Ok p s r a ∧ chk p s r a = 0) ∨ (¬ Ok p s r a ∧ chk p s r a = 20) := by
  unfold chk; by_cases h : Ok p s r a
  · exact .inl ⟨h, if_pos h⟩
  · exact .inr ⟨h, if_neg h⟩

theorem Ok.bounds {p s r a : Int} (h : Ok p s r a) : 16 ≤ p ∧ p ≤ 4096 ∧ 1 ≤ s ∧ s ≤ 64 ∧ 2 ≤ r ∧ r ≤ 256 ∧ 1 ≤ a ∧ a ≤ p ∧ 128 ≤ p * s ∧ p * s ≤ 262144 ∧ a ≤ p * s - 48 ∧ p * s * r ≤ 1048576 ∧ p * s * 2 ≤ p * s * r ∧ wrap64 (p * s) = p * s ∧ wrap64 (p * s * r) = p * s * r := by
  obtain ⟨⟨h1, h2⟩, h3, h4, ⟨h5, h6⟩, h7, h8, h9⟩ := h
  have a1 := p2_range h1
  have a2 := p2_range h5
  have q := pq_bound (p := p) (s := s) (by omega) h3
  have q3 := prod3_bound q h4
  have m := Int.mul_le_mul_of_nonneg_left (c := p * s) h4.1 (by omega)
  exact ⟨h2, a1.2, h3.1, h3.2, h4.1, h4.2, a2.1, h6, h7, q.2, h8, h9, m, w64 (by omega) (by omega), w64 (by omega) (by omega)⟩

theorem bytes_no (k : Nat) {p s r a : Int} (h : chk p s r a = 20) : geom_Bytes.f (k + 1) p s r a = some (0, 0, 20) := by
  unfold geom_Bytes.f; rw [check_eq, h]; rfl
theorem bytes_yes (k : Nat) {p s r a : Int} (h : Ok p s r a) : geom_Bytes.f (k + 1) p s r a = some (p * s, p * s * r, 0) := by
  have b := Ok.bounds h
  unfold geom_Bytes.f; rw [check_eq]; unfold chk; rw [if_pos h]
  simp only [Option.bind_some, if_true, b.2.2.2.2.2.2.2.2.2.2.2.2.2.1, b.2.2.2.2.2.2.2.2.2.2.2.2.2.2]

theorem small_ok : Ok 64 4 3 8 := by decide
theorem rpower_step (k : Nat) (n hi x y : Int) (hw : wrap64 (x * 2) = y) : cellarref02_Power.l0 (k + 1) n hi x = if x ≤ hi then (if n = x then some true else cellarref02_Power.l0 k n hi y) else some false := by
  simp only [cellarref02_Power.l0]; rw [hw]

theorem rpower_page (k : Nat) (n : Int) : cellarref02_Power.f (k + 20) n 16 4096 = some (decide (16 ≤ n ∧ n ≤ 4096 ∧ P2 n)) := by
  unfold cellarref02_Power.f
  rw [rpower_step (k + 19) n 4096 16 32 (by unfold wrap64; omega), rpower_step (k + 18) n 4096 32 64 (by unfold wrap64; omega), rpower_step (k + 17) n 4096 64 128 (by unfold wrap64; omega), rpower_step (k + 16) n 4096 128 256 (by unfold wrap64; omega),
    rpower_step (k + 15) n 4096 256 512 (by unfold wrap64; omega), rpower_step (k + 14) n 4096 512 1024 (by unfold wrap64; omega), rpower_step (k + 13) n 4096 1024 2048 (by unfold wrap64; omega), rpower_step (k + 12) n 4096 2048 4096 (by unfold wrap64; omega),
    rpower_step (k + 11) n 4096 4096 8192 (by unfold wrap64; omega), rpower_step (k + 10) n 4096 8192 16384 (by unfold wrap64; omega)]
  simp only [show (16 : Int) ≤ 4096 by decide, show (32 : Int) ≤ 4096 by decide, show (64 : Int) ≤ 4096 by decide, show (128 : Int) ≤ 4096 by decide, show (256 : Int) ≤ 4096 by decide, show (512 : Int) ≤ 4096 by decide, show (1024 : Int) ≤ 4096 by decide, show (2048 : Int) ≤ 4096 by decide, show (4096 : Int) ≤ 4096 by decide, show ¬ (8192 : Int) ≤ 4096 by decide, if_true, if_false]
  by_cases h : 16 ≤ n ∧ n ≤ 4096 ∧ P2 n
  · rw [decide_eq_true h]; unfold P2 at h
    repeat' (refine iteI (fun _ => ?_) (fun _ => ?_))
    all_goals first | rfl | (exfalso; omega)
  · rw [decide_eq_false h]; unfold P2 at h
    repeat' (refine iteI (fun _ => ?_) (fun _ => ?_))
    all_goals first | rfl | (exfalso; omega)

theorem rpower_align (k : Nat) (n p : Int) (hp : P2 p) : cellarref02_Power.f (k + 20) n 1 p = some (decide (P2 n ∧ n ≤ p)) := by
  unfold cellarref02_Power.f
  rw [rpower_step (k + 19) n p 1 2 (by unfold wrap64; omega), rpower_step (k + 18) n p 2 4 (by unfold wrap64; omega), rpower_step (k + 17) n p 4 8 (by unfold wrap64; omega), rpower_step (k + 16) n p 8 16 (by unfold wrap64; omega),
    rpower_step (k + 15) n p 16 32 (by unfold wrap64; omega), rpower_step (k + 14) n p 32 64 (by unfold wrap64; omega), rpower_step (k + 13) n p 64 128 (by unfold wrap64; omega), rpower_step (k + 12) n p 128 256 (by unfold wrap64; omega),
    rpower_step (k + 11) n p 256 512 (by unfold wrap64; omega), rpower_step (k + 10) n p 512 1024 (by unfold wrap64; omega), rpower_step (k + 9) n p 1024 2048 (by unfold wrap64; omega), rpower_step (k + 8) n p 2048 4096 (by unfold wrap64; omega),
    rpower_step (k + 7) n p 4096 8192 (by unfold wrap64; omega), rpower_step (k + 6) n p 8192 16384 (by unfold wrap64; omega)]
  have hr := p2_range hp
  by_cases h : P2 n ∧ n ≤ p
  · rw [decide_eq_true h]; unfold P2 at h
    repeat' (refine iteI (fun _ => ?_) (fun _ => ?_))
    all_goals first | rfl | (exfalso; omega)
  · rw [decide_eq_false h]; unfold P2 at h
    repeat' (refine iteI (fun _ => ?_) (fun _ => ?_))
    all_goals first | rfl | (exfalso; omega)

theorem rcheck_eq (k : Nat) (p s r a : Int) : cellarref02_Check.f (k + 20) p s r a = some (chk p s r a) := by
  unfold cellarref02_Check.f
  rw [rpower_page]
  simp only [Option.bind_some]
  have no : cellarref02_Check.j0 (k + 20) true p s r a = some 20 := by rw [show k + 20 = (k + 19) + 1 from rfl]; simp only [cellarref02_Check.j0, if_true]
  by_cases hp : 16 ≤ p ∧ p ≤ 4096 ∧ P2 p
  · rw [decide_eq_true hp, if_pos rfl]
    by_cases hs : 1 ≤ s ∧ s ≤ 64
    · by_cases hr : 2 ≤ r ∧ r ≤ 256
      · rw [if_neg (by omega), if_neg (by omega), if_neg (by omega), if_neg (by omega), rpower_align k a p hp.2.2]
        simp only [Option.bind_some]
        have q := pq_bound (p := p) (s := s) (by omega) hs
        have q3 := prod3_bound q hr
        by_cases ha : P2 a ∧ a ≤ p
        · rw [decide_eq_true ha, show k + 20 = (k + 19) + 1 from rfl]
          simp only [cellarref02_Check.j0, Bool.not_true]
          rw [if_neg (by decide), w64 (n := p * s) (by omega) (by omega), w64 (n := p * s * r) (by omega) (by omega), w64 (n := p * s - 48) (by omega) (by omega)]
          unfold chk
          by_cases c : Ok p s r a
          · have c' := c; unfold Ok at c'; rw [if_pos c, if_neg (by omega), if_neg (by omega), if_neg (by omega)]
          · rw [if_neg c]
            by_cases c1 : p * s < 128
            · rw [if_pos c1]
            · rw [if_neg c1]
              by_cases c2 : p * s - 48 < a
              · rw [if_pos c2]
              · rw [if_neg c2, if_pos]
                have : ¬ p * s * r ≤ 1048576 := fun h => c ⟨⟨hp.2.2, hp.1⟩, hs, hr, ha, by omega, by omega, h⟩
                omega
        · rw [decide_eq_false ha, show (!false) = true from rfl, no]
          unfold chk; rw [if_neg]; intro h; exact ha h.2.2.2.1
      · have e : chk p s r a = 20 := by unfold chk; rw [if_neg]; intro h; exact hr h.2.2.1
        rw [e, if_neg (by omega), if_neg (by omega)]
        split
        · exact no
        · rw [if_pos (by omega)]; exact no
    · have e : chk p s r a = 20 := by unfold chk; rw [if_neg]; intro h; exact hs h.2.1
      rw [e]
      split
      · exact no
      · rw [if_pos (by omega)]; exact no
  · rw [decide_eq_false hp, if_neg (by decide), no]
    have e : chk p s r a = 20 := by unfold chk; rw [if_neg]; intro h; exact hp ⟨h.1.2, (p2_range h.1.1).2, h.1.1⟩
    rw [e]

theorem rup_loop (a p s r : Int) (ha : 1 ≤ a) (ha2 : a ≤ 4096) (d : Nat) : ∀ (k : Nat) (n : Int), 0 ≤ n → (n + a - 1) / a * a ≤ 4294967296 → (n + a - 1) / a * a - n = d → d < k →
    cellarref02_Up.l0 k n p s r a = some ((n + a - 1) / a * a, 0) := by
  induction d with
  | zero =>
    intro k n h0 h1 hd hk
    obtain ⟨k, rfl⟩ : ∃ m, k = m + 1 := ⟨k - 1, by omega⟩
    have f := up_facts (n := n) ha
    simp only [cellarref02_Up.l0]
    rw [if_neg (by omega), Int.tmod_eq_emod_of_nonneg h0, if_pos]
    · have : n = (n + a - 1) / a * a := by omega
      rw [← this]
    · have : (n + a - 1) / a * a = n := by omega
      rw [this] at f; exact f.2.2
  | succ d ih =>
    intro k n h0 h1 hd hk
    obtain ⟨k, rfl⟩ : ∃ m, k = m + 1 := ⟨k - 1, by omega⟩
    have f := up_facts (n := n) ha
    have hne : n % a ≠ 0 := by
      intro hz
      have h1 := Int.emod_add_mul_ediv n a
      have : (n + a - 1) / a = n / a := by
        have e : n + a - 1 = (a - 1) + n / a * a := by rw [Int.mul_comm]; omega
        rw [e, Int.add_mul_ediv_right _ _ (by omega), Int.ediv_eq_zero_of_lt (by omega) (by omega)]; omega
      rw [this, Int.mul_comm] at hd
      omega
    have hup : (n + 1 + a - 1) / a * a = (n + a - 1) / a * a := by
      have g := up_facts (n := n + 1) ha
      -- both are multiples of a, less than a apart
      have h2 := Int.emod_add_mul_ediv (n + 1 + a - 1) a
      have h3 := Int.emod_add_mul_ediv (n + a - 1) a
      generalize hq : (n + 1 + a - 1) / a = q at *
      generalize hq' : (n + a - 1) / a = q' at *
      have hqq : q = q' := by
        rcases Int.lt_trichotomy q q' with h | h | h
        · have := Int.mul_le_mul_of_nonneg_right (show q + 1 ≤ q' by omega) (show 0 ≤ a by omega)
          rw [Int.add_mul] at this; omega
        · exact h
        · have := Int.mul_le_mul_of_nonneg_right (show q' + 1 ≤ q by omega) (show 0 ≤ a by omega)
          rw [Int.add_mul] at this; omega
      rw [hqq]
    simp only [cellarref02_Up.l0]
    rw [if_neg (by omega), Int.tmod_eq_emod_of_nonneg h0, if_neg hne, w64 (by omega) (by omega), ih k (n + 1) (by omega) (by rw [hup]; exact h1) (by omega) (by omega), hup]

theorem up_yes (k : Nat) {p s r a n : Int} (h : Ok p s r a) (h0 : 0 ≤ n) (h1 : n ≤ p * s * r) : geom_Up.f (k + 1) p s r a n = some ((n + a - 1) / a * a, 0) := by
  have b := Ok.bounds h
  unfold geom_Up.f; rw [bytes_yes k h]
  simp only [Option.bind_some, if_true]
  rw [if_neg (by omega), if_neg (by omega)]
  unfold geom_up.f
  rw [up_eq h.2.2.2.1.1 h0 (by omega)]
  rfl
theorem up_out (k : Nat) {p s r a n : Int} (h : Ok p s r a) (h0 : n < 0 ∨ n > p * s * r) : geom_Up.f (k + 1) p s r a n = some (0, 23) := by
  unfold geom_Up.f; rw [bytes_yes k h]
  simp only [Option.bind_some, if_true]
  by_cases hn : n < 0
  · rw [if_pos hn]
  · rw [if_neg hn, if_pos (by omega)]
theorem up_no (k : Nat) {p s r a n : Int} (h : chk p s r a = 20) : geom_Up.f (k + 1) p s r a n = some (0, 20) := by
  unfold geom_Up.f; rw [bytes_no k h]; rfl
theorem rup_yes (k : Nat) {p s r a n : Int} (h : Ok p s r a) (h0 : 0 ≤ n) (h1 : n ≤ p * s * r) : cellarref02_Up.f (k + 5000) p s r a n = some ((n + a - 1) / a * a, 0) := by
  have b := Ok.bounds h
  unfold cellarref02_Up.f; rw [show k + 5000 = k + 4980 + 20 from rfl, rcheck_eq]; unfold chk; rw [if_pos h]
  simp only [Option.bind_some, if_true]
  rw [if_neg (by omega)]
  unfold cellarref02_Device.f
  simp only [Option.bind_some]
  rw [b.2.2.2.2.2.2.2.2.2.2.2.2.2.1, b.2.2.2.2.2.2.2.2.2.2.2.2.2.2, decide_eq_false (by omega), show k + 4980 + 20 = (k + 4999) + 1 from rfl]
  simp only [cellarref02_Up.j0]
  rw [if_neg (by decide)]
  have f := up_facts (n := n) (a := a) (by omega)
  exact rup_loop a p s r (by omega) (by omega) ((n + a - 1) / a * a - n).toNat (k + 4999) n h0 (by omega) (by omega) (by omega)
theorem rup_out (k : Nat) {p s r a n : Int} (h : Ok p s r a) (h0 : n < 0 ∨ n > p * s * r) : cellarref02_Up.f (k + 5000) p s r a n = some (0, 23) := by
  have b := Ok.bounds h
  unfold cellarref02_Up.f; rw [show k + 5000 = k + 4980 + 20 from rfl, rcheck_eq]; unfold chk; rw [if_pos h]
  simp only [Option.bind_some, if_true]
  have no : ∀ x, x = true → cellarref02_Up.j0 (k + 4980 + 20) n x p s r a = some (0, 23) := by
    intro x hx; subst hx; rw [show k + 4980 + 20 = (k + 4999) + 1 from rfl]; simp only [cellarref02_Up.j0, if_true]
  by_cases hn : n < 0
  · rw [if_pos hn, no _ rfl]
  · rw [if_neg hn]
    unfold cellarref02_Device.f
    simp only [Option.bind_some]
    rw [b.2.2.2.2.2.2.2.2.2.2.2.2.2.1, b.2.2.2.2.2.2.2.2.2.2.2.2.2.2]
    exact no _ (decide_eq_true (by omega))
theorem rup_no (k : Nat) {p s r a n : Int} (h : chk p s r a = 20) : cellarref02_Up.f (k + 5000) p s r a n = some (0, 20) := by
  unfold cellarref02_Up.f; rw [show k + 5000 = k + 4980 + 20 from rfl, rcheck_eq, h]; rfl
open Crc

theorem up_fuel {α : Type} {f : Nat → Option α} (h : ∀ k, LeO (f k) (f (k + 1))) {n : Nat} {x : α} (hx : f n = some x) : ∀ m, n ≤ m → f m = some x := by
  intro m hm
  obtain ⟨d, rfl⟩ := Nat.exists_eq_add_of_le hm
  clear hm
  induction d with
  | zero => exact hx
  | succ d ih => exact h _ _ ih

theorem shifted_l0 (m : Nat) : ∀ (k i x : Nat), x < 4294967296 → i + m = 8 → m < k → sum_shifted.l0 k (x : Int) 8 (i : Int) = some ((csteps m x : Nat) : Int) := by
  induction m with
  | zero =>
    intro k i x hx hi hk
    obtain ⟨k, rfl⟩ := Nat.exists_eq_add_of_lt hk
    simp only [Nat.zero_add, sum_shifted.l0]
    rw [if_neg (by omega)]; rfl
  | succ m ih =>
    intro k i x hx hi hk
    obtain ⟨k, rfl⟩ := Nat.exists_eq_add_of_lt (Nat.zero_lt_of_lt hk)
    simp only [Nat.zero_add, sum_shifted.l0]
    rw [if_pos (by omega), cw64 (by omega) (by omega), show ((i : Int) + 1) = ((i + 1 : Nat) : Int) from rfl, show (1 : Int) = ((1 : Nat) : Int) from rfl, u32_and_nat x 1 hx (by decide), Nat.and_one_is_mod,
      show ((x : Int) / 2) = ((x / 2 : Nat) : Int) from rfl, show (2197175160 : Int) = ((2197175160 : Nat) : Int) from rfl, u32_xor_nat (x / 2) 2197175160 (by omega) (by decide)]
    have hc : csteps (m + 1) x = csteps m (cstep x) := rfl
    have hl := cstep_lt hx
    rw [hc]
    by_cases c : x % 2 = 1
    · rw [if_pos (by omega)]
      have e : cstep x = x / 2 ^^^ 2197175160 := if_pos c
      rw [e] at hl ⊢
      exact ih k (i + 1) _ hl (by omega) (by omega)
    · rw [if_neg (by omega)]
      have e : cstep x = x / 2 := if_neg c
      rw [e] at hl ⊢
      exact ih k (i + 1) _ hl (by omega) (by omega)
theorem shifted_eq (k x : Nat) (hx : x < 4294967296) (hk : 8 < k) : sum_shifted.f k (x : Int) 8 = some ((csteps 8 x : Nat) : Int) := shifted_l0 8 k 0 x hx rfl hk

theorem extend_l0 (bs : List Nat) : ∀ (pre : List Nat) (k x : Nat), x < 4294967296 → Bytes bs → pre.length + bs.length < 4611686018427387904 → bs.length + 9 < k →
    sum_Extend.l0 k (x : Int) (ints (pre ++ bs)) ((pre.length + bs.length : Nat) : Int) (pre.length : Int) = some ((4294967295 ^^^ reg x bs : Nat) : Int) := by
  induction bs with
  | nil =>
    intro pre k x hx hb hl hk
    obtain ⟨k, rfl⟩ := Nat.exists_eq_add_of_lt (Nat.zero_lt_of_lt hk)
    simp only [Nat.zero_add, sum_Extend.l0]
    rw [if_neg (by simp)]
    exact congrArg some (u32_xor_nat 4294967295 x (by decide) hx)
  | cons b bs ih =>
    intro pre k x hx hb hl hk
    have hb0 := hb b (by simp)
    have hbs : Bytes bs := fun y hy => hb y (by simp [hy])
    simp only [List.length_cons] at hl hk ⊢
    obtain ⟨k, rfl⟩ := Nat.exists_eq_add_of_lt (Nat.zero_lt_of_lt hk)
    simp only [Nat.zero_add, sum_Extend.l0]
    rw [if_pos (by omega), if_pos (by omega), if_pos (by rw [ints_length, List.length_append, List.length_cons]; omega), rd_ints, show ((b : Int) % 4294967296) = (b : Int) by omega, u32_xor_nat x b hx (by omega),
      shifted_eq k (x ^^^ b) (xor32 hx (by omega)) (by omega), Option.bind_some, cw64 (by omega) (by omega)]
    have h := ih (pre ++ [b]) k (csteps 8 (x ^^^ b)) (csteps_lt 8 (xor32 hx (by omega))) hbs (by simp only [List.length_append, List.length_cons, List.length_nil]; omega) (by omega)
    rw [List.append_assoc, List.singleton_append, List.length_append, List.length_singleton] at h
    rw [show ((pre.length : Int) + 1) = ((pre.length + 1 : Nat) : Int) from rfl, show pre.length + (bs.length + 1) = pre.length + 1 + bs.length by omega]
    exact h
theorem extend_eq (k s : Nat) (bs : List Nat) (hs : s < 4294967296) (hb : Bytes bs) (hl : bs.length < 4611686018427387904) (hk : bs.length + 9 < k) :
    sum_Extend.f k (s : Int) (ints bs) = some ((ext s bs : Nat) : Int) := by
  unfold sum_Extend.f
  rw [show (4294967295 : Int) = ((4294967295 : Nat) : Int) from rfl, u32_xor_nat 4294967295 s (by decide) hs, ints_length]
  have h := extend_l0 bs [] k (4294967295 ^^^ s) (xor32 (by decide) hs) hb (by simpa using hl) hk
  simp only [List.nil_append, List.length_nil, Nat.zero_add] at h
  exact h
theorem crc_eq (k : Nat) (bs : List Nat) (hb : Bytes bs) (hl : bs.length < 4611686018427387904) (hk : bs.length + 9 < k) : sum_Crc.f k (ints bs) = some ((ext 0 bs : Nat) : Int) := by
  unfold sum_Crc.f
  rw [show (0 : Int) = ((0 : Nat) : Int) from rfl, extend_eq k 0 bs (by decide) hb hl hk]; rfl

theorem rext_l1 (l : List Int) (j : Int) (m : Nat) : ∀ (k i x : Nat), x < 4294967296 → i + m = 8 → cellarref01_Extend.l1 (k + m + 1) l (x : Int) j (i : Int) = cellarref01_Extend.l0 k l ((csteps m x : Nat) : Int) (wrap64 (j + 1)) := by
  induction m with
  | zero =>
    intro k i x hx hi
    simp only [cellarref01_Extend.l1]
    rw [if_neg (by omega)]; rfl
  | succ m ih =>
    intro k i x hx hi
    rw [show k + (m + 1) + 1 = (k + m + 1) + 1 by omega]
    rw [cellarref01_Extend.l1]
    rw [if_pos (by omega), cw64 (n := (i : Int) + 1) (by omega) (by omega), show ((i : Int) + 1) = ((i + 1 : Nat) : Int) from rfl, Int.tmod_eq_emod_of_nonneg (by omega), Int.tdiv_eq_ediv_of_nonneg (by omega),
      show ((x : Int) / 2 % 4294967296) = ((x / 2 : Nat) : Int) by omega, show (2197175160 : Int) = ((2197175160 : Nat) : Int) from rfl, u32_xor_nat (x / 2) 2197175160 (by omega) (by decide)]
    have hc : csteps (m + 1) x = csteps m (cstep x) := rfl
    have hl := cstep_lt hx
    rw [hc]
    by_cases c : x % 2 = 1
    · rw [if_pos (by omega)]
      have e : cstep x = x / 2 ^^^ 2197175160 := if_pos c
      rw [e] at hl ⊢
      exact ih k (i + 1) _ hl (by omega)
    · rw [if_neg (by omega)]
      have e : cstep x = x / 2 := if_neg c
      rw [e] at hl ⊢
      exact ih k (i + 1) _ hl (by omega)
theorem rext_l0 (bs : List Nat) : ∀ (pre : List Nat) (k x : Nat), x < 4294967296 → Bytes bs → pre.length + bs.length < 4611686018427387904 → 10 * bs.length < k →
    cellarref01_Extend.l0 k (ints (pre ++ bs)) (x : Int) (pre.length : Int) = some ((4294967295 ^^^ reg x bs : Nat) : Int) := by
  induction bs with
  | nil =>
    intro pre k x hx hb hl hk
    obtain ⟨k, rfl⟩ := Nat.exists_eq_add_of_lt (Nat.zero_lt_of_lt hk)
    simp only [Nat.zero_add, cellarref01_Extend.l0]
    rw [if_neg (by rw [ints_length]; simp)]
    exact congrArg some (u32_xor_nat 4294967295 x (by decide) hx)
  | cons b bs ih =>
    intro pre k x hx hb hl hk
    have hb0 := hb b (by simp)
    have hbs : Bytes bs := fun y hy => hb y (by simp [hy])
    simp only [List.length_cons] at hl hk
    obtain ⟨k, rfl⟩ : ∃ k', k = k' + 8 + 1 + 1 := ⟨k - 10, by omega⟩
    rw [cellarref01_Extend.l0]
    rw [if_pos (by rw [ints_length, List.length_append, List.length_cons]; omega), if_pos (by omega), rd_ints, show ((b : Int) % 4294967296) = (b : Int) by omega, u32_xor_nat x b hx (by omega)]
    have h1 := rext_l1 (ints (pre ++ b :: bs)) (pre.length : Int) 8 k 0 (x ^^^ b) (xor32 hx (by omega)) rfl
    rw [show ((0 : Nat) : Int) = 0 from rfl] at h1
    rw [h1, cw64 (by omega) (by omega)]
    have h := ih (pre ++ [b]) k (csteps 8 (x ^^^ b)) (csteps_lt 8 (xor32 hx (by omega))) hbs (by simp only [List.length_append, List.length_cons, List.length_nil]; omega) (by omega)
    rw [List.append_assoc, List.singleton_append, List.length_append, List.length_singleton] at h
    exact h
theorem rext_eq (k s : Nat) (bs : List Nat) (hs : s < 4294967296) (hb : Bytes bs) (hl : bs.length < 4611686018427387904) (hk : 10 * bs.length < k) :
    cellarref01_Extend.f k (s : Int) (ints bs) = some ((ext s bs : Nat) : Int) := by
  unfold cellarref01_Extend.f
  rw [show (4294967295 : Int) = ((4294967295 : Nat) : Int) from rfl, u32_xor_nat 4294967295 s (by decide) hs]
  have h := rext_l0 bs [] k (4294967295 ^^^ s) (xor32 (by decide) hs) hb (by simpa using hl) hk
  simp only [List.nil_append, List.length_nil] at h
  exact h
theorem rcrc_eq (k : Nat) (bs : List Nat) (hb : Bytes bs) (hl : bs.length < 4611686018427387904) (hk : 10 * bs.length < k) : cellarref01_Crc.f k (ints bs) = some ((ext 0 bs : Nat) : Int) := by
  unfold cellarref01_Crc.f
  rw [show (0 : Int) = ((0 : Nat) : Int) from rfl, rext_eq k 0 bs (by decide) hb hl hk]; rfl

theorem put_l0 (sz : Nat) (hs : sz ≤ 8) (x : Nat) (m : Nat) : ∀ (k i : Nat) (acc : List Nat), i + m = sz → acc.length + m < 140737488355328 → m < k →
    record_put.l0 k (ints acc) (x : Int) (sz : Int) (i : Int) = some (ints (acc ++ leb m (x / 2 ^ (8 * i)))) := by
  induction m with
  | zero =>
    intro k i acc hi ha hk
    obtain ⟨k, rfl⟩ := Nat.exists_eq_add_of_lt hk
    simp only [Nat.zero_add, record_put.l0]
    rw [if_neg (by omega)]; simp [leb]
  | succ m ih =>
    intro k i acc hi ha hk
    obtain ⟨k, rfl⟩ := Nat.exists_eq_add_of_lt (Nat.zero_lt_of_lt hk)
    simp only [Nat.zero_add, record_put.l0]
    rw [if_pos (by omega), if_pos (by rw [cw64 (by omega) (by omega)]; omega), if_pos (by rw [ints_length]; omega), shr8 x i (by omega), cw64 (n := (i : Int) + 1) (by omega) (by omega), show ((i : Int) + 1) = ((i + 1 : Nat) : Int) from rfl,
      show ints acc ++ [((x / 2 ^ (8 * i) % 256 : Nat) : Int)] = ints (acc ++ [x / 2 ^ (8 * i) % 256]) by rw [ints_append]; rfl,
      ih k (i + 1) (acc ++ [x / 2 ^ (8 * i) % 256]) (by omega) (by simp only [List.length_append, List.length_cons, List.length_nil]; omega) (by omega)]
    rw [List.append_assoc, List.singleton_append, ← div_leb]; rfl
theorem put_eq (k sz x : Nat) (acc : List Nat) (hs : sz ≤ 8) (ha : acc.length < 140737488355000) (hk : 8 < k) : record_put.f k (ints acc) (x : Int) (sz : Int) = some (ints (acc ++ leb sz x)) := by
  have h := put_l0 sz hs x sz k 0 acc (by omega) (by omega) (by omega)
  simp only [Nat.mul_zero, Nat.pow_zero, Nat.div_one] at h
  exact h
theorem low_l0 (sz : Nat) (hs : sz ≤ 8) (m : Nat) : ∀ (k i x : Nat) (acc : List Nat), x < 18446744073709551616 → i + m = sz → acc.length + m < 140737488355328 → m < k →
    cellarref05_low.l0 k (ints acc) (x : Int) (sz : Int) (i : Int) = some (ints (acc ++ leb m x)) := by
  induction m with
  | zero =>
    intro k i x acc hx hi ha hk
    obtain ⟨k, rfl⟩ := Nat.exists_eq_add_of_lt hk
    simp only [Nat.zero_add, cellarref05_low.l0]
    rw [if_neg (by omega)]; simp [leb]
  | succ m ih =>
    intro k i x acc hx hi ha hk
    obtain ⟨k, rfl⟩ := Nat.exists_eq_add_of_lt (Nat.zero_lt_of_lt hk)
    simp only [Nat.zero_add, cellarref05_low.l0]
    rw [if_pos (by omega), if_pos (by rw [ints_length]; omega), cw64 (n := (i : Int) + 1) (by omega) (by omega), show ((i : Int) + 1) = ((i + 1 : Nat) : Int) from rfl,
      Int.tdiv_eq_ediv_of_nonneg (by omega), show ((x : Int) / 256) = ((x / 256 : Nat) : Int) from rfl, u64w (by omega), show ((x : Int) % 256) = ((x % 256 : Nat) : Int) from rfl,
      show ints acc ++ [((x % 256 : Nat) : Int)] = ints (acc ++ [x % 256]) by rw [ints_append]; rfl,
      ih k (i + 1) (x / 256) (acc ++ [x % 256]) (by omega) (by omega) (by simp only [List.length_append, List.length_cons, List.length_nil]; omega) (by omega)]
    rw [List.append_assoc, List.singleton_append]; rfl
theorem low_eq (k sz x : Nat) (acc : List Nat) (hs : sz ≤ 8) (hx : x < 18446744073709551616) (ha : acc.length < 140737488355000) (hk : 8 < k) : cellarref05_low.f k (ints acc) (x : Int) (sz : Int) = some (ints (acc ++ leb sz x)) :=
  low_l0 sz hs sz k 0 x acc hx (by omega) (by omega) (by omega)
theorem same_l0 (bs : List Nat) : ∀ (pre : List Nat) (k : Nat), pre.length + bs.length < 4611686018427387904 → bs.length < k → cellarlaw05_same.l0 k (ints (pre ++ bs)) (ints (pre ++ bs)) (pre.length : Int) = some true := by
  induction bs with
  | nil =>
    intro pre k hl hk
    obtain ⟨k, rfl⟩ := Nat.exists_eq_add_of_lt (Nat.zero_lt_of_lt hk)
    simp only [Nat.zero_add, cellarlaw05_same.l0]
    rw [if_neg (by rw [ints_length]; simp)]
  | cons b bs ih =>
    intro pre k hl hk
    simp only [List.length_cons] at hl hk
    obtain ⟨k, rfl⟩ := Nat.exists_eq_add_of_lt (Nat.zero_lt_of_lt hk)
    simp only [Nat.zero_add, cellarlaw05_same.l0]
    have hlen : (pre.length : Int) < ((ints (pre ++ b :: bs)).length : Int) := by rw [ints_length, List.length_append, List.length_cons]; omega
    rw [if_pos hlen, if_pos (by omega), if_pos hlen, if_true, cw64 (by omega) (by omega)]
    have h := ih (pre ++ [b]) k (by simp only [List.length_append, List.length_cons, List.length_nil]; omega) (by omega)
    rw [List.append_assoc, List.singleton_append, List.length_append, List.length_singleton] at h
    exact h
theorem same_eq (k : Nat) (bs : List Nat) (hl : bs.length < 4611686018427387904) (hk : bs.length < k) : cellarlaw05_same.f k (ints bs) (ints bs) = some true := by
  unfold cellarlaw05_same.f
  rw [if_pos rfl]
  exact same_l0 bs [] k (by simpa using hl) hk

/-- What Size answers. -/
def siz (p s r a key val : Int) : Int × Int :=
  if key < 1 ∨ key > 255 then (0, 54) else if val < 0 ∨ val > p * s - 24 - (32 + a - 1) / a * a - 24 - key then (0, 55) else (24 + key + val, 0)
theorem first_facts {p s r a : Int} (h : Ok p s r a) : 32 ≤ (32 + a - 1) / a * a ∧ (32 + a - 1) / a * a ≤ 32 + a - 1 := by
  have b := Ok.bounds h
  have f := up_facts (n := 32) (a := a) (by omega)
  omega
theorem room_eq (k : Nat) {p s r a : Int} (h : Ok p s r a) : record_room.f (k + 1) p s r a = some (p * s - 24 - (32 + a - 1) / a * a) := by
  have b := Ok.bounds h
  have f := first_facts h
  unfold record_room.f
  rw [bytes_yes k h, up_yes k h (by omega) (by omega)]
  simp only [Option.bind_some]
  rw [w64 (n := p * s - 24) (by omega) (by omega), w64 (by omega) (by omega)]
theorem size_eq (k : Nat) {p s r a key val : Int} (h : Ok p s r a) : record_Size.f (k + 2) p s r a key val = some (siz p s r a key val) := by
  have b := Ok.bounds h
  have f := first_facts h
  unfold record_Size.f
  rw [check_eq (k + 1)]
  unfold chk
  rw [if_pos h]
  simp only [Option.bind_some, if_true, record_Size.j0]
  rw [room_eq k h]
  unfold siz
  by_cases c1 : key < 1
  · rw [if_pos c1, if_pos (.inl c1)]
  · rw [if_neg c1]
    by_cases c2 : key > 255
    · rw [decide_eq_true c2, if_pos rfl, if_pos (.inr c2)]
    · rw [decide_eq_false c2, if_neg (by decide), if_neg (show ¬ (key < 1 ∨ key > 255) by omega)]
      simp only [Option.bind_some]
      rw [w64 (n := p * s - 24 - (32 + a - 1) / a * a - 24) (by omega) (by omega), w64 (n := p * s - 24 - (32 + a - 1) / a * a - 24 - key) (by omega) (by omega)]
      by_cases c3 : val < 0
      · rw [if_pos c3, if_pos (.inl c3)]
      · rw [if_neg c3]
        by_cases c4 : val > p * s - 24 - (32 + a - 1) / a * a - 24 - key
        · rw [if_pos c4, if_pos (.inr c4)]
        · rw [if_neg c4, if_neg (show ¬ (val < 0 ∨ val > p * s - 24 - (32 + a - 1) / a * a - 24 - key) by omega), w64 (n := 24 + key) (by omega) (by omega), w64 (by omega) (by omega)]
theorem rsize_eq (k : Nat) {p s r a key val : Int} (h : Ok p s r a) : cellarref05_Size.f (k + 5001) p s r a key val = some (siz p s r a key val) := by
  have b := Ok.bounds h
  have f := first_facts h
  unfold cellarref05_Size.f
  rw [show k + 5001 = (k + 4981) + 20 from rfl, rcheck_eq]
  unfold chk
  rw [if_pos h]
  simp only [Option.bind_some, if_true]
  rw [show (k + 4981) + 20 = k + 5000 + 1 from rfl]
  simp only [cellarref05_Size.j0]
  rw [rup_yes k h (by omega) (by omega)]
  unfold siz
  by_cases c1 : key < 1
  · rw [if_pos c1, if_true, if_pos (.inl c1)]
  · rw [if_neg c1]
    by_cases c2 : key > 255
    · rw [decide_eq_true c2, if_pos rfl, if_pos (.inr c2)]
    · rw [decide_eq_false c2, if_neg (by decide), if_neg (show ¬ (key < 1 ∨ key > 255) by omega)]
      simp only [Option.bind_some]
      rw [b.2.2.2.2.2.2.2.2.2.2.2.2.2.1, w64 (n := p * s - (32 + a - 1) / a * a) (by omega) (by omega), w64 (n := p * s - (32 + a - 1) / a * a - 24) (by omega) (by omega), w64 (n := p * s - (32 + a - 1) / a * a - 24 - 24) (by omega) (by omega), w64 (n := p * s - (32 + a - 1) / a * a - 24 - 24 - key) (by omega) (by omega)]
      by_cases c3 : val < 0
      · rw [if_pos c3, if_pos (.inl c3)]
      · rw [if_neg c3]
        by_cases c4 : val > p * s - 24 - (32 + a - 1) / a * a - 24 - key
        · rw [if_pos (show val > p * s - (32 + a - 1) / a * a - 24 - 24 - key by omega), if_pos (.inr c4)]
        · rw [if_neg (show ¬ val > p * s - (32 + a - 1) / a * a - 24 - 24 - key by omega), if_neg (show ¬ (val < 0 ∨ val > p * s - 24 - (32 + a - 1) / a * a - 24 - key) by omega), w64 (n := 24 + key) (by omega) (by omega), w64 (by omega) (by omega)]

/-- What stands ahead of a record's sum. -/
def hdr (kind key val ver salt : Nat) : List Nat := [kind, 0] ++ leb 2 key ++ leb 4 val ++ leb 8 ver ++ leb 4 salt
theorem hdr_length (kind key val ver salt : Nat) : (hdr kind key val ver salt).length = 20 := by simp [hdr, leb_length]
theorem hdr_bytes (kind key val ver salt : Nat) (h : kind < 256) : Bytes (hdr kind key val ver salt) := by
  unfold hdr
  refine Bytes.append (Bytes.append (Bytes.append (Bytes.append ?_ (leb_bytes _ _)) (leb_bytes _ _)) (leb_bytes _ _)) (leb_bytes _ _)
  intro b hb
  rcases List.mem_cons.1 hb with h1 | h1
  · omega
  · rcases List.mem_cons.1 h1 with h2 | h2
    · omega
    · cases h2
def recs (kind key val ver salt : Nat) (K V : List Nat) : List Nat := hdr kind key val ver salt ++ leb 4 (ext 0 (hdr kind key val ver salt ++ (K ++ V))) ++ (K ++ V)
/-- What Encode answers. -/
def enc (p s r a : Int) (salt : Nat) (kind : Int) (ver : Nat) (K V : ByteArray) : List Nat × Int :=
  if Ok p s r a then (if (kind = 1 ∨ kind = 2) ∧ ¬ (kind = 2 ∧ V.size ≠ 0) then (if (siz p s r a K.size V.size).2 = 0 then (recs kind.toNat K.size V.size ver salt (natsOf K) (natsOf V), 0) else ([], (siz p s r a K.size V.size).2)) else ([], 52)) else ([], 20)
theorem siz_small {p s r a key val : Int} (h : Ok p s r a) (h0 : (siz p s r a key val).2 = 0) : 1 ≤ key ∧ key ≤ 255 ∧ 0 ≤ val ∧ val ≤ 262144 := by
  have b := Ok.bounds h
  have f := first_facts h
  unfold siz at h0
  by_cases c1 : key < 1 ∨ key > 255
  · rw [if_pos c1] at h0; cases h0
  · rw [if_neg c1] at h0
    by_cases c2 : val < 0 ∨ val > p * s - 24 - (32 + a - 1) / a * a - 24 - key
    · rw [if_pos c2] at h0; cases h0
    · omega
theorem ne_nil (V : ByteArray) : (V.toList != ([] : List UInt8)) = decide (V.size ≠ 0) := by
  rw [Go.ByteArray.toList_eq, ← data_length]
  cases V.data.toList <;> simp
theorem encode_j0 (k : Nat) {p s r a : Int} (salt ver : Nat) (kind : Nat) (K V : ByteArray) (h : Ok p s r a) (hs : salt < 4294967296) (hv : ver < 18446744073709551616) (hk : 263000 ≤ k) (h1 : kind < 256) :
    record_Encode.j0 (k + 1) (salt : Int) false p s r a (kind : Int) (ver : Int) K V = some (if (siz p s r a K.size V.size).2 = 0 then (ints (recs kind K.size V.size ver salt (natsOf K) (natsOf V)), 0) else ([], (siz p s r a K.size V.size).2)) := by
  simp only [record_Encode.j0]
  rw [if_neg (by decide)]
  obtain ⟨j, rfl⟩ : ∃ j, k = j + 2 := ⟨k - 2, by omega⟩
  rw [size_eq j h]
  simp only [Option.bind_some]
  by_cases c : (siz p s r a K.size V.size).2 = 0
  · have hsm := siz_small h c
    have hkn := natsOf_length K
    have hvn := natsOf_length V
    rw [if_pos c, if_pos c, show ([(kind : Int) % 256, 0] : List Int) = ints [kind, 0] by (show _ = [(kind : Int), ((0 : Nat) : Int)]; rw [show (kind : Int) % 256 = kind by omega]; rfl), u64w (by omega)]
    rw [show (2 : Int) = ((2 : Nat) : Int) from rfl, put_eq _ 2 _ _ (by decide) (by simp) (by omega), Option.bind_some, u64w (by omega)]
    rw [show (4 : Int) = ((4 : Nat) : Int) from rfl, put_eq _ 4 _ _ (by decide) (by simp [leb_length]) (by omega), Option.bind_some]
    rw [show (8 : Int) = ((8 : Nat) : Int) from rfl, put_eq _ 8 _ _ (by decide) (by simp [leb_length]) (by omega), Option.bind_some, u64w (by omega)]
    rw [put_eq _ 4 _ _ (by decide) (by simp [leb_length]) (by omega), Option.bind_some, if_pos (by omega)]
    rw [show [kind, 0] ++ leb 2 K.size ++ leb 4 V.size ++ leb 8 ver ++ leb 4 salt = hdr kind K.size V.size ver salt from rfl]
    have hb := hdr_bytes kind K.size V.size ver salt h1
    have hl := hdr_length kind K.size V.size ver salt
    have hKV : Bytes (natsOf K ++ natsOf V) := Bytes.append (natsOf_bytes K) (natsOf_bytes V)
    have hsz : (K ++ V).size = K.size + V.size := ByteArray.size_append
    rw [crc_eq _ _ hb (by omega) (by omega), Option.bind_some, if_pos (by omega), bytesOf_ints, natsOf_append, extend_eq _ _ _ (ext_lt (by decide) hb) hKV (by rw [List.length_append]; omega) (by rw [List.length_append]; omega), Option.bind_some, ext_append,
      u64w (Nat.lt_trans (ext_lt (by decide) (Bytes.append hb hKV)) (by decide)), put_eq _ 4 _ _ (by decide) (by omega) (by omega), Option.bind_some, if_pos (by rw [ints_length, List.length_append, leb_length]; omega), ← ints_append]
    rfl
  · rw [if_neg c, if_neg c]
theorem encode_eq (k : Nat) (p s r a : Int) (salt ver : Nat) (kind : Int) (K V : ByteArray) (hs : salt < 4294967296) (hv : ver < 18446744073709551616) (hk : 263000 ≤ k) :
    record_Encode.f (k + 1) p s r a (salt : Int) kind (ver : Int) K V = some (ints (enc p s r a salt kind ver K V).1, (enc p s r a salt kind ver K V).2) := by
  unfold record_Encode.f enc
  rw [check_eq k]
  unfold chk
  by_cases h : Ok p s r a
  · rw [if_pos h, if_pos h]
    simp only [Option.bind_some, if_true]
    have bad : ∀ (kd : Int), record_Encode.j0 (k + 1) (salt : Int) true p s r a kd (ver : Int) K V = some ([], 52) := fun kd => by simp only [record_Encode.j0]; rw [if_true]
    have good : ∀ (kd : Nat), kd < 256 → record_Encode.j0 (k + 1) (salt : Int) false p s r a (kd : Int) (ver : Int) K V = _ := fun kd hkd => encode_j0 k salt ver kd K V h hs hv hk hkd
    by_cases c1 : kind = 1
    · subst c1
      have g := good 1 (by decide)
      rw [show ((1 : Nat) : Int) = 1 from rfl] at g
      rw [if_pos rfl, if_neg (by decide), g, if_pos (show (((1 : Int) = 1 ∨ (1 : Int) = 2) ∧ ¬ ((1 : Int) = 2 ∧ V.size ≠ 0)) from ⟨.inl rfl, by omega⟩)]
      by_cases c : (siz p s r a K.size V.size).2 = 0
      · rw [if_pos c, if_pos c]; rfl
      · rw [if_neg c, if_neg c]; rfl
    · rw [if_neg c1]
      by_cases c2 : kind = 2
      · subst c2
        rw [if_pos rfl, ne_nil]
        by_cases c3 : V.size ≠ 0
        · rw [decide_eq_true c3, bad, if_neg (show ¬ (((2 : Int) = 1 ∨ (2 : Int) = 2) ∧ ¬ ((2 : Int) = 2 ∧ V.size ≠ 0)) by omega)]; rfl
        · have g := good 2 (by decide)
          rw [show ((2 : Nat) : Int) = 2 from rfl] at g
          rw [decide_eq_false c3, g, if_pos (show (((2 : Int) = 1 ∨ (2 : Int) = 2) ∧ ¬ ((2 : Int) = 2 ∧ V.size ≠ 0)) from ⟨.inr rfl, by omega⟩)]
          by_cases c : (siz p s r a K.size V.size).2 = 0
          · rw [if_pos c, if_pos c]; rfl
          · rw [if_neg c, if_neg c]; rfl
      · rw [if_neg c2, bad, if_neg (show ¬ ((kind = 1 ∨ kind = 2) ∧ ¬ (kind = 2 ∧ V.size ≠ 0)) by omega)]; rfl
  · rw [if_neg h, if_neg h]; rfl
theorem rencode_j0 (k : Nat) {p s r a : Int} (salt ver : Nat) (kind : Nat) (K V : ByteArray) (h : Ok p s r a) (hs : salt < 4294967296) (hv : ver < 18446744073709551616) (hk : 2630000 ≤ k) (h1 : kind < 256) :
    cellarref05_Encode.j0 (k + 1) (salt : Int) false p s r a (kind : Int) (ver : Int) K V = some (if (siz p s r a K.size V.size).2 = 0 then (ints (recs kind K.size V.size ver salt (natsOf K) (natsOf V)), 0) else ([], (siz p s r a K.size V.size).2)) := by
  simp only [cellarref05_Encode.j0]
  rw [if_neg (by decide)]
  obtain ⟨j, rfl⟩ : ∃ j, k = j + 5001 := ⟨k - 5001, by omega⟩
  rw [rsize_eq j h]
  simp only [Option.bind_some]
  by_cases c : (siz p s r a K.size V.size).2 = 0
  · have hsm := siz_small h c
    have hkn := natsOf_length K
    have hvn := natsOf_length V
    rw [if_pos c, if_pos c, show ([(kind : Int) % 256, 0] : List Int) = ints [kind, 0] by (show _ = [(kind : Int), ((0 : Nat) : Int)]; rw [show (kind : Int) % 256 = kind by omega]; rfl), u64w (by omega)]
    rw [show (2 : Int) = ((2 : Nat) : Int) from rfl, low_eq _ 2 _ _ (by decide) (by omega) (by simp) (by omega), Option.bind_some, u64w (by omega)]
    rw [show (4 : Int) = ((4 : Nat) : Int) from rfl, low_eq _ 4 _ _ (by decide) (by omega) (by simp [leb_length]) (by omega), Option.bind_some]
    rw [show (8 : Int) = ((8 : Nat) : Int) from rfl, low_eq _ 8 _ _ (by decide) (by omega) (by simp [leb_length]) (by omega), Option.bind_some, u64w (by omega)]
    rw [low_eq _ 4 _ _ (by decide) (by omega) (by simp [leb_length]) (by omega), Option.bind_some]
    rw [show [kind, 0] ++ leb 2 K.size ++ leb 4 V.size ++ leb 8 ver ++ leb 4 salt = hdr kind K.size V.size ver salt from rfl]
    have hb := hdr_bytes kind K.size V.size ver salt h1
    have hl := hdr_length kind K.size V.size ver salt
    have hKV : Bytes (natsOf K ++ natsOf V) := Bytes.append (natsOf_bytes K) (natsOf_bytes V)
    have hx := ext_lt (s := 0) (by decide) (Bytes.append hb hKV)
    rw [bytesOf_ints, bytesOf_ints, List.nil_append, ← ints_append, ← ints_append, List.append_assoc, if_pos (by rw [List.length_nil, ints_length]; omega), if_pos (by rw [ints_length]; omega), if_pos (by rw [ints_length, List.length_append]; omega),
      rcrc_eq _ _ (Bytes.append hb hKV) (by simp only [List.length_append]; omega) (by simp only [List.length_append]; omega), Option.bind_some, u64w (Nat.lt_trans hx (by decide)),
      low_eq _ 4 _ _ (by decide) (Nat.lt_trans hx (by decide)) (by omega) (by omega), Option.bind_some, if_pos (by rw [ints_length, List.length_append, leb_length]; omega), ← ints_append, if_pos (by rw [ints_length]; simp only [List.length_append, leb_length]; omega), ← ints_append, List.append_assoc _ (natsOf K)]
    rfl
  · rw [if_neg c, if_neg c]
theorem rencode_eq (k : Nat) (p s r a : Int) (salt ver : Nat) (kind : Int) (K V : ByteArray) (hs : salt < 4294967296) (hv : ver < 18446744073709551616) (hk : 2630000 ≤ k) :
    cellarref05_Encode.f (k + 1) p s r a (salt : Int) kind (ver : Int) K V = some (ints (enc p s r a salt kind ver K V).1, (enc p s r a salt kind ver K V).2) := by
  unfold cellarref05_Encode.f enc
  obtain ⟨j, rfl⟩ : ∃ j, k = j + 19 := ⟨k - 19, by omega⟩
  rw [show j + 19 + 1 = j + 20 from rfl, rcheck_eq j]
  unfold chk
  by_cases h : Ok p s r a
  · rw [if_pos h, if_pos h]
    simp only [Option.bind_some, if_true]
    rw [show j + 20 = j + 19 + 1 from rfl]
    have bad : ∀ (kd : Int), cellarref05_Encode.j0 (j + 19 + 1) (salt : Int) true p s r a kd (ver : Int) K V = some ([], 52) := fun kd => by simp only [cellarref05_Encode.j0]; rw [if_true]
    have good : ∀ (kd : Nat), kd < 256 → cellarref05_Encode.j0 (j + 19 + 1) (salt : Int) false p s r a (kd : Int) (ver : Int) K V = _ := fun kd hkd => rencode_j0 (j + 19) salt ver kd K V h hs hv hk hkd
    by_cases c1 : kind = 1
    · subst c1
      have g := good 1 (by decide)
      rw [show ((1 : Nat) : Int) = 1 from rfl] at g
      rw [if_pos rfl, if_neg (by decide), g, if_pos (show (((1 : Int) = 1 ∨ (1 : Int) = 2) ∧ ¬ ((1 : Int) = 2 ∧ V.size ≠ 0)) from ⟨.inl rfl, by omega⟩)]
      by_cases c : (siz p s r a K.size V.size).2 = 0
      · rw [if_pos c, if_pos c]; rfl
      · rw [if_neg c, if_neg c]; rfl
    · rw [if_neg c1]
      by_cases c2 : kind = 2
      · subst c2
        rw [if_pos rfl]
        by_cases c3 : V.size ≠ 0
        · rw [decide_eq_true (by omega), bad, if_neg (show ¬ (((2 : Int) = 1 ∨ (2 : Int) = 2) ∧ ¬ ((2 : Int) = 2 ∧ V.size ≠ 0)) by omega)]; rfl
        · have g := good 2 (by decide)
          rw [show ((2 : Nat) : Int) = 2 from rfl] at g
          rw [decide_eq_false (by omega), g, if_pos (show (((2 : Int) = 1 ∨ (2 : Int) = 2) ∧ ¬ ((2 : Int) = 2 ∧ V.size ≠ 0)) from ⟨.inr rfl, by omega⟩)]
          by_cases c : (siz p s r a K.size V.size).2 = 0
          · rw [if_pos c, if_pos c]; rfl
          · rw [if_neg c, if_neg c]; rfl
      · rw [if_neg c2, bad, if_neg (show ¬ ((kind = 1 ∨ kind = 2) ∧ ¬ (kind = 2 ∧ V.size ≠ 0)) by omega)]; rfl
  · rw [if_neg h, if_neg h]; rfl
theorem lives100 : cellarlaw05_lives.f 100 = some true := by decide +kernel
theorem lives_eq (k : Nat) (hk : 100 ≤ k) : cellarlaw05_lives.f k = some true := up_fuel cellarlaw05_lives.mono lives100 k hk

end Go.Proofs.Ytochhjimahcamaa.QRecordEncodes
