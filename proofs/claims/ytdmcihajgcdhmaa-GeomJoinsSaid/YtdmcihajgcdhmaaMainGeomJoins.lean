/- The plain law of GeomJoins, over the printed functions; and the call.
   No condition. -/
import Derived.Test.YtdmcihajgcdhmaaGeo
import Derived.Test.YtdmcihajgcdhmaaQGeomJoinsx4
namespace Go.Proofs.Ytdmcihajgcdhmaa.QGeomJoins
open Go.RowKit Go.Proofs.YtdmcihajgcdhmaaW.PrintWords Go.Proofs.YtdmcihajgcdhmaaW.PrintLast Go.Proofs.YtdmcihajgcdhmaaW.PrintMore
set_option linter.unusedVariables false
open Geo
/-- What Check answers. -/
def chk (p s r a : Int) : Int := if Ok p s r a then 0 else 20

theorem power_eq (n lo hi : Int) (h0 : 1 ≤ lo) (h1 : hi ≤ 4096) : geom_power.f n lo hi = some (decide (lo ≤ n ∧ n ≤ hi ∧ P2 n)) := by
  unfold geom_power.f
  by_cases a : n ≥ lo
  · by_cases b : n ≤ hi
    · rw [if_pos a, if_pos b, bits_pow (by omega) (by omega)]
      congr 1
      rw [Bool.eq_iff_iff, decide_eq_true_iff, decide_eq_true_iff]
      exact ⟨fun h => ⟨a, b, h⟩, fun h => h.2.2⟩
    · rw [if_pos a, if_neg b, decide_eq_false (fun h => b h.2.1)]
  · rw [if_neg a, decide_eq_false (fun h => a h.1)]

theorem check_eq (k : Nat) (p s r a : Int) : geom_Check.f (k + 1) p s r a = some (chk p s r a) := by
  unfold geom_Check.f
  rw [power_eq p 16 4096 (by decide) (by decide)]
  simp only [Option.bind_some]
  by_cases hp : 16 ≤ p ∧ p ≤ 4096 ∧ P2 p
  · rw [decide_eq_true hp, if_pos rfl]
    have no : ∀ x, x = true → geom_Check.j0 (k + 1) x p s r a = some 20 := by intro x hx; subst hx; simp only [geom_Check.j0, if_true]
    by_cases hs : 1 ≤ s ∧ s ≤ 64
    · by_cases hr : 2 ≤ r ∧ r ≤ 256
      · rw [if_neg (by omega), if_neg (by omega), if_neg (by omega), decide_eq_false (show ¬ r > 256 by omega)]
        have q := pq_bound (p := p) (s := s) (by omega) hs
        have q3 := prod3_bound q hr
        simp only [geom_Check.j0]
        rw [if_neg (by decide), power_eq a 1 p (by decide) (by omega)]
        simp only [Option.bind_some]
        by_cases ha : 1 ≤ a ∧ a ≤ p ∧ P2 a
        · rw [decide_eq_true ha, if_pos rfl, w64 (n := p * s) (by omega) (by omega), w64 (n := p * s * r) (by omega) (by omega)]
          have hm : wrap64 (wrap64 (mx 32 a + 24) + 24) = mx 32 a + 48 := by
            unfold mx wrap64; split <;> omega
          rw [hm]
          unfold chk mx
          by_cases c : Ok p s r a
          · have c' := c; unfold Ok at c'; rw [if_pos c, if_neg (by omega), if_neg (by omega), if_neg (by split <;> omega)]
          · rw [if_neg c]
            by_cases c1 : p * s < 128
            · rw [if_pos c1]
            · rw [if_neg c1]
              by_cases c2 : p * s * r > 1048576
              · rw [if_pos c2]
              · rw [if_neg c2, if_pos]
                have : ¬ a ≤ p * s - 48 := fun h => c ⟨⟨hp.2.2, hp.1⟩, hs, hr, ⟨ha.2.2, ha.2.1⟩, by omega, h, by omega⟩
                split <;> omega
        · rw [decide_eq_false ha, if_neg (by decide)]
          unfold chk; rw [if_neg]; intro h; exact ha ⟨(p2_range h.2.2.2.1.1).1, h.2.2.2.1.2, h.2.2.2.1.1⟩
      · have e : chk p s r a = 20 := by unfold chk; rw [if_neg]; intro h; exact hr h.2.2.1
        rw [e]
        rw [if_neg (by omega), if_neg (by omega)]
        split
        · exact no _ rfl
        · exact no _ (decide_eq_true (by omega))
    · have e : chk p s r a = 20 := by unfold chk; rw [if_neg]; intro h; exact hs h.2.1
      rw [e]
      split
      · exact no _ rfl
      · rw [if_pos (by omega)]; exact no _ (decide_eq_true (by omega))
  · rw [decide_eq_false hp, if_neg (by decide)]
    have e : chk p s r a = 20 := by unfold chk; rw [if_neg]; intro h; exact hp ⟨h.1.2, (p2_range h.1.1).2, h.1.1⟩
    rw [e]; simp only [geom_Check.j0, Bool.not_false, if_true]

theorem chk_cases (p s r a : Int) : (Ok p s r a ∧ chk p s r a = 0) ∨ (¬ Ok p s r a ∧ chk p s r a = 20) := by
  unfold chk; by_cases h : Ok p s r a
  · exact .inl ⟨h, if_pos h⟩
  · exact .inr ⟨h, if_neg h⟩

theorem Ok.bounds {p s r a : Int} (h : Ok p s r a) : 16 ≤ p ∧ p ≤ 4096 ∧ 1 ≤ s ∧ s ≤ 64 ∧ 2 ≤ r ∧ r ≤ 256 ∧ 1 ≤ a ∧ a ≤ p ∧ 128 ≤ p * s ∧ p * s ≤ 262144 ∧ a ≤ p * s - 48 ∧ p * s * r ≤ 1048576 ∧ p * s * 2 ≤ p * s * r ∧ wrap64 (p * s) = p * s ∧ wrap64 (p * s * r) = p * s * r := by
  obtain ⟨⟨h1, h2⟩, h3, h4, ⟨h5, h6⟩, h7, h8, h9⟩ := h
  have a1 := p2_range h1
  have a2 := p2_range h5
  have q := pq_bound (p := p) (s := s) (by omega) h3
  have q3 := prod3_bound q h4
  have m := Int.mul_le_mul_of_nonneg_left (c := p * s) h4.1 (by omega)
  exact ⟨h2, a1.2, h3.1, h3.2, h4.1, h4.2, a2.1, h6, h7, q.2, h8, h9, m, w64 (by omega) (by omega), w64 (by omega) (by omega)⟩

theorem bytes_no (k : Nat) {p s r a : Int} (h : chk p s r a = 20) : geom_Bytes.f (k + 1) p s r a = some (0, 0, 20) := by
  unfold geom_Bytes.f; rw [check_eq, h]; rfl
theorem bytes_yes (k : Nat) {p s r a : Int} (h : Ok p s r a) : geom_Bytes.f (k + 1) p s r a = some (p * s, p * s * r, 0) := by
  have b := Ok.bounds h
  unfold geom_Bytes.f; rw [check_eq]; unfold chk; rw [if_pos h]
  simp only [Option.bind_some, if_true, b.2.2.2.2.2.2.2.2.2.2.2.2.2.1, b.2.2.2.2.2.2.2.2.2.2.2.2.2.2]

theorem small_ok : Ok 64 4 3 8 := by decide
theorem awake_eq (k : Nat) : cellarlaw02_awake.f (k + 1) = some true := by
  unfold cellarlaw02_awake.f cellarlaw02_small.f
  simp only [Option.bind_some]
  rw [bytes_yes k small_ok]
  unfold geom_Split.f
  rw [bytes_yes k small_ok]
  decide +kernel
theorem rpower_step (k : Nat) (n hi x y : Int) (hw : wrap64 (x * 2) = y) : cellarref02_Power.l0 (k + 1) n hi x = if x ≤ hi then (if n = x then some true else cellarref02_Power.l0 k n hi y) else some false := by
  simp only [cellarref02_Power.l0]; rw [hw]

theorem rpower_page (k : Nat) (n : Int) : cellarref02_Power.f (k + 20) n 16 4096 = some (decide (16 ≤ n ∧ n ≤ 4096 ∧ P2 n)) := by
  unfold cellarref02_Power.f
  rw [rpower_step (k + 19) n 4096 16 32 (by unfold wrap64; omega), rpower_step (k + 18) n 4096 32 64 (by unfold wrap64; omega), rpower_step (k + 17) n 4096 64 128 (by unfold wrap64; omega), rpower_step (k + 16) n 4096 128 256 (by unfold wrap64; omega),
    rpower_step (k + 15) n 4096 256 512 (by unfold wrap64; omega), rpower_step (k + 14) n 4096 512 1024 (by unfold wrap64; omega), rpower_step (k + 13) n 4096 1024 2048 (by unfold wrap64; omega), rpower_step (k + 12) n 4096 2048 4096 (by unfold wrap64; omega),
    rpower_step (k + 11) n 4096 4096 8192 (by unfold wrap64; omega), rpower_step (k + 10) n 4096 8192 16384 (by unfold wrap64; omega)]
  simp only [show (16 : Int) ≤ 4096 by decide, show (32 : Int) ≤ 4096 by decide, show (64 : Int) ≤ 4096 by decide, show (128 : Int) ≤ 4096 by decide, show (256 : Int) ≤ 4096 by decide, show (512 : Int) ≤ 4096 by decide, show (1024 : Int) ≤ 4096 by decide, show (2048 : Int) ≤ 4096 by decide, show (4096 : Int) ≤ 4096 by decide, show ¬ (8192 : Int) ≤ 4096 by decide, if_true, if_false]
  by_cases h : 16 ≤ n ∧ n ≤ 4096 ∧ P2 n
  · rw [decide_eq_true h]; unfold P2 at h
    repeat' (refine iteI (fun _ => ?_) (fun _ => ?_))
    all_goals first | rfl | (exfalso; omega)
  · rw [decide_eq_false h]; unfold P2 at h
    repeat' (refine iteI (fun _ => ?_) (fun _ => ?_))
    all_goals first | rfl | (exfalso; omega)

theorem rpower_align (k : Nat) (n p : Int) (hp : P2 p) : cellarref02_Power.f (k + 20) n 1 p = some (decide (P2 n ∧ n ≤ p)) := by
  unfold cellarref02_Power.f
  rw [rpower_step (k + 19) n p 1 2 (by unfold wrap64; omega), rpower_step (k + 18) n p 2 4 (by unfold wrap64; omega), rpower_step (k + 17) n p 4 8 (by unfold wrap64; omega), rpower_step (k + 16) n p 8 16 (by unfold wrap64; omega),
    rpower_step (k + 15) n p 16 32 (by unfold wrap64; omega), rpower_step (k + 14) n p 32 64 (by unfold wrap64; omega), rpower_step (k + 13) n p 64 128 (by unfold wrap64; omega), rpower_step (k + 12) n p 128 256 (by unfold wrap64; omega),
    rpower_step (k + 11) n p 256 512 (by unfold wrap64; omega), rpower_step (k + 10) n p 512 1024 (by unfold wrap64; omega), rpower_step (k + 9) n p 1024 2048 (by unfold wrap64; omega), rpower_step (k + 8) n p 2048 4096 (by unfold wrap64; omega),
    rpower_step (k + 7) n p 4096 8192 (by unfold wrap64; omega), rpower_step (k + 6) n p 8192 16384 (by unfold wrap64; omega)]
  have hr := p2_range hp
  by_cases h : P2 n ∧ n ≤ p
  · rw [decide_eq_true h]; unfold P2 at h
    repeat' (refine iteI (fun _ => ?_) (fun _ => ?_))
    all_goals first | rfl | (exfalso; omega)
  · rw [decide_eq_false h]; unfold P2 at h
    repeat' (refine iteI (fun _ => ?_) (fun _ => ?_))
    all_goals first | rfl | (exfalso; omega)

theorem rcheck_eq (k : Nat) (p s r a : Int) : cellarref02_Check.f (k + 20) p s r a = some (chk p s r a) := by
  unfold cellarref02_Check.f
  rw [rpower_page]
  simp only [Option.bind_some]
  have no : cellarref02_Check.j0 (k + 20) true p s r a = some 20 := by rw [show k + 20 = (k + 19) + 1 from rfl]; simp only [cellarref02_Check.j0, if_true]
  by_cases hp : 16 ≤ p ∧ p ≤ 4096 ∧ P2 p
  · rw [decide_eq_true hp, if_pos rfl]
    by_cases hs : 1 ≤ s ∧ s ≤ 64
    · by_cases hr : 2 ≤ r ∧ r ≤ 256
      · rw [if_neg (by omega), if_neg (by omega), if_neg (by omega), if_neg (by omega), rpower_align k a p hp.2.2]
        simp only [Option.bind_some]
        have q := pq_bound (p := p) (s := s) (by omega) hs
        have q3 := prod3_bound q hr
        by_cases ha : P2 a ∧ a ≤ p
        · rw [decide_eq_true ha, show k + 20 = (k + 19) + 1 from rfl]
          simp only [cellarref02_Check.j0, Bool.not_true]
          rw [if_neg (by decide), w64 (n := p * s) (by omega) (by omega), w64 (n := p * s * r) (by omega) (by omega), w64 (n := p * s - 48) (by omega) (by omega)]
          unfold chk
          by_cases c : Ok p s r a
          · have c' := c; unfold Ok at c'; rw [if_pos c, if_neg (by omega), if_neg (by omega), if_neg (by omega)]
          · rw [if_neg c]
            by_cases c1 : p * s < 128
            · rw [if_pos c1]
            · rw [if_neg c1]
              by_cases c2 : p * s - 48 < a
              · rw [if_pos c2]
              · rw [if_neg c2, if_pos]
                have : ¬ p * s * r ≤ 1048576 := fun h => c ⟨⟨hp.2.2, hp.1⟩, hs, hr, ha, by omega, by omega, h⟩
                omega
        · rw [decide_eq_false ha, show (!false) = true from rfl, no]
          unfold chk; rw [if_neg]; intro h; exact ha h.2.2.2.1
      · have e : chk p s r a = 20 := by unfold chk; rw [if_neg]; intro h; exact hr h.2.2.1
        rw [e, if_neg (by omega), if_neg (by omega)]
        split
        · exact no
        · rw [if_pos (by omega)]; exact no
    · have e : chk p s r a = 20 := by unfold chk; rw [if_neg]; intro h; exact hs h.2.1
      rw [e]
      split
      · exact no
      · rw [if_pos (by omega)]; exact no
  · rw [decide_eq_false hp, if_neg (by decide), no]
    have e : chk p s r a = 20 := by unfold chk; rw [if_neg]; intro h; exact hp ⟨h.1.2, (p2_range h.1.1).2, h.1.1⟩
    rw [e]

theorem split_yes (k : Nat) {p s r a n : Int} (h : Ok p s r a) (h0 : 0 ≤ n) (h1 : n < p * s * r) : geom_Split.f (k + 1) p s r a n = some (n / (p * s), n % (p * s) / p, n % p, 0) := by
  have b := Ok.bounds h
  have m1 := Int.emod_nonneg n (show p * s ≠ 0 by omega)
  have m2 := Int.emod_lt_of_pos n (show 0 < p * s by omega)
  have q1 := Int.ediv_nonneg h0 (show 0 ≤ p * s by omega)
  have q2 := Int.ediv_le_self (p * s) h0
  have q3 := Int.ediv_nonneg m1 (show 0 ≤ p by omega)
  have q4 := Int.ediv_le_self p m1
  unfold geom_Split.f; rw [bytes_yes k h]
  simp only [Option.bind_some, if_true]
  rw [if_neg (by omega), if_neg (by omega), if_neg (by omega), if_neg (by omega), Int.tdiv_eq_ediv_of_nonneg h0, Int.tmod_eq_emod_of_nonneg h0, Int.tmod_eq_emod_of_nonneg h0, Int.tdiv_eq_ediv_of_nonneg m1, w64 (n := n / (p * s)) (by omega) (by omega), w64 (n := n % (p * s) / p) (by omega) (by omega)]
theorem split_out (k : Nat) {p s r a n : Int} (h : Ok p s r a) (h0 : n < 0 ∨ n ≥ p * s * r) : geom_Split.f (k + 1) p s r a n = some (0, 0, 0, 21) := by
  unfold geom_Split.f; rw [bytes_yes k h]
  simp only [Option.bind_some, if_true]
  by_cases hn : n < 0
  · rw [if_pos hn]
  · rw [if_neg hn, if_pos (by omega)]
theorem split_no (k : Nat) {p s r a n : Int} (h : chk p s r a = 20) : geom_Split.f (k + 1) p s r a n = some (0, 0, 0, 20) := by
  unfold geom_Split.f; rw [bytes_no k h]; rfl

/-- The place of a spot, and the spot of a place. -/
theorem split_join {p s r a n : Int} (h : Ok p s r a) (h0 : 0 ≤ n) (h1 : n < p * s * r) :
    0 ≤ n / (p * s) ∧ n / (p * s) < r ∧ 0 ≤ n % (p * s) / p ∧ n % (p * s) / p < s ∧ 0 ≤ n % p ∧ n % p < p ∧ n / (p * s) * (p * s) + n % (p * s) / p * p + n % p = n := by
  have b := Ok.bounds h
  have m1 := Int.emod_nonneg n (show p * s ≠ 0 by omega)
  have m2 := Int.emod_lt_of_pos n (show 0 < p * s by omega)
  have e1 := Int.emod_add_mul_ediv n (p * s)
  have e2 := Int.emod_add_mul_ediv (n % (p * s)) p
  have e3 : n % (p * s) % p = n % p := Int.emod_emod_of_dvd n (Int.dvd_mul_right p s)
  rw [e3] at e2
  refine ⟨Int.ediv_nonneg h0 (by omega), ?_, Int.ediv_nonneg m1 (by omega), ?_, Int.emod_nonneg _ (by omega), Int.emod_lt_of_pos _ (by omega), ?_⟩
  · apply Int.ediv_lt_of_lt_mul (by omega); rw [Int.mul_comm]; exact h1
  · apply Int.ediv_lt_of_lt_mul (by omega); rw [Int.mul_comm s p]; exact m2
  · rw [Int.mul_comm (n / (p * s)), Int.mul_comm (n % (p * s) / p)]; omega

theorem join_split {p s r a g q y : Int} (h : Ok p s r a) (hg : 0 ≤ g ∧ g < r) (hq : 0 ≤ q ∧ q < s) (hy : 0 ≤ y ∧ y < p) :
    0 ≤ g * (p * s) + q * p + y ∧ g * (p * s) + q * p + y < p * s * r ∧ (g * (p * s) + q * p + y) / (p * s) = g ∧ (g * (p * s) + q * p + y) % (p * s) / p = q ∧ (g * (p * s) + q * p + y) % p = y ∧
    0 ≤ g * (p * s) ∧ g * (p * s) ≤ 1048576 ∧ 0 ≤ q * p ∧ q * p ≤ 1048576 := by
  have b := Ok.bounds h
  have m1 := Int.mul_nonneg hg.1 (show 0 ≤ p * s by omega)
  have m2 := Int.mul_nonneg hq.1 (show 0 ≤ p by omega)
  have m3 := Int.mul_le_mul_of_nonneg_right (show g + 1 ≤ r by omega) (show 0 ≤ p * s by omega)
  have m4 := Int.mul_le_mul_of_nonneg_right (show q + 1 ≤ s by omega) (show 0 ≤ p by omega)
  rw [Int.add_mul] at m3 m4
  rw [Int.mul_comm r] at m3
  rw [Int.mul_comm s] at m4
  have hlt : q * p + y < p * s := by omega
  have d1 : (g * (p * s) + q * p + y) / (p * s) = g := by
    rw [show g * (p * s) + q * p + y = (q * p + y) + g * (p * s) by omega, Int.add_mul_ediv_right _ _ (by omega), Int.ediv_eq_zero_of_lt (by omega) hlt]; omega
  have d2 : (g * (p * s) + q * p + y) % (p * s) = q * p + y := by
    rw [show g * (p * s) + q * p + y = (q * p + y) + g * (p * s) by omega, Int.add_mul_emod_self_right, Int.emod_eq_of_lt (by omega) hlt]
  have d3 : (q * p + y) / p = q := by
    rw [show q * p + y = y + q * p by omega, Int.add_mul_ediv_right _ _ (by omega), Int.ediv_eq_zero_of_lt hy.1 hy.2]; omega
  have d4 : (g * (p * s) + q * p + y) % p = y := by
    have e : g * (p * s) + q * p + y = y + (g * s + q) * p := by
      rw [Int.add_mul, Int.mul_assoc, Int.mul_comm s p]; omega
    rw [e, Int.add_mul_emod_self_right, Int.emod_eq_of_lt hy.1 hy.2]
  exact ⟨by omega, by omega, d1, by rw [d2, d3], d4, m1, by omega, m2, by omega⟩
theorem join_yes (k : Nat) {p s r a g q y : Int} (h : Ok p s r a) (hg : 0 ≤ g ∧ g < r) (hq : 0 ≤ q ∧ q < s) (hy : 0 ≤ y ∧ y < p) : geom_Join.f (k + 1) p s r a g q y = some (g * (p * s) + q * p + y, 0) := by
  have b := Ok.bounds h
  have j := join_split h hg hq hy
  unfold geom_Join.f; rw [bytes_yes k h]
  simp only [Option.bind_some, if_true]
  rw [if_pos ⟨hg, hq, hy⟩, w64 (n := g * (p * s)) (by omega) (by omega), w64 (n := q * p) (by omega) (by omega), w64 (n := g * (p * s) + q * p) (by omega) (by omega), w64 (by omega) (by omega)]
theorem join_out (k : Nat) {p s r a g q y : Int} (h : Ok p s r a) (hn : ¬ ((0 ≤ g ∧ g < r) ∧ (0 ≤ q ∧ q < s) ∧ (0 ≤ y ∧ y < p))) : geom_Join.f (k + 1) p s r a g q y = some (0, 21) := by
  unfold geom_Join.f; rw [bytes_yes k h]
  simp only [Option.bind_some, if_true]
  rw [if_neg hn]
theorem join_no (k : Nat) {p s r a g q y : Int} (h : chk p s r a = 20) : geom_Join.f (k + 1) p s r a g q y = some (0, 20) := by
  unfold geom_Join.f; rw [bytes_no k h]; rfl
theorem rjoin_yes (k : Nat) {p s r a g q y : Int} (h : Ok p s r a) (hg : 0 ≤ g ∧ g < r) (hq : 0 ≤ q ∧ q < s) (hy : 0 ≤ y ∧ y < p) : cellarref02_Join.f (k + 20) p s r a g q y = some (g * (p * s) + q * p + y, 0) := by
  have b := Ok.bounds h
  have j := join_split h hg hq hy
  unfold cellarref02_Join.f; rw [rcheck_eq]; unfold chk; rw [if_pos h]
  simp only [Option.bind_some, if_true]
  rw [if_neg (by omega), if_neg (by omega), if_neg (by omega), if_neg (by omega), if_neg (by omega), if_neg (by omega)]
  unfold cellarref02_Region.f
  rw [b.2.2.2.2.2.2.2.2.2.2.2.2.2.1]
  simp only [Option.bind_some]
  rw [w64 (n := g * (p * s)) (by omega) (by omega), w64 (n := q * p) (by omega) (by omega), w64 (n := g * (p * s) + q * p) (by omega) (by omega), w64 (by omega) (by omega)]
theorem rjoin_out (k : Nat) {p s r a g q y : Int} (h : Ok p s r a) (hn : ¬ ((0 ≤ g ∧ g < r) ∧ (0 ≤ q ∧ q < s) ∧ (0 ≤ y ∧ y < p))) : cellarref02_Join.f (k + 20) p s r a g q y = some (0, 21) := by
  unfold cellarref02_Join.f; rw [rcheck_eq]; unfold chk; rw [if_pos h]
  simp only [Option.bind_some, if_true]
  repeat' (refine iteI (fun _ => ?_) (fun _ => ?_))
  all_goals first | rfl | (exfalso; omega)
theorem rjoin_no (k : Nat) {p s r a g q y : Int} (h : chk p s r a = 20) : cellarref02_Join.f (k + 20) p s r a g q y = some (0, 20) := by
  unfold cellarref02_Join.f; rw [rcheck_eq, h]; rfl
theorem pure (p s r a g q y : Int) : ∃ k, cellarlaw02_GeomJoins.f k p s r a g q y = some true := by
  refine ⟨20, ?_⟩
  unfold cellarlaw02_GeomJoins.f
  rw [awake_eq 19]
  simp only [Option.bind_some, if_true]
  rcases chk_cases p s r a with ⟨ho, hc⟩ | ⟨ho, hc⟩
  · by_cases hn : (0 ≤ g ∧ g < r) ∧ (0 ≤ q ∧ q < s) ∧ (0 ≤ y ∧ y < p)
    · have j := join_split ho hn.1 hn.2.1 hn.2.2
      rw [join_yes 19 ho hn.1 hn.2.1 hn.2.2, rjoin_yes 0 ho hn.1 hn.2.1 hn.2.2]
      simp only [Option.bind_some, if_true, cellarlaw02_GeomJoins.j0, bne_self_eq_false]
      rw [if_neg (by decide), split_yes 18 ho j.1 j.2.1, j.2.2.1, j.2.2.2.1, j.2.2.2.2.1]
      simp
    · rw [join_out 19 ho hn, rjoin_out 0 ho hn]
      simp [cellarlaw02_GeomJoins.j0]
  · rw [join_no 19 hc, rjoin_no 0 hc]
    simp [cellarlaw02_GeomJoins.j0]

end Go.Proofs.Ytdmcihajgcdhmaa.QGeomJoins
namespace Go.Proofs.Ytdmcihajgcdhmaa.Main
open Go.RowKit Go.Proofs.YtdmcihajgcdhmaaW.PrintWords Go.Proofs.Ytdmcihajgcdhmaa.QGeomJoins Geo
set_option linter.unusedVariables false
theorem GeomJoins (W : World) (a0_0 : Int) (a0_1 : Int) (a0_2 : Int) (a0_3 : Int) (a1_0 : Int) (a1_1 : Int) (a1_2 : Int) (w0_0 : (Lit.int .i64 a0_0).wf = true) (w0_1 : (Lit.int .i64 a0_1).wf = true) (w0_2 : (Lit.int .i64 a0_2).wf = true) (w0_3 : (Lit.int .i64 a0_3).wf = true) (w1_0 : (Lit.int .i64 a1_0).wf = true) (w1_1 : (Lit.int .i64 a1_1).wf = true) (w1_2 : (Lit.int .i64 a1_2).wf = true) :
    Calls Try.prog 6 #[.agg #[.int .i64 a0_0, .int .i64 a0_1, .int .i64 a0_2, .int .i64 a0_3], .agg #[.int .i64 a1_0, .int .i64 a1_1, .int .i64 a1_2]] W fun e w' => e = .returned (.bool true) ∧ Below W.heap.size W w' := by
  obtain ⟨k, h⟩ := pure a0_0 a0_1 a0_2 a0_3 a1_0 a1_1 a1_2
  exact cellarlaw02_GeomJoins.calls k a0_0 a0_1 a0_2 a0_3 a1_0 a1_1 a1_2 true W h
end Go.Proofs.Ytdmcihajgcdhmaa.Main
