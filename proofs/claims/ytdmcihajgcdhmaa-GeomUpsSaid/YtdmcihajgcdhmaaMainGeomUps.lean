/- The plain law of GeomUps, over the printed functions; and the call.
   No condition. -/
import Derived.Test.YtdmcihajgcdhmaaGeo
import Derived.Test.YtdmcihajgcdhmaaPGeomUpsx3
namespace Go.Proofs.Ytdmcihajgcdhmaa.PGeomUps
open Go.RowKit Go.Proofs.YtdmcihajgcdhmaaW.PrintWords Go.Proofs.YtdmcihajgcdhmaaW.PrintLast Go.Proofs.YtdmcihajgcdhmaaW.PrintMore
set_option linter.unusedVariables false
open Geo
/-- What Check answers. -/
def chk (p s r a : Int) : Int := if Ok p s r a then 0 else 20

theorem power_eq (n lo hi : Int) (h0 : 1 ≤ lo) (h1 : hi ≤ 4096) : geom_power.f n lo hi = some (decide (lo ≤ n ∧ n ≤ hi ∧ P2 n)) := by
  unfold geom_power.f
  by_cases a : n ≥ lo
  · by_cases b : n ≤ hi
    · rw [if_pos a, if_pos b, bits_pow (by omega) (by omega)]
      congr 1
      rw [Bool.eq_iff_iff, decide_eq_true_iff, decide_eq_true_iff]
      exact ⟨fun h => ⟨a, b, h⟩, fun h => h.2.2⟩
    · rw [if_pos a, if_neg b, decide_eq_false (fun h => b h.2.1)]
  · rw [if_neg a, decide_eq_false (fun h => a h.1)]

theorem check_eq (k : Nat) (p s r a : Int) : geom_Check.f (k + 1) p s r a = some (chk p s r a) := by
  unfold geom_Check.f
  rw [power_eq p 16 4096 (by decide) (by decide)]
  simp only [Option.bind_some]
  by_cases hp : 16 ≤ p ∧ p ≤ 4096 ∧ P2 p
  · rw [decide_eq_true hp, if_pos rfl]
    have no : ∀ x, x = true → geom_Check.j0 (k + 1) x p s r a = some 20 := by intro x hx; subst hx; simp only [geom_Check.j0, if_true]
    by_cases hs : 1 ≤ s ∧ s ≤ 64
    · by_cases hr : 2 ≤ r ∧ r ≤ 256
      · rw [if_neg (by omega), if_neg (by omega), if_neg (by omega), decide_eq_false (show ¬ r > 256 by omega)]
        have q := pq_bound (p := p) (s := s) (by omega) hs
        have q3 := prod3_bound q hr
        simp only [geom_Check.j0]
        rw [if_neg (by decide), power_eq a 1 p (by decide) (by omega)]
        simp only [Option.bind_some]
        by_cases ha : 1 ≤ a ∧ a ≤ p ∧ P2 a
        · rw [decide_eq_true ha, if_pos rfl, w64 (n := p * s) (by omega) (by omega), w64 (n := p * s * r) (by omega) (by omega)]
          have hm : wrap64 (wrap64 (mx 32 a + 24) + 24) = mx 32 a + 48 := by
            unfold mx wrap64; split <;> omega
          rw [hm]
          unfold chk mx
          by_cases c : Ok p s r a
          · have c' := c; unfold Ok at c'; rw [if_pos c, if_neg (by omega), if_neg (by omega), if_neg (by split <;> omega)]
          · rw [if_neg c]
            by_cases c1 : p * s < 128
            · rw [if_pos c1]
            · rw [if_neg c1]
              by_cases c2 : p * s * r > 1048576
              · rw [if_pos c2]
              · rw [if_neg c2, if_pos]
                have : ¬ a ≤ p * s - 48 := fun h => c ⟨⟨hp.2.2, hp.1⟩, hs, hr, ⟨ha.2.2, ha.2.1⟩, by omega, h, by omega⟩
                split <;> omega
        · rw [decide_eq_false ha, if_neg (by decide)]
          unfold chk; rw [if_neg]; intro h; exact ha ⟨(p2_range h.2.2.2.1.1).1, h.2.2.2.1.2, h.2.2.2.1.1⟩
      · have e : chk p s r a = 20 := by unfold chk; rw [if_neg]; intro h; exact hr h.2.2.1
        rw [e]
        rw [if_neg (by omega), if_neg (by omega)]
        split
        · exact no _ rfl
        · exact no _ (decide_eq_true (by omega))
    · have e : chk p s r a = 20 := by unfold chk; rw [if_neg]; intro h; exact hs h.2.1
      rw [e]
      split
      · exact no _ rfl
      · rw [if_pos (by omega)]; exact no _ (decide_eq_true (by omega))
  · rw [decide_eq_false hp, if_neg (by decide)]
    have e : chk p s r a = 20 := by unfold chk; rw [if_neg]; intro h; exact hp ⟨h.1.2, (p2_range h.1.1).2, h.1.1⟩
    rw [e]; simp only [geom_Check.j0, Bool.not_false, if_true]

theorem chk_cases (p s r a : Int) : (Ok p s r a ∧ chk p s r a = 0) ∨ (¬ Ok p s r a ∧ chk p s r a = 20) := by
  unfold chk; by_cases h : Ok p s r a
  · exact .inl ⟨h, if_pos h⟩
  · exact .inr ⟨h, if_neg h⟩

theorem Ok.bounds {p s r a : Int} (h : Ok p s r a) : 16 ≤ p ∧ p ≤ 4096 ∧ 1 ≤ s ∧ s ≤ 64 ∧ 2 ≤ r ∧ r ≤ 256 ∧ 1 ≤ a ∧ a ≤ p ∧ 128 ≤ p * s ∧ p * s ≤ 262144 ∧ a ≤ p * s - 48 ∧ p * s * r ≤ 1048576 ∧ p * s * 2 ≤ p * s * r ∧ wrap64 (p * s) = p * s ∧ wrap64 (p * s * r) = p * s * r := by
  obtain ⟨⟨h1, h2⟩, h3, h4, ⟨h5, h6⟩, h7, h8, h9⟩ := h
  have a1 := p2_range h1
  have a2 := p2_range h5
  have q := pq_bound (p := p) (s := s) (by omega) h3
  have q3 := prod3_bound q h4
  have m := Int.mul_le_mul_of_nonneg_left (c := p * s) h4.1 (by omega)
  exact ⟨h2, a1.2, h3.1, h3.2, h4.1, h4.2, a2.1, h6, h7, q.2, h8, h9, m, w64 (by omega) (by omega), w64 (by omega) (by omega)⟩

theorem bytes_no (k : Nat) {p s r a : Int} (h : chk p s r a = 20) : geom_Bytes.f (k + 1) p s r a = some (0, 0, 20) := by
  unfold geom_Bytes.f; rw [check_eq, h]; rfl
theorem bytes_yes (k : Nat) {p s r a : Int} (h : Ok p s r a) : geom_Bytes.f (k + 1) p s r a = some (p * s, p * s * r, 0) := by
  have b := Ok.bounds h
  unfold geom_Bytes.f; rw [check_eq]; unfold chk; rw [if_pos h]
  simp only [Option.bind_some, if_true, b.2.2.2.2.2.2.2.2.2.2.2.2.2.1, b.2.2.2.2.2.2.2.2.2.2.2.2.2.2]

theorem small_ok : Ok 64 4 3 8 := by decide
theorem awake_eq (k : Nat) : cellarlaw02_awake.f (k + 1) = some true := by
  unfold cellarlaw02_awake.f cellarlaw02_small.f
  simp only [Option.bind_some]
  rw [bytes_yes k small_ok]
  unfold geom_Split.f
  rw [bytes_yes k small_ok]
  decide +kernel
theorem rpower_step (k : Nat) (n hi x y : Int) (hw : wrap64 (x * 2) = y) : cellarref02_Power.l0 (k + 1) n hi x = if x ≤ hi then (if n = x then some true else cellarref02_Power.l0 k n hi y) else some false := by
  simp only [cellarref02_Power.l0]; rw [hw]

theorem rpower_page (k : Nat) (n : Int) : cellarref02_Power.f (k + 20) n 16 4096 = some (decide (16 ≤ n ∧ n ≤ 4096 ∧ P2 n)) := by
  unfold cellarref02_Power.f
  rw [rpower_step (k + 19) n 4096 16 32 (by unfold wrap64; omega), rpower_step (k + 18) n 4096 32 64 (by unfold wrap64; omega), rpower_step (k + 17) n 4096 64 128 (by unfold wrap64; omega), rpower_step (k + 16) n 4096 128 256 (by unfold wrap64; omega),
    rpower_step (k + 15) n 4096 256 512 (by unfold wrap64; omega), rpower_step (k + 14) n 4096 512 1024 (by unfold wrap64; omega), rpower_step (k + 13) n 4096 1024 2048 (by unfold wrap64; omega), rpower_step (k + 12) n 4096 2048 4096 (by unfold wrap64; omega),
    rpower_step (k + 11) n 4096 4096 8192 (by unfold wrap64; omega), rpower_step (k + 10) n 4096 8192 16384 (by unfold wrap64; omega)]
  simp only [show (16 : Int) ≤ 4096 by decide, show (32 : Int) ≤ 4096 by decide, show (64 : Int) ≤ 4096 by decide, show (128 : Int) ≤ 4096 by decide, show (256 : Int) ≤ 4096 by decide, show (512 : Int) ≤ 4096 by decide, show (1024 : Int) ≤ 4096 by decide, show (2048 : Int) ≤ 4096 by decide, show (4096 : Int) ≤ 4096 by decide, show ¬ (8192 : Int) ≤ 4096 by decide, if_true, if_false]
  by_cases h : 16 ≤ n ∧ n ≤ 4096 ∧ P2 n
  · rw [decide_eq_true h]; unfold P2 at h
    repeat' (refine iteI (fun _ => ?_) (fun _ => ?_))
    all_goals first | rfl | (exfalso; omega)
  · rw [decide_eq_false h]; unfold P2 at h
    repeat' (refine iteI (fun _ => ?_) (fun _ => ?_))
    all_goals first | rfl | (exfalso; omega)

theorem rpower_align (k : Nat) (n p : Int) (hp : P2 p) : cellarref02_Power.f (k + 20) n 1 p = some (decide (P2 n ∧ n ≤ p)) := by
  unfold cellarref02_Power.f
  rw [rpower_step (k + 19) n p 1 2 (by unfold wrap64; omega), rpower_step (k + 18) n p 2 4 (by unfold wrap64; omega), rpower_step (k + 17) n p 4 8 (by unfold wrap64; omega), rpower_step (k + 16) n p 8 16 (by unfold wrap64; omega),
    rpower_step (k + 15) n p 16 32 (by unfold wrap64; omega), rpower_step (k + 14) n p 32 64 (by unfold wrap64; omega), rpower_step (k + 13) n p 64 128 (by unfold wrap64; omega), rpower_step (k + 12) n p 128 256 (by unfold wrap64; omega),
    rpower_step (k + 11) n p 256 512 (by unfold wrap64; omega), rpower_step (k + 10) n p 512 1024 (by unfold wrap64; omega), rpower_step (k + 9) n p 1024 2048 (by unfold wrap64; omega), rpower_step (k + 8) n p 2048 4096 (by unfold wrap64; omega),
    rpower_step (k + 7) n p 4096 8192 (by unfold wrap64; omega), rpower_step (k + 6) n p 8192 16384 (by unfold wrap64; omega)]
  have hr := p2_range hp
  by_cases h : P2 n ∧ n ≤ p
  · rw [decide_eq_true h]; unfold P2 at h
    repeat' (refine iteI (fun _ => ?_) (fun _ => ?_))
    all_goals first | rfl | (exfalso; omega)
  · rw [decide_eq_false h]; unfold P2 at h
    repeat' (refine iteI (fun _ => ?_) (fun _ => ?_))
    all_goals first | rfl | (exfalso; omega)

theorem rcheck_eq (k : Nat) (p s r a : Int) : cellarref02_Check.f (k + 20) p s r a = some (chk p s r a) := by
  unfold cellarref02_Check.f
  rw [rpower_page]
  simp only [Option.bind_some]
  have no : cellarref02_Check.j0 (k + 20) true p s r a = some 20 := by rw [show k + 20 = (k + 19) + 1 from rfl]; simp only [cellarref02_Check.j0, if_true]
  by_cases hp : 16 ≤ p ∧ p ≤ 4096 ∧ P2 p
  · rw [decide_eq_true hp, if_pos rfl]
    by_cases hs : 1 ≤ s ∧ s ≤ 64
    · by_cases hr : 2 ≤ r ∧ r ≤ 256
      · rw [if_neg (by omega), if_neg (by omega), if_neg (by omega), if_neg (by omega), rpower_align k a p hp.2.2]
        simp only [Option.bind_some]
        have q := pq_bound (p := p) (s := s) (by omega) hs
        have q3 := prod3_bound q hr
        by_cases ha : P2 a ∧ a ≤ p
        · rw [decide_eq_true ha, show k + 20 = (k + 19) + 1 from rfl]
          simp only [cellarref02_Check.j0, Bool.not_true]
          rw [if_neg (by decide), w64 (n := p * s) (by omega) (by omega), w64 (n := p * s * r) (by omega) (by omega), w64 (n := p * s - 48) (by omega) (by omega)]
          unfold chk
          by_cases c : Ok p s r a
          · have c' := c; unfold Ok at c'; rw [if_pos c, if_neg (by omega), if_neg (by omega), if_neg (by omega)]
          · rw [if_neg c]
            by_cases c1 : p * s < 128
            · rw [if_pos c1]
            · rw [if_neg c1]
              by_cases c2 : p * s - 48 < a
              · rw [if_pos c2]
              · rw [if_neg c2, if_pos]
                have : ¬ p * s * r ≤ 1048576 := fun h => c ⟨⟨hp.2.2, hp.1⟩, hs, hr, ha, by omega, by omega, h⟩
                omega
        · rw [decide_eq_false ha, show (!false) = true from rfl, no]
          unfold chk; rw [if_neg]; intro h; exact ha h.2.2.2.1
      · have e : chk p s r a = 20 := by unfold chk; rw [if_neg]; intro h; exact hr h.2.2.1
        rw [e, if_neg (by omega), if_neg (by omega)]
        split
        · exact no
        · rw [if_pos (by omega)]; exact no
    · have e : chk p s r a = 20 := by unfold chk; rw [if_neg]; intro h; exact hs h.2.1
      rw [e]
      split
      · exact no
      · rw [if_pos (by omega)]; exact no
  · rw [decide_eq_false hp, if_neg (by decide), no]
    have e : chk p s r a = 20 := by unfold chk; rw [if_neg]; intro h; exact hp ⟨h.1.2, (p2_range h.1.1).2, h.1.1⟩
    rw [e]

theorem rup_loop (a p s r : Int) (ha : 1 ≤ a) (ha2 : a ≤ 4096) (d : Nat) : ∀ (k : Nat) (n : Int), 0 ≤ n → (n + a - 1) / a * a ≤ 4294967296 → (n + a - 1) / a * a - n = d → d < k →
    cellarref02_Up.l0 k n p s r a = some ((n + a - 1) / a * a, 0) := by
  induction d with
  | zero =>
    intro k n h0 h1 hd hk
    obtain ⟨k, rfl⟩ : ∃ m, k = m + 1 := ⟨k - 1, by omega⟩
    have f := up_facts (n := n) ha
    simp only [cellarref02_Up.l0]
    rw [if_neg (by omega), Int.tmod_eq_emod_of_nonneg h0, if_pos]
    · have : n = (n + a - 1) / a * a := by omega
      rw [← this]
    · have : (n + a - 1) / a * a = n := by omega
      rw [this] at f; exact f.2.2
  | succ d ih =>
    intro k n h0 h1 hd hk
    obtain ⟨k, rfl⟩ : ∃ m, k = m + 1 := ⟨k - 1, by omega⟩
    have f := up_facts (n := n) ha
    have hne : n % a ≠ 0 := by
      intro hz
      have h1 := Int.emod_add_mul_ediv n a
      have : (n + a - 1) / a = n / a := by
        have e : n + a - 1 = (a - 1) + n / a * a := by rw [Int.mul_comm]; omega
        rw [e, Int.add_mul_ediv_right _ _ (by omega), Int.ediv_eq_zero_of_lt (by omega) (by omega)]; omega
      rw [this, Int.mul_comm] at hd
      omega
    have hup : (n + 1 + a - 1) / a * a = (n + a - 1) / a * a := by
      have g := up_facts (n := n + 1) ha
      -- both are multiples of a, less than a apart
      have h2 := Int.emod_add_mul_ediv (n + 1 + a - 1) a
      have h3 := Int.emod_add_mul_ediv (n + a - 1) a
      generalize hq : (n + 1 + a - 1) / a = q at *
      generalize hq' : (n + a - 1) / a = q' at *
      have hqq : q = q' := by
        rcases Int.lt_trichotomy q q' with h | h | h
        · have := Int.mul_le_mul_of_nonneg_right (show q + 1 ≤ q' by omega) (show 0 ≤ a by omega)
          rw [Int.add_mul] at this; omega
        · exact h
        · have := Int.mul_le_mul_of_nonneg_right (show q' + 1 ≤ q by omega) (show 0 ≤ a by omega)
          rw [Int.add_mul] at this; omega
      rw [hqq]
    simp only [cellarref02_Up.l0]
    rw [if_neg (by omega), Int.tmod_eq_emod_of_nonneg h0, if_neg hne, w64 (by omega) (by omega), ih k (n + 1) (by omega) (by rw [hup]; exact h1) (by omega) (by omega), hup]

theorem up_yes (k : Nat) {p s r a n : Int} (h : Ok p s r a) (h0 : 0 ≤ n) (h1 : n ≤ p * s * r) : geom_Up.f (k + 1) p s r a n = some ((n + a - 1) / a * a, 0) := by
  have b := Ok.bounds h
  unfold geom_Up.f; rw [bytes_yes k h]
  simp only [Option.bind_some, if_true]
  rw [if_neg (by omega), if_neg (by omega)]
  unfold geom_up.f
  rw [up_eq h.2.2.2.1.1 h0 (by omega)]
  rfl
theorem up_out (k : Nat) {p s r a n : Int} (h : Ok p s r a) (h0 : n < 0 ∨ n > p * s * r) : geom_Up.f (k + 1) p s r a n = some (0, 23) := by
  unfold geom_Up.f; rw [bytes_yes k h]
  simp only [Option.bind_some, if_true]
  by_cases hn : n < 0
  · rw [if_pos hn]
  · rw [if_neg hn, if_pos (by omega)]
theorem up_no (k : Nat) {p s r a n : Int} (h : chk p s r a = 20) : geom_Up.f (k + 1) p s r a n = some (0, 20) := by
  unfold geom_Up.f; rw [bytes_no k h]; rfl
theorem rup_yes (k : Nat) {p s r a n : Int} (h : Ok p s r a) (h0 : 0 ≤ n) (h1 : n ≤ p * s * r) : cellarref02_Up.f (k + 5000) p s r a n = some ((n + a - 1) / a * a, 0) := by
  have b := Ok.bounds h
  unfold cellarref02_Up.f; rw [show k + 5000 = k + 4980 + 20 from rfl, rcheck_eq]; unfold chk; rw [if_pos h]
  simp only [Option.bind_some, if_true]
  rw [if_neg (by omega)]
  unfold cellarref02_Device.f
  simp only [Option.bind_some]
  rw [b.2.2.2.2.2.2.2.2.2.2.2.2.2.1, b.2.2.2.2.2.2.2.2.2.2.2.2.2.2, decide_eq_false (by omega), show k + 4980 + 20 = (k + 4999) + 1 from rfl]
  simp only [cellarref02_Up.j0]
  rw [if_neg (by decide)]
  have f := up_facts (n := n) (a := a) (by omega)
  exact rup_loop a p s r (by omega) (by omega) ((n + a - 1) / a * a - n).toNat (k + 4999) n h0 (by omega) (by omega) (by omega)
theorem rup_out (k : Nat) {p s r a n : Int} (h : Ok p s r a) (h0 : n < 0 ∨ n > p * s * r) : cellarref02_Up.f (k + 5000) p s r a n = some (0, 23) := by
  have b := Ok.bounds h
  unfold cellarref02_Up.f; rw [show k + 5000 = k + 4980 + 20 from rfl, rcheck_eq]; unfold chk; rw [if_pos h]
  simp only [Option.bind_some, if_true]
  have no : ∀ x, x = true → cellarref02_Up.j0 (k + 4980 + 20) n x p s r a = some (0, 23) := by
    intro x hx; subst hx; rw [show k + 4980 + 20 = (k + 4999) + 1 from rfl]; simp only [cellarref02_Up.j0, if_true]
  by_cases hn : n < 0
  · rw [if_pos hn, no _ rfl]
  · rw [if_neg hn]
    unfold cellarref02_Device.f
    simp only [Option.bind_some]
    rw [b.2.2.2.2.2.2.2.2.2.2.2.2.2.1, b.2.2.2.2.2.2.2.2.2.2.2.2.2.2]
    exact no _ (decide_eq_true (by omega))
theorem rup_no (k : Nat) {p s r a n : Int} (h : chk p s r a = 20) : cellarref02_Up.f (k + 5000) p s r a n = some (0, 20) := by
  unfold cellarref02_Up.f; rw [show k + 5000 = k + 4980 + 20 from rfl, rcheck_eq, h]; rfl
theorem pure (p s r a n : Int) : ∃ k, cellarlaw02_GeomUps.f k p s r a n = some true := by
  refine ⟨5000, ?_⟩
  unfold cellarlaw02_GeomUps.f
  rw [awake_eq 4999]
  simp only [Option.bind_some, if_true]
  rcases chk_cases p s r a with ⟨ho, hc⟩ | ⟨ho, hc⟩
  · by_cases hn : 0 ≤ n ∧ n ≤ p * s * r
    · have b := Ok.bounds ho
      have f := up_facts (n := n) (a := a) (by omega)
      rw [up_yes 4999 ho hn.1 hn.2, rup_yes 0 ho hn.1 hn.2]
      simp only [Option.bind_some, if_true]
      rw [if_pos (by omega), w64 (by omega) (by omega), if_pos (by omega), if_neg (by omega), Int.tmod_eq_emod_of_nonneg (by omega), f.2.2]
      rfl
    · rw [up_out 4999 ho (by omega), rup_out 0 ho (by omega)]
      simp
  · rw [up_no 4999 hc, rup_no 0 hc]
    simp

end Go.Proofs.Ytdmcihajgcdhmaa.PGeomUps
namespace Go.Proofs.Ytdmcihajgcdhmaa.Main
open Go.RowKit Go.Proofs.YtdmcihajgcdhmaaW.PrintWords Go.Proofs.Ytdmcihajgcdhmaa.PGeomUps Geo
set_option linter.unusedVariables false
theorem GeomUps (W : World) (a0_0 : Int) (a0_1 : Int) (a0_2 : Int) (a0_3 : Int) (a1 : Int) (w0_0 : (Lit.int .i64 a0_0).wf = true) (w0_1 : (Lit.int .i64 a0_1).wf = true) (w0_2 : (Lit.int .i64 a0_2).wf = true) (w0_3 : (Lit.int .i64 a0_3).wf = true) (w1 : (Lit.int .i64 a1).wf = true) :
    Calls Try.prog 7 #[.agg #[.int .i64 a0_0, .int .i64 a0_1, .int .i64 a0_2, .int .i64 a0_3], .int .i64 a1] W fun e w' => e = .returned (.bool true) ∧ Below W.heap.size W w' := by
  obtain ⟨k, h⟩ := pure a0_0 a0_1 a0_2 a0_3 a1
  exact cellarlaw02_GeomUps.calls k a0_0 a0_1 a0_2 a0_3 a1 true W h
end Go.Proofs.Ytdmcihajgcdhmaa.Main
