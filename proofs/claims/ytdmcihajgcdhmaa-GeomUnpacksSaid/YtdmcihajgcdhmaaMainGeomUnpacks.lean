/- The plain law of GeomUnpacks, over the printed functions; and the call.
   No condition. -/
import Derived.Test.YtdmcihajgcdhmaaGeo
import Derived.Test.YtdmcihajgcdhmaaPGeomUnpacksx6
namespace Go.Proofs.Ytdmcihajgcdhmaa.PGeomUnpacks
open Go.RowKit Go.Proofs.YtdmcihajgcdhmaaW.PrintWords Go.Proofs.YtdmcihajgcdhmaaW.PrintLast Go.Proofs.YtdmcihajgcdhmaaW.PrintMore
set_option linter.unusedVariables false
open Geo
/-- What Check answers. -/
def chk (p s r a : Int) : Int := if Ok p s r a then 0 else 20

theorem power_eq (n lo hi : Int) (h0 : 1 ≤ lo) (h1 : hi ≤ 4096) : geom_power.f n lo hi = some (decide (lo ≤ n ∧ n ≤ hi ∧ P2 n)) := by
  unfold geom_power.f
  by_cases a : n ≥ lo
  · by_cases b : n ≤ hi
    · rw [if_pos a, if_pos b, bits_pow (by omega) (by omega)]
      congr 1
      rw [Bool.eq_iff_iff, decide_eq_true_iff, decide_eq_true_iff]
      exact ⟨fun h => ⟨a, b, h⟩, fun h => h.2.2⟩
    · rw [if_pos a, if_neg b, decide_eq_false (fun h => b h.2.1)]
  · rw [if_neg a, decide_eq_false (fun h => a h.1)]

theorem check_eq (k : Nat) (p s r a : Int) : geom_Check.f (k + 1) p s r a = some (chk p s r a) := by
  unfold geom_Check.f
  rw [power_eq p 16 4096 (by decide) (by decide)]
  simp only [Option.bind_some]
  by_cases hp : 16 ≤ p ∧ p ≤ 4096 ∧ P2 p
  · rw [decide_eq_true hp, if_pos rfl]
    have no : ∀ x, x = true → geom_Check.j0 (k + 1) x p s r a = some 20 := by intro x hx; subst hx; simp only [geom_Check.j0, if_true]
    by_cases hs : 1 ≤ s ∧ s ≤ 64
    · by_cases hr : 2 ≤ r ∧ r ≤ 256
      · rw [if_neg (by omega), if_neg (by omega), if_neg (by omega), decide_eq_false (show ¬ r > 256 by omega)]
        have q := pq_bound (p := p) (s := s) (by omega) hs
        have q3 := prod3_bound q hr
        simp only [geom_Check.j0]
        rw [if_neg (by decide), power_eq a 1 p (by decide) (by omega)]
        simp only [Option.bind_some]
        by_cases ha : 1 ≤ a ∧ a ≤ p ∧ P2 a
        · rw [decide_eq_true ha, if_pos rfl, w64 (n := p * s) (by omega) (by omega), w64 (n := p * s * r) (by omega) (by omega)]
          have hm : wrap64 (wrap64 (mx 32 a + 24) + 24) = mx 32 a + 48 := by
            unfold mx wrap64; split <;> omega
          rw [hm]
          unfold chk mx
          by_cases c : Ok p s r a
          · have c' := c; unfold Ok at c'; rw [if_pos c, if_neg (by omega), if_neg (by omega), if_neg (by split <;> omega)]
          · rw [if_neg c]
            by_cases c1 : p * s < 128
            · rw [if_pos c1]
            · rw [if_neg c1]
              by_cases c2 : p * s * r > 1048576
              · rw [if_pos c2]
              · rw [if_neg c2, if_pos]
                have : ¬ a ≤ p * s - 48 := fun h => c ⟨⟨hp.2.2, hp.1⟩, hs, hr, ⟨ha.2.2, ha.2.1⟩, by omega, h, by omega⟩
                split <;> omega
        · rw [decide_eq_false ha, if_neg (by decide)]
          unfold chk; rw [if_neg]; intro h; exact ha ⟨(p2_range h.2.2.2.1.1).1, h.2.2.2.1.2, h.2.2.2.1.1⟩
      · have e : chk p s r a = 20 := by unfold chk; rw [if_neg]; intro h; exact hr h.2.2.1
        rw [e]
        rw [if_neg (by omega), if_neg (by omega)]
        split
        · exact no _ rfl
        · exact no _ (decide_eq_true (by omega))
    · have e : chk p s r a = 20 := by unfold chk; rw [if_neg]; intro h; exact hs h.2.1
      rw [e]
      split
      · exact no _ rfl
      · rw [if_pos (by omega)]; exact no _ (decide_eq_true (by omega))
  · rw [decide_eq_false hp, if_neg (by decide)]
    have e : chk p s r a = 20 := by unfold chk; rw [if_neg]; intro h; exact hp ⟨h.1.2, (p2_range h.1.1).2, h.1.1⟩
    rw [e]; simp only [geom_Check.j0, Bool.not_false, if_true]

theorem chk_cases (p s r a : Int) : (Ok p s r a ∧ chk p s r a = 0) ∨ (¬ Ok p s r a ∧ chk p s r a = 20) := by
  unfold chk; by_cases h : Ok p s r a
  · exact .inl ⟨h, if_pos h⟩
  · exact .inr ⟨h, if_neg h⟩

theorem Ok.bounds {p s r a : Int} (h : Ok p s r a) : 16 ≤ p ∧ p ≤ 4096 ∧ 1 ≤ s ∧ s ≤ 64 ∧ 2 ≤ r ∧ r ≤ 256 ∧ 1 ≤ a ∧ a ≤ p ∧ 128 ≤ p * s ∧ p * s ≤ 262144 ∧ a ≤ p * s - 48 ∧ p * s * r ≤ 1048576 ∧ p * s * 2 ≤ p * s * r ∧ wrap64 (p * s) = p * s ∧ wrap64 (p * s * r) = p * s * r := by
  obtain ⟨⟨h1, h2⟩, h3, h4, ⟨h5, h6⟩, h7, h8, h9⟩ := h
  have a1 := p2_range h1
  have a2 := p2_range h5
  have q := pq_bound (p := p) (s := s) (by omega) h3
  have q3 := prod3_bound q h4
  have m := Int.mul_le_mul_of_nonneg_left (c := p * s) h4.1 (by omega)
  exact ⟨h2, a1.2, h3.1, h3.2, h4.1, h4.2, a2.1, h6, h7, q.2, h8, h9, m, w64 (by omega) (by omega), w64 (by omega) (by omega)⟩

theorem bytes_no (k : Nat) {p s r a : Int} (h : chk p s r a = 20) : geom_Bytes.f (k + 1) p s r a = some (0, 0, 20) := by
  unfold geom_Bytes.f; rw [check_eq, h]; rfl
theorem bytes_yes (k : Nat) {p s r a : Int} (h : Ok p s r a) : geom_Bytes.f (k + 1) p s r a = some (p * s, p * s * r, 0) := by
  have b := Ok.bounds h
  unfold geom_Bytes.f; rw [check_eq]; unfold chk; rw [if_pos h]
  simp only [Option.bind_some, if_true, b.2.2.2.2.2.2.2.2.2.2.2.2.2.1, b.2.2.2.2.2.2.2.2.2.2.2.2.2.2]

theorem small_ok : Ok 64 4 3 8 := by decide
theorem awake_eq (k : Nat) : cellarlaw02_awake.f (k + 1) = some true := by
  unfold cellarlaw02_awake.f cellarlaw02_small.f
  simp only [Option.bind_some]
  rw [bytes_yes k small_ok]
  unfold geom_Split.f
  rw [bytes_yes k small_ok]
  decide +kernel
theorem rpower_step (k : Nat) (n hi x y : Int) (hw : wrap64 (x * 2) = y) : cellarref02_Power.l0 (k + 1) n hi x = if x ≤ hi then (if n = x then some true else cellarref02_Power.l0 k n hi y) else some false := by
  simp only [cellarref02_Power.l0]; rw [hw]

theorem rpower_page (k : Nat) (n : Int) : cellarref02_Power.f (k + 20) n 16 4096 = some (decide (16 ≤ n ∧ n ≤ 4096 ∧ P2 n)) := by
  unfold cellarref02_Power.f
  rw [rpower_step (k + 19) n 4096 16 32 (by unfold wrap64; omega), rpower_step (k + 18) n 4096 32 64 (by unfold wrap64; omega), rpower_step (k + 17) n 4096 64 128 (by unfold wrap64; omega), rpower_step (k + 16) n 4096 128 256 (by unfold wrap64; omega),
    rpower_step (k + 15) n 4096 256 512 (by unfold wrap64; omega), rpower_step (k + 14) n 4096 512 1024 (by unfold wrap64; omega), rpower_step (k + 13) n 4096 1024 2048 (by unfold wrap64; omega), rpower_step (k + 12) n 4096 2048 4096 (by unfold wrap64; omega),
    rpower_step (k + 11) n 4096 4096 8192 (by unfold wrap64; omega), rpower_step (k + 10) n 4096 8192 16384 (by unfold wrap64; omega)]
  simp only [show (16 : Int) ≤ 4096 by decide, show (32 : Int) ≤ 4096 by decide, show (64 : Int) ≤ 4096 by decide, show (128 : Int) ≤ 4096 by decide, show (256 : Int) ≤ 4096 by decide, show (512 : Int) ≤ 4096 by decide, show (1024 : Int) ≤ 4096 by decide, show (2048 : Int) ≤ 4096 by decide, show (4096 : Int) ≤ 4096 by decide, show ¬ (8192 : Int) ≤ 4096 by decide, if_true, if_false]
  by_cases h : 16 ≤ n ∧ n ≤ 4096 ∧ P2 n
  · rw [decide_eq_true h]; unfold P2 at h
    repeat' (refine iteI (fun _ => ?_) (fun _ => ?_))
    all_goals first | rfl | (exfalso; omega)
  · rw [decide_eq_false h]; unfold P2 at h
    repeat' (refine iteI (fun _ => ?_) (fun _ => ?_))
    all_goals first | rfl | (exfalso; omega)

theorem rpower_align (k : Nat) (n p : Int) (hp : P2 p) : cellarref02_Power.f (k + 20) n 1 p = some (decide (P2 n ∧ n ≤ p)) := by
  unfold cellarref02_Power.f
  rw [rpower_step (k + 19) n p 1 2 (by unfold wrap64; omega), rpower_step (k + 18) n p 2 4 (by unfold wrap64; omega), rpower_step (k + 17) n p 4 8 (by unfold wrap64; omega), rpower_step (k + 16) n p 8 16 (by unfold wrap64; omega),
    rpower_step (k + 15) n p 16 32 (by unfold wrap64; omega), rpower_step (k + 14) n p 32 64 (by unfold wrap64; omega), rpower_step (k + 13) n p 64 128 (by unfold wrap64; omega), rpower_step (k + 12) n p 128 256 (by unfold wrap64; omega),
    rpower_step (k + 11) n p 256 512 (by unfold wrap64; omega), rpower_step (k + 10) n p 512 1024 (by unfold wrap64; omega), rpower_step (k + 9) n p 1024 2048 (by unfold wrap64; omega), rpower_step (k + 8) n p 2048 4096 (by unfold wrap64; omega),
    rpower_step (k + 7) n p 4096 8192 (by unfold wrap64; omega), rpower_step (k + 6) n p 8192 16384 (by unfold wrap64; omega)]
  have hr := p2_range hp
  by_cases h : P2 n ∧ n ≤ p
  · rw [decide_eq_true h]; unfold P2 at h
    repeat' (refine iteI (fun _ => ?_) (fun _ => ?_))
    all_goals first | rfl | (exfalso; omega)
  · rw [decide_eq_false h]; unfold P2 at h
    repeat' (refine iteI (fun _ => ?_) (fun _ => ?_))
    all_goals first | rfl | (exfalso; omega)

theorem rcheck_eq (k : Nat) (p s r a : Int) : cellarref02_Check.f (k + 20) p s r a = some (chk p s r a) := by
  unfold cellarref02_Check.f
  rw [rpower_page]
  simp only [Option.bind_some]
  have no : cellarref02_Check.j0 (k + 20) true p s r a = some 20 := by rw [show k + 20 = (k + 19) + 1 from rfl]; simp only [cellarref02_Check.j0, if_true]
  by_cases hp : 16 ≤ p ∧ p ≤ 4096 ∧ P2 p
  · rw [decide_eq_true hp, if_pos rfl]
    by_cases hs : 1 ≤ s ∧ s ≤ 64
    · by_cases hr : 2 ≤ r ∧ r ≤ 256
      · rw [if_neg (by omega), if_neg (by omega), if_neg (by omega), if_neg (by omega), rpower_align k a p hp.2.2]
        simp only [Option.bind_some]
        have q := pq_bound (p := p) (s := s) (by omega) hs
        have q3 := prod3_bound q hr
        by_cases ha : P2 a ∧ a ≤ p
        · rw [decide_eq_true ha, show k + 20 = (k + 19) + 1 from rfl]
          simp only [cellarref02_Check.j0, Bool.not_true]
          rw [if_neg (by decide), w64 (n := p * s) (by omega) (by omega), w64 (n := p * s * r) (by omega) (by omega), w64 (n := p * s - 48) (by omega) (by omega)]
          unfold chk
          by_cases c : Ok p s r a
          · have c' := c; unfold Ok at c'; rw [if_pos c, if_neg (by omega), if_neg (by omega), if_neg (by omega)]
          · rw [if_neg c]
            by_cases c1 : p * s < 128
            · rw [if_pos c1]
            · rw [if_neg c1]
              by_cases c2 : p * s - 48 < a
              · rw [if_pos c2]
              · rw [if_neg c2, if_pos]
                have : ¬ p * s * r ≤ 1048576 := fun h => c ⟨⟨hp.2.2, hp.1⟩, hs, hr, ha, by omega, by omega, h⟩
                omega
        · rw [decide_eq_false ha, show (!false) = true from rfl, no]
          unfold chk; rw [if_neg]; intro h; exact ha h.2.2.2.1
      · have e : chk p s r a = 20 := by unfold chk; rw [if_neg]; intro h; exact hr h.2.2.1
        rw [e, if_neg (by omega), if_neg (by omega)]
        split
        · exact no
        · rw [if_pos (by omega)]; exact no
    · have e : chk p s r a = 20 := by unfold chk; rw [if_neg]; intro h; exact hs h.2.1
      rw [e]
      split
      · exact no
      · rw [if_pos (by omega)]; exact no
  · rw [decide_eq_false hp, if_neg (by decide), no]
    have e : chk p s r a = 20 := by unfold chk; rw [if_neg]; intro h; exact hp ⟨h.1.2, (p2_range h.1.1).2, h.1.1⟩
    rw [e]

/-- A locator that may be. -/
def May (p s r a g o z : Int) : Prop := 0 ≤ g ∧ g < r ∧ 0 ≤ o ∧ o % a = 0 ∧ 1 ≤ z ∧ z ≤ p * s ∧ o ≤ p * s - z
instance (p s r a g o z : Int) : Decidable (May p s r a g o z) := by unfold May; infer_instance

theorem may_eq {p s r a g o z : Int} (h : Ok p s r a) : geom_may.f p s r a g o z = some (decide (May p s r a g o z)) := by
  have b := Ok.bounds h
  unfold geom_may.f
  rw [b.2.2.2.2.2.2.2.2.2.2.2.2.2.1]
  have no : ∀ x : Option Bool, ¬ May p s r a g o z → x = some false → x = some (decide (May p s r a g o z)) := fun x h e => by rw [e, decide_eq_false h]
  by_cases h1 : g ≥ 0
  · rw [if_pos h1]
    by_cases h2 : g < r
    · rw [if_pos h2]
      by_cases h3 : o ≥ 0
      · rw [if_pos h3, if_neg (by omega), Int.tmod_eq_emod_of_nonneg h3]
        by_cases h4 : o % a = 0
        · rw [if_pos h4]
          by_cases h5 : z ≥ 1
          · rw [if_pos h5]
            by_cases h6 : z ≤ p * s
            · rw [if_pos h6, w64 (n := p * s - z) (by omega) (by omega)]
              congr 1
              rw [Bool.eq_iff_iff, decide_eq_true_iff, decide_eq_true_iff]
              exact ⟨fun h7 => ⟨h1, h2, h3, h4, h5, h6, h7⟩, fun h => h.2.2.2.2.2.2⟩
            · rw [if_neg h6]; exact no _ (fun h => h6 h.2.2.2.2.2.1) rfl
          · rw [if_neg h5]; exact no _ (fun h => h5 h.2.2.2.2.1) rfl
        · rw [if_neg h4]; exact no _ (fun h => h4 h.2.2.2.1) rfl
      · rw [if_neg h3]; exact no _ (fun h => h3 h.2.2.1) rfl
    · rw [if_neg h2]; exact no _ (fun h => h2 h.2.1) rfl
  · rw [if_neg h1]; exact no _ (fun h => h1 h.1) rfl

theorem locates_eq {p s r a g o z : Int} (h : Ok p s r a) : cellarref02_Locates.f p s r a g o z = some (decide (May p s r a g o z)) := by
  have b := Ok.bounds h
  unfold cellarref02_Locates.f cellarref02_Region.f cellarref02_Within.f
  rw [b.2.2.2.2.2.2.2.2.2.2.2.2.2.1]
  have no : ∀ x : Option Bool, ¬ May p s r a g o z → x = some false → x = some (decide (May p s r a g o z)) := fun x h e => by rw [e, decide_eq_false h]
  by_cases h1 : g ≥ 0
  · rw [if_pos h1]
    by_cases h2 : g < r
    · rw [if_pos h2]
      by_cases h5 : z ≥ 1
      · rw [if_pos h5]
        simp only [Option.bind_some]
        by_cases h3 : o ≥ 0
        · rw [if_pos h3, if_pos (show z ≥ 0 by omega)]
          by_cases h6 : o ≤ p * s
          · rw [if_pos h6, w64 (n := p * s - o) (by omega) (by omega)]
            simp only [Option.bind_some]
            by_cases h7 : z ≤ p * s - o
            · rw [decide_eq_true h7, if_pos rfl, if_neg (by omega), Int.tmod_eq_emod_of_nonneg h3]
              congr 1
              rw [Bool.eq_iff_iff, decide_eq_true_iff, beq_iff_eq]
              exact ⟨fun h4 => ⟨h1, h2, h3, h4, h5, by omega, by omega⟩, fun h => h.2.2.2.1⟩
            · rw [decide_eq_false h7, if_neg (by decide)]; exact no _ (fun h => h7 (by have := h.2.2.2.2.2.2; omega)) rfl
          · rw [if_neg h6]; exact no _ (fun h => h6 (by have := h.2.2.2.2.2.2; omega)) rfl
        · rw [if_neg h3]; exact no _ (fun h => h3 h.2.2.1) rfl
      · rw [if_neg h5]; exact no _ (fun h => h5 h.2.2.2.2.1) rfl
    · rw [if_neg h2]; exact no _ (fun h => h2 h.2.1) rfl
  · rw [if_neg h1]; exact no _ (fun h => h1 h.1) rfl

/-- The packed number. -/
def pk (a g o z : Int) : Int := g * 281474976710656 + o / a * 16777216 + z

theorem off_div {p s r a g o z : Int} (h : Ok p s r a) (m : May p s r a g o z) : 0 ≤ o / a ∧ o / a < 16777216 ∧ o / a * a = o ∧ 0 ≤ z ∧ z < 16777216 ∧ 0 ≤ g ∧ g < 256 := by
  have b := Ok.bounds h
  obtain ⟨m1, m2, m3, m4, m5, m6, m7⟩ := m
  have h1 := Int.emod_add_mul_ediv o a
  have h2 := Int.ediv_nonneg m3 (show 0 ≤ a by omega)
  have h3 := Int.mul_le_mul_of_nonneg_right (show 1 ≤ a by omega) h2
  rw [Int.mul_comm] at h1
  rw [Int.one_mul, Int.mul_comm] at h3
  exact ⟨h2, by omega, by omega, by omega, by omega, m1, by omega⟩

theorem pk_wrap {p s r a g o z : Int} (h : Ok p s r a) (m : May p s r a g o z) :
    IntKind.u64.wrap ((IntKind.u64.wrap ((IntKind.u64.wrap ((IntKind.u64.wrap (g)) * 281474976710656)) + (IntKind.u64.wrap ((IntKind.u64.wrap (wrap64 (Int.tdiv o a))) * 16777216)))) + (IntKind.u64.wrap (z))) = pk a g o z := by
  have d := off_div h m
  rw [Int.tdiv_eq_ediv_of_nonneg m.2.2.1, w64 (n := o / a) (by omega) (by omega), wu64 (n := g) (by omega) (by omega), wu64 (n := o / a) (by omega) (by omega), wu64 (n := z) (by omega) (by omega),
    wu64 (n := g * 281474976710656) (by omega) (by omega), wu64 (n := o / a * 16777216) (by omega) (by omega), wu64 (n := g * 281474976710656 + o / a * 16777216) (by omega) (by omega), wu64 (by omega) (by omega)]
  rfl

theorem pack_yes (k : Nat) {p s r a g o z : Int} (h : Ok p s r a) (m : May p s r a g o z) : geom_Pack.f (k + 1) p s r a g o z = some (pk a g o z, 0) := by
  have b := Ok.bounds h
  unfold geom_Pack.f; rw [check_eq]; unfold chk; rw [if_pos h]
  simp only [Option.bind_some, if_true]
  rw [may_eq h, decide_eq_true m]
  simp only [Option.bind_some, if_true]
  rw [if_neg (by omega), pk_wrap h m]
theorem pack_out (k : Nat) {p s r a g o z : Int} (h : Ok p s r a) (m : ¬ May p s r a g o z) : geom_Pack.f (k + 1) p s r a g o z = some (0, 22) := by
  unfold geom_Pack.f; rw [check_eq]; unfold chk; rw [if_pos h]
  simp only [Option.bind_some, if_true]
  rw [may_eq h, decide_eq_false m]
  rfl
theorem pack_no (k : Nat) {p s r a g o z : Int} (h : chk p s r a = 20) : geom_Pack.f (k + 1) p s r a g o z = some (0, 20) := by
  unfold geom_Pack.f; rw [check_eq, h]; rfl

theorem mask_wrap {x : Int} (h0 : 0 ≤ x) (h1 : x < 18446744073709551616) : wrap64 (Go.bits .and .u64 x 16777215) = x % 16777216 := by rw [mask24 h0 h1]; exact w64 (by omega) (by omega)

/-- What a packed number says. -/
def ug (x : Int) : Int := x / 281474976710656
def uo (a x : Int) : Int := x / 16777216 % 16777216 * a
def uz (x : Int) : Int := x % 16777216

theorem uo_bounds {a x : Int} (ha : 1 ≤ a ∧ a ≤ 4096) : 0 ≤ uo a x ∧ uo a x ≤ 68719476736 := by
  unfold uo
  have h := Int.mul_le_mul (show x / 16777216 % 16777216 ≤ 16777216 by omega) ha.2 (by omega) (by omega)
  have h' := Int.mul_nonneg (show 0 ≤ x / 16777216 % 16777216 by omega) (show 0 ≤ a by omega)
  exact ⟨h', by omega⟩

theorem un_yes (k : Nat) {p s r a x : Int} (h : Ok p s r a) (h0 : 0 ≤ x) (h1 : x < 18446744073709551616) : geom_Unpack.f (k + 1) p s r a x = some (if May p s r a (ug x) (uo a x) (uz x) then (ug x, uo a x, uz x, 0) else (0, 0, 0, 22)) := by
  have b := Ok.bounds h
  have ub := uo_bounds (a := a) (x := x) (by omega)
  unfold geom_Unpack.f; rw [check_eq]; unfold chk; rw [if_pos h]
  simp only [Option.bind_some, if_true]
  rw [mask_wrap h0 h1, mask_wrap (x := x / 16777216) (by omega) (by omega), w64 (n := x / 281474976710656) (by omega) (by omega), show wrap64 (x / 16777216 % 16777216 * a) = uo a x from w64 (by unfold uo at ub; omega) (by unfold uo at ub; omega), may_eq h]
  simp only [Option.bind_some]
  show (if decide (May p s r a (ug x) (uo a x) (uz x)) = true then _ else _) = _
  by_cases m : May p s r a (ug x) (uo a x) (uz x)
  · rw [decide_eq_true m, if_pos rfl, if_pos m]; rfl
  · rw [decide_eq_false m, if_neg (by decide), if_neg m]
theorem un_no (k : Nat) {p s r a x : Int} (h : chk p s r a = 20) : geom_Unpack.f (k + 1) p s r a x = some (0, 0, 0, 20) := by
  unfold geom_Unpack.f; rw [check_eq, h]; rfl

theorem un_pk {p s r a g o z : Int} (h : Ok p s r a) (m : May p s r a g o z) : ug (pk a g o z) = g ∧ uo a (pk a g o z) = o ∧ uz (pk a g o z) = z ∧ 0 < pk a g o z ∧ pk a g o z < 18446744073709551616 := by
  have d := off_div h m
  have hz := m.2.2.2.2.1
  unfold ug uo uz pk
  have e : (g * 281474976710656 + o / a * 16777216 + z) / 16777216 % 16777216 = o / a := by omega
  rw [e]
  exact ⟨by omega, d.2.2.1, by omega, by omega, by omega⟩

theorem pk_un {p s r a x : Int} (h : Ok p s r a) (h0 : 0 ≤ x) (h1 : x < 18446744073709551616) : pk a (ug x) (uo a x) (uz x) = x := by
  have b := Ok.bounds h
  unfold pk ug uo uz
  rw [Int.mul_ediv_cancel _ (show a ≠ 0 by omega)]
  omega
theorem run_yes (k : Nat) {p s r a x : Int} (h : Ok p s r a) (h0 : 0 ≤ x) (h1 : x < 18446744073709551616) : cellarref02_Unpack.f (k + 20) p s r a x = some (if May p s r a (ug x) (uo a x) (uz x) then (ug x, uo a x, uz x, 0) else (0, 0, 0, 22)) := by
  have b := Ok.bounds h
  have ub := uo_bounds (a := a) (x := x) (by omega)
  unfold cellarref02_Unpack.f; rw [rcheck_eq]; unfold chk; rw [if_pos h]
  simp only [Option.bind_some, if_true]
  rw [Int.tmod_eq_emod_of_nonneg h0, Int.tmod_eq_emod_of_nonneg (show 0 ≤ x / 16777216 by omega), w64 (n := x % 16777216) (by omega) (by omega), w64 (n := x / 16777216 % 16777216) (by omega) (by omega), w64 (n := x / 281474976710656) (by omega) (by omega),
    show wrap64 (x / 16777216 % 16777216 * a) = uo a x from w64 (by unfold uo at ub; omega) (by unfold uo at ub; omega), locates_eq h]
  simp only [Option.bind_some]
  show (if decide (May p s r a (ug x) (uo a x) (uz x)) = true then _ else _) = _
  by_cases m : May p s r a (ug x) (uo a x) (uz x)
  · rw [decide_eq_true m, if_pos rfl, if_pos m]; rfl
  · rw [decide_eq_false m, if_neg (by decide), if_neg m]
theorem run_no (k : Nat) {p s r a x : Int} (h : chk p s r a = 20) : cellarref02_Unpack.f (k + 20) p s r a x = some (0, 0, 0, 20) := by
  unfold cellarref02_Unpack.f; rw [rcheck_eq, h]; rfl
theorem pure (p s r a x : Int) (h0 : 0 ≤ x) (h1 : x < 18446744073709551616) : ∃ k, cellarlaw02_GeomUnpacks.f k p s r a x = some true := by
  refine ⟨20, ?_⟩
  unfold cellarlaw02_GeomUnpacks.f
  rw [awake_eq 19]
  simp only [Option.bind_some, if_true]
  rcases chk_cases p s r a with ⟨ho, hc⟩ | ⟨ho, hc⟩
  · rw [un_yes 19 ho h0 h1, run_yes 0 ho h0 h1]
    by_cases m : May p s r a (ug x) (uo a x) (uz x)
    · rw [if_pos m]
      simp only [Option.bind_some, beq_self_eq_true, Bool.not_true, Bool.or_self, bne_self_eq_false]
      rw [if_neg (by decide)]
      simp only [cellarlaw02_GeomUnpacks.j0]
      rw [if_neg (by decide), if_pos trivial, pack_yes 18 ho m, pk_un ho h0 h1]
      simp
    · rw [if_neg m]
      simp [cellarlaw02_GeomUnpacks.j0]
  · rw [un_no 19 hc, run_no 0 hc]
    simp [cellarlaw02_GeomUnpacks.j0]

end Go.Proofs.Ytdmcihajgcdhmaa.PGeomUnpacks
namespace Go.Proofs.Ytdmcihajgcdhmaa.Main
open Go.RowKit Go.Proofs.YtdmcihajgcdhmaaW.PrintWords Go.Proofs.Ytdmcihajgcdhmaa.PGeomUnpacks Geo
set_option linter.unusedVariables false
theorem GeomUnpacks (W : World) (a0_0 : Int) (a0_1 : Int) (a0_2 : Int) (a0_3 : Int) (a1 : Int) (w0_0 : (Lit.int .i64 a0_0).wf = true) (w0_1 : (Lit.int .i64 a0_1).wf = true) (w0_2 : (Lit.int .i64 a0_2).wf = true) (w0_3 : (Lit.int .i64 a0_3).wf = true) (w1 : (Lit.int .u64 a1).wf = true) :
    Calls Try.prog 13 #[.agg #[.int .i64 a0_0, .int .i64 a0_1, .int .i64 a0_2, .int .i64 a0_3], .int .u64 a1] W fun e w' => e = .returned (.bool true) ∧ Below W.heap.size W w' := by
  obtain ⟨k, h⟩ := pure a0_0 a0_1 a0_2 a0_3 a1 (wf_u64 w1).1 (by have := (wf_u64 w1).2; omega)
  exact cellarlaw02_GeomUnpacks.calls k a0_0 a0_1 a0_2 a0_3 a1 true W h
end Go.Proofs.Ytdmcihajgcdhmaa.Main
