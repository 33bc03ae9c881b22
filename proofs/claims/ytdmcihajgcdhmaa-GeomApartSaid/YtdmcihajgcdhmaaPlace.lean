/- Where records come to lie: geom.Place in plain words, and how what it tells lies apart.
   No condition. -/
import Derived.Test.YtdmcihajgcdhmaaGeo
import Derived.Test.YtdmcihajgcdhmaaQGeomApartx4
namespace Go.Proofs.Ytdmcihajgcdhmaa.QGeomApart
open Geo
open Go.RowKit Go.Proofs.YtdmcihajgcdhmaaW.PrintWords Go.Proofs.YtdmcihajgcdhmaaW.PrintLast Go.Proofs.YtdmcihajgcdhmaaW.PrintMore
set_option linter.unusedVariables false
set_option linter.unusedSimpArgs false
set_option linter.unusedSectionVars false
open Geo
/-- What Check answers. -/
def chk (p s r a : Int) : Int := if Ok p s r a then 0 else 20

theorem power_eq (n lo hi : Int) (h0 : 1 ≤ lo) (h1 : hi ≤ 4096) : geom_power.f n lo hi = some (decide (lo ≤ n ∧ n ≤ hi ∧ P2 n)) := by
  unfold geom_power.f
  by_cases a : n ≥ lo
  · by_cases b : n ≤ hi
    · rw [if_pos a, if_pos b, bits_pow (by omega) (by omega)]
      congr 1
      rw [Bool.eq_iff_iff, decide_eq_true_iff, decide_eq_true_iff]
      exact ⟨fun h => ⟨a, b, h⟩, fun h => h.2.2⟩
    · rw [if_pos a, if_neg b, decide_eq_false (fun h => b h.2.1)]
  · rw [if_neg a, decide_eq_false (fun h => a h.1)]

theorem check_eq (k : Nat) (p s r a : Int) : geom_Check.f (k + 1) p s r a = some (chk p s r a) := by
  unfold geom_Check.f
  rw [power_eq p 16 4096 (by decide) (by decide)]
  simp only [Option.bind_some]
  by_cases hp : 16 ≤ p ∧ p ≤ 4096 ∧ P2 p
  · rw [decide_eq_true hp, if_pos rfl]
    have no : ∀ x, x = true → geom_Check.j0 (k + 1) x p s r a = some 20 := by intro x hx; subst hx; simp only [geom_Check.j0, if_true]
    by_cases hs : 1 ≤ s ∧ s ≤ 64
    · by_cases hr : 2 ≤ r ∧ r ≤ 256
      · rw [if_neg (by omega), if_neg (by omega), if_neg (by omega), decide_eq_false (show ¬ r > 256 by omega)]
        have q := pq_bound (p := p) (s := s) (by omega) hs
        have q3 := prod3_bound q hr
        simp only [geom_Check.j0]
        rw [if_neg (by decide), power_eq a 1 p (by decide) (by omega)]
        simp only [Option.bind_some]
        by_cases ha : 1 ≤ a ∧ a ≤ p ∧ P2 a
        · rw [decide_eq_true ha, if_pos rfl, w64 (n := p * s) (by omega) (by omega), w64 (n := p * s * r) (by omega) (by omega)]
          have hm : wrap64 (wrap64 (mx 32 a + 24) + 24) = mx 32 a + 48 := by
            unfold mx wrap64; split <;> omega
          rw [hm]
          unfold chk mx
          by_cases c : Ok p s r a
          · have c' := c; unfold Ok at c'; rw [if_pos c, if_neg (by omega), if_neg (by omega), if_neg (by split <;> omega)]
          · rw [if_neg c]
            by_cases c1 : p * s < 128
            · rw [if_pos c1]
            · rw [if_neg c1]
              by_cases c2 : p * s * r > 1048576
              · rw [if_pos c2]
              · rw [if_neg c2, if_pos]
                have : ¬ a ≤ p * s - 48 := fun h => c ⟨⟨hp.2.2, hp.1⟩, hs, hr, ⟨ha.2.2, ha.2.1⟩, by omega, h, by omega⟩
                split <;> omega
        · rw [decide_eq_false ha, if_neg (by decide)]
          unfold chk; rw [if_neg]; intro h; exact ha ⟨(p2_range h.2.2.2.1.1).1, h.2.2.2.1.2, h.2.2.2.1.1⟩
      · have e : chk p s r a = 20 := by unfold chk; rw [if_neg]; intro h; exact hr h.2.2.1
        rw [e]
        rw [if_neg (by omega), if_neg (by omega)]
        split
        · exact no _ rfl
        · exact no _ (decide_eq_true (by omega))
    · have e : chk p s r a = 20 := by unfold chk; rw [if_neg]; intro h; exact hs h.2.1
      rw [e]
      split
      · exact no _ rfl
      · rw [if_pos (by omega)]; exact no _ (decide_eq_true (by omega))
  · rw [decide_eq_false hp, if_neg (by decide)]
    have e : chk p s r a = 20 := by unfold chk; rw [if_neg]; intro h; exact hp ⟨h.1.2, (p2_range h.1.1).2, h.1.1⟩
    rw [e]; simp only [geom_Check.j0, Bool.not_false, if_true]

theorem chk_cases (p s r a : Int) : (Ok p s r a ∧ chk p s r a = 0) ∨ (¬ Ok p s r a ∧ chk p s r a = 20) := by
  unfold chk; by_cases h : Ok p s r a
  · exact .inl ⟨h, if_pos h⟩
  · exact .inr ⟨h, if_neg h⟩

theorem Ok.bounds {p s r a : Int} (h : Ok p s r a) : 16 ≤ p ∧ p ≤ 4096 ∧ 1 ≤ s ∧ s ≤ 64 ∧ 2 ≤ r ∧ r ≤ 256 ∧ 1 ≤ a ∧ a ≤ p ∧ 128 ≤ p * s ∧ p * s ≤ 262144 ∧ a ≤ p * s - 48 ∧ p * s * r ≤ 1048576 ∧ p * s * 2 ≤ p * s * r ∧ wrap64 (p * s) = p * s ∧ wrap64 (p * s * r) = p * s * r := by
  obtain ⟨⟨h1, h2⟩, h3, h4, ⟨h5, h6⟩, h7, h8, h9⟩ := h
  have a1 := p2_range h1
  have a2 := p2_range h5
  have q := pq_bound (p := p) (s := s) (by omega) h3
  have q3 := prod3_bound q h4
  have m := Int.mul_le_mul_of_nonneg_left (c := p * s) h4.1 (by omega)
  exact ⟨h2, a1.2, h3.1, h3.2, h4.1, h4.2, a2.1, h6, h7, q.2, h8, h9, m, w64 (by omega) (by omega), w64 (by omega) (by omega)⟩

theorem bytes_no (k : Nat) {p s r a : Int} (h : chk p s r a = 20) : geom_Bytes.f (k + 1) p s r a = some (0, 0, 20) := by
  unfold geom_Bytes.f; rw [check_eq, h]; rfl
theorem bytes_yes (k : Nat) {p s r a : Int} (h : Ok p s r a) : geom_Bytes.f (k + 1) p s r a = some (p * s, p * s * r, 0) := by
  have b := Ok.bounds h
  unfold geom_Bytes.f; rw [check_eq]; unfold chk; rw [if_pos h]
  simp only [Option.bind_some, if_true, b.2.2.2.2.2.2.2.2.2.2.2.2.2.1, b.2.2.2.2.2.2.2.2.2.2.2.2.2.2]

theorem small_ok : Ok 64 4 3 8 := by decide
theorem awake_eq (k : Nat) : cellarlaw02_awake.f (k + 1) = some true := by
  unfold cellarlaw02_awake.f cellarlaw02_small.f
  simp only [Option.bind_some]
  rw [bytes_yes k small_ok]
  unfold geom_Split.f
  rw [bytes_yes k small_ok]
  decide +kernel
theorem rpower_step (k : Nat) (n hi x y : Int) (hw : wrap64 (x * 2) = y) : cellarref02_Power.l0 (k + 1) n hi x = if x ≤ hi then (if n = x then some true else cellarref02_Power.l0 k n hi y) else some false := by
  simp only [cellarref02_Power.l0]; rw [hw]

theorem rpower_page (k : Nat) (n : Int) : cellarref02_Power.f (k + 20) n 16 4096 = some (decide (16 ≤ n ∧ n ≤ 4096 ∧ P2 n)) := by
  unfold cellarref02_Power.f
  rw [rpower_step (k + 19) n 4096 16 32 (by unfold wrap64; omega), rpower_step (k + 18) n 4096 32 64 (by unfold wrap64; omega), rpower_step (k + 17) n 4096 64 128 (by unfold wrap64; omega), rpower_step (k + 16) n 4096 128 256 (by unfold wrap64; omega),
    rpower_step (k + 15) n 4096 256 512 (by unfold wrap64; omega), rpower_step (k + 14) n 4096 512 1024 (by unfold wrap64; omega), rpower_step (k + 13) n 4096 1024 2048 (by unfold wrap64; omega), rpower_step (k + 12) n 4096 2048 4096 (by unfold wrap64; omega),
    rpower_step (k + 11) n 4096 4096 8192 (by unfold wrap64; omega), rpower_step (k + 10) n 4096 8192 16384 (by unfold wrap64; omega)]
  simp only [show (16 : Int) ≤ 4096 by decide, show (32 : Int) ≤ 4096 by decide, show (64 : Int) ≤ 4096 by decide, show (128 : Int) ≤ 4096 by decide, show (256 : Int) ≤ 4096 by decide, show (512 : Int) ≤ 4096 by decide, show (1024 : Int) ≤ 4096 by decide, show (2048 : Int) ≤ 4096 by decide, show (4096 : Int) ≤ 4096 by decide, show ¬ (8192 : Int) ≤ 4096 by decide, if_true, if_false]
  by_cases h : 16 ≤ n ∧ n ≤ 4096 ∧ P2 n
  · rw [decide_eq_true h]; unfold P2 at h
    repeat' (refine iteI (fun _ => ?_) (fun _ => ?_))
    all_goals first | rfl | (exfalso; omega)
  · rw [decide_eq_false h]; unfold P2 at h
    repeat' (refine iteI (fun _ => ?_) (fun _ => ?_))
    all_goals first | rfl | (exfalso; omega)

theorem rpower_align (k : Nat) (n p : Int) (hp : P2 p) : cellarref02_Power.f (k + 20) n 1 p = some (decide (P2 n ∧ n ≤ p)) := by
  unfold cellarref02_Power.f
  rw [rpower_step (k + 19) n p 1 2 (by unfold wrap64; omega), rpower_step (k + 18) n p 2 4 (by unfold wrap64; omega), rpower_step (k + 17) n p 4 8 (by unfold wrap64; omega), rpower_step (k + 16) n p 8 16 (by unfold wrap64; omega),
    rpower_step (k + 15) n p 16 32 (by unfold wrap64; omega), rpower_step (k + 14) n p 32 64 (by unfold wrap64; omega), rpower_step (k + 13) n p 64 128 (by unfold wrap64; omega), rpower_step (k + 12) n p 128 256 (by unfold wrap64; omega),
    rpower_step (k + 11) n p 256 512 (by unfold wrap64; omega), rpower_step (k + 10) n p 512 1024 (by unfold wrap64; omega), rpower_step (k + 9) n p 1024 2048 (by unfold wrap64; omega), rpower_step (k + 8) n p 2048 4096 (by unfold wrap64; omega),
    rpower_step (k + 7) n p 4096 8192 (by unfold wrap64; omega), rpower_step (k + 6) n p 8192 16384 (by unfold wrap64; omega)]
  have hr := p2_range hp
  by_cases h : P2 n ∧ n ≤ p
  · rw [decide_eq_true h]; unfold P2 at h
    repeat' (refine iteI (fun _ => ?_) (fun _ => ?_))
    all_goals first | rfl | (exfalso; omega)
  · rw [decide_eq_false h]; unfold P2 at h
    repeat' (refine iteI (fun _ => ?_) (fun _ => ?_))
    all_goals first | rfl | (exfalso; omega)

theorem rcheck_eq (k : Nat) (p s r a : Int) : cellarref02_Check.f (k + 20) p s r a = some (chk p s r a) := by
  unfold cellarref02_Check.f
  rw [rpower_page]
  simp only [Option.bind_some]
  have no : cellarref02_Check.j0 (k + 20) true p s r a = some 20 := by rw [show k + 20 = (k + 19) + 1 from rfl]; simp only [cellarref02_Check.j0, if_true]
  by_cases hp : 16 ≤ p ∧ p ≤ 4096 ∧ P2 p
  · rw [decide_eq_true hp, if_pos rfl]
    by_cases hs : 1 ≤ s ∧ s ≤ 64
    · by_cases hr : 2 ≤ r ∧ r ≤ 256
      · rw [if_neg (by omega), if_neg (by omega), if_neg (by omega), if_neg (by omega), rpower_align k a p hp.2.2]
        simp only [Option.bind_some]
        have q := pq_bound (p := p) (s := s) (by omega) hs
        have q3 := prod3_bound q hr
        by_cases ha : P2 a ∧ a ≤ p
        · rw [decide_eq_true ha, show k + 20 = (k + 19) + 1 from rfl]
          simp only [cellarref02_Check.j0, Bool.not_true]
          rw [if_neg (by decide), w64 (n := p * s) (by omega) (by omega), w64 (n := p * s * r) (by omega) (by omega), w64 (n := p * s - 48) (by omega) (by omega)]
          unfold chk
          by_cases c : Ok p s r a
          · have c' := c; unfold Ok at c'; rw [if_pos c, if_neg (by omega), if_neg (by omega), if_neg (by omega)]
          · rw [if_neg c]
            by_cases c1 : p * s < 128
            · rw [if_pos c1]
            · rw [if_neg c1]
              by_cases c2 : p * s - 48 < a
              · rw [if_pos c2]
              · rw [if_neg c2, if_pos]
                have : ¬ p * s * r ≤ 1048576 := fun h => c ⟨⟨hp.2.2, hp.1⟩, hs, hr, ha, by omega, by omega, h⟩
                omega
        · rw [decide_eq_false ha, show (!false) = true from rfl, no]
          unfold chk; rw [if_neg]; intro h; exact ha h.2.2.2.1
      · have e : chk p s r a = 20 := by unfold chk; rw [if_neg]; intro h; exact hr h.2.2.1
        rw [e, if_neg (by omega), if_neg (by omega)]
        split
        · exact no
        · rw [if_pos (by omega)]; exact no
    · have e : chk p s r a = 20 := by unfold chk; rw [if_neg]; intro h; exact hs h.2.1
      rw [e]
      split
      · exact no
      · rw [if_pos (by omega)]; exact no
  · rw [decide_eq_false hp, if_neg (by decide), no]
    have e : chk p s r a = 20 := by unfold chk; rw [if_neg]; intro h; exact hp ⟨h.1.2, (p2_range h.1.1).2, h.1.1⟩
    rw [e]

theorem rup_loop (a p s r : Int) (ha : 1 ≤ a) (ha2 : a ≤ 4096) (d : Nat) : ∀ (k : Nat) (n : Int), 0 ≤ n → (n + a - 1) / a * a ≤ 4294967296 → (n + a - 1) / a * a - n = d → d < k →
    cellarref02_Up.l0 k n p s r a = some ((n + a - 1) / a * a, 0) := by
  induction d with
  | zero =>
    intro k n h0 h1 hd hk
    obtain ⟨k, rfl⟩ : ∃ m, k = m + 1 := ⟨k - 1, by omega⟩
    have f := up_facts (n := n) ha
    simp only [cellarref02_Up.l0]
    rw [if_neg (by omega), Int.tmod_eq_emod_of_nonneg h0, if_pos]
    · have : n = (n + a - 1) / a * a := by omega
      rw [← this]
    · have : (n + a - 1) / a * a = n := by omega
      rw [this] at f; exact f.2.2
  | succ d ih =>
    intro k n h0 h1 hd hk
    obtain ⟨k, rfl⟩ : ∃ m, k = m + 1 := ⟨k - 1, by omega⟩
    have f := up_facts (n := n) ha
    have hne : n % a ≠ 0 := by
      intro hz
      have h1 := Int.emod_add_mul_ediv n a
      have : (n + a - 1) / a = n / a := by
        have e : n + a - 1 = (a - 1) + n / a * a := by rw [Int.mul_comm]; omega
        rw [e, Int.add_mul_ediv_right _ _ (by omega), Int.ediv_eq_zero_of_lt (by omega) (by omega)]; omega
      rw [this, Int.mul_comm] at hd
      omega
    have hup : (n + 1 + a - 1) / a * a = (n + a - 1) / a * a := by
      have g := up_facts (n := n + 1) ha
      -- both are multiples of a, less than a apart
      have h2 := Int.emod_add_mul_ediv (n + 1 + a - 1) a
      have h3 := Int.emod_add_mul_ediv (n + a - 1) a
      generalize hq : (n + 1 + a - 1) / a = q at *
      generalize hq' : (n + a - 1) / a = q' at *
      have hqq : q = q' := by
        rcases Int.lt_trichotomy q q' with h | h | h
        · have := Int.mul_le_mul_of_nonneg_right (show q + 1 ≤ q' by omega) (show 0 ≤ a by omega)
          rw [Int.add_mul] at this; omega
        · exact h
        · have := Int.mul_le_mul_of_nonneg_right (show q' + 1 ≤ q by omega) (show 0 ≤ a by omega)
          rw [Int.add_mul] at this; omega
      rw [hqq]
    simp only [cellarref02_Up.l0]
    rw [if_neg (by omega), Int.tmod_eq_emod_of_nonneg h0, if_neg hne, w64 (by omega) (by omega), ih k (n + 1) (by omega) (by rw [hup]; exact h1) (by omega) (by omega), hup]

theorem rup_yes (k : Nat) {p s r a n : Int} (h : Ok p s r a) (h0 : 0 ≤ n) (h1 : n ≤ p * s * r) : cellarref02_Up.f (k + 5000) p s r a n = some ((n + a - 1) / a * a, 0) := by
  have b := Ok.bounds h
  unfold cellarref02_Up.f; rw [show k + 5000 = k + 4980 + 20 from rfl, rcheck_eq]; unfold chk; rw [if_pos h]
  simp only [Option.bind_some, if_true]
  rw [if_neg (by omega)]
  unfold cellarref02_Device.f
  simp only [Option.bind_some]
  rw [b.2.2.2.2.2.2.2.2.2.2.2.2.2.1, b.2.2.2.2.2.2.2.2.2.2.2.2.2.2, decide_eq_false (by omega), show k + 4980 + 20 = (k + 4999) + 1 from rfl]
  simp only [cellarref02_Up.j0]
  rw [if_neg (by decide)]
  have f := up_facts (n := n) (a := a) (by omega)
  exact rup_loop a p s r (by omega) (by omega) ((n + a - 1) / a * a - n).toNat (k + 4999) n h0 (by omega) (by omega) (by omega)
theorem rup_out (k : Nat) {p s r a n : Int} (h : Ok p s r a) (h0 : n < 0 ∨ n > p * s * r) : cellarref02_Up.f (k + 5000) p s r a n = some (0, 23) := by
  have b := Ok.bounds h
  unfold cellarref02_Up.f; rw [show k + 5000 = k + 4980 + 20 from rfl, rcheck_eq]; unfold chk; rw [if_pos h]
  simp only [Option.bind_some, if_true]
  have no : ∀ x, x = true → cellarref02_Up.j0 (k + 4980 + 20) n x p s r a = some (0, 23) := by
    intro x hx; subst hx; rw [show k + 4980 + 20 = (k + 4999) + 1 from rfl]; simp only [cellarref02_Up.j0, if_true]
  by_cases hn : n < 0
  · rw [if_pos hn, no _ rfl]
  · rw [if_neg hn]
    unfold cellarref02_Device.f
    simp only [Option.bind_some]
    rw [b.2.2.2.2.2.2.2.2.2.2.2.2.2.1, b.2.2.2.2.2.2.2.2.2.2.2.2.2.2]
    exact no _ (decide_eq_true (by omega))
theorem rup_no (k : Nat) {p s r a n : Int} (h : chk p s r a = 20) : cellarref02_Up.f (k + 5000) p s r a n = some (0, 20) := by
  unfold cellarref02_Up.f; rw [show k + 5000 = k + 4980 + 20 from rfl, rcheck_eq, h]; rfl
/-- The least multiple. -/
def upA (a n : Int) : Int := (n + a - 1) / a * a
/-- Where records come to lie, one behind the other: the locators, the last region, and why not. -/
def plR (first en a r : Int) : List Int → Int → Int → List S60 × Int × Int
  | [], _, now => ([], now, 0)
  | n :: ns, at_, now =>
    if n < 1 ∨ n > en - first then ([], 0, 23)
    else
      let at1 := if at_ > en - n then first else at_
      let now1 := if at_ > en - n then now + 1 else now
      if now1 = r then ([], 0, 2)
      else
        let q := plR first en a r ns (upA a (at1 + n)) now1
        if q.2.2 = 0 then (⟨now1, at1, n⟩ :: q.1, q.2.1, 0) else ([], 0, q.2.2)
/-- What Place tells in the end. -/
def told (acc : List S60) (q : List S60 × Int × Int) : List S60 × Int × Int :=
  if q.2.2 = 0 then (if acc ++ q.1 = [] then ([], 0, 0) else (acc ++ q.1, q.2.1 + 1, 0)) else ([], 0, q.2.2)
/-- The numbers of one Place. -/
structure Pl (first en a r : Int) : Prop where
  pa : P2 a
  a1 : 1 ≤ a
  a2 : a ≤ 4096
  f0 : 0 ≤ first
  f1 : first ≤ 290000
  e0 : 0 ≤ en
  e1 : en ≤ 262144
  r0 : 2 ≤ r
  r1 : r ≤ 256
theorem upA_facts {a n : Int} (ha : 1 ≤ a) : n ≤ upA a n ∧ upA a n < n + a ∧ upA a n % a = 0 := up_facts ha
theorem up_is {a n : Int} (h : P2 a) (h0 : 0 ≤ n) (h1 : n < 2 ^ 60) : geom_up.f n a = some (upA a n) := by
  unfold geom_up.f upA
  rw [up_eq h h0 h1]
theorem rd_at (ns : List Int) (i : Nat) : rd ns (i : Int) = ns.getD i 0 := rfl
theorem place_loop {first en a r : Int} (h : Pl first en a r) (p s : Int) (ns : List Int) (hn : ns.length < 4611686018427387904) (d : Nat) : ∀ (k i : Nat) (acc : List S60) (at_ now : Int), i + d = ns.length → 2 * d + 1 < k → (acc.length : Int) ≤ now * 300000 + at_ → 0 ≤ at_ → at_ ≤ 290000 → 0 ≤ now → now < r →
    geom_Place.l0 k acc first en at_ now ns (ns.length : Int) (i : Int) p s r a = some (told acc (plR first en a r (ns.drop i) at_ now)) := by
  obtain ⟨pa, a1, a2, f0, f1, e0, e1, r0, r1⟩ := h
  induction d with
  | zero =>
    intro k i acc at_ now hi hk ha h0 h1 h2 h3
    obtain ⟨k, rfl⟩ : ∃ m, k = m + 1 := ⟨k - 1, by omega⟩
    rw [geom_Place.l0, if_neg (by omega), List.drop_of_length_le (by omega)]
    unfold told plR
    simp only [List.append_nil, if_true]
    by_cases c : acc = []
    · subst c; rfl
    · rw [if_neg (by have := List.length_pos_iff.2 c; omega), if_neg c, w64 (by omega) (by omega)]
  | succ d ih =>
    intro k i acc at_ now hi hk ha h0 h1 h2 h3
    obtain ⟨k, rfl⟩ : ∃ m, k = m + 2 := ⟨k - 2, by omega⟩
    have hil : i < ns.length := by omega
    obtain ⟨n, hd⟩ : ∃ n, ns.drop i = n :: ns.drop (i + 1) := ⟨ns[i], List.drop_eq_getElem_cons hil⟩
    have hrd : rd ns (i : Int) = n := by
      have e := List.drop_eq_getElem_cons hil
      rw [hd] at e
      rw [rd_at, List.getD_eq_getElem?_getD, List.getElem?_eq_getElem hil]
      exact (List.cons.inj e).1.symm
    rw [geom_Place.l0, if_pos (by omega), if_pos (by omega), if_pos (by omega), hrd, hd]
    have ej : ∀ b, (b = true ↔ (n < 1 ∨ n > en - first)) → geom_Place.j1 (k + 1) acc first en at_ now n ns (ns.length : Int) (i : Int) b p s r a = some (told acc (plR first en a r (n :: ns.drop (i + 1)) at_ now)) := by
      intro b hb
      rw [geom_Place.j1, plR]
      by_cases c : n < 1 ∨ n > en - first
      · rw [if_pos (hb.2 c), if_pos c]; rfl
      · have w0 : wrap64 (en - n) = en - n := w64 (by omega) (by omega)
        have w1 : wrap64 (now + 1) = now + 1 := w64 (by omega) (by omega)
        have w2 : wrap64 ((i : Int) + 1) = ((i + 1 : Nat) : Int) := by rw [w64 (by omega) (by omega)]; rfl
        rw [if_neg (fun e => c (hb.1 e)), if_neg c, w0, w1, w2]
        have step : ∀ at1 now1 : Int, 0 ≤ at1 → at1 + n ≤ en → 0 ≤ now1 → now1 < r → (acc.length : Int) ≤ now1 * 300000 + at1 → ((geom_up.f (wrap64 (at1 + n)) a).bind fun t => geom_Place.l0 k (acc ++ [(⟨now1, at1, n⟩ : S60)]) first en t now1 ns (ns.length : Int) ((i + 1 : Nat) : Int) p s r a) =
            some (told acc (if (plR first en a r (ns.drop (i + 1)) (upA a (at1 + n)) now1).2.2 = 0 then ((⟨now1, at1, n⟩ : S60) :: (plR first en a r (ns.drop (i + 1)) (upA a (at1 + n)) now1).1, (plR first en a r (ns.drop (i + 1)) (upA a (at1 + n)) now1).2.1, 0)
              else ([], 0, (plR first en a r (ns.drop (i + 1)) (upA a (at1 + n)) now1).2.2))) := by
          intro at1 now1 g0 g1 g2 g3 g4
          have uf := upA_facts (a := a) (n := at1 + n) a1
          rw [w64 (by omega) (by omega), up_is pa (by omega) (by omega), Option.bind_some, ih k (i + 1) _ (upA a (at1 + n)) now1 (by omega) (by omega) (by simp only [List.length_append, List.length_cons, List.length_nil]; omega) (by omega) (by omega) g2 g3]
          generalize plR first en a r (ns.drop (i + 1)) (upA a (at1 + n)) now1 = q
          unfold told
          by_cases c0 : q.2.2 = 0
          · simp [c0]
          · simp [c0]
        by_cases c1 : at_ > en - n
        · rw [if_pos c1, if_pos c1, if_pos c1]
          by_cases c2 : now + 1 = r
          · rw [if_pos c2, if_pos c2]; rfl
          · rw [if_neg c2, if_neg c2, if_pos (by omega)]
            exact step first (now + 1) f0 (by omega) (by omega) (by omega) (by omega)
        · rw [if_neg c1, if_neg c1, if_neg c1]
          by_cases c2 : now = r
          · rw [if_pos c2, if_pos c2]; rfl
          · rw [if_neg c2, if_neg c2, if_pos (by omega)]
            exact step at_ now h0 (by omega) h2 (by omega) ha
    by_cases c1 : n < 1
    · rw [if_pos c1]; exact ej true (by simp [c1])
    · rw [if_neg c1, w64 (by omega) (by omega)]; exact ej _ (by simp [c1])
/-- What Place answers. -/
def placed (p s r a head foot : Int) (ns : List Int) : List S60 × Int × Int :=
  if Ok p s r a then (if head < 0 ∨ head > p * s ∨ foot < 0 ∨ foot > p * s then ([], 0, 23) else told [] (plR (upA a head) (p * s - foot) a r ns (upA a head) 0)) else ([], 0, 20)
theorem pl_of {p s r a head foot : Int} (h : Ok p s r a) (hh : ¬ (head < 0 ∨ head > p * s ∨ foot < 0 ∨ foot > p * s)) : Pl (upA a head) (p * s - foot) a r := by
  have b := Ok.bounds h
  have u := upA_facts (a := a) (n := head) (by omega)
  exact ⟨h.2.2.2.1.1, by omega, by omega, by omega, by omega, by omega, by omega, by omega, by omega⟩
theorem place_eq (k : Nat) (p s r a head foot : Int) (ns : List Int) (hn : ns.length < 4611686018427387904) (hk : 2 * ns.length + 2 ≤ k) : geom_Place.f (k + 1) p s r a head foot ns = some (placed p s r a head foot ns) := by
  unfold geom_Place.f placed
  by_cases h : Ok p s r a
  · have b := Ok.bounds h
    rw [bytes_yes k h, if_pos h]
    simp only [Option.bind_some, if_true]
    by_cases c1 : head < 0
    · rw [if_pos c1, if_pos (.inl c1)]
    · rw [if_neg c1]
      by_cases c2 : head > p * s
      · rw [if_pos c2, if_pos (.inr (.inl c2))]
      · rw [if_neg c2]
        by_cases c3 : foot < 0
        · rw [if_pos c3, if_pos (.inr (.inr (.inl c3)))]
        · rw [if_neg c3]
          by_cases c4 : foot > p * s
          · rw [if_pos c4, if_pos (.inr (.inr (.inr c4)))]
          · have hh : ¬ (head < 0 ∨ head > p * s ∨ foot < 0 ∨ foot > p * s) := by omega
            have u := upA_facts (a := a) (n := head) (by omega)
            rw [if_neg c4, if_neg hh, up_is h.2.2.2.1.1 (by omega) (by omega), Option.bind_some, w64 (by omega) (by omega)]
            exact place_loop (pl_of h hh) p s ns (by omega) ns.length (k + 1) 0 [] _ 0 (by omega) (by omega) (by simp; omega) (by omega) (by omega) (by omega) (by omega)
  · rw [bytes_no k (by unfold chk; rw [if_neg h]), if_neg h]; rfl
/-- Place and region from which the i-th record is tried. -/
def prevOf (a : Int) (L : List S60) (at_ now : Int) : Nat → Int × Int
  | 0 => (at_, now)
  | i + 1 => (upA a ((L.getD i z60).f1 + (L.getD i z60).f2), (L.getD i z60).f0)
/-- How the i-th record lies. -/
structure Lies (first en a r n at_ now : Int) (x : S60) : Prop where
  size : x.f2 = n
  one : 1 ≤ n
  al : x.f1 % a = 0
  lo : first ≤ x.f1
  hi : x.f1 + x.f2 ≤ en
  rg : x.f0 < r
  reg : x.f0 = if at_ > en - n then now + 1 else now
  off : x.f1 = if at_ > en - n then first else at_
  rg0 : 0 ≤ x.f0
theorem lies_all {first en a r : Int} (h : Pl first en a r) (hf : first % a = 0) : ∀ (ns : List Int) (at_ now : Int), (plR first en a r ns at_ now).2.2 = 0 → at_ % a = 0 → first ≤ at_ → now < r → 0 ≤ now →
    (plR first en a r ns at_ now).1.length = ns.length ∧ (∀ i, i < ns.length → Lies first en a r (ns.getD i 0) (prevOf a (plR first en a r ns at_ now).1 at_ now i).1 (prevOf a (plR first en a r ns at_ now).1 at_ now i).2 ((plR first en a r ns at_ now).1.getD i z60)) ∧
    (plR first en a r ns at_ now).2.1 = (if ns.length = 0 then now else ((plR first en a r ns at_ now).1.getD (ns.length - 1) z60).f0)
  | [], at_, now, _, _, _, _, _ => ⟨rfl, fun i hi => absurd hi (by simp), rfl⟩
  | n :: ns, at_, now, he, ha, hl, hr, hr0 => by
    rw [plR] at he ⊢
    by_cases c : n < 1 ∨ n > en - first
    · rw [if_pos c] at he; cases he
    · rw [if_neg c] at he ⊢
      simp only at he ⊢
      generalize e1 : (if at_ > en - n then first else at_) = at1 at he ⊢
      generalize e2 : (if at_ > en - n then now + 1 else now) = now1 at he ⊢
      by_cases c2 : now1 = r
      · rw [if_pos c2] at he; cases he
      · rw [if_neg c2] at he ⊢
        have u := upA_facts (a := a) (n := at1 + n) h.a1
        have b1 : at1 + n ≤ en ∧ first ≤ at1 ∧ at1 % a = 0 ∧ now1 < r ∧ 0 ≤ now1 := by
          by_cases c1 : at_ > en - n
          · rw [if_pos c1] at e1 e2; subst e1 e2; exact ⟨by omega, by omega, hf, by omega, by omega⟩
          · rw [if_neg c1] at e1 e2; subst e1 e2; exact ⟨by omega, hl, ha, hr, hr0⟩
        have ih := lies_all h hf ns (upA a (at1 + n)) now1
        generalize plR first en a r ns (upA a (at1 + n)) now1 = q at he ih ⊢
        by_cases c3 : q.2.2 = 0
        · rw [if_pos c3] at he ⊢
          obtain ⟨i1, i2, i3⟩ := ih c3 u.2.2 (by omega) b1.2.2.2.1 b1.2.2.2.2
          refine ⟨by simp [i1], fun i hi => ?_, ?_⟩
          · cases i with
            | zero => exact ⟨rfl, by show 1 ≤ n; omega, b1.2.2.1, b1.2.1, b1.1, b1.2.2.2.1, e2.symm, e1.symm, b1.2.2.2.2⟩
            | succ i =>
              have := i2 i (by simpa using hi)
              cases i with
              | zero => exact this
              | succ i => exact this
          · rw [i3]
            cases ns with
            | nil => rfl
            | cons m ms => simp
        · rw [if_neg c3] at he; exact absurd he c3
/-- What is told where Place says yes. -/
structure Said (p s r a head foot : Int) (ns : List Int) (L : List S60) (m : Int) : Prop where
  ok : Ok p s r a
  hh : ¬ (head < 0 ∨ head > p * s ∨ foot < 0 ∨ foot > p * s)
  len : L.length = ns.length
  one : ∀ i, i < ns.length → Lies (upA a head) (p * s - foot) a r (ns.getD i 0) (prevOf a L (upA a head) 0 i).1 (prevOf a L (upA a head) 0 i).2 (L.getD i z60)
  last : m = if ns.length = 0 then 0 else (L.getD (ns.length - 1) z60).f0 + 1
theorem said {p s r a head foot : Int} {ns : List Int} (h : (placed p s r a head foot ns).2.2 = 0) : Said p s r a head foot ns (placed p s r a head foot ns).1 (placed p s r a head foot ns).2.1 := by
  unfold placed at h ⊢
  by_cases ho : Ok p s r a
  · rw [if_pos ho] at h ⊢
    by_cases hh : head < 0 ∨ head > p * s ∨ foot < 0 ∨ foot > p * s
    · rw [if_pos hh] at h; cases h
    · rw [if_neg hh] at h ⊢
      have b := Ok.bounds ho
      have u := upA_facts (a := a) (n := head) (by omega)
      have l := lies_all (pl_of ho hh) u.2.2 ns (upA a head) 0
      generalize plR (upA a head) (p * s - foot) a r ns (upA a head) 0 = q at h l ⊢
      unfold told at h ⊢
      by_cases c : q.2.2 = 0
      · rw [if_pos c] at h ⊢
        obtain ⟨l1, l2, l3⟩ := l c u.2.2 (Int.le_refl _) (by omega) (Int.le_refl _)
        by_cases c2 : [] ++ q.1 = []
        · have hq : q.1 = [] := by simpa using c2
          have hz : ns.length = 0 := by rw [← l1, hq]; rfl
          rw [if_pos c2]
          exact ⟨ho, hh, by rw [hz]; rfl, fun i hi => absurd hi (by omega), by rw [if_pos hz]⟩
        · rw [if_neg c2]
          have hz : ¬ ns.length = 0 := fun e => c2 (by rw [List.nil_append]; exact List.eq_nil_of_length_eq_zero (by omega))
          refine ⟨ho, hh, by simpa using l1, fun i hi => by simpa using l2 i hi, ?_⟩
          rw [if_neg hz] at l3 ⊢
          show q.2.1 + 1 = _
          rw [l3, List.nil_append]
      · rw [if_neg c] at h; exact absurd h c
  · rw [if_neg ho] at h; cases h
end Go.Proofs.Ytdmcihajgcdhmaa.QGeomApart
