/- The plain law of GeomHints, over the printed functions; and the call.
   No condition. -/
import Derived.Test.YtdmcihajgcdhmaaGeo
import Derived.Test.YtdmcihajgcdhmaaQGeomHintsx1
namespace Go.Proofs.Ytdmcihajgcdhmaa.QGeomHints
open Go.RowKit Go.Proofs.YtdmcihajgcdhmaaW.PrintWords Go.Proofs.YtdmcihajgcdhmaaW.PrintLast Go.Proofs.YtdmcihajgcdhmaaW.PrintMore
set_option linter.unusedVariables false
open Geo
/-- What a hint stands for. -/
def M (h : Nat) : Nat := if h < 8 then h else (8 + h % 8) * 2 ^ (h / 8 - 1)

theorem M_step : ∀ h : Fin 256, M h.val < M (h.val + 1) := by decide +kernel
theorem M_lt (h d : Nat) (hd : h + d + 1 ≤ 256) : M h < M (h + d + 1) := by
  induction d with
  | zero => exact M_step ⟨h, by omega⟩
  | succ d ih => exact Nat.lt_trans (ih (by omega)) (M_step ⟨h + d + 1, by omega⟩)
theorem M_le {h h' : Nat} (hh : h ≤ h') (hb : h' ≤ 256) : M h ≤ M h' := by
  rcases Nat.lt_or_eq_of_le hh with c | rfl
  · have := M_lt h (h' - h - 1) (by omega)
    rw [show h + (h' - h - 1) + 1 = h' by omega] at this
    exact Nat.le_of_lt this
  · exact Nat.le_refl _
theorem M_small {h : Nat} (hh : h < 8) : M h = h := if_pos hh
theorem M_big {q t : Nat} (hq : 1 ≤ q) (ht : 8 ≤ t) (ht2 : t ≤ 15) : M (8 * q + t - 8) = t * 2 ^ (q - 1) := by
  unfold M
  rw [if_neg (by omega), show (8 * q + t - 8) % 8 = t - 8 by omega, show (8 * q + t - 8) / 8 = q by omega, show 8 + (t - 8) = t by omega]
theorem M_next {q t : Nat} (hq : 1 ≤ q) (ht : 8 ≤ t) (ht2 : t ≤ 15) : M (8 * q + t - 8 + 1) = (t + 1) * 2 ^ (q - 1) := by
  by_cases h : t ≤ 14
  · rw [show 8 * q + t - 8 + 1 = 8 * q + (t + 1) - 8 by omega]; exact M_big hq (by omega) (by omega)
  · obtain rfl : t = 15 := by omega
    rw [show 8 * q + 15 - 8 + 1 = 8 * (q + 1) + 8 - 8 by omega, M_big (by omega) (by omega) (by omega)]
    obtain ⟨j, rfl⟩ : ∃ j, q = j + 1 := ⟨q - 1, by omega⟩
    simp only [Nat.add_sub_cancel]
    rw [Nat.pow_succ]; omega

/-- The hint of a number: h is the least with n ≤ M h. -/
def Least (n h : Nat) : Prop := h ≤ 255 ∧ n ≤ M h ∧ ∀ j, j < h → M j < n

theorem most_all : ∀ h : Fin 256, geom_Most.f (h.val : Int) = some (M h.val : Int) := by decide +kernel
theorem most_eq {h : Nat} (hh : h ≤ 255) : geom_Most.f (h : Int) = some (M h : Int) := most_all ⟨h, by omega⟩
theorem M_255 : M 255 = 16106127360 := by decide +kernel

theorem bits_len (n : Nat) (h8 : 8 ≤ n) (hn : n ≤ 16106127360) : 4 ≤ Lib.bitLen n ∧ Lib.bitLen n ≤ 34 ∧ 2 ^ (Lib.bitLen n - 1) ≤ n ∧ n < 2 ^ Lib.bitLen n := by
  have h := Lib.bitLenAux_bounds 64 n (by omega) (by omega)
  have hl : Lib.bitLen n ≤ 34 := Lib.bitLen_le n 34 (by decide) (by omega)
  refine ⟨?_, hl, h.2.1, h.2.2⟩
  rcases Nat.lt_or_ge (Lib.bitLen n) 4 with c | c
  · have := Nat.pow_le_pow_right (show 0 < 2 by decide) (show Lib.bitLen n ≤ 3 by omega)
    have h2 : n < 2 ^ Lib.bitLen n := h.2.2
    omega
  · exact c

theorem hint_big (n : Nat) (h8 : 8 ≤ n) (hn : n ≤ 16106127360) :
    ∃ q t : Nat, 1 ≤ q ∧ q ≤ 31 ∧ 8 ≤ t ∧ t ≤ 15 ∧ Lib.bitLen n = q + 3 ∧ n / 2 ^ (q - 1) = t ∧ t * 2 ^ (q - 1) ≤ n ∧ n < (t + 1) * 2 ^ (q - 1) := by
  have b := bits_len n h8 hn
  obtain ⟨q, hq⟩ : ∃ q, Lib.bitLen n = q + 3 := ⟨Lib.bitLen n - 3, by omega⟩
  rw [hq] at b
  have hp : 0 < 2 ^ (q - 1) := Nat.two_pow_pos _
  have e1 : 2 ^ (q + 3 - 1) = 8 * 2 ^ (q - 1) := by
    rw [show q + 3 - 1 = (q - 1) + 3 by omega, Nat.pow_add]; omega
  have e2 : 2 ^ (q + 3) = 16 * 2 ^ (q - 1) := by
    rw [show q + 3 = (q - 1) + 4 by omega, Nat.pow_add]; omega
  rw [e1, e2] at b
  refine ⟨q, n / 2 ^ (q - 1), by omega, by omega, ?_, ?_, hq, rfl, Nat.div_mul_le_self _ _, ?_⟩
  · exact (Nat.le_div_iff_mul_le hp).2 b.2.2.1
  · have := (Nat.div_lt_iff_lt_mul hp).2 b.2.2.2; omega
  · rw [Nat.add_mul, Nat.one_mul]; exact Nat.lt_div_mul_add hp

/-- The hint as the program finds it. -/
theorem hint_least (n : Nat) (h8 : 8 ≤ n) (hn : n ≤ 16106127360) {q t : Nat} (hq : 1 ≤ q) (hq2 : q ≤ 31) (ht : 8 ≤ t) (ht2 : t ≤ 15) (h1 : t * 2 ^ (q - 1) ≤ n) (h2 : n < (t + 1) * 2 ^ (q - 1)) :
    Least n (if M (8 * q + t - 8) < n then 8 * q + t - 8 + 1 else 8 * q + t - 8) := by
  have m0 := M_big hq ht ht2
  have m1 := M_next hq ht ht2
  by_cases c : M (8 * q + t - 8) < n
  · rw [if_pos c]
    have hle : 8 * q + t - 8 + 1 ≤ 255 := by
      rcases Nat.lt_or_ge 254 (8 * q + t - 8) with d | d
      · have := M_le (show 255 ≤ 8 * q + t - 8 by omega) (by omega : 8 * q + t - 8 ≤ 256)
        have h255 := M_255
        omega
      · omega
    refine ⟨hle, by omega, fun j hj => ?_⟩
    exact Nat.lt_of_le_of_lt (M_le (show j ≤ 8 * q + t - 8 by omega) (by omega)) c
  · rw [if_neg c]
    refine ⟨by omega, by omega, fun j hj => ?_⟩
    have := M_lt j (8 * q + t - 8 - j - 1) (by omega)
    rw [show j + (8 * q + t - 8 - j - 1) + 1 = 8 * q + t - 8 by omega] at this
    omega

theorem least_small (n : Nat) (h : n < 8) : Least n n := ⟨by omega, by rw [M_small h]; exact Nat.le_refl _, fun j hj => by rw [M_small (by omega)]; exact hj⟩
theorem least_one {n h h' : Nat} (a : Least n h) (b : Least n h') : h = h' := by
  rcases Nat.lt_trichotomy h h' with c | c | c
  · have := b.2.2 h c; have := a.2.1; omega
  · exact c
  · have := a.2.2 h' c; have := b.2.1; omega
theorem least_mono {n m h h' : Nat} (hm : n ≤ m) (a : Least n h) (b : Least m h') : h ≤ h' := by
  rcases Nat.lt_or_ge h' h with c | c
  · have := a.2.2 h' c; have := b.2.1; omega
  · exact c

theorem shr_nat (n j : Nat) (hj : j ≤ 64) : shr .i64 (n : Int) (j : Int) = ((n / 2 ^ j : Nat) : Int) := by
  unfold shr
  rw [Int.toNat_natCast, Nat.min_eq_left (by show j ≤ 64; exact hj)]
  rw [Int.natCast_ediv]; norm_cast

theorem hint_yes (k n : Nat) (hn : n ≤ 16106127360) : ∃ h, Least n h ∧ geom_Hint.f (k + 1) (n : Int) = some ((h : Int), 0) := by
  unfold geom_Hint.f
  rw [if_neg (by omega), show (255 : Int) = ((255 : Nat) : Int) from rfl, most_eq (by decide), M_255]
  simp only [Option.bind_some]
  rw [decide_eq_false (by omega)]
  simp only [geom_Hint.j0]
  rw [if_neg (by decide)]
  by_cases h8 : n < 8
  · rw [if_pos (by omega)]
    refine ⟨n, least_small n h8, ?_⟩
    rw [Int.emod_eq_of_lt (by omega) (by omega)]
  · rw [if_neg (by omega)]
    obtain ⟨q, t, hq, hq2, ht, ht2, hL, hdiv, h1, h2⟩ := hint_big n (by omega) hn
    have L := hint_least n (by omega) hn hq hq2 ht ht2 h1 h2
    rw [wu64 (by omega) (by omega)]
    unfold bits_Len.f
    rw [if_pos ⟨by omega, by omega⟩, Int.toNat_natCast, hL]
    simp only [Option.bind_some]
    have e1 : wrap64 (((q + 3 : Nat) : Int) - 3) = (q : Int) := by rw [w64 (by omega) (by omega)]; omega
    have e2 : wrap64 ((q : Int) - 1) = ((q - 1 : Nat) : Int) := by rw [w64 (by omega) (by omega)]; omega
    rw [e1, e2, if_pos (by omega), shr_nat n (q - 1) (by omega), hdiv]
    have e3 : wrap64 (wrap64 (wrap64 (8 * (q : Int)) + (t : Int)) - 8) = ((8 * q + t - 8 : Nat) : Int) := by
      rw [w64 (n := 8 * (q : Int)) (by omega) (by omega), w64 (n := 8 * (q : Int) + (t : Int)) (by omega) (by omega), w64 (by omega) (by omega)]; omega
    rw [e3, Int.emod_eq_of_lt (by omega) (by omega), most_eq (by omega)]
    simp only [Option.bind_some]
    by_cases c : M (8 * q + t - 8) < n
    · rw [if_pos c] at L
      refine ⟨_, L, ?_⟩
      have hb := L.1
      rw [if_pos (by omega), w64 (by omega) (by omega), Int.emod_eq_of_lt (by omega) (by omega)]
      rfl
    · rw [if_neg c] at L
      refine ⟨_, L, ?_⟩
      rw [if_neg (by omega)]
theorem hint_no (k : Nat) (n : Int) (h : n < 0 ∨ 16106127360 < n) : geom_Hint.f (k + 1) n = some (0, 23) := by
  unfold geom_Hint.f
  by_cases c : n < 0
  · rw [if_pos c]; simp only [geom_Hint.j0, if_true]
  · rw [if_neg c, show (255 : Int) = ((255 : Nat) : Int) from rfl, most_eq (by decide), M_255]
    simp only [Option.bind_some]
    rw [decide_eq_true (by omega)]; simp only [geom_Hint.j0, if_true]
theorem rmost_all : ∀ h : Fin 256, cellarref02_Most.f 40 (h.val : Int) = some (M h.val : Int) := by decide +kernel
theorem rmost_eq (k : Nat) {h : Nat} (hh : h ≤ 255) : cellarref02_Most.f (k + 40) (h : Int) = some (M h : Int) :=
  at_rounds (cellarref02_Most.mono _) (Nat.le_add_left 40 k) (rmost_all ⟨h, by omega⟩)
theorem rhint_loop (n t : Nat) (hl : Least n t) (d : Nat) : ∀ (k h : Nat), h ≤ t → t - h = d → d + 40 < k → cellarref02_Hint.l0 k (n : Int) (h : Int) = some ((t : Int), 0) := by
  induction d with
  | zero =>
    intro k h hh hd hk
    obtain ⟨k, rfl⟩ : ∃ m, k = m + 40 + 1 := ⟨k - 41, by omega⟩
    have hb := hl.1
    have hm := hl.2.1
    obtain rfl : h = t := by omega
    simp only [cellarref02_Hint.l0]
    rw [rmost_eq k hb]
    simp only [Option.bind_some]
    rw [if_neg (by omega)]
  | succ d ih =>
    intro k h hh hd hk
    obtain ⟨k, rfl⟩ : ∃ m, k = m + 40 + 1 := ⟨k - 41, by omega⟩
    have hb := hl.1
    have hm := hl.2.2 h (by omega)
    simp only [cellarref02_Hint.l0]
    rw [rmost_eq k (by omega)]
    simp only [Option.bind_some]
    rw [if_pos (by omega), w64 (by omega) (by omega)]
    exact ih (k + 40) (h + 1) (by omega) (by omega) (by omega)
theorem rhint_yes (k n h : Nat) (hn : n ≤ 16106127360) (hl : Least n h) : cellarref02_Hint.f (k + 400) (n : Int) = some ((h : Int), 0) := by
  have hb := hl.1
  unfold cellarref02_Hint.f
  rw [if_neg (by omega), show (255 : Int) = ((255 : Nat) : Int) from rfl, show k + 400 = (k + 360) + 40 by omega, rmost_eq (k + 360) (by decide), M_255]
  simp only [Option.bind_some]
  rw [decide_eq_false (by omega), show k + 360 + 40 = (k + 399) + 1 by omega]
  simp only [cellarref02_Hint.j0]
  rw [if_neg (by decide)]
  exact rhint_loop n h hl h (k + 399) 0 (by omega) (by omega) (by omega)
theorem rhint_no (k : Nat) (n : Int) (h : n < 0 ∨ 16106127360 < n) : cellarref02_Hint.f (k + 400) n = some (0, 23) := by
  unfold cellarref02_Hint.f
  by_cases c : n < 0
  · rw [if_pos c, show k + 400 = (k + 399) + 1 by omega]; simp only [cellarref02_Hint.j0, if_true]
  · rw [if_neg c, show (255 : Int) = ((255 : Nat) : Int) from rfl, show k + 400 = (k + 360) + 40 by omega, rmost_eq (k + 360) (by decide), M_255]
    simp only [Option.bind_some]
    rw [decide_eq_true (by omega), show k + 360 + 40 = (k + 399) + 1 by omega]
    simp only [cellarref02_Hint.j0, if_true]
theorem hints_fin {x y : Int} (h : wrap64 x = y) (v : Int) : ((some (x, (0 : Int))).bind fun bt108 => ((some (y, (0 : Int))).bind fun bt110 => (if (wrap64 (bt108.1)) = bt110.1 then (if bt108.2 = bt110.2 then ((some v).bind fun t112 => ((some v).bind fun t113 => (some (t112 == t113)))) else (some false)) else (some false)))) = some true := by
  subst h
  rw [Option.bind_some, Option.bind_some, if_pos rfl, if_pos rfl, Option.bind_some, Option.bind_some, beq_self_eq_true]
theorem pure : cellarlaw02_GeomHints.Pure := by
  intro n hint w0 w1
  have b0 := wf_i64 w0
  have b1 := wf_u8 w1
  obtain ⟨K, hK⟩ : ∃ K : Nat, K = 0 := ⟨0, rfl⟩
  refine ⟨K + 400, ?_⟩
  unfold cellarlaw02_GeomHints.f
  rw [show (37 : Int) = ((37 : Nat) : Int) from rfl, most_eq (by decide), show M 37 = 104 by decide +kernel]
  simp only [Option.bind_some]
  rw [if_pos (by decide)]
  obtain ⟨i, rfl⟩ := Int.eq_ofNat_of_zero_le b1.1
  have hi : i ≤ 255 := by omega
  have r1 : cellarref02_Most.f (K + 400) (i : Int) = some (M i : Int) := by
    rw [show K + 400 = K + 360 + 40 by omega]; exact rmost_eq (K + 360) hi
  rw [most_eq hi, w64 (n := (i : Int)) (by omega) (by omega), r1]
  by_cases hn : n < 0 ∨ 16106127360 < n
  · have r2 : geom_Hint.f (K + 400) n = some (0, 23) := by rw [show K + 400 = K + 399 + 1 by omega]; exact hint_no (K + 399) n hn
    rw [r2, rhint_no K n hn]
    simp only [Option.bind_some]
    rw [if_pos (by unfold wrap64; omega), if_pos trivial, beq_self_eq_true]
  · obtain ⟨m, rfl⟩ := Int.eq_ofNat_of_zero_le (show 0 ≤ n by omega)
    obtain ⟨h, hl, he⟩ := hint_yes (K + 399) m (by omega)
    have hb := hl.1
    have r2 : geom_Hint.f (K + 400) (m : Int) = some ((h : Int), 0) := by rw [show K + 400 = K + 399 + 1 by omega]; exact he
    rw [r2, rhint_yes K m h (by omega) hl]
    exact hints_fin (w64 (by omega) (by omega)) (M i)

end Go.Proofs.Ytdmcihajgcdhmaa.QGeomHints
namespace Go.Proofs.Ytdmcihajgcdhmaa.Pure
theorem GeomHints : QGeomHints.cellarlaw02_GeomHints.Pure := QGeomHints.pure
end Go.Proofs.Ytdmcihajgcdhmaa.Pure
