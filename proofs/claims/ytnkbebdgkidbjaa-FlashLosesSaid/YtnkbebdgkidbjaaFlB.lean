/- A device made; faults; operations.
   No condition. -/
import Derived.Test.YtnkbebdgkidbjaaFlA
import Derived.ArgAppend
import Derived.BigRegion
import Derived.Deep.QuietTactic
import Derived.BigQuiet
import Derived.Deep.RegionHeld3
import Derived.ChangeAlike
import Derived.RegionTactic
import Derived.Deep.DeepCutAuto
import Derived.Deep.CutBlock
import Derived.Deep.RegionLaw
import Derived.StillTailTactics
import Derived.WalkSpells
import Derived.Lib.SliceRun
import Derived.Laws.CopyRow
import Derived.Lib.SlBuf
import Derived.Lib.MakeNoZero
import Derived.Laws.BitsLemmas
import Derived.Lib.Bytes
import Derived.Lib.SlBytesConst
namespace Go.Proofs.Ytnkbebdgkidbjaa.Flash
open Go.Proofs.Ytnkbebdgkidbjaa.QFlashPlays
open Go.RowKit Go.Proofs.YtnkbebdgkidbjaaW.PrintWords Go.Proofs.YtnkbebdgkidbjaaW.PrintLast Go.Proofs.YtnkbebdgkidbjaaW.PrintMore
attribute [local go_sem] max2_int min2_int max_two min_two   -- for this text's walks alone
set_option linter.unusedVariables false
set_option linter.unusedSimpArgs false
open Go.Proofs.Ytnkbebdgkidbjaa.Geo
open Geo
/-- What Check answers. -/
def chk (p s r a : Int) : Int := if Ok p s r a then 0 else 20

theorem power_eq (n lo hi : Int) (h0 : 1 ≤ lo) (h1 : hi ≤ 4096) : geom_power.f n lo hi = some (decide (lo ≤ n ∧ n ≤ hi ∧ P2 n)) := by
  unfold geom_power.f
  by_cases a : n ≥ lo
  · by_cases b : n ≤ hi
    · rw [if_pos a, if_pos b, bits_pow (by omega) (by omega)]
      congr 1
      rw [Bool.eq_iff_iff, decide_eq_true_iff, decide_eq_true_iff]
      exact ⟨fun h => ⟨a, b, h⟩, fun h => h.2.2⟩
    · rw [if_pos a, if_neg b, decide_eq_false (fun h => b h.2.1)]
  · rw [if_neg a, decide_eq_false (fun h => a h.1)]

theorem check_eq (k : Nat) (p s r a : Int) : geom_Check.f (k + 1) p s r a = some (chk p s r a) := by
  unfold geom_Check.f
  rw [power_eq p 16 4096 (by decide) (by decide)]
  simp only [Option.bind_some]
  by_cases hp : 16 ≤ p ∧ p ≤ 4096 ∧ P2 p
  · rw [decide_eq_true hp, if_pos rfl]
    have no : ∀ x, x = true → geom_Check.j0 (k + 1) x p s r a = some 20 := by intro x hx; subst hx; simp only [geom_Check.j0, if_true]
    by_cases hs : 1 ≤ s ∧ s ≤ 64
    · by_cases hr : 2 ≤ r ∧ r ≤ 256
      · rw [if_neg (by omega), if_neg (by omega), if_neg (by omega), decide_eq_false (show ¬ r > 256 by omega)]
        have q := pq_bound (p := p) (s := s) (by omega) hs
        have q3 := prod3_bound q hr
        simp only [geom_Check.j0]
        rw [if_neg (by decide), power_eq a 1 p (by decide) (by omega)]
        simp only [Option.bind_some]
        by_cases ha : 1 ≤ a ∧ a ≤ p ∧ P2 a
        · rw [decide_eq_true ha, if_pos rfl, w64 (n := p * s) (by omega) (by omega), w64 (n := p * s * r) (by omega) (by omega)]
          have hm : wrap64 (wrap64 (mx 32 a + 24) + 24) = mx 32 a + 48 := by
            unfold mx wrap64; split <;> omega
          rw [hm]
          unfold chk mx
          by_cases c : Ok p s r a
          · have c' := c; unfold Ok at c'; rw [if_pos c, if_neg (by omega), if_neg (by omega), if_neg (by split <;> omega)]
          · rw [if_neg c]
            by_cases c1 : p * s < 128
            · rw [if_pos c1]
            · rw [if_neg c1]
              by_cases c2 : p * s * r > 1048576
              · rw [if_pos c2]
              · rw [if_neg c2, if_pos]
                have : ¬ a ≤ p * s - 48 := fun h => c ⟨⟨hp.2.2, hp.1⟩, hs, hr, ⟨ha.2.2, ha.2.1⟩, by omega, h, by omega⟩
                split <;> omega
        · rw [decide_eq_false ha, if_neg (by decide)]
          unfold chk; rw [if_neg]; intro h; exact ha ⟨(p2_range h.2.2.2.1.1).1, h.2.2.2.1.2, h.2.2.2.1.1⟩
      · have e : chk p s r a = 20 := by unfold chk; rw [if_neg]; intro h; exact hr h.2.2.1
        rw [e]
        rw [if_neg (by omega), if_neg (by omega)]
        split
        · exact no _ rfl
        · exact no _ (decide_eq_true (by omega))
    · have e : chk p s r a = 20 := by unfold chk; rw [if_neg]; intro h; exact hs h.2.1
      rw [e]
      split
      · exact no _ rfl
      · rw [if_pos (by omega)]; exact no _ (decide_eq_true (by omega))
  · rw [decide_eq_false hp, if_neg (by decide)]
    have e : chk p s r a = 20 := by unfold chk; rw [if_neg]; intro h; exact hp ⟨h.1.2, (p2_range h.1.1).2, h.1.1⟩
    rw [e]; simp only [geom_Check.j0, Bool.not_false, if_true]

theorem chk_cases (p s r a : Int) : (Ok p s r a ∧ chk p s r a = 0) ∨ (¬ Ok p s r a ∧ chk p s r a = 20) := by
  unfold chk; by_cases h : Ok p s r a
  · exact .inl ⟨h, if_pos h⟩
  · exact .inr ⟨h, if_neg h⟩

theorem Ok.bounds {p s r a : Int} (h : Ok p s r a) : 16 ≤ p ∧ p ≤ 4096 ∧ 1 ≤ s ∧ s ≤ 64 ∧ 2 ≤ r ∧ r ≤ 256 ∧ 1 ≤ a ∧ a ≤ p ∧ 128 ≤ p * s ∧ p * s ≤ 262144 ∧ a ≤ p * s - 48 ∧ p * s * r ≤ 1048576 ∧ p * s * 2 ≤ p * s * r ∧ wrap64 (p * s) = p * s ∧ wrap64 (p * s * r) = p * s * r := by
  obtain ⟨⟨h1, h2⟩, h3, h4, ⟨h5, h6⟩, h7, h8, h9⟩ := h
  have a1 := p2_range h1
  have a2 := p2_range h5
  have q := pq_bound (p := p) (s := s) (by omega) h3
  have q3 := prod3_bound q h4
  have m := Int.mul_le_mul_of_nonneg_left (c := p * s) h4.1 (by omega)
  exact ⟨h2, a1.2, h3.1, h3.2, h4.1, h4.2, a2.1, h6, h7, q.2, h8, h9, m, w64 (by omega) (by omega), w64 (by omega) (by omega)⟩

theorem bytes_no (k : Nat) {p s r a : Int} (h : chk p s r a = 20) : geom_Bytes.f (k + 1) p s r a = some (0, 0, 20) := by
  unfold geom_Bytes.f; rw [check_eq, h]; rfl
theorem bytes_yes (k : Nat) {p s r a : Int} (h : Ok p s r a) : geom_Bytes.f (k + 1) p s r a = some (p * s, p * s * r, 0) := by
  have b := Ok.bounds h
  unfold geom_Bytes.f; rw [check_eq]; unfold chk; rw [if_pos h]
  simp only [Option.bind_some, if_true, b.2.2.2.2.2.2.2.2.2.2.2.2.2.1, b.2.2.2.2.2.2.2.2.2.2.2.2.2.2]

theorem rpower_step (k : Nat) (n hi x y : Int) (hw : wrap64 (x * 2) = y) : cellarref02_Power.l0 (k + 1) n hi x = if x ≤ hi then (if n = x then some true else cellarref02_Power.l0 k n hi y) else some false := by
  simp only [cellarref02_Power.l0]; rw [hw]

theorem rpower_page (k : Nat) (n : Int) : cellarref02_Power.f (k + 20) n 16 4096 = some (decide (16 ≤ n ∧ n ≤ 4096 ∧ P2 n)) := by
  unfold cellarref02_Power.f
  rw [rpower_step (k + 19) n 4096 16 32 (by unfold wrap64; omega), rpower_step (k + 18) n 4096 32 64 (by unfold wrap64; omega), rpower_step (k + 17) n 4096 64 128 (by unfold wrap64; omega), rpower_step (k + 16) n 4096 128 256 (by unfold wrap64; omega),
    rpower_step (k + 15) n 4096 256 512 (by unfold wrap64; omega), rpower_step (k + 14) n 4096 512 1024 (by unfold wrap64; omega), rpower_step (k + 13) n 4096 1024 2048 (by unfold wrap64; omega), rpower_step (k + 12) n 4096 2048 4096 (by unfold wrap64; omega),
    rpower_step (k + 11) n 4096 4096 8192 (by unfold wrap64; omega), rpower_step (k + 10) n 4096 8192 16384 (by unfold wrap64; omega)]
  simp only [show (16 : Int) ≤ 4096 by decide, show (32 : Int) ≤ 4096 by decide, show (64 : Int) ≤ 4096 by decide, show (128 : Int) ≤ 4096 by decide, show (256 : Int) ≤ 4096 by decide, show (512 : Int) ≤ 4096 by decide, show (1024 : Int) ≤ 4096 by decide, show (2048 : Int) ≤ 4096 by decide, show (4096 : Int) ≤ 4096 by decide, show ¬ (8192 : Int) ≤ 4096 by decide, if_true, if_false]
  by_cases h : 16 ≤ n ∧ n ≤ 4096 ∧ P2 n
  · rw [decide_eq_true h]; unfold P2 at h
    repeat' (refine iteI (fun _ => ?_) (fun _ => ?_))
    all_goals first | rfl | (exfalso; omega)
  · rw [decide_eq_false h]; unfold P2 at h
    repeat' (refine iteI (fun _ => ?_) (fun _ => ?_))
    all_goals first | rfl | (exfalso; omega)

theorem rpower_align (k : Nat) (n p : Int) (hp : P2 p) : cellarref02_Power.f (k + 20) n 1 p = some (decide (P2 n ∧ n ≤ p)) := by
  unfold cellarref02_Power.f
  rw [rpower_step (k + 19) n p 1 2 (by unfold wrap64; omega), rpower_step (k + 18) n p 2 4 (by unfold wrap64; omega), rpower_step (k + 17) n p 4 8 (by unfold wrap64; omega), rpower_step (k + 16) n p 8 16 (by unfold wrap64; omega),
    rpower_step (k + 15) n p 16 32 (by unfold wrap64; omega), rpower_step (k + 14) n p 32 64 (by unfold wrap64; omega), rpower_step (k + 13) n p 64 128 (by unfold wrap64; omega), rpower_step (k + 12) n p 128 256 (by unfold wrap64; omega),
    rpower_step (k + 11) n p 256 512 (by unfold wrap64; omega), rpower_step (k + 10) n p 512 1024 (by unfold wrap64; omega), rpower_step (k + 9) n p 1024 2048 (by unfold wrap64; omega), rpower_step (k + 8) n p 2048 4096 (by unfold wrap64; omega),
    rpower_step (k + 7) n p 4096 8192 (by unfold wrap64; omega), rpower_step (k + 6) n p 8192 16384 (by unfold wrap64; omega)]
  have hr := p2_range hp
  by_cases h : P2 n ∧ n ≤ p
  · rw [decide_eq_true h]; unfold P2 at h
    repeat' (refine iteI (fun _ => ?_) (fun _ => ?_))
    all_goals first | rfl | (exfalso; omega)
  · rw [decide_eq_false h]; unfold P2 at h
    repeat' (refine iteI (fun _ => ?_) (fun _ => ?_))
    all_goals first | rfl | (exfalso; omega)

theorem rcheck_eq (k : Nat) (p s r a : Int) : cellarref02_Check.f (k + 20) p s r a = some (chk p s r a) := by
  unfold cellarref02_Check.f
  rw [rpower_page]
  simp only [Option.bind_some]
  have no : cellarref02_Check.j0 (k + 20) true p s r a = some 20 := by rw [show k + 20 = (k + 19) + 1 from rfl]; simp only [cellarref02_Check.j0, if_true]
  by_cases hp : 16 ≤ p ∧ p ≤ 4096 ∧ P2 p
  · rw [decide_eq_true hp, if_pos rfl]
    by_cases hs : 1 ≤ s ∧ s ≤ 64
    · by_cases hr : 2 ≤ r ∧ r ≤ 256
      · rw [if_neg (by omega), if_neg (by omega), if_neg (by omega), if_neg (by omega), rpower_align k a p hp.2.2]
        simp only [Option.bind_some]
        have q := pq_bound (p := p) (s := s) (by omega) hs
        have q3 := prod3_bound q hr
        by_cases ha : P2 a ∧ a ≤ p
        · rw [decide_eq_true ha, show k + 20 = (k + 19) + 1 from rfl]
          simp only [cellarref02_Check.j0, Bool.not_true]
          rw [if_neg (by decide), w64 (n := p * s) (by omega) (by omega), w64 (n := p * s * r) (by omega) (by omega), w64 (n := p * s - 48) (by omega) (by omega)]
          unfold chk
          by_cases c : Ok p s r a
          · have c' := c; unfold Ok at c'; rw [if_pos c, if_neg (by omega), if_neg (by omega), if_neg (by omega)]
          · rw [if_neg c]
            by_cases c1 : p * s < 128
            · rw [if_pos c1]
            · rw [if_neg c1]
              by_cases c2 : p * s - 48 < a
              · rw [if_pos c2]
              · rw [if_neg c2, if_pos]
                have : ¬ p * s * r ≤ 1048576 := fun h => c ⟨⟨hp.2.2, hp.1⟩, hs, hr, ha, by omega, by omega, h⟩
                omega
        · rw [decide_eq_false ha, show (!false) = true from rfl, no]
          unfold chk; rw [if_neg]; intro h; exact ha h.2.2.2.1
      · have e : chk p s r a = 20 := by unfold chk; rw [if_neg]; intro h; exact hr h.2.2.1
        rw [e, if_neg (by omega), if_neg (by omega)]
        split
        · exact no
        · rw [if_pos (by omega)]; exact no
    · have e : chk p s r a = 20 := by unfold chk; rw [if_neg]; intro h; exact hs h.2.1
      rw [e]
      split
      · exact no
      · rw [if_pos (by omega)]; exact no
  · rw [decide_eq_false hp, if_neg (by decide), no]
    have e : chk p s r a = 20 := by unfold chk; rw [if_neg]; intro h; exact hp ⟨h.1.2, (p2_range h.1.1).2, h.1.1⟩
    rw [e]

/-! ### New -/
def Dv.fresh (p s r : Nat) (a : Int) : Dv := ⟨p, s, r, a, List.replicate (p * s * r) 255, [], [], fun _ => 0, 0, List.replicate r 0⟩
/-- The image and the wear, made. -/
def Both1 (wd : World) (n r gb : Nat) (vw : Value) (w' : World) : Prop := Below wd.heap.size wd w' ∧ Im w' gb n (List.replicate n 255) ∧ wd.heap.size ≤ gb ∧ (Kd.int .i64).R 3 w' wd.heap.size (fun k => wd.heap.size ≤ k) vw (List.replicate r 0)
theorem Both1.ab {wd wa wb : World} {n r gb : Nat} {vw : Value} {hh : Prop} (hI : Im wa gb n (List.replicate n 255)) (hgb : wd.heap.size ≤ gb) (hb1 : Below wd.heap.size wd wa) (hR : (Kd.int .i64).R 3 wb wa.heap.size (fun q => wa.heap.size ≤ q) vw (List.replicate r 0)) (hb2 : Below wa.heap.size wa wb) (_ : hh) : Both1 wd n r gb vw wb :=
  ⟨hb1.trans (hb2.mono hb1.size), hI.below hb2, hgb, Kd.R_mono (Kd.R_lower hR hb1.size) (fun k hk => Nat.le_trans hb1.size hk)⟩
theorem Both1.ba {wd wa wb : World} {n r gb : Nat} {vw : Value} {hh : Prop} (hI : Im wb gb n (List.replicate n 255)) (hgb : wa.heap.size ≤ gb) (hb1 : Below wa.heap.size wa wb) (hR : (Kd.int .i64).R 3 wa wd.heap.size (fun q => wd.heap.size ≤ q) vw (List.replicate r 0)) (hb2 : Below wd.heap.size wd wa) (_ : hh) : Both1 wd n r gb vw wb :=
  ⟨hb2.trans (hb1.mono hb2.size), hI, Nat.le_trans hb2.size hgb, Kd.R_below hR hb1⟩
def NewSt (w : World) (d : Dv) (en : Ending) (w' : World) : Prop :=
  Below w.heap.size w w' ∧ ∃ db, en = .returned (.tuple #[.pointer (some ⟨db, 0, none⟩), .int .i64 0]) ∧ w.heap.size ≤ db ∧ ∀ (B : Nat) (f : Owner), B ≤ w.heap.size → ∃ im imc vu vf vw, DevG B (owns f w.heap.size db) w' db d im imc vu vf vw
theorem new_of {w w1 wd w3 : World} {p s r gb : Nat} {a : Int} {vw : Value} (h : Both1 wd (p * s * r) r gb vw w3) (h1 : Below w.heap.size w w1) (h2 : Below w1.heap.size w1 wd) :
    NewSt w (Dv.fresh p s r a) (.returned (.tuple #[.pointer (some ⟨w3.heap.size, 0, none⟩), .int .i64 0])) (w3.alloc (.cells #[.int .i64 p, .int .i64 s, .int .i64 r, .int .i64 a, .slice (some ⟨gb, 0, none⟩) (p * s * r) (p * s * r), .slice none 0 0, .slice none 0 0, .int .i64 0, .int .i64 0, .int .i64 0, .int .i64 0, .int .i64 0, .int .i64 0, vw] 78)) := by
  obtain ⟨k1, k2, k3, k4⟩ := h
  have hw : Below w.heap.size w w3 := (h1.trans (h2.mono h1.size)).trans (k1.mono (Nat.le_trans h1.size h2.size))
  have bl : Below w3.heap.size w3 (w3.alloc (.cells #[.int .i64 p, .int .i64 s, .int .i64 r, .int .i64 a, .slice (some ⟨gb, 0, none⟩) (p * s * r) (p * s * r), .slice none 0 0, .slice none 0 0, .int .i64 0, .int .i64 0, .int .i64 0, .int .i64 0, .int .i64 0, .int .i64 0, vw] 78)) := below_alloc (Below.refl _ _) _
  have hdw : w.heap.size ≤ wd.heap.size := Nat.le_trans h1.size h2.size
  refine ⟨hw.trans (bl.mono hw.size), w3.heap.size, rfl, hw.size, fun B f hB => ⟨gb, p * s * r, .slice none 0 0, .slice none 0 0, vw, ?_⟩⟩
  have e : (Dv.fresh p s r a).b.length = p * s * r := List.length_replicate ..
  refine ⟨?_, owns_new _ _ _ _ hw.size, Nat.le_trans hB hw.size, k2.below bl, owns_new _ _ _ _ (Nat.le_trans hdw k3), Nat.le_trans hB (Nat.le_trans hdw k3), Kd.R_nil _ _ _ _ _, Kd.R_nil _ _ _ _ _, ?_, fun k hk => by simp [Value.ownBlock] at hk⟩
  · rw [e]; exact blk_new w3 _
  · exact Kd.R_mono (Kd.R_lower (Kd.R_below k4 bl) (Nat.le_trans hB hdw)) (fun k hk => owns_new _ _ _ _ (Nat.le_trans hdw hk))
def Refused (w : World) (er : Int) (en : Ending) (w' : World) : Prop := en = .returned (.tuple #[.pointer none, .int .i64 er]) ∧ Below w.heap.size w w'
set_option maxHeartbeats 2000000 in
set_option maxRecDepth 100000 in
theorem new_no {w : World} {p s r a : Int} (hk : chk p s r a = 20) : Calls Try.prog 12 #[.agg #[.int .i64 p, .int .i64 s, .int .i64 r, .int .i64 a]] w (Refused w 20) := by
  have KY := Aside0.mk (fun (w' : World) => geom_Bytes.calls 1 p s r a 0 0 20 w' (bytes_no 0 hk))
  go_enter Try.func12, Try.ntmps12
  go_wp2_with (go_at_call 36; refine (KY.out _).mono ?_; rintro e w1 ⟨rfl, hb⟩; have B1 := Aside0.mk hb; clear hb)
  go_ret2
  exact ⟨rfl, (below_alloc (Below.refl w.heap.size w) _).trans (B1.out.mono (by simp))⟩
set_option maxHeartbeats 2000000 in
set_option maxRecDepth 100000 in
theorem new_yes {w : World} {p s r : Nat} {a : Int} (hk : Geo.Ok p s r a) : Calls Try.prog 12 #[.agg #[.int .i64 p, .int .i64 s, .int .i64 r, .int .i64 a]] w (NewSt w (Dv.fresh p s r a)) := by
  have bd := Ok.bounds hk
  have KY := Aside0.mk (fun (w' : World) => geom_Bytes.calls 1 p s r a _ _ 0 w' (bytes_yes 0 hk))
  obtain ⟨n, hn⟩ : ∃ n, p * s * r = n := ⟨_, rfl⟩
  have e1 : (p : Int) * s * r = (n : Int) := by rw [← hn]; simp
  have hn1 : 1 ≤ n := by have := bd; omega
  have hn2 : n ≤ 1048576 := by have := bd; omega
  have hr : r ≤ 256 := by omega
  have KB := Aside0.mk (fun (w' : World) => blank_walk (w := w') hn1 hn2)
  have HF := Aside0.mk (@new_of w)
  rw [e1] at KY
  obtain ⟨rg, hrg⟩ : ∃ rg : Int, (p : Int) * s = rg := ⟨_, rfl⟩
  rw [hrg] at KY
  have HNN := Aside0.mk hn
  clear bd hk e1 hrg hn hn1 hn2
  go_enter Try.func12, Try.ntmps12
  go_upto_region 4 with (go_at_call 36; refine (KY.out _).mono ?_; rintro e w1 ⟨rfl, hb⟩)
  have B0 := Aside0.mk ((below_alloc (Below.refl w.heap.size w) (.cells #[.int .i64 p, .int .i64 s, .int .i64 r, .int .i64 a] 23)).trans (hb.mono (by simp)))
  have g1 := blk_below (blk_new w (.cells #[.int .i64 p, .int .i64 s, .int .i64 r, .int .i64 a] 23)) hb
  obtain ⟨bx, hbx⟩ : ∃ bx, w.heap.size = bx := ⟨_, rfl⟩
  have HBX := Aside0.mk hbx
  rw [hbx] at g1
  rw [hbx]
  have c0 : w1.cell? ⟨bx, 0, none⟩ = some (.int .i64 (p : Int)) := blk_cell g1 0
  have c1 : w1.cell? ⟨bx, 1, none⟩ = some (.int .i64 (s : Int)) := blk_cell g1 1
  have c2 : w1.cell? ⟨bx, 2, none⟩ = some (.int .i64 (r : Int)) := blk_cell g1 2
  have c3 : w1.cell? ⟨bx, 3, none⟩ = some (.int .i64 (a : Int)) := blk_cell g1 3
  clear hb g1 hbx
  refine start_ (n := 10) (S := fun w' => w'.cell? ⟨bx, 0, none⟩ = some (.int .i64 (p : Int)) ∧ w'.cell? ⟨bx, 1, none⟩ = some (.int .i64 (s : Int)) ∧ w'.cell? ⟨bx, 2, none⟩ = some (.int .i64 (r : Int)) ∧ w'.cell? ⟨bx, 3, none⟩ = some (.int .i64 (a : Int))) (ds := []) #[F,F,F,F,F,F,F,F,F,F] (by kernel_rfl) rfl rfl (⟨c0, c1, c2, c3⟩) (fun hHeld => ?_)
  generalize hwd : w1.drew = wd at hHeld ⊢
  have BD : Aside0 (Below w1.heap.size w1 wd) := ⟨by rw [← hwd]; exact below_drew (Below.refl _ _)⟩
  clear hwd c0 c1 c2 c3
  obtain ⟨c0, c1, c2, c3⟩ := hHeld
  have hHeld : wd.cell? ⟨bx, 0, none⟩ = some (.int .i64 (p : Int)) ∧ wd.cell? ⟨bx, 1, none⟩ = some (.int .i64 (s : Int)) ∧ wd.cell? ⟨bx, 2, none⟩ = some (.int .i64 (r : Int)) ∧ wd.cell? ⟨bx, 3, none⟩ = some (.int .i64 (a : Int)) := ⟨c0, c1, c2, c3⟩
  refine take_ (i := 0) (N := some 16) (v := ?_) (a' := ?_) #[T,F,F,F,F,F,F,F,F,F] rfl rfl (by kernel_rfl) (fun _ _ _ h => h) (Or.inl ⟨by rfl, ?_⟩) hHeld ?_ ?_
  rotate_left
  · intro w' s0
    obtain ⟨s1, s2, s3, s4⟩ := s0
    go_simp
    with_reducible rfl
  rotate_left
  · simp only [Act.put, sA, s0_, sS, i64_w, i32_w]
    rfl
  refine pure_ (i := 1) (N := some 17) (v := ?_) (a' := ?_) #[T,T,F,F,F,F,F,F,F,F] rfl rfl (by kernel_rfl) (fun _ _ _ h => h) (Or.inl ⟨by rfl, ?_⟩) ?_ ?_
  rotate_left
  · intro w'
    go_simp
    with_reducible rfl
  rotate_left
  · simp only [Act.put, sA, s0_, sS, i64_w, i32_w]
    rfl
  refine pure_ (i := 3) (N := some 19) (v := ?_) (a' := ?_) #[T,T,F,T,F,F,F,F,F,F] rfl rfl (by kernel_rfl) (fun _ _ _ h => h) (Or.inl ⟨by rfl, ?_⟩) ?_ ?_
  rotate_left
  · intro w'
    go_simp
    with_reducible rfl
  rotate_left
  · simp only [Act.put, sA, s0_, sS, i64_w, i32_w]
    rfl
  refine take_ (i := 4) (N := some 20) (v := ?_) (a' := ?_) #[T,T,F,T,T,F,F,F,F,F] rfl rfl (by kernel_rfl) (fun _ _ _ h => h) (Or.inl ⟨by rfl, ?_⟩) hHeld ?_ ?_
  rotate_left
  · intro w' s0
    obtain ⟨s1, s2, s3, s4⟩ := s0
    go_simp
    with_reducible rfl
  rotate_left
  · simp only [Act.put, sA, s0_, sS, i64_w, i32_w]
    rfl
  refine join_ (σ := Nat × Value) 4 #[T,T,T,T,T,T,F,F,F,F] (fun s_ => [(18, .slice (some ⟨s_.1, 0, none⟩) n n), (21, s_.2)]) (fun s_ w' => Both1 wd n r s_.1 s_.2 w') ?_ ?_
  rotate_left
  · intro hCont
    refine two_ (i := 2) (j := 5) (Ni := some 18) (Nj := some 21) #[T,T,T,T,T,F,F,F,F,F] #[T,T,F,T,T,T,F,F,F,F] rfl rfl rfl rfl (by kernel_rfl) (by decide) (by decide) (fun K hK => ?_) (fun K hK => ?_)
    · skip
      refine goes_ Try.func37 (by kernel_rfl) rfl #[.int .i64 (n : Int)] (by rfl) rfl rfl (by (try simp only [List.map_toArray, List.map_cons, List.map_nil]); first | done | rfl) ?_
      with_reducible refine (KB.out wd).mono ?_
      rintro e wa ⟨gb, rfl, hI, hgb, hb1⟩
      refine ⟨_, rfl, ?_⟩
      refine hK.out _ _ (by exact ⟨pw_cell_below hb1 c0, pw_cell_below hb1 c1, pw_cell_below hb1 c2, pw_cell_below hb1 c3⟩) (fun hHeld => ?_)
      clear hK K
      refine norm_ (a' := ?_) ?_ ?_
      rotate_left
      · show Act.put _ (some 18) _ = _
        simp only [Act.put, sA, s0_, sS, i64_w, i32_w]
        rfl
      refine one_ (i := 5) (N := some 21) #[T,T,T,T,T,T,F,F,F,F] rfl rfl (by kernel_rfl) (by decide) (fun K hK => ?_)
      refine Kd.R_make_step (Kd.int .i64) (w0 := wa) wa.heap.size 3 (by rfl) (N := 21) rfl 35 (.tmp 20) (.tmp 20) rfl (r : Int) rfl rfl Try.underlying35 (.int .i64 0) 8 info3 rfl (by decide) (by decide) 0 (ok := fun q => wa.heap.size ≤ q) (okp := fun _ => False) rfl (fun _ h => h.elim) (Nat.le_refl _) (by omega) (by simp; omega) (Below.refl _ _) (Nat.le_refl _) ?_
      intro vw wb hR hb2 hg hat
      rw [Int.toNat_natCast] at hR
      refine hK.out _ _ (by exact ⟨pw_cell_below (hb1.trans (hb2.mono hb1.size)) c0, pw_cell_below (hb1.trans (hb2.mono hb1.size)) c1, pw_cell_below (hb1.trans (hb2.mono hb1.size)) c2, pw_cell_below (hb1.trans (hb2.mono hb1.size)) c3⟩) (fun hHeld => ?_)
      clear hK K
      refine norm_ (a' := ?_) ?_ ?_
      rotate_left
      · show Act.put _ (some 21) _ = _
        simp only [Act.put, sA, s0_, sS, i64_w, i32_w]
        rfl
      exact norm_ (by simp only [putAll, Act.put, sA, s0_, sS]) (hCont (gb, vw) _ (Both1.ab hI hgb hb1 hR hb2 hat))
    · skip
      refine Kd.R_make_step (Kd.int .i64) (w0 := wd) wd.heap.size 3 (by rfl) (N := 21) rfl 35 (.tmp 20) (.tmp 20) rfl (r : Int) rfl rfl Try.underlying35 (.int .i64 0) 8 info3 rfl (by decide) (by decide) 0 (ok := fun q => wd.heap.size ≤ q) (okp := fun _ => False) rfl (fun _ h => h.elim) (Nat.le_refl _) (by omega) (by simp; omega) (Below.refl _ _) (Nat.le_refl _) ?_
      intro vw wa hR hb2 hg hat
      rw [Int.toNat_natCast] at hR
      refine hK.out _ _ (by exact ⟨pw_cell_below hb2 c0, pw_cell_below hb2 c1, pw_cell_below hb2 c2, pw_cell_below hb2 c3⟩) (fun hHeld => ?_)
      clear hK K
      refine norm_ (a' := ?_) ?_ ?_
      rotate_left
      · show Act.put _ (some 21) _ = _
        simp only [Act.put, sA, s0_, sS, i64_w, i32_w]
        rfl
      refine one_ (i := 2) (N := some 18) #[T,T,T,T,T,T,F,F,F,F] rfl rfl (by kernel_rfl) (by decide) (fun K hK => ?_)
      refine goes_ Try.func37 (by kernel_rfl) rfl #[.int .i64 (n : Int)] (by rfl) rfl rfl (by (try simp only [List.map_toArray, List.map_cons, List.map_nil]); first | done | rfl) ?_
      with_reducible refine (KB.out wa).mono ?_
      rintro e wb ⟨gb, rfl, hI, hgb, hb1⟩
      refine ⟨_, rfl, ?_⟩
      refine hK.out _ _ (by exact ⟨pw_cell_below (hb2.trans (hb1.mono hb2.size)) c0, pw_cell_below (hb2.trans (hb1.mono hb2.size)) c1, pw_cell_below (hb2.trans (hb1.mono hb2.size)) c2, pw_cell_below (hb2.trans (hb1.mono hb2.size)) c3⟩) (fun hHeld => ?_)
      clear hK K
      refine norm_ (a' := ?_) ?_ ?_
      rotate_left
      · show Act.put _ (some 18) _ = _
        simp only [Act.put, sA, s0_, sS, i64_w, i32_w]
        rfl
      exact norm_ (by simp only [putAll, Act.put, sA, s0_, sS]) (hCont (gb, vw) _ (Both1.ba hI hgb hb1 hR hb2 hat))
  intro s_ w3 hF
  obtain ⟨gb, vw⟩ := s_
  simp only at hF
  obtain ⟨Aw, cw, ew⟩ := Kd.R_slice hF.2.2.2
  rw [List.length_replicate] at ew
  subst ew
  have F3 := Aside0.mk hF
  clear hF
  refine norm_ (a' := ?_) ?_ ?_
  rotate_left
  · simp only [putAll, Act.put, sA, s0_, sS]
    rfl
  refine pure_ (i := 6) (N := some 22) (v := ?_) (a' := ?_) #[T,T,T,T,T,T,T,F,F,F] rfl rfl (by kernel_rfl) (fun _ _ _ h => h) (Or.inl ⟨by rfl, ?_⟩) ?_ ?_
  rotate_left
  · intro w'
    go_simp
    with_reducible rfl
  rotate_left
  · simp only [Act.put, sA, s0_, sS, i64_w, i32_w]
    rfl
  refine one_ (i := 7) (N := some 23) #[T,T,T,T,T,T,T,T,F,F] rfl rfl (by kernel_rfl) (by decide) (fun K hK => ?_)
  refine value_ (w1 := ?_) (v := ?_) (by rfl) rfl ?_ ?_
  rotate_left 2
  · go_simp
    constructor
    · rfl
    · rfl
  refine hK.out _ _ (by exact ⟨pw_cell_below (F3.out.1.alloc F3.out.1.size _) c0, pw_cell_below (F3.out.1.alloc F3.out.1.size _) c1, pw_cell_below (F3.out.1.alloc F3.out.1.size _) c2, pw_cell_below (F3.out.1.alloc F3.out.1.size _) c3⟩) (fun hHeld => ?_)
  clear hK K
  refine norm_ (a' := ?_) ?_ ?_
  rotate_left
  · show Act.put _ (some 23) _ = _
    simp only [Act.put, sA, s0_, sS, i64_w, i32_w]
    rfl
  refine pure_ (i := 8) (N := some 2) (v := ?_) (a' := ?_) #[T,T,T,T,T,T,T,T,T,F] rfl rfl (by kernel_rfl) (fun _ _ _ h => h) (Or.inl ⟨by rfl, ?_⟩) ?_ ?_
  rotate_left
  · intro w'
    go_simp
    with_reducible rfl
  rotate_left
  · simp only [Act.put, sA, s0_, sS, i64_w, i32_w]
    rfl
  refine pure_ (i := 9) (N := some 3) (v := ?_) (a' := ?_) #[T,T,T,T,T,T,T,T,T,T] rfl rfl (by kernel_rfl) (fun _ _ _ h => h) (Or.inl ⟨by rfl, ?_⟩) ?_ ?_
  rotate_left
  · intro w'
    go_simp
    with_reducible rfl
  rotate_left
  · simp only [Act.put, sA, s0_, sS, i64_w, i32_w]
    rfl
  refine done_ (by kernel_rfl) ?_
  go_wp2
  go_ret2
  have hh := HF.out (by rw [HNN.out]; exact F3.out) B0.out BD.out (a := a)
  rw [HNN.out] at hh
  exact hh
/-! ### What the printed functions answer, plain -/
theorem drop_cons {α : Type} {l : List α} {i d : Nat} (h : i + (d + 1) = l.length) (z : α) : l.drop i = l.getD i z :: l.drop (i + 1) := by
  have hi : i < l.length := by omega
  rw [List.drop_eq_getElem_cons hi, List.getD_eq_getElem?_getD, List.getElem?_eq_getElem hi]
  rfl
theorem wS {i : Nat} (h : i < 4611686018427387904) : wrap64 ((i : Int) + 1) = ((i + 1 : Nat) : Int) := by
  have := wN (n := i + 1) (by omega)
  rw [← this]
  rfl
def faultSaid : Option Fa → Int × Int × Int × Bool
  | some f => (f.f0, f.f1, f.f2, true)
  | none => (0, 0, 0, false)
theorem faulty_loop (l : List Fa) (op nth : Int) (hl : l.length < 4611686018427387904) (d : Nat) : ∀ (k i : Nat), i + d = l.length → d < k → flash_faulty.l0 k op nth l (l.length : Int) (i : Int) = some (faultSaid ((l.drop i).find? fun f => f.f0 == op && f.f1 == nth)) := by
  induction d with
  | zero =>
    intro k i hi hk
    obtain ⟨k, rfl⟩ : ∃ m, k = m + 1 := ⟨k - 1, by omega⟩
    rw [flash_faulty.l0, if_neg (by omega), List.drop_of_length_le (by omega)]
    rfl
  | succ d ih =>
    intro k i hi hk
    obtain ⟨k, rfl⟩ : ∃ m, k = m + 1 := ⟨k - 1, by omega⟩
    rw [flash_faulty.l0, if_pos (by omega), if_pos (by omega), if_pos (by omega), wS (by omega), drop_cons hi z85]
    have e : rd_T85 l (i : Int) = l.getD i z85 := by simp only [rd_T85, Int.toNat_natCast]
    rw [e]
    generalize l.getD i z85 = x
    rw [List.find?_cons]
    by_cases h1 : x.f0 = op
    · rw [if_pos h1]
      by_cases h2 : x.f1 = nth
      · rw [if_pos h2, show (x.f0 == op && x.f1 == nth) = true by simp [h1, h2]]
        rfl
      · rw [if_neg h2, show (x.f0 == op && x.f1 == nth) = false by simp [h2]]
        exact ih k (i + 1) (by omega) (by omega)
    · rw [if_neg h1, show (x.f0 == op && x.f1 == nth) = false by simp [h1]]
      exact ih k (i + 1) (by omega) (by omega)
theorem faulty_eq (l : List Fa) (op nth : Int) (hl : l.length < 4611686018427387904) : flash_faulty.f (l.length + 1) l op nth = some (faultSaid (findF l op nth)) :=
  faulty_loop l op nth hl l.length (l.length + 1) 0 (by omega) (by omega)
/-! ### May faults be asked for? -/
def okP (l : List Fa) (i : Nat) : Prop := faultOk (l.getD i z85) ∧ (i = 0 ∨ ¬ ((l.getD i z85).f0 < (l.getD (i - 1) z85).f0 ∨ (l.getD i z85).f0 = (l.getD (i - 1) z85).f0 ∧ (l.getD i z85).f1 ≤ (l.getD (i - 1) z85).f1))
instance (l : List Fa) (i : Nat) : Decidable (okP l i) := by unfold okP; infer_instance
def allFrom (l : List Fa) (i : Nat) : Nat → Bool
  | 0 => true
  | d + 1 => decide (okP l i) && allFrom l (i + 1) d
def frB (l : List Fa) : Bool := allFrom l 0 l.length && decide (l.length ≤ 64)
theorem allFrom_ok (l : List Fa) : ∀ d i, allFrom l i d = true → ∀ j, i ≤ j → j < i + d → okP l j
  | 0, i, _, j, h1, h2 => absurd h2 (by omega)
  | d + 1, i, h, j, h1, h2 => by
    unfold allFrom at h
    rw [Bool.and_eq_true, decide_eq_true_eq] at h
    by_cases e : j = i
    · subst e; exact h.1
    · exact allFrom_ok l d (i + 1) h.2 j (by omega) (by omega)
theorem frB_ok {l : List Fa} (h : frB l = true) : l.length ≤ 64 ∧ ∀ f ∈ l, f.f2 = 1 ∨ f.f2 = 2 := by
  unfold frB at h
  rw [Bool.and_eq_true, decide_eq_true_eq] at h
  refine ⟨h.2, fun f hf => ?_⟩
  obtain ⟨i, hi⟩ := List.getElem?_of_mem hf
  have hil := (List.getElem?_eq_some_iff.1 hi).1
  have h2 := (allFrom_ok l l.length 0 h.1 i (by omega) (by omega)).1
  rw [List.getD_eq_getElem?_getD, hi] at h2
  have h3 : faultOk f := h2
  unfold faultOk at h3
  omega
theorem within_eq (a b c : Int) : flash_within.f a b c = some (decide (b ≤ a ∧ a ≤ c)) := by
  unfold flash_within.f
  by_cases h : a ≥ b
  · rw [if_pos h]; congr 1; simp; omega
  · rw [if_neg h]; congr 1; symm; simp; omega
theorem right_tail (l : List Fa) (i d : Nat) (h : i + (d + 1) = l.length) (hl : l.length < 4611686018427387904) (cont : Option Bool) (r : Bool) (hc : cont = some r) (hok : faultOk (l.getD i z85)) :
    (if (i : Int) > 0 then (if 0 ≤ wrap64 ((i : Int) - 1) then (if wrap64 ((i : Int) - 1) < (l.length : Int) then (if (l.getD i z85).f0 < (rd_T85 l (wrap64 ((i : Int) - 1))).f0 then some false else (if (l.getD i z85).f0 = (rd_T85 l (wrap64 ((i : Int) - 1))).f0 then (if (l.getD i z85).f1 ≤ (rd_T85 l (wrap64 ((i : Int) - 1))).f1 then some false else cont) else cont)) else none) else none) else cont) = some (decide (okP l i) && r) := by
  subst hc
  by_cases h0 : i = 0
  · subst h0
    rw [if_neg (by omega), decide_eq_true (show okP l 0 from ⟨hok, .inl rfl⟩), Bool.true_and]
  · have e1 : wrap64 ((i : Int) - 1) = ((i - 1 : Nat) : Int) := by rw [wI (by omega) (by omega)]; omega
    have e2 : rd_T85 l ((i - 1 : Nat) : Int) = l.getD (i - 1) z85 := by simp only [rd_T85, Int.toNat_natCast]
    rw [if_pos (by omega), e1, if_pos (by omega), if_pos (by omega), e2]
    by_cases c1 : (l.getD i z85).f0 < (l.getD (i - 1) z85).f0
    · rw [if_pos c1, decide_eq_false (show ¬ okP l i from fun hh => by rcases hh.2 with e | e; exact h0 e; exact e (.inl c1)), Bool.false_and]
    · rw [if_neg c1]
      by_cases c2 : (l.getD i z85).f0 = (l.getD (i - 1) z85).f0
      · rw [if_pos c2]
        by_cases c3 : (l.getD i z85).f1 ≤ (l.getD (i - 1) z85).f1
        · rw [if_pos c3, decide_eq_false (show ¬ okP l i from fun hh => by rcases hh.2 with e | e; exact h0 e; exact e (.inr ⟨c2, c3⟩)), Bool.false_and]
        · rw [if_neg c3, decide_eq_true (show okP l i from ⟨hok, .inr (by omega)⟩), Bool.true_and]
      · rw [if_neg c2, decide_eq_true (show okP l i from ⟨hok, .inr (by omega)⟩), Bool.true_and]
theorem okP_bad {l : List Fa} {i : Nat} (h : ¬ faultOk (l.getD i z85)) (r : Bool) : (decide (okP l i) && r) = false := by
  rw [decide_eq_false (fun hh => h hh.1), Bool.false_and]
theorem right_loop (l : List Fa) (hl : l.length < 4611686018427387904) (d : Nat) : ∀ (k i : Nat), i + d = l.length → 2 * d < k → flash_faultsRight.l0 k l l (l.length : Int) (i : Int) = some (allFrom l i d && decide (l.length ≤ 64)) := by
  induction d with
  | zero =>
    intro k i hi hk
    obtain ⟨k, rfl⟩ : ∃ m, k = m + 1 := ⟨k - 1, by omega⟩
    rw [flash_faultsRight.l0, if_neg (by omega)]
    unfold allFrom
    rw [Bool.true_and]
    congr 1
    rw [decide_eq_decide]
    omega
  | succ d ih =>
    intro k i hi hk
    obtain ⟨k, rfl⟩ : ∃ m, k = m + 2 := ⟨k - 2, by omega⟩
    have e : rd_T85 l (i : Int) = l.getD i z85 := by simp only [rd_T85, Int.toNat_natCast]
    rw [flash_faultsRight.l0, if_pos (by omega), if_pos (by omega), if_pos (by omega), e, within_eq, within_eq, within_eq]
    simp only [Option.bind_some]
    have hj : ∀ b, (b = true ↔ ¬ faultOk (l.getD i z85)) → flash_faultsRight.j1 (k + 1) l (i : Int) l (l.length : Int) (i : Int) b (l.getD i z85).f0 (l.getD i z85).f1 (l.getD i z85).f2 = some (allFrom l i (d + 1) && decide (l.length ≤ 64)) := fun b hb => by
      rw [flash_faultsRight.j1]
      unfold allFrom
      rw [Bool.and_assoc]
      by_cases hok : faultOk (l.getD i z85)
      · rw [if_neg (by rw [hb]; exact fun h => h hok), wS (by omega)]
        exact right_tail l i d hi hl _ _ (ih k (i + 1) (by omega) (by omega)) hok
      · rw [if_pos (hb.2 hok), okP_bad hok]
    by_cases c1 : 1 ≤ (l.getD i z85).f0 ∧ (l.getD i z85).f0 ≤ 4
    · rw [decide_eq_true c1, if_pos rfl]
      by_cases c2 : 1 ≤ (l.getD i z85).f1 ∧ (l.getD i z85).f1 ≤ 2147483647
      · rw [decide_eq_true c2, if_pos rfl]
        refine hj _ ?_
        rw [Bool.not_eq_true', decide_eq_false_iff_not]
        unfold faultOk
        omega
      · rw [decide_eq_false c2, if_neg (by decide)]
        exact hj true ⟨fun _ h => c2 (by unfold faultOk at h; omega), fun _ => rfl⟩
    · rw [decide_eq_false c1, if_neg (by decide)]
      exact hj true ⟨fun _ h => c1 (by unfold faultOk at h; omega), fun _ => rfl⟩
theorem right_eq (l : List Fa) (hl : l.length < 4611686018427387904) : flash_faultsRight.f (2 * l.length + 1) l = some (frB l) :=
  right_loop l hl l.length (2 * l.length + 1) 0 (by omega) (by omega)
/-! ### Operations -/
def DevX (B : Nat) (f : Owner) (w : World) (db : Nat) (d : Dv) : Prop := ∃ im imc vu vf vw, DevG B f w db d im imc vu vf vw
def DevA (B : Nat) (f : Owner) (w : World) (db : Nat) (d : Dv) (w' : World) : Prop := ∃ f', DevX B f' w' db d ∧ Mv B (· = db) f w f' w'
section
variable {B : Nat} {f : Owner} {w : World} {db : Nat} {d : Dv}
theorem DevX.below (h : DevX B f w db d) {w1 : World} (hb : Below w.heap.size w w1) : DevX B f w1 db d := by
  obtain ⟨im, imc, vu, vf, vw, h⟩ := h
  exact ⟨im, imc, vu, vf, vw, h.below hb⟩
theorem DevX.mv (h : DevX B f w db d) {B' : Nat} {o : Nat → Prop} {f1 : Owner} {w1 : World} (m : Mv B' o f w f1 w1) (hn : ¬ o db) : DevX B f1 w1 db d := by
  obtain ⟨im, imc, vu, vf, vw, h⟩ := h
  exact ⟨im, imc, vu, vf, vw, h.mv m hn⟩
theorem DevX.size (h : DevX B f w db d) : B ≤ w.heap.size ∧ db < w.heap.size ∧ f db = db := by
  obtain ⟨im, imc, vu, vf, vw, h⟩ := h
  have h1 := blk_lt h.blk
  have h2 := h.base
  exact ⟨by omega, h1, h.own⟩
theorem DevA.of_below (h : DevX B f w db d) {w1 : World} (hb : Below w.heap.size w w1) : DevA B f w db d w1 :=
  ⟨f, h.below hb, Mv.of_below hb h.size.1 (fun _ _ => rfl)⟩
theorem DevA.box {w1 w2 : World} (h : DevA B f w db d w1) (hb : Below w1.heap.size w1 w2) : DevA B f w db d w2 := by
  obtain ⟨f', h1, m⟩ := h
  exact ⟨f', h1.below hb, m.trans (Mv.of_below hb h1.size.1 (fun _ _ => rfl))⟩
theorem DevA.fail {w1 : World} (h : DevA B f w db d w1) (v : Int) (hv : v = wrap64 (d.failed + 1)) : DevA B f w db d.flop (w1.setCell ⟨db, 12, none⟩ (.int .i64 v)) ∧ w1.cell? ⟨db, 12, none⟩ = some (.int .i64 d.failed) ∧ w1.frozen? ⟨db, 12, none⟩ = false := by
  subst hv
  obtain ⟨f', ⟨im, imc, vu, vf, vw, h1⟩, m⟩ := h
  obtain ⟨g1, g2⟩ := h1.setFailed (wrap64 (d.failed + 1))
  exact ⟨⟨f', ⟨im, imc, vu, vf, vw, g1⟩, m.trans g2⟩, h1.at_ 12, blk_frozen h1.blk 12⟩
end
theorem below3 {b : Nat} {w w1 : World} {g : Nat} (h : Below b w w1) (hg : b ≤ g) (u0 u1 u2 : Value) : Below b w (((w1.setCell ⟨g, 0, none⟩ u0).setCell ⟨g, 1, none⟩ u1).setCell ⟨g, 2, none⟩ u2) :=
  ((h.setCell (p := ⟨g, 0, none⟩) hg u0).setCell (p := ⟨g, 1, none⟩) hg u1).setCell (p := ⟨g, 2, none⟩) hg u2
theorem put3 {w : World} {g t : Nat} {a0 a1 a2 : Value} (h : w.heap[g]? = some (.cells #[a0, a1, a2] t (0, 0))) (u0 u1 u2 : Value) : (((w.setCell ⟨g, 0, none⟩ u0).setCell ⟨g, 1, none⟩ u1).setCell ⟨g, 2, none⟩ u2).heap[g]? = some (.cells #[u0, u1, u2] t (0, 0)) :=
  blk_put (blk_put (blk_put h 0 u0 rfl) 1 u1 rfl) 2 u2 rfl
end Go.Proofs.Ytnkbebdgkidbjaa.Flash
