/- The plain law of CurveMattson, over the printed functions.
   No condition. -/
import Derived.Test.YteaidghanfjigaaCurveP
import Derived.Test.YteaidghanfjigaaRCurveMattsonx2
namespace Go.Proofs.Yteaidghanfjigaa.RCurveMattson
open Go.Proofs.Yteaidghanfjigaa.QCurveCurves
open Go.RowKit Go.Proofs.YteaidghanfjigaaW.PrintWords Go.Proofs.YteaidghanfjigaaW.PrintLast Go.Proofs.YteaidghanfjigaaW.PrintMore
set_option linter.unusedVariables false
set_option linter.unusedSimpArgs false
theorem up_fuel {α : Type} {f : Nat → Option α} (h : ∀ k, LeO (f k) (f (k + 1))) {n : Nat} {x : α} (hx : f n = some x) : ∀ m, n ≤ m → f m = some x := by
  intro m hm
  induction m with
  | zero => obtain rfl : n = 0 := by omega
            exact hx
  | succ m ih =>
    by_cases c : n = m + 1
    · subst c; exact hx
    · exact h m x (ih (by omega))
theorem lives100 : cellarlaw27_lives.f 100 = some true := by decide +kernel
theorem lives_ev : Evn (fun k => cellarlaw27_lives.f k) true := ⟨100, fun k hk => up_fuel cellarlaw27_lives.mono lives100 k hk⟩
theorem pcurve_l1 (k : Nat) : ∀ (a : Int) (S : List Int) (i : Int), curve_Curve.l1 k a S i = cellarref27_Curve.l1 k a S i := by
  induction k with
  | zero => intro a S i; simp only [curve_Curve.l1, cellarref27_Curve.l1]
  | succ k ih => intro a S i; simp only [curve_Curve.l1, cellarref27_Curve.l1, ih]
theorem pcurve_l0 (k : Nat) : ∀ (a : Int) (S D : List Int) (i : Int), curve_Curve.l0 k a S D (D.length : Int) i = cellarref27_Curve.l0 k a D S i := by
  induction k with
  | zero => intro a S D i; simp only [curve_Curve.l0, cellarref27_Curve.l0]
  | succ k ih =>
    intro a S D i
    simp only [curve_Curve.l0, cellarref27_Curve.l0, ih, pcurve_l1]
    by_cases c : i < (D.length : Int)
    · rw [if_pos c, if_pos c, if_pos c]
      by_cases c2 : 0 ≤ i
      · rw [if_pos c2, if_pos c2]
        by_cases c3 : rd D i ≥ 1
        · rw [if_pos c3, if_pos (show rd D i > 0 by omega)]
        · rw [if_neg c3, if_neg (show ¬ rd D i > 0 by omega)]
      · rw [if_neg c2, if_neg c2]
    · rw [if_neg c, if_neg c]
theorem pcurve_j0 (k : Nat) (a : Int) (D : List Int) (b : Bool) : curve_Curve.j0 k a D b = cellarref27_Curve.j0 k a D b := by
  cases k with
  | zero => simp only [curve_Curve.j0, cellarref27_Curve.j0]
  | succ k => simp only [curve_Curve.j0, cellarref27_Curve.j0, pcurve_l0]
theorem pcurve_eq (l0 : List Int) (a : Int) {r : List Int × Int} (h : curveF l0 a = some r) : Evn (fun k => curve_Curve.f k l0 a) r := by
  unfold curveF at h
  cases hd : distF l0 with
  | none => rw [hd] at h; cases h
  | some q =>
    obtain ⟨r1, r2⟩ := q
    rw [hd] at h
    simp only [Option.bind_some] at h
    by_cases c : r2 = 0
    · rw [if_pos c] at h
      by_cases c1 : a < 0 ∨ a > 1024
      · rw [if_pos c1] at h
        obtain rfl := Option.some.inj h
        refine ⟨1, fun k hk => ?_⟩
        obtain ⟨j, rfl⟩ : ∃ j, k = j + 1 := ⟨k - 1, by omega⟩
        simp only [curve_Curve.f]
        rw [show curve_Distances.f l0 = some (r1, r2) from hd]
        simp only [Option.bind_some]
        rw [if_pos c]
        by_cases c2 : a < 0
        · rw [if_pos c2]; simp only [curve_Curve.j0]; rw [if_pos trivial]
        · rw [if_neg c2, decide_eq_true (by omega)]; simp only [curve_Curve.j0]; rw [if_pos trivial]
      · rw [if_neg c1] at h
        obtain rfl := Option.some.inj h
        obtain ⟨K2, hK2⟩ := rcurve_j0 r1 (distF_len hd) (distF_bd hd) a (by omega) (by omega)
        refine ⟨K2, fun k hk => ?_⟩
        have g2 := hK2 k (by omega)
        dsimp only at g2
        simp only [curve_Curve.f]
        rw [show curve_Distances.f l0 = some (r1, r2) from hd]
        simp only [Option.bind_some]
        rw [if_pos c, if_neg (by omega), decide_eq_false (by omega), pcurve_j0]
        exact g2
    · rw [if_neg c] at h
      obtain rfl := Option.some.inj h
      refine ⟨0, fun k hk => ?_⟩
      simp only [curve_Curve.f]
      rw [show curve_Distances.f l0 = some (r1, r2) from hd]
      simp only [Option.bind_some]
      rw [if_neg c]
theorem curveF_len {l0 : List Int} {a : Int} {r : List Int × Int} (h : curveF l0 a = some r) : r.1.length ≤ 1025 := by
  unfold curveF at h
  cases hd : distF l0 with
  | none => rw [hd] at h; cases h
  | some q =>
    rw [hd] at h
    simp only [Option.bind_some] at h
    split at h
    · split at h
      · obtain rfl := Option.some.inj h; simp
      · obtain rfl := Option.some.inj h; rw [curveL_length]; omega
    · obtain rfl := Option.some.inj h; simp
theorem mat_l1 (D : List Int) (most : Nat) (hm : most ≤ 1024) : ∀ (d i : Nat), i + d = most + 1 → 1 ≤ i → Evn (fun k => cellarlaw27_CurveMattson.l1 k (most : Int) (curveL D most) (i : Int)) true := by
  intro d
  induction d with
  | zero =>
    intro i hi h1
    refine Evn.of_eq (fun k => ?_)
    simp only [cellarlaw27_CurveMattson.l1]
    rw [if_neg (by omega)]
  | succ d ih =>
    intro i hi h1
    obtain ⟨j, rfl⟩ : ∃ j, i = j + 1 := ⟨i - 1, by omega⟩
    have hl := curveL_length D most
    refine Evn.step (fun k => ?_) (ih (j + 1 + 1) (by omega) (by omega))
    simp only [cellarlaw27_CurveMattson.l1]
    rw [if_pos (by omega), if_pos (by omega), if_pos (by omega), show ((j + 1 : Nat) : Int) - 1 = (j : Int) by omega, cw64' (n := (j : Int)) (by omega) (by omega), if_pos (by omega), if_pos (by omega), rd_nat, rd_nat, curveL_getD D most (j + 1) (by omega), curveL_getD D most j (by omega), if_neg (by have := hitI_mono D j D.length; omega), cw64' (n := ((j + 1 : Nat) : Int) + 1) (by omega) (by omega)]
    rfl
theorem mat_l0 (l0 : List Int) (D : List Int) (hD : D.length ≤ 1024) (a : Nat) (ha : (a : Int) < 9223372036854775808) (x7 : Int) (h7 : x7 = hitI D D.length a) (hc : (a : Int) ≤ 1024 → curveF l0 (a : Int) = some (curveL D a, 0)) :
    ∀ (d j : Nat), j + d = D.length → Evn (fun k => cellarlaw27_CurveMattson.l0 k l0 (a : Int) D x7 (hitI D j a) (j : Int)) true := by
  intro d
  induction d with
  | zero =>
    intro j hj
    obtain rfl : j = D.length := by omega
    by_cases c : (a : Int) > 300
    · refine Evn.of_eq (fun k => ?_)
      simp only [cellarlaw27_CurveMattson.l0]
      rw [if_neg (by omega), if_pos h7, if_pos c]
    · obtain ⟨K1, hK1⟩ := pcurve_eq l0 (a : Int) (hc (by omega))
      obtain ⟨K2, hK2⟩ := mat_l1 D a (by omega) a 1 (by omega) (Nat.le_refl _)
      have hl := curveL_length D a
      refine ⟨K1 + K2 + 2, fun k hk => ?_⟩
      obtain ⟨k, rfl⟩ : ∃ j, k = j + 2 := ⟨k - 2, by omega⟩
      have g1 := hK1 (k + 1) (by omega)
      have g2 := hK2 k (by omega)
      dsimp only at g1 g2
      simp only [cellarlaw27_CurveMattson.l0]
      rw [if_neg (by omega), if_pos h7, if_neg c, g1, Option.bind_some]
      have hw1 : ((curveL D a).length : Int) = wrap64 ((a : Int) + 1) := by rw [hl, cw64' (n := (a : Int) + 1) (by omega) (by omega)]; omega
      have e0 : rd (curveL D a) 0 = 0 := by
        have h := rd_nat (curveL D a) 0
        rw [curveL_getD D a 0 (by omega), hitI_zero] at h
        exact h
      have ea : rd (curveL D a) (a : Int) = x7 := by rw [rd_nat, curveL_getD D a a (Nat.le_refl _), h7]
      rw [if_pos (show ((curveL D a, (0 : Int)).2 = 0) from rfl), if_pos (show (((curveL D a, (0 : Int)).1.length : Int) = wrap64 ((a : Int) + 1)) from hw1), if_pos (show 0 < ((curveL D a, (0 : Int)).1.length : Int) from (show 0 < ((curveL D a).length : Int) by omega)), if_pos (show rd (curveL D a, (0 : Int)).1 0 = 0 from e0), if_pos (show (0 : Int) ≤ (a : Int) by omega), if_pos (show (a : Int) < ((curveL D a, (0 : Int)).1.length : Int) from (show (a : Int) < ((curveL D a).length : Int) by omega)), show rd (curveL D a, (0 : Int)).1 (a : Int) = x7 from ea]
      simp only [cellarlaw27_CurveMattson.j2]
      rw [if_neg (by simp)]
      exact g2
  | succ d ih =>
    intro j hj
    refine Evn.step (fun k => ?_) (ih (j + 1) (by omega))
    have hb := hitI_bd D a j
    simp only [cellarlaw27_CurveMattson.l0, hitI]
    rw [if_pos (by omega), if_pos (by omega), rd_nat, cw64' (n := (j : Int) + 1) (by omega) (by omega)]
    by_cases c : D.getD j 0 > 0
    · rw [if_pos c]
      by_cases c2 : D.getD j 0 ≤ (a : Int)
      · rw [if_pos c2, if_pos ⟨by omega, c2⟩, cw64' (n := hitI D j a + 1) (by omega) (by omega)]; rfl
      · rw [if_neg c2, if_neg (fun h => c2 h.2), Int.add_zero]; rfl
    · rw [if_neg c, if_neg (by omega), Int.add_zero]; rfl
theorem pure (l0 : List Int) (a : Int) (h1 : l0.length ≤ maxLen) (h2 : l0.length * 8 ≤ 140737488351232) (h3 : ∀ x ∈ l0, (Lit.int .u64 x).wf = true) (h4 : (Lit.int .i64 a).wf = true) : ∃ k, cellarlaw27_CurveMattson.f k l0 a = some true := by
  have hw : ∀ x ∈ l0, 0 ≤ x ∧ x < 18446744073709551616 := fun x hx => by have := wf64 (h3 x hx); omega
  have ha : a < 9223372036854775808 := by simp [Lit.wf, IntKind.min, IntKind.max, IntKind.bits, IntKind.signed] at h4; omega
  have q : ∀ n, curve_Lru.f l0 n = queueF l0 n true := fun n => by unfold curve_Lru.f; rw [show curve_queue.f l0 n true = queueF l0 n true from rfl]; cases queueF l0 n true <;> rfl
  obtain ⟨K4, hK4⟩ := lives_ev
  by_cases c : (l0.length : Int) > 1024
  · refine ⟨K4 + 1, ?_⟩
    have g4 := hK4 (K4 + 1) (by omega)
    dsimp only at g4
    unfold cellarlaw27_CurveMattson.f
    rw [g4]
    simp only [Option.bind_some, if_true]
    rw [show curve_Distances.f l0 = distF l0 from rfl, q]
    unfold distF queueF
    rw [if_pos c, if_pos c]
    simp only [Option.bind_some]
    rw [if_neg (by decide)]
    simp only [cellarlaw27_CurveMattson.j0]
    rw [if_pos trivial, if_neg (by decide), if_pos trivial]
  · by_cases c2 : a < 0
    · refine ⟨K4 + 1, ?_⟩
      have g4 := hK4 (K4 + 1) (by omega)
      dsimp only at g4
      unfold cellarlaw27_CurveMattson.f
      rw [g4]
      simp only [Option.bind_some, if_true]
      rw [show curve_Distances.f l0 = distF l0 from rfl, q]
      unfold distF queueF
      rw [if_neg c, if_pos hw, if_neg c, if_pos c2]
      simp only [Option.bind_some]
      rw [if_pos trivial]
      simp only [cellarlaw27_CurveMattson.j0]
      rw [if_pos (by decide), if_pos trivial, if_pos c2]
      rfl
    · obtain ⟨n, rfl⟩ := Int.eq_ofNat_of_zero_le (show 0 ≤ a by omega)
      have hll : (l0.map Int.toNat).length = l0.length := List.length_map ..
      have hd : distF l0 = some (outD (l0.map Int.toNat) l0.length, 0) := by unfold distF; rw [if_neg c, if_pos hw]
      have hol := outD_length (l0.map Int.toNat) l0.length
      have hhit := qH_hit (l0.map Int.toNat) n l0.length l0.length (Nat.le_refl _)
      obtain ⟨K2, hK2⟩ := mat_l0 l0 (outD (l0.map Int.toNat) l0.length) (by omega) n (by omega) ((qH (l0.map Int.toNat) n true l0.length : Nat) : Int) (by rw [hhit, hol]) (fun hn => by unfold curveF; rw [hd]; simp only [Option.bind_some]; rw [if_pos trivial, if_neg (by omega), Int.toNat_natCast]) l0.length 0 (by rw [hol]; omega)
      refine ⟨K2 + K4 + 1, ?_⟩
      have g4 := hK4 (K2 + K4 + 1) (by omega)
      have g2 := hK2 (K2 + K4) (by omega)
      dsimp only at g4 g2
      unfold cellarlaw27_CurveMattson.f
      rw [g4]
      simp only [Option.bind_some, if_true]
      rw [show curve_Distances.f l0 = distF l0 from rfl, q, hd]
      unfold queueF
      rw [if_neg c, if_neg c2, if_pos (show (∀ x ∈ l0, 0 ≤ x ∧ x < 18446744073709551616) ∧ (n : Int) < 9223372036854775808 from ⟨hw, ha⟩)]
      simp only [Option.bind_some]
      rw [if_pos trivial, Int.toNat_natCast]
      simp only [cellarlaw27_CurveMattson.j0]
      rw [if_neg (by decide)]
      exact g2
end Go.Proofs.Yteaidghanfjigaa.RCurveMattson
namespace Go.Proofs.Yteaidghanfjigaa.Pure
open Go.Proofs.Yteaidghanfjigaa.RCurveMattson
theorem CurveMattson : cellarlaw27_CurveMattson.Pure := fun l0 a1 h1 h2 h3 h4 => pure l0 a1 h1 h2 h3 h4
end Go.Proofs.Yteaidghanfjigaa.Pure
