/- The document's Distances, and rows that are one: the plain facts.
   No condition. -/
import Derived.Test.YteaidghanfjigaaRingB
import Derived.Test.YteaidghanfjigaaQCurveCurvesx2
import Derived.Test.YteaidghanfjigaaQCurveCurvesx3
import Derived.ArgAppend
import Derived.BigRegion
import Derived.Deep.QuietTactic
import Derived.BigQuiet
import Derived.Deep.RegionHeld3
import Derived.ChangeAlike
import Derived.RegionTactic
import Derived.Maps.OwnSet
import Derived.Maps.OwnOps
import Derived.Deep.DeepCutAuto
import Derived.Deep.CutBlock
import Derived.Deep.RegionLaw
import Derived.StillTailTactics
namespace Go.Proofs.Yteaidghanfjigaa.QCurveCurves
open Go.RowKit Go.Proofs.YteaidghanfjigaaW.PrintWords Go.Proofs.YteaidghanfjigaaW.PrintLast Go.Proofs.YteaidghanfjigaaW.PrintMore
set_option linter.unusedVariables false
set_option linter.unusedSimpArgs false
/-- From some fuel on. -/
def Evn {α : Type} (g : Nat → Option α) (r : α) : Prop := ∃ K, ∀ k, K ≤ k → g k = some r
theorem Evn.step {α : Type} {g h : Nat → Option α} {r : α} (hs : ∀ k, g (k + 1) = h k) (hh : Evn h r) : Evn g r := by
  obtain ⟨K, hK⟩ := hh
  refine ⟨K + 1, fun k hk => ?_⟩
  obtain ⟨j, rfl⟩ : ∃ j, k = j + 1 := ⟨k - 1, by omega⟩
  rw [hs j]; exact hK j (by omega)
theorem Evn.of_eq {α : Type} {g : Nat → Option α} {r : α} (hs : ∀ k, g (k + 1) = some r) : Evn g r := ⟨1, fun k hk => by obtain ⟨j, rfl⟩ : ∃ j, k = j + 1 := ⟨k - 1, by omega⟩; exact hs j⟩
theorem zs_append (a b : List Nat) : zs (a ++ b) = zs a ++ zs b := by simp [zs]
theorem zs_cons (a : Nat) (b : List Nat) : zs (a :: b) = (a : Int) :: zs b := by simp [zs]
theorem zs_set (a : List Nat) (j v : Nat) : (zs a).set j (v : Int) = zs (a.set j v) := by simp [zs, List.map_set]
theorem set_erase (s : List Nat) : ∀ j, 0 < j → j < s.length → (s.set j (s.getD (j - 1) 0)).eraseIdx (j - 1) = s.eraseIdx j := by
  intro j h0 hj
  apply List.ext_getElem?
  intro i
  rw [List.getElem?_eraseIdx, List.getElem?_eraseIdx]
  by_cases c1 : i < j - 1
  · rw [if_pos c1, if_pos (by omega), List.getElem?_set, if_neg (by omega)]
  · rw [if_neg c1, List.getElem?_set]
    by_cases c2 : i + 1 = j
    · rw [if_pos (by omega), if_pos (by omega), if_pos (by omega), List.getD_eq_getElem?_getD, show j - 1 = i by omega, List.getElem?_eq_getElem (by omega)]; rfl
    · rw [if_neg (by omega), if_neg (by omega)]
theorem idxOf_ne (a : Nat) : ∀ (s : List Nat) (j : Nat), j < s.idxOf a → (hj : j < s.length) → s[j] ≠ a
  | [], j, _, hj => absurd hj (by simp)
  | b :: s, j, h, hj => by
    rw [List.idxOf_cons] at h
    by_cases c : (b == a) = true
    · rw [c] at h; simp at h
    · have c' : (b == a) = false := by simpa using c
      rw [c'] at h
      simp only [cond_false] at h
      cases j with
      | zero => simpa using c
      | succ j => exact idxOf_ne a s j (by omega) (by simpa using hj)
theorem rdist_l2 {L : List Nat} {i : Nat} (hi : i < L.length) (x4 : List Int) (x8 : Int) (hx : x4.length < 17592186044416) (r : List Int × Int) : ∀ (j : Nat) (s : List Nat), j < s.length → s.length < 5000 →
    Evn (fun k => cellarref27_Distances.l0 k (zs L) (x4 ++ [x8]) (zs (L.getD i 0 :: s.eraseIdx j)) (wrap64 ((i : Int) + 1))) r → Evn (fun k => cellarref27_Distances.l2 k (zs L) x4 (zs s) (i : Int) x8 (j : Int)) r := by
  intro j
  induction j with
  | zero =>
    intro s hj hs h
    refine Evn.step (fun k => ?_) h
    simp only [cellarref27_Distances.l2]
    rw [if_neg (by decide), if_pos (by omega), if_pos (by rw [zs_length]; omega), if_pos (by rw [zs_length]; omega), if_pos hx, rd_zs]
    cases s with
    | nil => simp at hj
    | cons a s => simp [zs]
  | succ j ih =>
    intro s hj hs h
    refine Evn.step (h := fun k => cellarref27_Distances.l2 k (zs L) x4 (zs (s.set (j + 1) (s.getD j 0))) (i : Int) x8 (j : Int)) (fun k => ?_) (ih _ (by rw [List.length_set]; omega) (by rw [List.length_set]; omega) ?_)
    · simp only [cellarref27_Distances.l2]
      rw [show (((j + 1 : Nat) : Int) - 1) = (j : Int) by omega, cw64' (n := (j : Int)) (by omega) (by omega), if_pos (by omega), if_pos (by omega), if_pos (by rw [zs_length]; omega), if_pos (by omega), if_pos (by rw [zs_length]; omega), rd_zs, Int.toNat_natCast, zs_set]
    · have := set_erase s (j + 1) (by omega) hj
      rw [Nat.add_sub_cancel] at this
      rw [this]; exact h
theorem rdist_l1 {L : List Nat} {i : Nat} (hi : i < L.length) (x4 : List Int) (s : List Nat) (hs : s.length < 5000) (r : List Int × Int) (h : Evn (fun k => cellarref27_Distances.j2 k (zs L) x4 (zs s) (i : Int) ((s.idxOf (L.getD i 0) : Nat) : Int)) r) :
    ∀ (d j : Nat), j + d = s.idxOf (L.getD i 0) → Evn (fun k => cellarref27_Distances.l1 k (zs L) x4 (zs s) (i : Int) (j : Int)) r := by
  intro d
  induction d with
  | zero =>
    intro j hj
    obtain rfl : j = s.idxOf (L.getD i 0) := by omega
    refine Evn.step (fun k => ?_) h
    simp only [cellarref27_Distances.l1]
    by_cases c : s.idxOf (L.getD i 0) < s.length
    · rw [if_pos (by rw [zs_length]; omega), if_pos (by omega), if_pos (by omega), if_pos (by rw [zs_length]; omega), rd_zs, rd_zs, if_pos]
      rw [List.getD_eq_getElem?_getD, List.getElem?_eq_getElem c, Option.getD_some]
      have := List.getElem_idxOf c
      rw [this]
    · rw [if_neg (by rw [zs_length]; omega)]
  | succ d ih =>
    intro j hj
    have hlt : j < s.length := by have := List.idxOf_le_length (a := L.getD i 0) (l := s); omega
    refine Evn.step (h := fun k => cellarref27_Distances.l1 k (zs L) x4 (zs s) (i : Int) ((j + 1 : Nat) : Int)) (fun k => ?_) (ih (j + 1) (by omega))
    simp only [cellarref27_Distances.l1]
    rw [if_pos (by rw [zs_length]; omega), if_pos (by omega), if_pos (by omega), if_pos (by rw [zs_length]; omega), rd_zs, rd_zs, if_neg, cw64' (by omega) (by omega)]
    · rfl
    · intro e
      have hne : s[j] ≠ L.getD i 0 := idxOf_ne _ _ _ (by omega) hlt
      rw [List.getD_eq_getElem?_getD, List.getElem?_eq_getElem hlt, Option.getD_some] at e
      exact hne (by omega)
theorem stk_length (L : List Nat) (i : Nat) : (stk L i).length ≤ i := by
  induction i with
  | zero => exact Nat.le_refl _
  | succ i ih =>
    simp only [stk, stackStep]
    split
    · rename_i h
      rw [List.length_cons, List.length_eraseIdx]
      have := List.idxOf_lt_length_of_mem h
      rw [if_pos this]; omega
    · simp; omega
theorem rdist_l0 {L : List Nat} (hL : L.length ≤ 1024) : ∀ (d i : Nat), i + d = L.length → Evn (fun k => cellarref27_Distances.l0 k (zs L) (outD L i) (zs (stk L i)) (i : Int)) (outD L L.length, 0) := by
  intro d
  induction d with
  | zero =>
    intro i hi
    obtain rfl : i = L.length := by omega
    refine Evn.of_eq (fun k => ?_)
    simp only [cellarref27_Distances.l0]
    rw [if_neg (by rw [zs_length]; omega)]
  | succ d ih =>
    intro i hi
    have hil : i < L.length := by omega
    have hsl := stk_length L i
    have hol := outD_length L i
    refine Evn.step (h := fun k => cellarref27_Distances.l1 k (zs L) (outD L i) (zs (stk L i)) (i : Int) ((0 : Nat) : Int)) (fun k => ?_) (rdist_l1 hil (outD L i) (stk L i) (by omega) _ ?_ ((stk L i).idxOf (L.getD i 0)) 0 (by omega))
    · simp only [cellarref27_Distances.l0]
      rw [if_pos (by rw [zs_length]; omega)]; rfl
    · have hnext := ih (i + 1) (by omega)
      rw [outD_succ] at hnext
      by_cases c : L.getD i 0 ∈ stk L i
      · have hlt := List.idxOf_lt_length_of_mem c
        have hdd : dd L i = (stk L i).idxOf (L.getD i 0) + 1 := by unfold dd stackStep; rw [if_pos c]
        have hst : stk L (i + 1) = L.getD i 0 :: (stk L i).eraseIdx ((stk L i).idxOf (L.getD i 0)) := by simp only [stk, stackStep]; rw [if_pos c]
        rw [hdd, hst] at hnext
        refine Evn.step (h := fun k => cellarref27_Distances.j3 k (zs L) (outD L i) (zs (stk L i)) (i : Int) (((stk L i).idxOf (L.getD i 0) : Nat) : Int) (((stk L i).idxOf (L.getD i 0) + 1 : Nat) : Int)) (fun k => ?_) (Evn.step (fun k => ?_) (rdist_l2 hil (outD L i) (((stk L i).idxOf (L.getD i 0) + 1 : Nat) : Int) (by omega) _ _ (stk L i) hlt (by omega) ?_))
        · simp only [cellarref27_Distances.j2]
          rw [if_neg (by rw [zs_length]; omega), cw64' (by omega) (by omega)]; rfl
        · simp only [cellarref27_Distances.j3]
        · rw [cw64' (by omega) (by omega)]; exact hnext
      · have hix : (stk L i).idxOf (L.getD i 0) = (stk L i).length := List.idxOf_eq_length c
        have hdd : dd L i = 0 := by unfold dd stackStep; rw [if_neg c]
        have hst : stk L (i + 1) = L.getD i 0 :: stk L i := by simp only [stk, stackStep]; rw [if_neg c]
        rw [hdd, hst] at hnext
        rw [hix]
        refine Evn.step (h := fun k => cellarref27_Distances.j3 k (zs L) (outD L i) (zs (stk L i ++ [0])) (i : Int) (((stk L i).length : Nat) : Int) 0) (fun k => ?_) (Evn.step (fun k => ?_) (rdist_l2 hil (outD L i) 0 (by omega) _ (stk L i).length (stk L i ++ [0]) (by simp) (by simp; omega) ?_))
        · simp only [cellarref27_Distances.j2]
          rw [if_pos (by rw [zs_length]), if_pos (by rw [zs_length]; omega), zs_append]; rfl
        · simp only [cellarref27_Distances.j3]
        · rw [cw64' (by omega) (by omega), List.eraseIdx_append_of_length_le (Nat.le_refl _), Nat.sub_self]
          simpa using hnext
theorem rdist_eq (l0 : List Int) (hl : l0.length < 4611686018427387904) (hw : ∀ x ∈ l0, 0 ≤ x ∧ x < 18446744073709551616) : ∃ r, distF l0 = some r ∧ Evn (fun k => cellarref27_Distances.f k l0) r := by
  unfold distF
  by_cases c : (l0.length : Int) > 1024
  · rw [if_pos c]
    exact ⟨_, rfl, 0, fun k _ => by simp only [cellarref27_Distances.f]; rw [if_pos c]⟩
  · rw [if_neg c, if_pos hw]
    refine ⟨_, rfl, ?_⟩
    have e := zs_toNat hw
    have hlen : (l0.map Int.toNat).length = l0.length := List.length_map ..
    obtain ⟨K, hK⟩ := rdist_l0 (L := l0.map Int.toNat) (by rw [hlen]; omega) l0.length 0 (by rw [hlen]; omega)
    refine ⟨K, fun k hk => ?_⟩
    have h := hK k hk
    rw [e, hlen] at h
    simp only [cellarref27_Distances.f]
    rw [if_neg c]
    exact h
theorem same_l0 (xs : List Int) (hx : xs.length < 4611686018427387904) : ∀ (d j : Nat), j + d = xs.length → Evn (fun k => cellarlaw27_same.l0 k xs xs (j : Int)) true := by
  intro d
  induction d with
  | zero =>
    intro j hj
    exact Evn.of_eq (fun k => by simp only [cellarlaw27_same.l0]; rw [if_neg (by omega)])
  | succ d ih =>
    intro j hj
    refine Evn.step (fun k => ?_) (ih (j + 1) (by omega))
    simp only [cellarlaw27_same.l0]
    rw [if_pos (by omega), if_pos (by omega), if_pos (by omega), if_pos trivial, cw64' (by omega) (by omega)]; rfl
theorem same_refl (xs : List Int) (hx : xs.length < 4611686018427387904) : Evn (fun k => cellarlaw27_same.f k xs xs) true := by
  obtain ⟨K, hK⟩ := same_l0 xs hx xs.length 0 (by omega)
  exact ⟨K, fun k hk => by simp only [cellarlaw27_same.f]; rw [if_pos trivial]; exact hK k hk⟩
theorem distF_len {l0 r1 : List Int} {r2 : Int} (h : distF l0 = some (r1, r2)) : r1.length ≤ 1024 := by
  unfold distF at h
  split at h
  · injection h with h; injection h with h1 h2; subst h1; simp
  · split at h
    · injection h with h; injection h with h1 h2; subst h1; rw [outD_length]; omega
    · cases h
/-- How many of the first j are just n, for n from 1 on. -/
def cntI (D : List Int) : Nat → Nat → Int
  | 0, _ => 0
  | j + 1, n => cntI D j n + (if 1 ≤ n ∧ D.getD j 0 = (n : Int) then 1 else 0)
/-- How many of the first j lie from 1 to n. -/
def hitI (D : List Int) : Nat → Nat → Int
  | 0, _ => 0
  | j + 1, n => hitI D j n + (if 1 ≤ D.getD j 0 ∧ D.getD j 0 ≤ (n : Int) then 1 else 0)
def preI (f : Nat → Int) : Nat → Int
  | 0 => f 0
  | n + 1 => preI f n + f (n + 1)
theorem cntI_bd (D : List Int) (n : Nat) (j : Nat) : 0 ≤ cntI D j n ∧ cntI D j n ≤ j := by
  induction j with
  | zero => exact ⟨Int.le_refl _, Int.le_refl _⟩
  | succ j ih => simp only [cntI]; split <;> omega
theorem hitI_bd (D : List Int) (n : Nat) (j : Nat) : 0 ≤ hitI D j n ∧ hitI D j n ≤ j := by
  induction j with
  | zero => exact ⟨Int.le_refl _, Int.le_refl _⟩
  | succ j ih => simp only [hitI]; split <;> omega
theorem hitI_mono (D : List Int) (n : Nat) (j : Nat) : hitI D j n ≤ hitI D j (n + 1) := by
  induction j with
  | zero => exact Int.le_refl _
  | succ j ih =>
    simp only [hitI]
    by_cases c : 1 ≤ D.getD j 0 ∧ D.getD j 0 ≤ (n : Int)
    · rw [if_pos c, if_pos ⟨c.1, by have := c.2; omega⟩]; omega
    · rw [if_neg c]; split <;> omega
theorem hitI_zero (D : List Int) (j : Nat) : hitI D j 0 = 0 := by
  induction j with
  | zero => rfl
  | succ j ih => simp only [hitI]; rw [ih, if_neg (by omega)]; rfl
theorem pre_cnt (D : List Int) (j : Nat) : ∀ n, preI (cntI D j) n = hitI D j n := by
  induction j with
  | zero =>
    intro n
    induction n with
    | zero => rfl
    | succ n ih => simp only [preI]; rw [ih]; rfl
  | succ j ih =>
    intro n
    simp only [hitI]
    rw [← ih n]
    clear ih
    induction n with
    | zero =>
      simp only [preI, cntI]
      rw [if_neg (by omega), if_neg (by omega)]
    | succ n ih =>
      simp only [preI]
      rw [ih]
      simp only [cntI]
      generalize D.getD j 0 = x
      have key : (if 1 ≤ x ∧ x ≤ (n : Int) then (1 : Int) else 0) + (if 1 ≤ n + 1 ∧ x = ((n + 1 : Nat) : Int) then (1 : Int) else 0) = if 1 ≤ x ∧ x ≤ ((n + 1 : Nat) : Int) then (1 : Int) else 0 := by
        split <;> split <;> split <;> omega
      rw [← key]
      generalize (if 1 ≤ x ∧ x ≤ (n : Int) then (1 : Int) else 0) = u
      generalize (if 1 ≤ n + 1 ∧ x = ((n + 1 : Nat) : Int) then (1 : Int) else 0) = v
      omega
/-- What Curve answers, of distances. -/
def curveL (D : List Int) (most : Nat) : List Int := (List.range (most + 1)).map (hitI D D.length)
theorem curveL_length (D : List Int) (most : Nat) : (curveL D most).length = most + 1 := by unfold curveL; rw [List.length_map, List.length_range]
theorem curveL_getD (D : List Int) (most n : Nat) (h : n ≤ most) : (curveL D most).getD n 0 = hitI D D.length n := by
  unfold curveL
  rw [List.getD_eq_getElem?_getD, List.getElem?_map, List.getElem?_range (by omega)]; rfl
theorem getD_set (l : List Int) (i : Nat) (v : Int) (n : Nat) (hi : i < l.length) : (l.set i v).getD n 0 = if n = i then v else l.getD n 0 := by
  rw [List.getD_eq_getElem?_getD, List.getElem?_set]
  by_cases e : i = n
  · subst e; rw [if_pos rfl, if_pos hi, if_pos rfl]; rfl
  · rw [if_neg e, if_neg (fun h => e h.symm), List.getD_eq_getElem?_getD]
theorem preI_bd {f : Nat → Int} (hf : ∀ n, 0 ≤ f n ∧ f n ≤ 2000) (n : Nat) : 0 ≤ preI f n ∧ preI f n ≤ 2000 * (n + 1) := by
  induction n with
  | zero => have := hf 0; simp only [preI]; omega
  | succ n ih => have := hf (n + 1); simp only [preI]; omega
theorem rcurve_l1 {f : Nat → Int} (hf : ∀ n, 0 ≤ f n ∧ f n ≤ 2000) (most : Nat) (hm : most ≤ 1024) : ∀ (d i : Nat) (S : List Int), i + d = most + 1 → 1 ≤ i → S.length = most + 1 → (∀ n, n ≤ most → S.getD n 0 = if n < i then preI f n else f n) →
    Evn (fun k => cellarref27_Curve.l1 k (most : Int) S (i : Int)) ((List.range (most + 1)).map (preI f), 0) := by
  intro d
  induction d with
  | zero =>
    intro i S hi h1 hS hv
    refine Evn.of_eq (fun k => ?_)
    simp only [cellarref27_Curve.l1]
    rw [if_neg (by omega)]
    have e : S = (List.range (most + 1)).map (preI f) := by
      apply List.ext_getElem?
      intro n
      by_cases c : n ≤ most
      · have := hv n c
        rw [if_pos (by omega), List.getD_eq_getElem?_getD, List.getElem?_eq_getElem (by omega), Option.getD_some] at this
        rw [List.getElem?_eq_getElem (by omega), this, List.getElem?_map, List.getElem?_range (by omega)]; rfl
      · rw [List.getElem?_eq_none (by omega), List.getElem?_eq_none (by simp; omega)]
    rw [e]
  | succ d ih =>
    intro i S hi h1 hS hv
    obtain ⟨j, rfl⟩ : ∃ j, i = j + 1 := ⟨i - 1, by omega⟩
    have b1 := preI_bd hf j
    have b2 := hf (j + 1)
    have hpre : preI f (j + 1) = preI f j + f (j + 1) := rfl
    refine Evn.step (h := fun k => cellarref27_Curve.l1 k (most : Int) (S.set (j + 1) (preI f (j + 1))) ((j + 1 + 1 : Nat) : Int)) (fun k => ?_) (ih (j + 1 + 1) _ (by omega) (by omega) (by rw [List.length_set]; exact hS) ?_)
    · simp only [cellarref27_Curve.l1]
      have v1 := hv (j + 1) (by omega)
      have v0 := hv j (by omega)
      rw [if_neg (by omega)] at v1
      rw [if_pos (by omega)] at v0
      rw [if_pos (by omega), if_pos (by omega), if_pos (by omega), show ((j + 1 : Nat) : Int) - 1 = (j : Int) by omega, cw64' (n := (j : Int)) (by omega) (by omega), if_pos (by omega), if_pos (by omega), rd_nat, rd_nat, v1, v0, Int.toNat_natCast, cw64' (n := f (j + 1) + preI f j) (by omega) (by omega), cw64' (n := ((j + 1 : Nat) : Int) + 1) (by omega) (by omega), hpre, Int.add_comm (preI f j)]; rfl
    · intro n hn
      rw [getD_set _ _ _ _ (by omega), hv n hn]
      by_cases c : n = j + 1
      · subst c; rw [if_pos rfl, if_pos (by omega)]
      · rw [if_neg c]
        by_cases c2 : n < j + 1
        · rw [if_pos c2, if_pos (by omega)]
        · rw [if_neg c2, if_neg (by omega)]
theorem rcurve_l0 (D : List Int) (hD : D.length ≤ 1024) (hd : ∀ x ∈ D, 0 ≤ x ∧ x ≤ 2000) (most : Nat) (hm : most ≤ 1024) : ∀ (d j : Nat) (S : List Int), j + d = D.length → S.length = most + 1 → (∀ n, n ≤ most → S.getD n 0 = cntI D j n) →
    Evn (fun k => cellarref27_Curve.l0 k (most : Int) D S (j : Int)) (curveL D most, 0) := by
  intro d
  induction d with
  | zero =>
    intro j S hj hS hv
    obtain rfl : j = D.length := by omega
    have e : (List.range (most + 1)).map (preI (cntI D D.length)) = curveL D most := by unfold curveL; exact List.map_congr_left (fun n _ => pre_cnt D D.length n)
    refine Evn.step (fun k => ?_) (e ▸ rcurve_l1 (f := cntI D D.length) (fun n => by have := cntI_bd D n D.length; omega) most hm most 1 S (by omega) (Nat.le_refl _) hS ?_)
    · simp only [cellarref27_Curve.l0]
      rw [if_neg (by omega)]; rfl
    · intro n hn
      rw [hv n hn]
      by_cases c : n < 1
      · obtain rfl : n = 0 := by omega
        rw [if_pos (by omega)]; rfl
      · rw [if_neg c]
  | succ d ih =>
    intro j S hj hS hv
    have hjl : j < D.length := by omega
    have hx : 0 ≤ D.getD j 0 ∧ D.getD j 0 ≤ 2000 := by rw [List.getD_eq_getElem?_getD, List.getElem?_eq_getElem hjl]; exact hd _ (List.getElem_mem hjl)
    by_cases c : 1 ≤ D.getD j 0 ∧ D.getD j 0 ≤ (most : Int)
    · obtain ⟨x, hxx⟩ : ∃ x : Nat, D.getD j 0 = (x : Int) := ⟨(D.getD j 0).toNat, by omega⟩
      have hb := cntI_bd D x j
      refine Evn.step (h := fun k => cellarref27_Curve.l0 k (most : Int) D (S.set x (cntI D j x + 1)) ((j + 1 : Nat) : Int)) (fun k => ?_) (ih (j + 1) _ (by omega) (by rw [List.length_set]; exact hS) ?_)
      · simp only [cellarref27_Curve.l0]
        rw [if_pos (by omega), if_pos (by omega), rd_nat, hxx, if_pos (by omega), if_pos (by omega), if_pos (by omega), if_pos (by omega), rd_nat, hv x (by omega), Int.toNat_natCast, cw64' (n := cntI D j x + 1) (by omega) (by omega), cw64' (n := (j : Int) + 1) (by omega) (by omega)]; rfl
      · intro n hn
        rw [getD_set _ _ _ _ (by omega), hv n hn]
        simp only [cntI]
        rw [hxx]
        by_cases e : n = x
        · subst e; rw [if_pos rfl, if_pos ⟨by omega, rfl⟩]
        · rw [if_neg e, if_neg (fun h => e (by have := h.2; omega))]; omega
    · refine Evn.step (h := fun k => cellarref27_Curve.l0 k (most : Int) D S ((j + 1 : Nat) : Int)) (fun k => ?_) (ih (j + 1) S (by omega) hS ?_)
      · simp only [cellarref27_Curve.l0]
        rw [if_pos (by omega), if_pos (by omega), rd_nat, cw64' (n := (j : Int) + 1) (by omega) (by omega)]
        by_cases c1 : D.getD j 0 > 0
        · rw [if_pos c1, if_neg (by omega)]; rfl
        · rw [if_neg c1]; rfl
      · intro n hn
        rw [hv n hn]
        simp only [cntI]
        rw [if_neg (by omega)]; omega
theorem outD_bd (L : List Nat) (n : Nat) (hn : n ≤ 1024) : ∀ x ∈ outD L n, 0 ≤ x ∧ x ≤ 2000 := fun x hx => by
  obtain ⟨j, hj, rfl⟩ := List.mem_map.1 hx
  have hj := List.mem_range.1 hj
  have : dd L j ≤ j + 1 := by
    unfold dd stackStep
    have := stk_length L j
    split
    · rename_i h
      have := List.idxOf_lt_length_of_mem h
      show List.idxOf _ _ + 1 ≤ _
      omega
    · exact Nat.zero_le _
  omega
theorem distF_bd {l0 r1 : List Int} {r2 : Int} (h : distF l0 = some (r1, r2)) : (∀ x ∈ r1, 0 ≤ x ∧ x ≤ 2000) := by
  unfold distF at h
  split at h
  · injection h with h; injection h with h1 h2; subst h1; simp
  · rename_i c
    split at h
    · injection h with h; injection h with h1 h2; subst h1; exact outD_bd _ _ (by omega)
    · cases h
/-- What both Curve answer. -/
def curveF (l0 : List Int) (a : Int) : Option (List Int × Int) := (distF l0).bind fun r => if r.2 = 0 then (if a < 0 ∨ a > 1024 then some ([], 1) else some (curveL r.1 a.toNat, 0)) else some ([], r.2)
theorem rcurve_j0 (D : List Int) (hD : D.length ≤ 1024) (hd : ∀ x ∈ D, 0 ≤ x ∧ x ≤ 2000) (a : Int) (h0 : 0 ≤ a) (h1 : a ≤ 1024) : Evn (fun k => cellarref27_Curve.j0 k a D false) (curveL D a.toNat, 0) := by
  obtain ⟨m, rfl⟩ := Int.eq_ofNat_of_zero_le h0
  rw [Int.toNat_natCast]
  refine Evn.step (fun k => ?_) (rcurve_l0 D hD hd m (by omega) D.length 0 (List.replicate (m + 1) 0) (by omega) (by simp) ?_)
  · simp only [cellarref27_Curve.j0]
    rw [if_neg (by decide), cw64' (n := (m : Int) + 1) (by omega) (by omega), if_pos (by omega), show ((m : Int) + 1).toNat = m + 1 by omega, if_pos (by omega)]; rfl
  · intro n hn
    rw [List.getD_eq_getElem?_getD, List.getElem?_replicate, if_pos (by omega)]; rfl
theorem rcurve_eq (l0 : List Int) (a : Int) (hl : l0.length < 4611686018427387904) (hw : ∀ x ∈ l0, 0 ≤ x ∧ x < 18446744073709551616) : ∃ r, curveF l0 a = some r ∧ Evn (fun k => cellarref27_Curve.f k l0 a) r := by
  obtain ⟨⟨r1, r2⟩, hd, K1, hK1⟩ := rdist_eq l0 hl hw
  unfold curveF
  rw [hd]
  simp only [Option.bind_some]
  by_cases c : r2 = 0
  · rw [if_pos c]
    by_cases c1 : a < 0 ∨ a > 1024
    · rw [if_pos c1]
      refine ⟨_, rfl, K1 + 1, fun k hk => ?_⟩
      have g := hK1 k (by omega)
      dsimp only at g
      simp only [cellarref27_Curve.f]
      rw [g]
      simp only [Option.bind_some]
      rw [if_pos c]
      obtain ⟨j, rfl⟩ : ∃ j, k = j + 1 := ⟨k - 1, by omega⟩
      by_cases c2 : a < 0
      · rw [if_pos c2]; simp only [cellarref27_Curve.j0]; rw [if_pos trivial]
      · rw [if_neg c2, decide_eq_true (by omega)]; simp only [cellarref27_Curve.j0]; rw [if_pos trivial]
    · rw [if_neg c1]
      obtain ⟨K2, hK2⟩ := rcurve_j0 r1 (distF_len hd) (distF_bd hd) a (by omega) (by omega)
      refine ⟨_, rfl, K1 + K2, fun k hk => ?_⟩
      have g := hK1 k (by omega)
      have g2 := hK2 k (by omega)
      dsimp only at g g2
      simp only [cellarref27_Curve.f]
      rw [g]
      simp only [Option.bind_some]
      rw [if_pos c, if_neg (by omega), decide_eq_false (by omega)]
      exact g2
  · rw [if_neg c]
    refine ⟨_, rfl, K1, fun k hk => ?_⟩
    have g := hK1 k (by omega)
    dsimp only at g
    simp only [cellarref27_Curve.f]
    rw [g]
    simp only [Option.bind_some]
    rw [if_neg c]
theorem mem_zs (x : Nat) (c : List Nat) : ((x : Nat) : Int) ∈ zs c ↔ x ∈ c := by
  unfold zs
  rw [List.mem_map]
  constructor
  · rintro ⟨y, hy, e⟩; obtain rfl : y = x := by omega
    exact hy
  · intro h; exact ⟨x, h, rfl⟩
theorem zs_erase (x : Nat) (c : List Nat) : (zs c).erase (x : Int) = zs (c.erase x) := by
  induction c with
  | nil => rfl
  | cons a c ih =>
    rw [zs_cons, List.erase_cons, List.erase_cons]
    by_cases e : a = x
    · subst e; simp
    · rw [if_neg (by simpa using (show ¬ (a : Int) = (x : Int) by omega)), if_neg (by simpa using e), zs_cons, ih]
theorem zs_take (c : List Nat) (n : Nat) : (zs c).take n = zs (c.take n) := by simp [zs, List.map_take]
theorem qst_zs (n : Nat) (c : List Nat) (h : Nat) : qst true n (zs c) (h : Int) = (zs (lruStep n c h).1, (lruStep n c h).2) := by
  unfold qst lruStep
  by_cases e : h ∈ c
  · rw [if_pos ((mem_zs h c).2 e), if_pos e, if_pos rfl, zs_erase, zs_cons, List.erase_eq_eraseIdx_of_idxOf rfl]
  · rw [if_neg (fun g => e ((mem_zs h c).1 g)), if_neg e, ← zs_cons, zs_take]
theorem qC_stk (L : List Nat) (n i : Nat) : qC L n true i = zs ((stk L i).take n) := by
  induction i with
  | zero => simp [qC, stk, zs]
  | succ i ih =>
    simp only [qC]
    rw [ih, qst_zs, lru_step]
theorem qH_dd (L : List Nat) (n i : Nat) : qH L n true (i + 1) = qH L n true i + (if 1 ≤ dd L i ∧ dd L i ≤ n then 1 else 0) := by
  simp only [qH]
  rw [qC_stk, qst_zs, lru_step]
  simp only [decide_eq_true_eq]
theorem qH_mono (L : List Nat) (n i : Nat) : qH L n true i ≤ qH L (n + 1) true i := by
  induction i with
  | zero => exact Nat.le_refl _
  | succ i ih =>
    rw [qH_dd, qH_dd]
    by_cases c : 1 ≤ dd L i ∧ dd L i ≤ n
    · rw [if_pos c, if_pos ⟨c.1, by omega⟩]; omega
    · rw [if_neg c]; split <;> omega
theorem outD_getD (L : List Nat) (n j : Nat) (h : j < n) : (outD L n).getD j 0 = ((dd L j : Nat) : Int) := by
  unfold outD
  rw [List.getD_eq_getElem?_getD, List.getElem?_map, List.getElem?_range h]; rfl
/-- MATTSON, for both counts. -/
theorem qH_hit (L : List Nat) (n m : Nat) : ∀ i, i ≤ m → ((qH L n true i : Nat) : Int) = hitI (outD L m) i n := by
  intro i
  induction i with
  | zero => intro _; rfl
  | succ i ih =>
    intro hi
    rw [qH_dd]
    simp only [hitI]
    rw [outD_getD L m i (by omega), ← ih (by omega)]
    by_cases c : 1 ≤ dd L i ∧ dd L i ≤ n
    · rw [if_pos c, if_pos ⟨by omega, by omega⟩]; rfl
    · rw [if_neg c, if_neg (by omega)]; omega
end Go.Proofs.Yteaidghanfjigaa.QCurveCurves
