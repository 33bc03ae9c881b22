/- The document's Distances, and rows that are one: the plain facts.
   No condition. -/
import Derived.Test.YteaidghanfjigaaRingB
import Derived.Test.YteaidghanfjigaaQCurveCurvesx2
import Derived.ArgAppend
import Derived.BigRegion
import Derived.Deep.QuietTactic
import Derived.BigQuiet
import Derived.Deep.RegionHeld3
import Derived.ChangeAlike
import Derived.RegionTactic
import Derived.Maps.OwnSet
import Derived.Maps.OwnOps
import Derived.Deep.DeepCutAuto
import Derived.Deep.CutBlock
import Derived.Deep.RegionLaw
import Derived.StillTailTactics
namespace Go.Proofs.Yteaidghanfjigaa.QCurveCurves
open Go.RowKit Go.Proofs.YteaidghanfjigaaW.PrintWords Go.Proofs.YteaidghanfjigaaW.PrintLast Go.Proofs.YteaidghanfjigaaW.PrintMore
set_option linter.unusedVariables false
set_option linter.unusedSimpArgs false
/-- From some fuel on. -/
def Evn {α : Type} (g : Nat → Option α) (r : α) : Prop := ∃ K, ∀ k, K ≤ k → g k = some r
theorem Evn.step {α : Type} {g h : Nat → Option α} {r : α} (hs : ∀ k, g (k + 1) = h k) (hh : Evn h r) : Evn g r := by
  obtain ⟨K, hK⟩ := hh
  refine ⟨K + 1, fun k hk => ?_⟩
  obtain ⟨j, rfl⟩ : ∃ j, k = j + 1 := ⟨k - 1, by omega⟩
  rw [hs j]; exact hK j (by omega)
theorem Evn.of_eq {α : Type} {g : Nat → Option α} {r : α} (hs : ∀ k, g (k + 1) = some r) : Evn g r := ⟨1, fun k hk => by obtain ⟨j, rfl⟩ : ∃ j, k = j + 1 := ⟨k - 1, by omega⟩; exact hs j⟩
theorem zs_append (a b : List Nat) : zs (a ++ b) = zs a ++ zs b := by simp [zs]
theorem zs_cons (a : Nat) (b : List Nat) : zs (a :: b) = (a : Int) :: zs b := by simp [zs]
theorem zs_set (a : List Nat) (j v : Nat) : (zs a).set j (v : Int) = zs (a.set j v) := by simp [zs, List.map_set]
theorem set_erase (s : List Nat) : ∀ j, 0 < j → j < s.length → (s.set j (s.getD (j - 1) 0)).eraseIdx (j - 1) = s.eraseIdx j := by
  intro j h0 hj
  apply List.ext_getElem?
  intro i
  rw [List.getElem?_eraseIdx, List.getElem?_eraseIdx]
  by_cases c1 : i < j - 1
  · rw [if_pos c1, if_pos (by omega), List.getElem?_set, if_neg (by omega)]
  · rw [if_neg c1, List.getElem?_set]
    by_cases c2 : i + 1 = j
    · rw [if_pos (by omega), if_pos (by omega), if_pos (by omega), List.getD_eq_getElem?_getD, show j - 1 = i by omega, List.getElem?_eq_getElem (by omega)]; rfl
    · rw [if_neg (by omega), if_neg (by omega)]
theorem idxOf_ne (a : Nat) : ∀ (s : List Nat) (j : Nat), j < s.idxOf a → (hj : j < s.length) → s[j] ≠ a
  | [], j, _, hj => absurd hj (by simp)
  | b :: s, j, h, hj => by
    rw [List.idxOf_cons] at h
    by_cases c : (b == a) = true
    · rw [c] at h; simp at h
    · have c' : (b == a) = false := by simpa using c
      rw [c'] at h
      simp only [cond_false] at h
      cases j with
      | zero => simpa using c
      | succ j => exact idxOf_ne a s j (by omega) (by simpa using hj)
theorem rdist_l2 {L : List Nat} {i : Nat} (hi : i < L.length) (x4 : List Int) (x8 : Int) (hx : x4.length < 17592186044416) (r : List Int × Int) : ∀ (j : Nat) (s : List Nat), j < s.length → s.length < 5000 →
    Evn (fun k => cellarref27_Distances.l0 k (zs L) (x4 ++ [x8]) (zs (L.getD i 0 :: s.eraseIdx j)) (wrap64 ((i : Int) + 1))) r → Evn (fun k => cellarref27_Distances.l2 k (zs L) x4 (zs s) (i : Int) x8 (j : Int)) r := by
  intro j
  induction j with
  | zero =>
    intro s hj hs h
    refine Evn.step (fun k => ?_) h
    simp only [cellarref27_Distances.l2]
    rw [if_neg (by decide), if_pos (by omega), if_pos (by rw [zs_length]; omega), if_pos (by rw [zs_length]; omega), if_pos hx, rd_zs]
    cases s with
    | nil => simp at hj
    | cons a s => simp [zs]
  | succ j ih =>
    intro s hj hs h
    refine Evn.step (h := fun k => cellarref27_Distances.l2 k (zs L) x4 (zs (s.set (j + 1) (s.getD j 0))) (i : Int) x8 (j : Int)) (fun k => ?_) (ih _ (by rw [List.length_set]; omega) (by rw [List.length_set]; omega) ?_)
    · simp only [cellarref27_Distances.l2]
      rw [show (((j + 1 : Nat) : Int) - 1) = (j : Int) by omega, cw64' (n := (j : Int)) (by omega) (by omega), if_pos (by omega), if_pos (by omega), if_pos (by rw [zs_length]; omega), if_pos (by omega), if_pos (by rw [zs_length]; omega), rd_zs, Int.toNat_natCast, zs_set]
    · have := set_erase s (j + 1) (by omega) hj
      rw [Nat.add_sub_cancel] at this
      rw [this]; exact h
theorem rdist_l1 {L : List Nat} {i : Nat} (hi : i < L.length) (x4 : List Int) (s : List Nat) (hs : s.length < 5000) (r : List Int × Int) (h : Evn (fun k => cellarref27_Distances.j2 k (zs L) x4 (zs s) (i : Int) ((s.idxOf (L.getD i 0) : Nat) : Int)) r) :
    ∀ (d j : Nat), j + d = s.idxOf (L.getD i 0) → Evn (fun k => cellarref27_Distances.l1 k (zs L) x4 (zs s) (i : Int) (j : Int)) r := by
  intro d
  induction d with
  | zero =>
    intro j hj
    obtain rfl : j = s.idxOf (L.getD i 0) := by omega
    refine Evn.step (fun k => ?_) h
    simp only [cellarref27_Distances.l1]
    by_cases c : s.idxOf (L.getD i 0) < s.length
    · rw [if_pos (by rw [zs_length]; omega), if_pos (by omega), if_pos (by omega), if_pos (by rw [zs_length]; omega), rd_zs, rd_zs, if_pos]
      rw [List.getD_eq_getElem?_getD, List.getElem?_eq_getElem c, Option.getD_some]
      have := List.getElem_idxOf c
      rw [this]
    · rw [if_neg (by rw [zs_length]; omega)]
  | succ d ih =>
    intro j hj
    have hlt : j < s.length := by have := List.idxOf_le_length (a := L.getD i 0) (l := s); omega
    refine Evn.step (h := fun k => cellarref27_Distances.l1 k (zs L) x4 (zs s) (i : Int) ((j + 1 : Nat) : Int)) (fun k => ?_) (ih (j + 1) (by omega))
    simp only [cellarref27_Distances.l1]
    rw [if_pos (by rw [zs_length]; omega), if_pos (by omega), if_pos (by omega), if_pos (by rw [zs_length]; omega), rd_zs, rd_zs, if_neg, cw64' (by omega) (by omega)]
    · rfl
    · intro e
      have hne : s[j] ≠ L.getD i 0 := idxOf_ne _ _ _ (by omega) hlt
      rw [List.getD_eq_getElem?_getD, List.getElem?_eq_getElem hlt, Option.getD_some] at e
      exact hne (by omega)
theorem stk_length (L : List Nat) (i : Nat) : (stk L i).length ≤ i := by
  induction i with
  | zero => exact Nat.le_refl _
  | succ i ih =>
    simp only [stk, stackStep]
    split
    · rename_i h
      rw [List.length_cons, List.length_eraseIdx]
      have := List.idxOf_lt_length_of_mem h
      rw [if_pos this]; omega
    · simp; omega
theorem rdist_l0 {L : List Nat} (hL : L.length ≤ 1024) : ∀ (d i : Nat), i + d = L.length → Evn (fun k => cellarref27_Distances.l0 k (zs L) (outD L i) (zs (stk L i)) (i : Int)) (outD L L.length, 0) := by
  intro d
  induction d with
  | zero =>
    intro i hi
    obtain rfl : i = L.length := by omega
    refine Evn.of_eq (fun k => ?_)
    simp only [cellarref27_Distances.l0]
    rw [if_neg (by rw [zs_length]; omega)]
  | succ d ih =>
    intro i hi
    have hil : i < L.length := by omega
    have hsl := stk_length L i
    have hol := outD_length L i
    refine Evn.step (h := fun k => cellarref27_Distances.l1 k (zs L) (outD L i) (zs (stk L i)) (i : Int) ((0 : Nat) : Int)) (fun k => ?_) (rdist_l1 hil (outD L i) (stk L i) (by omega) _ ?_ ((stk L i).idxOf (L.getD i 0)) 0 (by omega))
    · simp only [cellarref27_Distances.l0]
      rw [if_pos (by rw [zs_length]; omega)]; rfl
    · have hnext := ih (i + 1) (by omega)
      rw [outD_succ] at hnext
      by_cases c : L.getD i 0 ∈ stk L i
      · have hlt := List.idxOf_lt_length_of_mem c
        have hdd : dd L i = (stk L i).idxOf (L.getD i 0) + 1 := by unfold dd stackStep; rw [if_pos c]
        have hst : stk L (i + 1) = L.getD i 0 :: (stk L i).eraseIdx ((stk L i).idxOf (L.getD i 0)) := by simp only [stk, stackStep]; rw [if_pos c]
        rw [hdd, hst] at hnext
        refine Evn.step (h := fun k => cellarref27_Distances.j3 k (zs L) (outD L i) (zs (stk L i)) (i : Int) (((stk L i).idxOf (L.getD i 0) : Nat) : Int) (((stk L i).idxOf (L.getD i 0) + 1 : Nat) : Int)) (fun k => ?_) (Evn.step (fun k => ?_) (rdist_l2 hil (outD L i) (((stk L i).idxOf (L.getD i 0) + 1 : Nat) : Int) (by omega) _ _ (stk L i) hlt (by omega) ?_))
        · simp only [cellarref27_Distances.j2]
          rw [if_neg (by rw [zs_length]; omega), cw64' (by omega) (by omega)]; rfl
        · simp only [cellarref27_Distances.j3]
        · rw [cw64' (by omega) (by omega)]; exact hnext
      · have hix : (stk L i).idxOf (L.getD i 0) = (stk L i).length := List.idxOf_eq_length c
        have hdd : dd L i = 0 := by unfold dd stackStep; rw [if_neg c]
        have hst : stk L (i + 1) = L.getD i 0 :: stk L i := by simp only [stk, stackStep]; rw [if_neg c]
        rw [hdd, hst] at hnext
        rw [hix]
        refine Evn.step (h := fun k => cellarref27_Distances.j3 k (zs L) (outD L i) (zs (stk L i ++ [0])) (i : Int) (((stk L i).length : Nat) : Int) 0) (fun k => ?_) (Evn.step (fun k => ?_) (rdist_l2 hil (outD L i) 0 (by omega) _ (stk L i).length (stk L i ++ [0]) (by simp) (by simp; omega) ?_))
        · simp only [cellarref27_Distances.j2]
          rw [if_pos (by rw [zs_length]), if_pos (by rw [zs_length]; omega), zs_append]; rfl
        · simp only [cellarref27_Distances.j3]
        · rw [cw64' (by omega) (by omega), List.eraseIdx_append_of_length_le (Nat.le_refl _), Nat.sub_self]
          simpa using hnext
theorem rdist_eq (l0 : List Int) (hl : l0.length < 4611686018427387904) (hw : ∀ x ∈ l0, 0 ≤ x ∧ x < 18446744073709551616) : ∃ r, distF l0 = some r ∧ Evn (fun k => cellarref27_Distances.f k l0) r := by
  unfold distF
  by_cases c : (l0.length : Int) > 1024
  · rw [if_pos c]
    exact ⟨_, rfl, 0, fun k _ => by simp only [cellarref27_Distances.f]; rw [if_pos c]⟩
  · rw [if_neg c, if_pos hw]
    refine ⟨_, rfl, ?_⟩
    have e := zs_toNat hw
    have hlen : (l0.map Int.toNat).length = l0.length := List.length_map ..
    obtain ⟨K, hK⟩ := rdist_l0 (L := l0.map Int.toNat) (by rw [hlen]; omega) l0.length 0 (by rw [hlen]; omega)
    refine ⟨K, fun k hk => ?_⟩
    have h := hK k hk
    rw [e, hlen] at h
    simp only [cellarref27_Distances.f]
    rw [if_neg c]
    exact h
theorem same_l0 (xs : List Int) (hx : xs.length < 4611686018427387904) : ∀ (d j : Nat), j + d = xs.length → Evn (fun k => cellarlaw27_same.l0 k xs xs (j : Int)) true := by
  intro d
  induction d with
  | zero =>
    intro j hj
    exact Evn.of_eq (fun k => by simp only [cellarlaw27_same.l0]; rw [if_neg (by omega)])
  | succ d ih =>
    intro j hj
    refine Evn.step (fun k => ?_) (ih (j + 1) (by omega))
    simp only [cellarlaw27_same.l0]
    rw [if_pos (by omega), if_pos (by omega), if_pos (by omega), if_pos trivial, cw64' (by omega) (by omega)]; rfl
theorem same_refl (xs : List Int) (hx : xs.length < 4611686018427387904) : Evn (fun k => cellarlaw27_same.f k xs xs) true := by
  obtain ⟨K, hK⟩ := same_l0 xs hx xs.length 0 (by omega)
  exact ⟨K, fun k hk => by simp only [cellarlaw27_same.f]; rw [if_pos trivial]; exact hK k hk⟩
theorem distF_len {l0 r1 : List Int} {r2 : Int} (h : distF l0 = some (r1, r2)) : r1.length ≤ 1024 := by
  unfold distF at h
  split at h
  · injection h with h; injection h with h1 h2; subst h1; simp
  · split at h
    · injection h with h; injection h with h1 h2; subst h1; rw [outD_length]; omega
    · cases h
end Go.Proofs.Yteaidghanfjigaa.QCurveCurves
