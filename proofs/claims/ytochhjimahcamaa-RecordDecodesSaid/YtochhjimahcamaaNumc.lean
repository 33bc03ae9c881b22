/- Numbers out of bytes, of the document; a struct of four cells.
   No condition. -/
import Derived.Test.YtochhjimahcamaaDecFacts
import Derived.Test.YtochhjimahcamaaNumb
import Derived.ArgAppend
import Derived.Lib.SlBytesConst
import Derived.BigRegion
import Derived.Deep.QuietTactic
import Derived.BigQuiet
import Derived.Deep.RegionHeld3
import Derived.ChangeAlike
import Derived.RegionTactic
namespace Go.Proofs.Ytochhjimahcamaa.QRecordEncodes
open Geo Crc
open Go.RowKit Go.Proofs.YtochhjimahcamaaW.PrintWords Go.Proofs.YtochhjimahcamaaW.PrintLast Go.Proofs.YtochhjimahcamaaW.PrintMore
set_option linter.unusedVariables false
set_option linter.unusedSimpArgs false
theorem rd_at (bs : List Nat) (j : Nat) (hj : j < bs.length) : rd (ints bs) (j : Int) = ((bs[j] : Nat) : Int) := by
  unfold rd ints
  rw [Int.toNat_natCast, List.getD_eq_getElem?_getD, List.getElem?_map, List.getElem?_eq_getElem hj]
  rfl
theorem rnumber_l0 (bs : List Nat) (a n : Nat) (hb : Bytes bs) (hn : n ≤ 8) (ha : a + n ≤ bs.length) (hl : bs.length < 4611686018427387904) : ∀ (i k : Nat), i ≤ n → i < k →
    cellarref05_number.l0 k (ints bs) (a : Int) ((num (((bs.drop a).take n).drop i) : Nat) : Int) ((i : Int) - 1) = some ((num ((bs.drop a).take n) : Nat) : Int) := by
  have hB : Bytes ((bs.drop a).take n) := fun b h => hb b (List.mem_of_mem_drop (List.mem_of_mem_take h))
  have hlen : ((bs.drop a).take n).length = n := by rw [List.length_take, List.length_drop]; omega
  intro i
  induction i with
  | zero =>
    intro k hi hk
    obtain ⟨k, rfl⟩ := Nat.exists_eq_add_of_lt (Nat.zero_lt_of_lt hk)
    simp only [Nat.zero_add, cellarref05_number.l0]
    rw [if_neg (by omega), List.drop_zero]
  | succ i ih =>
    intro k hi hk
    obtain ⟨k, rfl⟩ := Nat.exists_eq_add_of_lt (Nat.zero_lt_of_lt hk)
    simp only [Nat.zero_add, cellarref05_number.l0]
    have hi' : i < ((bs.drop a).take n).length := by omega
    have hd : ((bs.drop a).take n).drop i = bs[a + i] :: ((bs.drop a).take n).drop (i + 1) := by
      rw [List.drop_eq_getElem_cons hi']
      simp
    have hbd := hb bs[a + i] (List.getElem_mem _)
    have hN : num (((bs.drop a).take n).drop i) < 18446744073709551616 := num_le8 _ (bytes_drop hB i) (by rw [List.length_drop]; omega)
    rw [hd] at hN
    simp only [num] at hN
    rw [if_pos (by omega), show (((i + 1 : Nat) : Int) - 1) = (i : Int) by omega, show (a : Int) + (i : Int) = ((a + i : Nat) : Int) by omega, cw64 (by omega) (by omega),
      if_pos (by omega), if_pos (by rw [ints_length]; omega), rd_at bs (a + i) (by omega)]
    have h := ih k (by omega) (by omega)
    rw [hd] at h
    simp only [num] at h
    rw [show ((num (((bs.drop a).take n).drop (i + 1)) : Nat) : Int) * 256 = ((num (((bs.drop a).take n).drop (i + 1)) * 256 : Nat) : Int) by omega, u64w (by omega), u64w (by omega),
      show ((num (((bs.drop a).take n).drop (i + 1)) * 256 : Nat) : Int) + ((bs[a + i] : Nat) : Int) = ((bs[a + i] + 256 * num (((bs.drop a).take n).drop (i + 1)) : Nat) : Int) by omega, u64w (by omega), w64 (by omega) (by omega)]
    exact h
theorem rnumber_eq (k : Nat) (bs : List Nat) (a n : Nat) (hb : Bytes bs) (hn : n ≤ 8) (ha : a + n ≤ bs.length) (hl : bs.length < 4611686018427387904) (hk : 8 < k) : cellarref05_number.f k (ints bs) (a : Int) (n : Int) = some ((num ((bs.drop a).take n) : Nat) : Int) := by
  unfold cellarref05_number.f
  rw [w64 (by omega) (by omega)]
  have h := rnumber_l0 bs a n hb hn ha hl n k (Nat.le_refl _) (by omega)
  rw [List.drop_eq_nil_of_le (by rw [List.length_take]; omega)] at h
  exact h
theorem rsame_l0 (xs : List Nat) : ∀ (bs pre : List Nat) (k : Nat), xs.length = bs.length → pre.length + xs.length < 4611686018427387904 → xs.length < k →
    cellarref05_same.l0 k (ints (pre ++ xs)) (ints (pre ++ bs)) (pre.length : Int) = some (decide (xs = bs)) := by
  induction xs with
  | nil =>
    intro bs pre k he hl hk
    obtain rfl : bs = [] := List.length_eq_zero_iff.1 he.symm
    obtain ⟨k, rfl⟩ := Nat.exists_eq_add_of_lt (Nat.zero_lt_of_lt hk)
    simp only [Nat.zero_add, cellarref05_same.l0]
    rw [if_neg (by rw [ints_length]; simp)]; rfl
  | cons x xs ih =>
    intro bs pre k he hl hk
    cases bs with
    | nil => simp at he
    | cons y bs =>
      simp only [List.length_cons] at hl hk he
      obtain ⟨k, rfl⟩ := Nat.exists_eq_add_of_lt (Nat.zero_lt_of_lt hk)
      simp only [Nat.zero_add, cellarref05_same.l0]
      rw [if_pos (by rw [ints_length, List.length_append, List.length_cons]; omega), if_pos (by omega), if_pos (by rw [ints_length, List.length_append, List.length_cons]; omega), rd_ints, rd_ints]
      by_cases hxy : x = y
      · subst hxy
        rw [if_pos rfl, cw64 (by omega) (by omega)]
        have h := ih bs (pre ++ [x]) k (by omega) (by simp only [List.length_append, List.length_cons, List.length_nil]; omega) (by omega)
        rw [List.append_assoc, List.singleton_append, List.append_assoc, List.singleton_append, List.length_append, List.length_singleton] at h
        rw [show ((pre.length : Int) + 1) = ((pre.length + 1 : Nat) : Int) from rfl]
        rw [h]
        simp
      · rw [if_neg (by omega), decide_eq_false (by simp [hxy])]
theorem rsame_eq (k : Nat) (xs bs : List Nat) (hl : xs.length < 4611686018427387904) (hk : xs.length < k) : cellarref05_same.f k (ints xs) (ints bs) = some (decide (xs = bs)) := by
  unfold cellarref05_same.f
  rw [ints_length, ints_length]
  by_cases he : xs.length = bs.length
  · rw [if_pos (by omega)]
    exact rsame_l0 xs bs [] k he (by simpa using hl) hk
  · rw [if_neg (by omega), decide_eq_false (fun h => he (by rw [h]))]
theorem put4 {w : World} {g : Nat} {t : TypeId} {c0 c1 c2 c3 : Value} (h : w.heap[g]? = some (.cells #[c0, c1, c2, c3] t (0, 0))) (u0 u1 u2 u3 : Value) :
    ((((w.setCell ⟨g, 0, none⟩ u0).setCell ⟨g, 1, none⟩ u1).setCell ⟨g, 2, none⟩ u2).setCell ⟨g, 3, none⟩ u3).heap[g]? = some (.cells #[u0, u1, u2, u3] t (0, 0)) :=
  blk_put (blk_put (blk_put (blk_put h 0 u0 rfl) 1 u1 rfl) 2 u2 rfl) 3 u3 rfl
theorem below4 {w W : World} {g : Nat} (h : Below w.heap.size w W) (hg : w.heap.size ≤ g) (u0 u1 u2 u3 : Value) : Below w.heap.size w ((((W.setCell ⟨g, 0, none⟩ u0).setCell ⟨g, 1, none⟩ u1).setCell ⟨g, 2, none⟩ u2).setCell ⟨g, 3, none⟩ u3) :=
  below_set (below_set (below_set (below_set h hg) hg) hg) hg
end Go.Proofs.Ytochhjimahcamaa.QRecordEncodes
