/- The walks over a Hasher: made, a full block taken in, bytes written.
   No condition. -/
import Derived.Test.YtbnbpnnpbnpidaaQSumHashesx1
import Derived.Test.YtbnbpnnpbnpidaaHash
import Derived.IntWalk
import Derived.StillTailTactics
import Derived.Laws.CopyOwn
import Derived.Laws.BitsAllLaws
namespace Go.Proofs.Ytbnbpnnpbnpidaa.Hasher
open Go.Proofs.Ytbnbpnnpbnpidaa.QSumHashes
open Go.RowKit Go.Proofs.YtbnbpnnpbnpidaaW.PrintWords Go.Proofs.YtbnbpnnpbnpidaaW.PrintLast Go.Proofs.YtbnbpnnpbnpidaaW.PrintMore
/-- The cells of a hasher. -/
def hcells (seed : Int) (lanes left : List Int) (kept total : Int) : List Value := .int .u64 seed :: (nums .u64 lanes ++ (nums .u8 left ++ [.int .i64 kept, .int .u64 total]))
theorem hcells_length {seed kept total : Int} {lanes left : List Int} (h4 : lanes.length = 4) (h32 : left.length = 32) : (hcells seed lanes left kept total).length = 39 := by
  simp [hcells, nums, h4, h32]
/-- A hasher's block. -/
def HB (w : World) (g : Nat) (seed : Int) (lanes left : List Int) (kept total : Int) : Prop := w.heap[g]? = some (.cells (hcells seed lanes left kept total).toArray 65 (0, 0))
def zeros32 : List Int := List.replicate 32 0
section
variable {seed kept total : Int} {lanes left : List Int} (h4 : lanes.length = 4) (h32 : left.length = 32)
include h4
theorem hc_lane (i : Nat) (hi : i < 4) : (hcells seed lanes left kept total).toArray[1 + i]? = some (.int .u64 (lanes.getD i 0)) := by
  rw [List.getElem?_toArray]
  unfold hcells
  rw [Nat.add_comm, List.getElem?_cons_succ, List.getElem?_append_left (by rw [nums_length]; omega), nums, List.getElem?_map, List.getElem?_eq_getElem (by omega), List.getD_eq_getElem?_getD, List.getElem?_eq_getElem (by omega)]
  rfl
theorem hc_set_lane (i : Nat) (hi : i < 4) (v : Int) : (hcells seed lanes left kept total).toArray.setIfInBounds (1 + i) (.int .u64 v) = (hcells seed (lanes.set i v) left kept total).toArray := by
  rw [List.setIfInBounds_toArray]
  unfold hcells
  rw [Nat.add_comm, List.set_cons_succ, List.set_append_left _ _ (by rw [nums_length]; omega)]
  unfold nums
  rw [List.map_set]
include h32
theorem hc_left (j : Nat) (hj : j < 32) : (hcells seed lanes left kept total).toArray[5 + j]? = some (.int .u8 (left.getD j 0)) := by
  rw [List.getElem?_toArray]
  unfold hcells
  rw [show 5 + j = (4 + j) + 1 by omega, List.getElem?_cons_succ, List.getElem?_append_right (by rw [nums_length]; omega), nums_length, h4, Nat.add_sub_cancel_left, List.getElem?_append_left (by rw [nums_length]; omega), nums, List.getElem?_map, List.getElem?_eq_getElem (by omega), List.getD_eq_getElem?_getD, List.getElem?_eq_getElem (by omega)]
  rfl
theorem hc_kept : (hcells seed lanes left kept total).toArray[37]? = some (.int .i64 kept) := by
  rw [List.getElem?_toArray]
  unfold hcells
  rw [show 37 = 36 + 1 from rfl, List.getElem?_cons_succ, List.getElem?_append_right (by rw [nums_length]; omega), nums_length, h4, List.getElem?_append_right (by rw [nums_length]; omega), nums_length, h32]
  rfl
theorem hc_total : (hcells seed lanes left kept total).toArray[38]? = some (.int .u64 total) := by
  rw [List.getElem?_toArray]
  unfold hcells
  rw [show 38 = 37 + 1 from rfl, List.getElem?_cons_succ, List.getElem?_append_right (by rw [nums_length]; omega), nums_length, h4, List.getElem?_append_right (by rw [nums_length]; omega), nums_length, h32]
  rfl
theorem hc_set_kept (v : Int) : (hcells seed lanes left kept total).toArray.setIfInBounds 37 (.int .i64 v) = (hcells seed lanes left v total).toArray := by
  rw [List.setIfInBounds_toArray]
  unfold hcells
  rw [show 37 = 36 + 1 from rfl, List.set_cons_succ, List.set_append_right _ _ (by rw [nums_length]; omega), nums_length, h4, List.set_append_right _ _ (by rw [nums_length]; omega), nums_length, h32]
  rfl
theorem hc_set_total (v : Int) : (hcells seed lanes left kept total).toArray.setIfInBounds 38 (.int .u64 v) = (hcells seed lanes left kept v).toArray := by
  rw [List.setIfInBounds_toArray]
  unfold hcells
  rw [show 38 = 37 + 1 from rfl, List.set_cons_succ, List.set_append_right _ _ (by rw [nums_length]; omega), nums_length, h4, List.set_append_right _ _ (by rw [nums_length]; omega), nums_length, h32]
  rfl
/-- What is left reads as bytes, from any place on. -/
theorem HB.reads {w : World} {g : Nat} (h : HB w g seed lanes left kept total) (j : Nat) (hj : j ≤ 32) (n : Nat) (hn : n ≤ 32 - j) : Kd.C (Kd.int .u8) w (some ⟨g, 5 + j, none⟩) n ((left.drop j).take n) := by
  refine ⟨by rw [List.length_take, List.length_drop, h32]; omega, by omega, fun _ => ⟨_, rfl, fun i p hp => ⟨[.int .u8 p], rfl, rfl, fun i2 u hu => ?_⟩⟩⟩
  obtain ⟨rfl, rfl⟩ : i2 = 0 ∧ u = .int .u8 p := by
    cases i2 with
    | zero => exact ⟨rfl, by simpa using hu.symm⟩
    | succ i2 => simp at hu
  have hi : i < n := by
    have := (List.getElem?_eq_some_iff.1 hp).1
    rw [List.length_take] at this; omega
  have e : ((⟨g, 5 + j, none⟩ : Addr).add (i * 1 + 0)) = ⟨g, 5 + (j + i), none⟩ := by simp [Addr.add, Nat.add_assoc]
  show w.cell? ((⟨g, 5 + j, none⟩ : Addr).add (i * 1 + 0)) = _
  rw [e, blk_cell h, hc_left h4 h32 (j + i) (by omega)]
  rw [List.getElem?_take_of_lt hi, List.getElem?_drop] at hp
  rw [List.getD_eq_getElem?_getD, hp]; rfl
end
theorem HB.seed_cell {w : World} {g : Nat} {seed kept total : Int} {lanes left : List Int} (h : HB w g seed lanes left kept total) : w.cell? ⟨g, 0, none⟩ = some (.int .u64 seed) := by
  rw [blk_cell h]; rfl
set_option maxHeartbeats 1000000 in
set_option maxRecDepth 100000 in
theorem newHasher_walk (s : Int) (w : World) : Calls Try.prog 29 #[.int .u64 s] w fun e w' =>
    e = .returned (.pointer (some ⟨w.heap.size, 0, none⟩)) ∧ HB w' w.heap.size s [IntKind.u64.wrap (IntKind.u64.wrap (s + 11400714785074694791) + 14029467366897019727), IntKind.u64.wrap (s + 14029467366897019727), s, IntKind.u64.wrap (s - 11400714785074694791)] zeros32 0 0 ∧ Below w.heap.size w w' := by
  go_enter Try.func29, Try.ntmps29
  go_wp2
  go_ret
  exact ⟨rfl, blk_new w _, below_alloc (Below.refl _ w) _⟩
end Go.Proofs.Ytbnbpnnpbnpidaa.Hasher
namespace Go.Proofs.Ytbnbpnnpbnpidaa.QSumHashes
open Go.RowKit Go.Proofs.YtbnbpnnpbnpidaaW.PrintWords Go.Proofs.YtbnbpnnpbnpidaaW.PrintLast Go.Proofs.YtbnbpnnpbnpidaaW.PrintMore
attribute [local go_sem] max2_int min2_int max_two min_two max_three min_three max_four min_four
set_option linter.unusedVariables false
set_option linter.unusedSimpArgs false
set_option maxHeartbeats 8000000 in
set_option maxRecDepth 100000 in
theorem bits_RotateLeft64.still (a0 : Int) (a1 : Int) (r : Int) (w : World) (h : bits_RotateLeft64.f a0 a1 = some r) :
    Calls Try.prog 49 #[.int .u64 a0, .int .i64 a1] w fun e w' => e = .returned (.int .u64 r) ∧ w = w' := by
  have H : (if 0 ≤ (Go.bits .and .u64 (IntKind.u64.wrap (a1)) 63) then (if 0 ≤ (IntKind.u64.wrap (64 - (Go.bits .and .u64 (IntKind.u64.wrap (a1)) 63))) then (some (Go.bits .or .u64 (shl .u64 a0 (Go.bits .and .u64 (IntKind.u64.wrap (a1)) 63)) (shr .u64 a0 (IntKind.u64.wrap (64 - (Go.bits .and .u64 (IntKind.u64.wrap (a1)) 63)))))) else (none)) else (none)) = some r := h
  clear h
  obtain ⟨ji3, hji3⟩ : ∃ j_ : Int, (Go.bits .and .u64 (IntKind.u64.wrap (a1)) 63) = j_ := ⟨_, rfl⟩
  replace H : (if 0 ≤ (ji3) then (if 0 ≤ (IntKind.u64.wrap (64 - (ji3))) then (some (Go.bits .or .u64 (shl .u64 a0 (ji3)) (shr .u64 a0 (IntKind.u64.wrap (64 - (ji3)))))) else (none)) else (none)) = some r := by first | (rw [hji3] at H; exact H) | (simp only [hji3] at H ⊢; exact H)
  by_cases c4 : 0 ≤ (ji3)
  · rw [if_pos c4] at H
    have c4b0 := eq_true c4
    have c4b1 : decide (0 ≤ (ji3)) = true := decide_eq_true c4
    clear c4
    obtain ⟨ji5, hji5⟩ : ∃ j_ : Int, (shl .u64 a0 (ji3)) = j_ := ⟨_, rfl⟩
    replace H : (if 0 ≤ (IntKind.u64.wrap (64 - (ji3))) then (some (Go.bits .or .u64 (ji5) (shr .u64 a0 (IntKind.u64.wrap (64 - (ji3)))))) else (none)) = some r := by first | (rw [hji5] at H; exact H) | (simp only [hji5] at H ⊢; exact H)
    have hji5_ : (IntKind.u64.wrap (a0 * 2 ^ min (ji3).toNat 64)) = ji5 := hji5
    have hji5z : (ji3) ≤ 64 → (IntKind.u64.wrap (a0 * 2 ^ (ji3).toNat)) = ji5 := shl_small hji5
    obtain ⟨ji6, hji6⟩ : ∃ j_ : Int, (IntKind.u64.wrap (64 - (ji3))) = j_ := ⟨_, rfl⟩
    replace H : (if 0 ≤ (ji6) then (some (Go.bits .or .u64 (ji5) (shr .u64 a0 (ji6)))) else (none)) = some r := by first | (rw [hji6] at H; exact H) | (simp only [hji6] at H ⊢; exact H)
    by_cases c7 : 0 ≤ (ji6)
    · rw [if_pos c7] at H
      have c7b0 := eq_true c7
      have c7b1 : decide (0 ≤ (ji6)) = true := decide_eq_true c7
      clear c7
      obtain ⟨ji8, hji8⟩ : ∃ j_ : Int, (shr .u64 a0 (ji6)) = j_ := ⟨_, rfl⟩
      replace H : (some (Go.bits .or .u64 (ji5) (ji8))) = some r := by first | (rw [hji8] at H; exact H) | (simp only [hji8] at H ⊢; exact H)
      have hji8_ : (a0 / 2 ^ min (ji6).toNat 64) = ji8 := hji8
      have hji8z : (ji6) ≤ 64 → (a0 / 2 ^ (ji6).toNat) = ji8 := shr_small hji8
      obtain rfl := Option.some.inj H
      go_enter Try.func49, Try.ntmps49
      go_wp2
      go_ret
      exact ⟨by first | rfl | (simp; done) | (simp only [← hji3, ← hji5, ← hji6, ← hji8] <;> (first | rfl | simp)) | (simp [*]; done), rfl⟩
    · rw [if_neg c7] at H
      exact absurd H (by simp)
  · rw [if_neg c4] at H
    exact absurd H (by simp)


set_option maxHeartbeats 8000000 in
set_option maxRecDepth 100000 in
theorem sum_round.still (a0 : Int) (a1 : Int) (r : Int) (w : World) (h : sum_round.f a0 a1 = some r) :
    Calls Try.prog 50 #[.int .u64 a0, .int .u64 a1] w fun e w' => e = .returned (.int .u64 r) ∧ w = w' := by
  have H : ((bits_RotateLeft64.f (IntKind.u64.wrap (a0 + (IntKind.u64.wrap (a1 * 14029467366897019727)))) 31).bind fun t104 => (some (IntKind.u64.wrap (t104 * 11400714785074694791)))) = some r := h
  clear h
  replace H := Option.bind_eq_some_iff.mp H
  obtain ⟨t104, A30, H⟩ := H
  replace H : (some (IntKind.u64.wrap (t104 * 11400714785074694791))) = some r := H
  have A3 := Aside0.mk A30
  clear A30
  obtain rfl := Option.some.inj H
  go_enter Try.func50, Try.ntmps50
  go_wp2_with (first | ((with_reducible refine gate_callee (f := 49) rfl ?_); refine goesL_ (some 9) rfl rfl Try.func49 (by kernel_rfl) rfl #[.int .u64 (IntKind.u64.wrap (a0 + (IntKind.u64.wrap (a1 * 14029467366897019727)))), .int .i64 31] rfl (by (try simp only [List.map_toArray, List.map_cons, List.map_nil]); first | done | rfl | (simp only [List.length_drop, List.length_take]; rfl)) ?_; (with_reducible refine (bits_RotateLeft64.still (IntKind.u64.wrap (a0 + (IntKind.u64.wrap (a1 * 14029467366897019727)))) 31 t104 _ A3.out).mono ?_); rintro e w' ⟨rfl, rfl⟩; refine ⟨_, rfl, ?_⟩))
  go_ret
  exact ⟨by first | rfl | (simp; done) | (simp [*]; done), rfl⟩


set_option maxHeartbeats 8000000 in
set_option maxRecDepth 100000 in
theorem sum_word.still (k : Nat) (A0 : Option Addr) (c0 : Nat) (l0 : List Int) (a1 : Int) (r : Int) (w : World) (hr0 : Kd.C (Kd.int .u8) w A0 l0.length l0) (hc0 : l0.length ≤ c0) (h : sum_word.f k l0 a1 = some r) :
    Calls Try.prog 51 #[.slice A0 l0.length c0, .int .i64 a1] w fun e w' => e = .returned (.int .u64 r) ∧ w = w' := by
  have HR0 := Aside0.mk hr0
  have HC0 := Aside0.mk hc0
  clear hr0 hc0
  have H : (sum_word.l0 k l0 0 (wrap64 (a1 - 1))) = some r := h
  clear h
  have H' := Aside0.mk H
  clear H
  go_enter Try.func51, Try.ntmps51
  go_wp2
  go_loopg [5, 6] k (fun kq v5 v6 w' => ∃ (x5_1 : Int) (x6_1 : Int), v5 = .int .u64 x5_1 ∧ v6 = .int .i64 x6_1 ∧ Aside0 (sum_word.l0 kq l0 x5_1 x6_1 = some r) ∧ Aside0 (kq ≤ k) ∧ w = w')
  case atStart => exact ⟨(0), (wrap64 (a1 - 1)), (by first | rfl | (simp; done) | (simp [*]; done)), (by first | rfl | (simp; done) | (simp [*]; done)), H', ⟨Nat.le_refl _⟩, rfl⟩
  case round =>
    clear H'
    try clear p2
    obtain ⟨x5_1, x6_1, rfl, rfl, HA, HK1, rfl⟩ := hrel
    cases gk with
    | zero => exact absurd HA.out (by simp [sum_word.l0])
    | succ k1 =>
      have H := HA.out
      clear HA
      simp only [sum_word.l0] at H
      by_cases c3 : x6_1 ≥ 0
      · rw [if_pos c3] at H
        have c3b0 : decide (0 ≤ x6_1) = true := decide_eq_true c3
        clear c3
        by_cases c4 : 0 ≤ x6_1
        · rw [if_pos c4] at H
          have c4b0 : decide (0 ≤ x6_1) = true := decide_eq_true c4
          clear c4
          by_cases c5 : x6_1 < (l0.length : Int)
          · rw [if_pos c5] at H
            have c5b0 : decide (x6_1 < (l0.length : Int)) = true := decide_eq_true c5
            clear c5
            have H' := Aside0.mk H
            clear H
            have p105 : 0 ≤ (x6_1 : Int) := of_decide_eq_true (by first | (with_reducible assumption) | assumption)
            have q105 : x6_1 < (l0.length : Int) := of_decide_eq_true (by first | (with_reducible assumption) | assumption)
            obtain ⟨ad105, e105, hx105_0⟩ := Kd.at_int HR0.out x6_1 p105 q105
            cases e105
            replace p105 := eq_true p105
            replace q105 := eq_true q105
            go_wp2
            go_roundg k1
            case measure => have := HK1.out; omega
            case rel => exact ⟨(Go.bits .or .u64 (IntKind.u64.wrap (x5_1 * 256)) (IntKind.u64.wrap (rd l0 x6_1))), (wrap64 (x6_1 - 1)), (by first | rfl | (simp; done) | (simp [*]; done)), (by first | rfl | (simp; done) | (simp [*]; done)), H', ⟨by have := HK1.out; omega⟩, rfl⟩
          · rw [if_neg c5] at H
            exact absurd H (by simp)
        · rw [if_neg c4] at H
          exact absurd H (by simp)
      · rw [if_neg c3] at H
        have c3b0 : decide (0 ≤ x6_1) = false := decide_eq_false c3
        clear c3
        obtain rfl := Option.some.inj H
        go_wp2
        go_ret
        exact ⟨by first | rfl | (simp; done) | (simp [*]; done), rfl⟩



end Go.Proofs.Ytbnbpnnpbnpidaa.QSumHashes
namespace Go.Proofs.Ytbnbpnnpbnpidaa.Hasher
open Go.Proofs.Ytbnbpnnpbnpidaa.QSumHashes
open Go.RowKit Go.Proofs.YtbnbpnnpbnpidaaW.PrintWords Go.Proofs.YtbnbpnnpbnpidaaW.PrintLast Go.Proofs.YtbnbpnnpbnpidaaW.PrintMore
/-- The lanes behind i rounds. -/
def lanesAt (lanes : List Int) (R : Nat → Int) (i : Nat) : List Int := (List.range 4).map fun j => if j < i then R j else lanes.getD j 0
theorem lanesAt_length (lanes : List Int) (R : Nat → Int) (i : Nat) : (lanesAt lanes R i).length = 4 := by simp [lanesAt]
theorem lanesAt_get (lanes : List Int) (R : Nat → Int) (i : Nat) (hi : i < 4) : (lanesAt lanes R i).getD i 0 = lanes.getD i 0 := by
  unfold lanesAt
  rw [List.getD_eq_getElem?_getD, List.getElem?_map, List.getElem?_range hi]
  simp
theorem lanesAt_set (lanes : List Int) (R : Nat → Int) (i : Nat) (hi : i < 4) : (lanesAt lanes R i).set i (R i) = lanesAt lanes R (i + 1) := by
  rcases (show i = 0 ∨ i = 1 ∨ i = 2 ∨ i = 3 by omega) with rfl | rfl | rfl | rfl <;> rfl
theorem lanesAt_zero (lanes : List Int) (R : Nat → Int) (h : lanes.length = 4) : lanesAt lanes R 0 = lanes := by
  match lanes, h with
  | [a, b, c, d], _ => rfl
theorem grown_trans {w w1 w2 : World} {r : Option Nat} (h : w.grownBy w1 r) (k : w1.grownBy w2 r) : w.grownBy w2 r :=
  ⟨k.os.trans h.os, k.tape.trans h.tape, k.output.trans h.output, Nat.le_trans h.size k.size, fun i hi hn => (k.block i (Nat.lt_of_lt_of_le hi h.size) hn).trans (h.block i hi hn)⟩
theorem grown_refl (w : World) (r : Option Nat) : w.grownBy w r := ⟨rfl, rfl, rfl, Nat.le_refl _, fun _ _ _ => rfl⟩
theorem grown_drewN {w w1 : World} {r : Option Nat} (h : w.grownBy w1 r) (n : Nat) : w.grownBy (w1.drewN n) r := ⟨h.os, h.tape, h.output, h.size, h.block⟩
theorem grown_drew {w w1 : World} {r : Option Nat} (h : w.grownBy w1 r) : w.grownBy w1.drew r := ⟨h.os, h.tape, h.output, h.size, h.block⟩
theorem grown_set {w w1 : World} {g : Nat} (h : w.grownBy w1 (some g)) (i : Nat) (v : Value) : w.grownBy (w1.setCell ⟨g, i, none⟩ v) (some g) :=
  grown_trans h ⟨rfl, rfl, rfl, by simp [World.setCell], fun k _ hn => Below.heap_setCell w1 ⟨g, i, none⟩ v k (fun e => hn (by rw [e]))⟩
set_option maxHeartbeats 4000000 in
set_option maxRecDepth 100000 in
theorem full_walk (g : Nat) (seed kept total : Int) (lanes left : List Int) (h4 : lanes.length = 4) (h32 : left.length = 32) (k : Nat) (W R : Nat → Int)
    (hW : ∀ i, i < 4 → sum_word.f k ((left.drop (8 * i)).take (32 - 8 * i)) 8 = some (W i)) (hR : ∀ i, i < 4 → sum_round.f (lanes.getD i 0) (W i) = some (R i)) (w : World) (hB : HB w g seed lanes left kept total) :
    Calls Try.prog 47 #[.pointer (some ⟨g, 0, none⟩)] w fun e w' => e = .returned (.tuple #[]) ∧ HB w' g seed (lanesAt lanes R 4) left 0 total ∧ w.grownBy w' (some g) := by
  have HB0 := Aside0.mk (show HB w g seed (lanesAt lanes R 0) left kept total by rw [lanesAt_zero _ _ h4]; exact hB)
  have HW := Aside0.mk hW
  have HR := Aside0.mk hR
  clear hB hW hR
  go_enter Try.func47, Try.ntmps47
  go_wp2
  go_loopw [3] (fun v wr => ∃ i : Nat, i ≤ 4 ∧ v = .int .i64 i ∧ Aside0 (HB wr g seed (lanesAt lanes R i) left kept total) ∧ Aside0 (w.grownBy wr (some g))) (fun v _ => 4 - (intOf v).toNat)
  case atStart => exact ⟨0, by omega, rfl, HB0, ⟨grown_refl _ _⟩⟩
  case round =>
    clear HB0
    obtain ⟨i, hi, rfl, HB1, HG⟩ := hrel
    by_cases hlt : i < 4
    · obtain ⟨li, hli⟩ : ∃ x, lanes.getD i 0 = x := ⟨_, rfl⟩
      obtain ⟨wi, hwi⟩ : ∃ x, W i = x := ⟨_, rfl⟩
      obtain ⟨ri, hri⟩ : ∃ x, R i = x := ⟨_, rfl⟩
      have hw := HW.out i hlt
      have hr := HR.out i hlt
      have hcell : wr.cell? ⟨g, 1 + i, none⟩ = some (.int .u64 li) := by rw [blk_cell HB1.out, hc_lane (lanesAt_length _ _ _) i hlt, lanesAt_get _ _ _ hlt, hli]
      have hput := Aside0.mk (blk_put HB1.out (1 + i) (.int .u64 ri) (cs' := (hcells seed (lanesAt lanes R (i + 1)) left kept total).toArray) (by rw [hc_set_lane (lanesAt_length _ _ _) i hlt, ← hri, lanesAt_set _ _ _ hlt]))
      rw [hwi] at hw
      rw [hwi, hri, hli] at hr
      have HWi := Aside0.mk hw
      have HRi := Aside0.mk hr
      have HC := Aside0.mk (HB1.out.reads (lanesAt_length _ _ _) h32 (8 * i) (by omega) (32 - 8 * i) (by omega))
      have hfz := blk_frozen HB1.out (1 + i)
      clear hw hr hli hwi hri
      have b0 : (0 : Int) ≤ (i : Int) := by omega
      have b1 : (i : Int) < 4 := by omega
      have m8 : IntKind.i64.wrap (8 * (i : Int)) = 8 * (i : Int) := IntWalk.i64_in _ (by omega)
      have m80 : (0 : Int) ≤ 8 * (i : Int) := by omega
      have m81 : (8 * (i : Int)) ≤ 32 := by omega
      have m8n : (8 * (i : Int)).toNat = 8 * i := by omega
      have i8n : (i : Int).toNat = i := by omega
      have m8e : ¬ (32 = 8 * i) := by omega
      have hl : ((left.drop (8 * i)).take (32 - 8 * i)).length = 32 - 8 * i := by rw [List.length_take, List.length_drop, h32]; omega
      have HL := Aside0.mk hl
      clear hl
      go_wp2
      refine wp_region_still_tail 19 (by kernel_rfl) (by kernel_rfl) ?_
      simp only [List.take_succ_cons, List.take_zero, List.drop_succ_cons, List.drop_zero]
      iterate 14 still_step
      refine wpStill_step (fun K hK => ?_)
      go_simp
      refine ⟨_, (by
        have h := sum_word.still k (some ⟨g, 5 + 8 * i, none⟩) (32 - 8 * i) ((left.drop (8 * i)).take (32 - 8 * i)) 8 wi wr.drew (by rw [HL.out]; exact Kd.C_drew HC.out) (by rw [HL.out]; exact Nat.le_refl _) HWi.out
        rw [HL.out] at h
        exact h.mono (fun _ _ ⟨h1, h2⟩ => ⟨h1, h2.symm⟩)), hK _ ?_⟩
      clear hK K
      still_call ((sum_round.still li wi ri wr.drew HRi.out).mono (fun _ _ ⟨h1, h2⟩ => ⟨h1, h2.symm⟩))
      iterate 3 still_step
      refine wpStill_nil ?_
      change wpList _ _ _ _ _ wr.drew
      go_wp2
      go_roundw
      case rel => exact ⟨i + 1, by omega, by go_num, ⟨hput.out⟩, ⟨grown_set (grown_drew HG.out) _ _⟩⟩
      case measure => simp [intOf]; omega
    · obtain rfl : i = 4 := by omega
      have hfz := blk_frozen HB1.out 37
      have hc := blk_cell HB1.out 37
      rw [hc_kept (lanesAt_length _ _ _) h32] at hc
      have hput := Aside0.mk (blk_put HB1.out 37 (.int .i64 0) (cs' := (hcells seed (lanesAt lanes R 4) left 0 total).toArray) (hc_set_kept (lanesAt_length _ _ _) h32 0))
      go_wp2
      go_end0
      exact ⟨rfl, hput.out, grown_set HG.out _ _⟩
end Go.Proofs.Ytbnbpnnpbnpidaa.Hasher
namespace Go.Proofs.Ytbnbpnnpbnpidaa.Hasher
open Go.Proofs.Ytbnbpnnpbnpidaa.QSumHashes Hash Crc
open Go.RowKit Go.Proofs.YtbnbpnnpbnpidaaW.PrintWords Go.Proofs.YtbnbpnnpbnpidaaW.PrintLast Go.Proofs.YtbnbpnnpbnpidaaW.PrintMore
theorem w64 (a : Nat) : IntKind.u64.wrap (a : Int) = ((a % 18446744073709551616 : Nat) : Int) := by rw [IntKind.wrap_u64]; omega
theorem w64lt {a : Nat} (h : a < 18446744073709551616) : IntKind.u64.wrap (a : Int) = (a : Int) := by rw [w64, Nat.mod_eq_of_lt h]
theorem lt64 (a : Nat) : a % 18446744073709551616 < 18446744073709551616 := Nat.mod_lt _ (by decide)
theorem shl_nat (x n : Nat) (hn : n ≤ 64) : shl .u64 (x : Int) (n : Int) = ((x * 2 ^ n % 18446744073709551616 : Nat) : Int) := by
  unfold shl
  rw [Int.toNat_natCast, show min n (IntKind.bits .u64) = n from Nat.min_eq_left hn, ← w64]
  rw [Int.natCast_mul, Int.natCast_pow]; rfl
theorem shr_nat (x n : Nat) (hn : n ≤ 64) : shr .u64 (x : Int) (n : Int) = ((x / 2 ^ n : Nat) : Int) := by
  unfold shr
  rw [Int.toNat_natCast, show min n (IntKind.bits .u64) = n from Nat.min_eq_left hn, Int.natCast_ediv, Int.natCast_pow]; rfl
theorem rol_lt (x n : Nat) (hx : x < 18446744073709551616) : Hash.rol x n < 18446744073709551616 := by
  unfold Hash.rol
  exact Nat.or_lt_two_pow (n := 64) (Nat.mod_lt _ (by decide)) (Nat.lt_of_le_of_lt (Nat.div_le_self _ _) hx)
theorem rol_eq (x n : Nat) (hx : x < 18446744073709551616) (hn : n < 64) : bits_RotateLeft64.f (x : Int) (n : Int) = some ((Hash.rol x n : Nat) : Int) := by
  unfold bits_RotateLeft64.f
  rw [w64lt (by omega), show (63 : Int) = ((63 : Nat) : Int) from rfl, u64_and_nat n 63 (by omega) (by decide)]
  have e : n &&& 63 = n := by
    have := Nat.and_two_pow_sub_one_eq_mod n 6
    simp only [Nat.reducePow, Nat.reduceSub] at this
    rw [this]; omega
  rw [e, show (64 : Int) - (n : Int) = ((64 - n : Nat) : Int) by omega, w64lt (by omega), if_pos (by omega), if_pos (by omega), shl_nat _ _ (by omega), shr_nat _ _ (by omega), u64_or_nat _ _ (lt64 _) (Nat.lt_of_le_of_lt (Nat.div_le_self _ _) hx)]
  rfl
theorem rnd_lt (a w : Nat) : Hash.rnd a w < 18446744073709551616 := by unfold Hash.rnd; exact lt64 _
theorem mulw (a b : Nat) : IntKind.u64.wrap ((a : Int) * (b : Int)) = ((a * b % 18446744073709551616 : Nat) : Int) := by rw [← Int.natCast_mul, w64]
theorem addw (a b : Nat) : IntKind.u64.wrap ((a : Int) + (b : Int)) = (((a + b) % 18446744073709551616 : Nat) : Int) := by rw [← Int.natCast_add, w64]
theorem round_eq (a w : Nat) : sum_round.f (a : Int) (w : Int) = some ((Hash.rnd a w : Nat) : Int) := by
  unfold sum_round.f
  rw [show (14029467366897019727 : Int) = ((14029467366897019727 : Nat) : Int) from rfl, mulw, addw, show (31 : Int) = ((31 : Nat) : Int) from rfl, rol_eq _ 31 (lt64 _) (by omega), Option.bind_some,
    show (11400714785074694791 : Int) = ((11400714785074694791 : Nat) : Int) from rfl, mulw]
  rfl
theorem num_lt8 (l : List Nat) (h : Bytes l) (n : Nat) (hn : l.length ≤ n) : num l < 256 ^ n := Nat.lt_of_lt_of_le (num_lt l h) (Nat.pow_le_pow_right (by decide) hn)
theorem bytes_take {l : List Nat} (h : Bytes l) (n : Nat) : Bytes (l.take n) := fun b hb => h b (List.mem_of_mem_take hb)
theorem bytes_drop {l : List Nat} (h : Bytes l) (n : Nat) : Bytes (l.drop n) := fun b hb => h b (List.mem_of_mem_drop hb)
theorem rd_nat (l : List Nat) (i : Nat) : rd (ints l) (i : Int) = ((l.getD i 0 : Nat) : Int) := by
  unfold rd ints
  rw [Int.toNat_natCast, List.getD_eq_getElem?_getD, List.getElem?_map, List.getD_eq_getElem?_getD]
  cases l[i]? <;> rfl
theorem take_drop_succ (l : List Nat) (m n : Nat) (h : m < l.length) (hn : m < n) : (l.take n).drop m = l.getD m 0 :: (l.take n).drop (m + 1) := by
  rw [List.drop_eq_getElem_cons (by rw [List.length_take]; omega), List.getElem_take, List.getD_eq_getElem?_getD, List.getElem?_eq_getElem h]; rfl
theorem word_l0 (l : List Nat) (hl : Bytes l) (n : Nat) (hn : n ≤ l.length) (h8 : n ≤ 8) (m : Nat) : ∀ (k : Nat), m ≤ n → m < k →
    sum_word.l0 k (ints l) ((num ((l.take n).drop m) : Nat) : Int) ((m : Int) - 1) = some ((num (l.take n) : Nat) : Int) := by
  induction m with
  | zero =>
    intro k hm hk
    obtain ⟨k, rfl⟩ := Nat.exists_eq_add_of_lt hk
    simp only [Nat.zero_add, sum_word.l0]
    rw [if_neg (by omega), List.drop_zero]
  | succ m ih =>
    intro k hm hk
    obtain ⟨k, rfl⟩ := Nat.exists_eq_add_of_lt (Nat.zero_lt_of_lt hk)
    simp only [Nat.zero_add, sum_word.l0]
    have hx : num ((l.take n).drop (m + 1)) < 256 ^ 7 := num_lt8 _ (bytes_drop (bytes_take hl n) _) 7 (by rw [List.length_drop, List.length_take]; omega)
    have hx : num ((l.take n).drop (m + 1)) < 72057594037927936 := hx
    have hc : l.getD m 0 < 256 := by
      rw [List.getD_eq_getElem?_getD, List.getElem?_eq_getElem (by omega)]; exact hl _ (List.getElem_mem _)
    rw [show (((m + 1 : Nat) : Int) - 1) = (m : Int) by omega, if_pos (by omega), if_pos (by omega), if_pos (by rw [ints_length]; omega), rd_nat, w64lt (by omega), show (256 : Int) = ((256 : Nat) : Int) from rfl, mulw, Nat.mod_eq_of_lt (by omega),
      u64_or_nat _ _ (by omega) (by omega), cw64 (by omega) (by omega)]
    have e : num ((l.take n).drop (m + 1)) * 256 ||| l.getD m 0 = num ((l.take n).drop m) := by
      rw [take_drop_succ l m n (by omega) (by omega)]
      simp only [num]
      rw [Nat.mul_comm, ← Nat.two_pow_add_eq_or_of_lt (i := 8) hc]; omega
    rw [e]
    exact ih k (by omega) (by omega)
theorem word_eq (l : List Nat) (hl : Bytes l) (n : Nat) (hn : n ≤ l.length) (h8 : n ≤ 8) (k : Nat) (hk : n < k) : sum_word.f k (ints l) (n : Int) = some ((num (l.take n) : Nat) : Int) := by
  unfold sum_word.f
  have h := word_l0 l hl n hn h8 n k (Nat.le_refl _) hk
  rw [List.drop_of_length_le (by rw [List.length_take]; omega)] at h
  rw [cw64 (by omega) (by omega)]
  exact h
end Go.Proofs.Ytbnbpnnpbnpidaa.Hasher
namespace Go.Proofs.Ytbnbpnnpbnpidaa.Hasher
open Go.Proofs.Ytbnbpnnpbnpidaa.QSumHashes Hash Crc
set_option linter.unusedVariables false
set_option linter.unusedSimpArgs false
open Go.RowKit Go.Proofs.YtbnbpnnpbnpidaaW.PrintWords Go.Proofs.YtbnbpnnpbnpidaaW.PrintLast Go.Proofs.YtbnbpnnpbnpidaaW.PrintMore
/-- copy into a row of a block: nothing but that block turns. -/
theorem copy_grown {P : Program} {w : World} {ops : Array Oper} {rest : List Oper} {o : Oper} {a : Act} {Q : Exit → Act → World → Prop} (hgd : o.guard = none) (d s : Operand) (dT sT : TypeId)
    (ho : o.op = .call { callee := .builtin .copy, args := #[d, s], argTypes := #[dT, sT] }) (elem : TypeId) (hu : P.underlying dT = some (.slice elem)) (hsz : (P.info? elem).map (·.size) = some 1)
    (g off dLen dCap : Nat) (ad : Addr) (sLen sCap : Nat) (hd : a.eval d = .slice (some ⟨g, off, none⟩) dLen dCap) (hs : a.eval s = .slice (some ad) sLen sCap)
    (cur : List Value) (t : TypeId) (hg : w.heap[g]? = some (.cells cur.toArray t (0, 0))) (cs : List Value) (hn : cs.length = Nat.min sLen dLen)
    (hsrc : ∀ j v, cs[j]? = some v → w.cell? (ad.add j) = some v) (hfit : off + cs.length ≤ cur.length) (h1 : ∀ v ∈ cs, v.oneCell' = true)
    (h : ∀ w', Hid (w'.heap[g]? = some (.cells (splice cur off cs).toArray t (0, 0))) → w.grownBy w' (some g) → wpList P ops Q rest (a.put o.dst (goInt cs.length)) w') :
    wpList P ops Q (o :: rest) a w := by
  refine wpList_copy_own hgd d s dT sT ho elem hu hsz g off dLen dCap ad sLen sCap hd hs cur.toArray t hg cs hn hsrc (by simpa using hfit) h1 ?_
  exact h _ (show _ = _ by simpa [splice] using setRow_heap w g _ _ t _ hg) ⟨rfl, rfl, rfl, by simp, fun k _ hk => setRow_other w g k _ (fun e => hk (by rw [e]))⟩
/-- A hasher into which these bytes are written. -/
def HAt (w : World) (g seed : Nat) (all : List Nat) : Prop := ∃ lanes left kept, St seed all lanes left kept ∧ HB w g (seed : Int) (ints lanes) (ints left) (kept : Int) (all.length : Int)
theorem ints_take (l : List Nat) (n : Nat) : (ints l).take n = ints (l.take n) := by simp [ints, List.map_take]
theorem ints_drop (l : List Nat) (n : Nat) : (ints l).drop n = ints (l.drop n) := by simp [ints, List.map_drop]
theorem ints_getD (l : List Nat) (i : Nat) : (ints l).getD i 0 = ((l.getD i 0 : Nat) : Int) := by
  rw [← rd_nat]; unfold rd; rw [Int.toNat_natCast]
theorem splice_hcells (seed total : Int) (lanes : List Nat) (left x : List Nat) (kept : Nat) (h4 : lanes.length = 4) (h32 : left.length = 32) (hk : kept + x.length ≤ 32) :
    splice (hcells seed (ints lanes) (ints left) (kept : Int) total) (5 + kept) (nums .u8 (ints x)) = hcells seed (ints lanes) (ints (lay left kept x)) (kept : Int) total := by
  have hn : (nums .u8 (ints x)).length = x.length := by rw [nums_length, ints_length]
  have hL : (nums .u64 (ints lanes)).length = 4 := by rw [nums_length, ints_length, h4]
  have hF : (nums .u8 (ints left)).length = 32 := by rw [nums_length, ints_length, h32]
  unfold splice
  rw [hn]
  have e1 : hcells seed (ints lanes) (ints left) (kept : Int) total = (.int .u64 seed :: nums .u64 (ints lanes)) ++ (nums .u8 (ints left) ++ [.int .i64 (kept : Int), .int .u64 total]) := by simp [hcells]
  have e2 : hcells seed (ints lanes) (ints (lay left kept x)) (kept : Int) total = (.int .u64 seed :: nums .u64 (ints lanes)) ++ (nums .u8 (ints (lay left kept x)) ++ [.int .i64 (kept : Int), .int .u64 total]) := by simp [hcells]
  have hP : (Value.int .u64 seed :: nums .u64 (ints lanes)).length = 5 := by rw [List.length_cons, hL]
  rw [e1, e2, List.take_append, List.take_of_length_le (by omega), hP, show 5 + kept - 5 = kept by omega, List.drop_append, List.drop_of_length_le (by omega), hP, List.nil_append,
    show 5 + kept + x.length - 5 = kept + x.length by omega, List.take_append_of_le_length (by omega), List.drop_append_of_le_length (by omega)]
  have e3 : nums .u8 (ints (lay left kept x)) = (nums .u8 (ints left)).take kept ++ (nums .u8 (ints x) ++ (nums .u8 (ints left)).drop (kept + x.length)) := by
    simp [nums, ints, lay, List.map_take, List.map_drop]
  rw [e3]
  simp [List.append_assoc]
theorem lanesAt_stepL (lanes blk : List Nat) (h4 : lanes.length = 4) : lanesAt (ints lanes) (fun i => ((rnd (lanes.getD i 0) (num ((blk.drop (8 * i)).take 8)) : Nat) : Int)) 4 = ints (stepL lanes blk) := by
  simp [lanesAt, stepL, ints, List.range, List.range.loop]
/-- A full block is taken in. -/
theorem full_nat (g : Nat) (seed : Nat) (lanes left : List Nat) (kept total : Int) (h4 : lanes.length = 4) (h32 : left.length = 32) (hb : Bytes left) (w : World) (hB : HB w g (seed : Int) (ints lanes) (ints left) kept total) :
    Calls Try.prog 47 #[.pointer (some ⟨g, 0, none⟩)] w fun e w' => e = .returned (.tuple #[]) ∧ HB w' g (seed : Int) (ints (stepL lanes left)) (ints left) 0 total ∧ w.grownBy w' (some g) := by
  rw [← lanesAt_stepL _ _ h4]
  refine full_walk g seed kept total (ints lanes) (ints left) (by rw [ints_length, h4]) (by rw [ints_length, h32]) 9 (fun i => ((num ((left.drop (8 * i)).take 8) : Nat) : Int)) _ ?_ ?_ w hB
  · intro i hi
    rw [ints_drop, ints_take, List.take_of_length_le (by rw [List.length_drop, h32]; omega)]
    exact word_eq _ (bytes_drop hb _) 8 (by rw [List.length_drop, h32]; omega) (by omega) 9 (by omega)
  · intro i hi
    rw [ints_getD]
    exact round_eq _ _
end Go.Proofs.Ytbnbpnnpbnpidaa.Hasher
namespace Go.Proofs.Ytbnbpnnpbnpidaa.Hasher
open Go.Proofs.Ytbnbpnnpbnpidaa.QSumHashes Hash Crc
set_option linter.unusedVariables false
set_option linter.unusedSimpArgs false
open Go.RowKit Go.Proofs.YtbnbpnnpbnpidaaW.PrintWords Go.Proofs.YtbnbpnnpbnpidaaW.PrintLast Go.Proofs.YtbnbpnnpbnpidaaW.PrintMore
theorem addr_add (b o j : Nat) : (⟨b, o, none⟩ : Addr).add j = ⟨b, o + j, none⟩ := by
  simp only [Addr.add]
  by_cases h : j = 0
  · subst h; rfl
  · simp [h]
/-- What is written lies where the cells say. -/
def Src (w : World) (A : Option Addr) (l : List Nat) : Prop := 0 < l.length → ∃ b o, A = some ⟨b, o, none⟩ ∧ ∀ j, j < l.length → w.cell? ⟨b, o + j, none⟩ = some (.int .u8 ((l.getD j 0 : Nat) : Int))
theorem src_of_C {w : World} {A : Option Addr} {l : List Nat} (h : Kd.C (Kd.int .u8) w A l.length (ints l)) : Src w A l := by
  intro h0
  obtain ⟨_, _, hr⟩ := h
  obtain ⟨ad, rfl, hs⟩ := hr h0
  have hj : ∀ j, j < l.length → w.cell? (ad.add j) = some (.int .u8 ((l.getD j 0 : Nat) : Int)) := by
    intro j hj
    obtain ⟨c, _, hK, hcc⟩ := hs j ((l.getD j 0 : Nat) : Int) (by rw [ints, List.getElem?_map, List.getElem?_eq_getElem hj, List.getD_eq_getElem?_getD, List.getElem?_eq_getElem hj]; rfl)
    have hK' : c = [Value.int .u8 ((l.getD j 0 : Nat) : Int)] := hK
    subst hK'
    have := hcc 0 _ rfl
    have e : j * (Kd.int .u8).sz + 0 = j := Nat.mul_one j
    rw [e] at this
    exact this
  obtain ⟨b, o, sp⟩ := ad
  have hsp : sp = none := by
    have := hj 0 h0
    cases sp with
    | none => rfl
    | some s => simp [World.cell?, Addr.add] at this; split at this <;> simp at this
  subst hsp
  exact ⟨b, o, rfl, fun j hlt => by have := hj j hlt; rw [addr_add] at this; exact this⟩
/-- Where b stands behind j bytes. -/
def Rest (A : Option Addr) (c : Nat) (l : List Nat) (j : Nat) (v : Value) : Prop := ∃ A' c', v = .slice A' (l.length - j) c' ∧ l.length - j ≤ c' ∧ ∀ b o, A = some ⟨b, o, none⟩ → j < l.length → A' = some ⟨b, o + j, none⟩
def sliceLen : Value → Nat | .slice _ n _ => n | _ => 0
theorem grown_src {w w1 : World} {A : Option Addr} {l : List Nat} {g : Nat} (h : Src w A l) (hg : w.grownBy w1 (some g)) (hA : ∀ ad, A = some ad → ad.block ≠ g) (h0 : 0 < l.length) :
    ∃ b o, A = some ⟨b, o, none⟩ ∧ ∀ j, j < l.length → w1.cell? ⟨b, o + j, none⟩ = some (.int .u8 ((l.getD j 0 : Nat) : Int)) := by
  obtain ⟨b, o, rfl, hs⟩ := h h0
  exact ⟨b, o, rfl, fun j hj => hg.cell (hs j hj) (fun e => hA _ rfl (by injection e))⟩
theorem rest_next {A : Option Addr} {c j n b o c' : Nat} {l : List Nat} {v : Value} (hA : A = some ⟨b, o, none⟩) (hc : l.length - j ≤ c') (hn : n ≤ l.length - j) (hcn : ¬ c' = n) (hv : v = .slice (some ⟨b, o + j + n, none⟩) (l.length - j - n) (c' - n)) : Rest A c l (j + n) v := by
  refine ⟨_, c' - n, by rw [hv, Nat.sub_sub], by omega, fun b' o' h _ => ?_⟩
  rw [hA] at h
  injection h with h; injection h with h1 h2
  rw [h1, h2, Nat.add_assoc]
theorem rest_end {A A' : Option Addr} {c j n c' : Nat} {l : List Nat} {v : Value} (hc : l.length - j ≤ c') (hn : n ≤ l.length - j) (hcn : c' = n) (hv : v = .slice A' (l.length - j - n) 0) : Rest A c l (j + n) v :=
  ⟨A', 0, by rw [hv, Nat.sub_sub], by omega, fun b' o' _ h => by omega⟩
theorem st_part {seed : Nat} {all lanes left x ax : List Nat} {kept n : Nat} (h : St seed all lanes left kept) (hx : Bytes x) (hxl : x.length = n) (hn : kept + n < 32) (he : all ++ x = ax) : St seed ax lanes (lay left kept x) (kept + n) := by
  subst hxl; subst he; exact h.part hx hn
theorem st_full {seed : Nat} {all lanes left x ax : List Nat} {kept n : Nat} (h : St seed all lanes left kept) (hx : Bytes x) (hxl : x.length = n) (hn : kept + n = 32) (he : all ++ x = ax) : St seed ax (stepL lanes (lay left kept x)) (lay left kept x) 0 := by
  subst hxl; subst he; exact h.full hx hn
set_option maxHeartbeats 4000000 in
set_option maxRecDepth 100000 in
theorem write_walk (g seed : Nat) (all l : List Nat) (A : Option Addr) (c : Nat) (w : World) (hH : HAt w g seed all) (hC : Src w A l) (hc : l.length ≤ c) (hA : 0 < l.length → ∀ ad, A = some ad → ad.block ≠ g) (hl : Bytes l) (hn : all.length + l.length < 4611686018427387904) :
    Calls Try.prog 31 #[.pointer (some ⟨g, 0, none⟩), .slice A l.length c] w fun e w' => e = .returned (.tuple #[]) ∧ HAt w' g seed (all ++ l) ∧ w.grownBy w' (some g) := by
  obtain ⟨lanes, left, kept, hS, hB⟩ := hH
  have hc38 := blk_cell hB 38
  rw [hc_total (by rw [ints_length, hS.l4]) (by rw [ints_length, hS.l32])] at hc38
  have hf38 := blk_frozen hB 38
  have hput := Aside0.mk (blk_put hB 38 (.int .u64 ((all.length : Int) + (l.length : Int))) (hc_set_total (by rw [ints_length, hS.l4]) (by rw [ints_length, hS.l32]) _))
  have hlen0 : (0 : Int) ≤ (all.length : Int) := by omega
  have hlen1 : (0 : Int) ≤ (l.length : Int) := by omega
  have hsum : IntKind.u64.wrap ((all.length : Int) + (l.length : Int)) = (all.length : Int) + (l.length : Int) := by rw [IntKind.wrap_u64]; omega
  have hll : IntKind.u64.wrap (l.length : Int) = (l.length : Int) := w64lt (by omega)
  have HS := Aside0.mk hS
  have HCs := Aside0.mk hC
  have HA := Aside0.mk hA
  have HL := Aside0.mk hl
  clear hS hC hA hl hB
  go_enter Try.func31, Try.ntmps31
  go_wp2
  obtain ⟨T, hT⟩ : ∃ T : Int, T = (all.length : Int) + (l.length : Int) := ⟨_, rfl⟩
  rw [← hT] at hput
  have HB1 : Aside0 (HB (w.setCell ⟨g, 38, none⟩ (.int .u64 ((all.length : Int) + (l.length : Int)))) g (seed : Int) (ints lanes) (ints left) (kept : Int) T) := ⟨by rw [← hT]; exact hput.out⟩
  have HG1 : Aside0 (w.grownBy (w.setCell ⟨g, 38, none⟩ (.int .u64 ((all.length : Int) + (l.length : Int)))) (some g)) := ⟨grown_set (grown_refl _ _) _ _⟩
  have HT := Aside0.mk hT
  clear hput hc38 hf38 hsum hT
  go_loopw [1] (fun v wr => ∃ (j : Nat) (lanes left : List Nat) (kept : Nat), j ≤ l.length ∧ Rest A c l j v ∧ Aside0 (St seed (all ++ l.take j) lanes left kept) ∧ Aside0 (HB wr g (seed : Int) (ints lanes) (ints left) (kept : Int) T) ∧ Aside0 (w.grownBy wr (some g))) (fun v _ => sliceLen v)
  case atStart => exact ⟨0, lanes, left, kept, by omega, ⟨A, c, rfl, hc, fun b o h _ => h⟩, ⟨by rw [List.take_zero, List.append_nil]; exact HS.out⟩, HB1, HG1⟩
  case round =>
    clear HB1 HG1 HS
    clear lanes left kept
    obtain ⟨j, lanes, left, kept, hj, ⟨A', c', rfl, hc', hA'⟩, HS, HB1, HG⟩ := hrel
    by_cases hlt : j < l.length
    · obtain ⟨b, o, hAe, hcell⟩ := grown_src HCs.out HG.out (HA.out (by omega)) (by omega)
      obtain rfl := hA' b o hAe hlt
      have HAe := Aside0.mk hAe
      clear hAe
      obtain ⟨n, hn⟩ : ∃ n, n = min (32 - kept) (l.length - j) := ⟨_, rfl⟩
      have hk : kept < 32 := by have := HS.out.hk; omega
      have hc37 := blk_cell HB1.out 37
      rw [hc_kept (by rw [ints_length, HS.out.l4]) (by rw [ints_length, HS.out.l32])] at hc37
      have m0 : 0 < l.length - j := by omega
      have k0 : (0 : Int) ≤ (kept : Int) := by omega
      have k1 : (kept : Int) < 32 := by omega
      have k2 : (kept : Int).toNat = kept := by omega
      have k3 : ¬ (32 = kept) := by omega
      have k4 : (kept : Int) ≤ 32 := by omega
      go_wp2
      refine wp_region_still_tail 9 (by kernel_rfl) (by kernel_rfl) ?_
      simp only [List.take_succ_cons, List.take_zero, List.drop_succ_cons, List.drop_zero]
      iterate 9 still_step
      refine wpStill_nil ?_
      change wpList _ _ _ _ _ wr.drew
      obtain ⟨x, hx⟩ : ∃ x, x = (l.drop j).take n := ⟨_, rfl⟩
      have hxl : x.length = n := by rw [hx, List.length_take, List.length_drop]; omega
      obtain ⟨cs, hcs⟩ : ∃ cs, cs = nums .u8 (ints x) := ⟨_, rfl⟩
      have hcl : cs.length = n := by rw [hcs, nums_length, ints_length, hxl]
      refine copy_grown rfl (.tmp 27) (.tmp 28) 23 23 rfl 5 Try.underlying23 (by kernel_rfl) g (5 + kept) (32 - kept) (32 - kept) ⟨b, o + j, none⟩ (l.length - j) c' rfl rfl (hcells (seed : Int) (ints lanes) (ints left) (kept : Int) T) 65 HB1.out cs ?c1 ?c2 ?c3 ?c4 ?_
      case c1 => rw [hcl, hn]; exact Nat.min_comm _ _
      case c2 =>
        intro i v hv
        have hi : i < n := by rw [← hcl]; exact (List.getElem?_eq_some_iff.1 hv).1
        rw [addr_add, show o + j + i = o + (j + i) by omega]
        have h1 := hcell (j + i) (by omega)
        have h2 : (wr.drew).cell? ⟨b, o + (j + i), none⟩ = wr.cell? ⟨b, o + (j + i), none⟩ := rfl
        rw [h2, h1, ← hv, hcs, nums, ints, List.getElem?_map, List.getElem?_map, hx, List.getElem?_take_of_lt hi, List.getElem?_drop, List.getElem?_eq_getElem (by omega), List.getD_eq_getElem?_getD, List.getElem?_eq_getElem (by omega)]
        rfl
      case c3 => rw [hcl, hcells_length (by rw [ints_length, HS.out.l4]) (by rw [ints_length, HS.out.l32])]; omega
      case c4 =>
        intro v hv
        rw [hcs] at hv
        obtain ⟨y, _, rfl⟩ := List.mem_map.1 hv
        rfl
      intro w2 hg2 hgr
      have hB2 : HB w2 g (seed : Int) (ints lanes) (ints (lay left kept x)) (kept : Int) T := by
        have := hg2.out
        rw [hcs, splice_hcells _ _ _ _ _ _ HS.out.l4 HS.out.l32 (by omega)] at this
        exact this
      have hxb : Bytes x := by rw [hx]; exact bytes_take (bytes_drop HL.out _) _
      have hall : all ++ l.take j ++ x = all ++ l.take (j + n) := by rw [List.append_assoc, hx, ← List.take_add]
      have HB2 := Aside0.mk hB2
      have HG2 := Aside0.mk (grown_trans (grown_drew HG.out) hgr)
      have hl4 : (lay left kept x).length = 32 := by rw [lay_length _ _ _ (by rw [HS.out.l32]; omega), HS.out.l32]
      have hc37 := blk_cell hB2 37
      rw [hc_kept (by rw [ints_length, HS.out.l4]) (by rw [ints_length, hl4])] at hc37
      have hf37 := blk_frozen hB2 37
      have HB3 : Aside0 (HB (w2.setCell ⟨g, 37, none⟩ (.int .i64 ((kept : Int) + (n : Int)))) g (seed : Int) (ints lanes) (ints (lay left kept x)) ((kept : Int) + (n : Int)) T) :=
        ⟨blk_put hB2 37 _ (hc_set_kept (by rw [ints_length, HS.out.l4]) (by rw [ints_length, hl4]) _)⟩
      have HX := Aside0.mk hxb
      have HXL := Aside0.mk hxl
      have HALL := Aside0.mk hall
      have HCS := Aside0.mk hcs
      have HL4 := Aside0.mk hl4
      have n0 : (0 : Int) ≤ (n : Int) := by omega
      have n1 : (n : Int) ≤ 32 := by omega
      have n2 : (n : Int).toNat = n := by omega
      have n3 : (n : Int) ≤ ((l.length - j : Nat) : Int) := by omega
      have n4 : n ≤ l.length - j := by omega
      have HN := Aside0.mk hn
      clear hn hx hxb hxl hall hcs hg2 hgr hB2 hl4 hA' hcell
      by_cases hfull : kept + n = 32
      · have hf1 : ((kept : Int) + (n : Int) == 32) = true := beq_iff_eq.2 (by omega)
        have HFL := Aside0.mk hfull
        clear hfull
        have hful : ∀ wz, HB wz g (seed : Int) (ints lanes) (ints (lay left kept x)) ((kept : Int) + (n : Int)) T → Calls Try.prog 47 #[.pointer (some ⟨g, 0, none⟩)] wz fun e w' => e = .returned (.tuple #[]) ∧ HB w' g (seed : Int) (ints (stepL lanes (lay left kept x))) (ints (lay left kept x)) 0 T ∧ wz.grownBy w' (some g) :=
          fun wz hz => full_nat g seed lanes (lay left kept x) _ T HS.out.l4 HL4.out (lay_bytes HS.out.bl HX.out) wz hz
        have HF := Aside0.mk hful
        clear hful
        by_cases hcn : c' = n
        all_goals
          go_wp2_with (go_at_call 47; refine (HF.out _ HB3.out).mono ?_; rintro e w3 ⟨rfl, hB4, hg4⟩; have HB4 := Aside0.mk hB4; have HG4 := Aside0.mk hg4; clear hB4 hg4)
          go_roundw
          case rel => exact ⟨j + n, stepL lanes (lay left kept x), lay left kept x, 0, by omega, (by first | exact rest_next HAe.out hc' n4 hcn rfl | exact rest_end hc' n4 hcn rfl), ⟨st_full HS.out HX.out HXL.out HFL.out HALL.out⟩, HB4, ⟨grown_trans (grown_set HG2.out _ _) HG4.out⟩⟩
          case measure => simp [sliceLen]; have := HN.out; omega
      · have hf1 : ((kept : Int) + (n : Int) == 32) = false := beq_eq_false_iff_ne.2 (by omega)
        have HFL := Aside0.mk hfull
        clear hfull
        by_cases hcn : c' = n
        all_goals
          go_wp2
          go_roundw
          case rel => exact ⟨j + n, lanes, lay left kept x, kept + n, by omega, (by first | exact rest_next HAe.out hc' n4 hcn rfl | exact rest_end hc' n4 hcn rfl), ⟨st_part HS.out HX.out HXL.out (by have := HN.out; have := HFL.out; omega) HALL.out⟩, ⟨by rw [Int.natCast_add]; exact HB3.out⟩, ⟨grown_set HG2.out _ _⟩⟩
          case measure => simp [sliceLen]; have := HN.out; omega
    · have e0 : l.length - j = 0 := by omega
      have hS2 : St seed (all ++ l) lanes left kept := by
        have := HS.out
        rwa [show l.take j = l from List.take_of_length_le (by omega)] at this
      have HS2 := Aside0.mk hS2
      clear hS2
      go_wp2
      go_end0
      exact ⟨rfl, ⟨lanes, left, kept, HS2.out, by rw [List.length_append, Int.natCast_add, ← HT.out]; exact HB1.out⟩, HG.out⟩
end Go.Proofs.Ytbnbpnnpbnpidaa.Hasher
