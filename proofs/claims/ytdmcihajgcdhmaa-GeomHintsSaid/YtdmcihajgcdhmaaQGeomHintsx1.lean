-- Written by a program of this session (wip/tools/print2): a turned copy of the kit's print.
import Derived.Test.YtdmcihajgcdhmaaQGeomHintsx0
namespace Go.Proofs.Ytdmcihajgcdhmaa.QGeomHints
open Go.RowKit Go.Proofs.YtdmcihajgcdhmaaW.PrintWords Go.Proofs.YtdmcihajgcdhmaaW.PrintLast Go.Proofs.YtdmcihajgcdhmaaW.PrintMore
attribute [local go_sem] max2_int min2_int max_two min_two max_three min_three max_four min_four   -- for this text's walks alone
set_option linter.unusedVariables false
set_option linter.unusedSimpArgs false

/-! ### geom_Most: function 31 -/
def geom_Most.f (a0 : Int) : Option (Int) := if (wrap64 (a0)) < 8 then (some (wrap64 (a0))) else (if 0 ≤ (wrap64 ((wrap64 (Int.tdiv (wrap64 (a0)) 8)) - 1)) then (some (shl .i64 (wrap64 (8 + (Int.tmod (wrap64 (a0)) 8))) (wrap64 ((wrap64 (Int.tdiv (wrap64 (a0)) 8)) - 1)))) else (none))
set_option maxHeartbeats 8000000 in
set_option maxRecDepth 100000 in
theorem geom_Most.calls (a0 : Int) (r : Int) (w : World) (h : geom_Most.f a0 = some r) :
    Calls Try.prog 31 #[.int .u8 a0] w fun e w' => e = .returned (.int .i64 r) ∧ Drawn0 w w' := by
  have H : (if (wrap64 (a0)) < 8 then (some (wrap64 (a0))) else (if 0 ≤ (wrap64 ((wrap64 (Int.tdiv (wrap64 (a0)) 8)) - 1)) then (some (shl .i64 (wrap64 (8 + (Int.tmod (wrap64 (a0)) 8))) (wrap64 ((wrap64 (Int.tdiv (wrap64 (a0)) 8)) - 1)))) else (none))) = some r := h
  clear h
  by_cases c2 : (wrap64 (a0)) < 8
  · rw [if_pos c2] at H
    have c2b0 : decide ((wrap64 (a0)) < 8) = true := decide_eq_true c2
    clear c2
    obtain rfl := Option.some.inj H
    go_enter Try.func31, Try.ntmps31
    go_wp2
    go_ret
    exact ⟨by first | rfl | (simp; done) | (simp [*]; done), by repeat (first | exact Drawn0.refl _ | apply Drawn0.step)⟩
  · rw [if_neg c2] at H
    have c2b0 : decide ((wrap64 (a0)) < 8) = false := decide_eq_false c2
    clear c2
    obtain ⟨ji3, hji3⟩ : ∃ j_ : Int, (wrap64 ((wrap64 (Int.tdiv (wrap64 (a0)) 8)) - 1)) = j_ := ⟨_, rfl⟩
    replace H : (if 0 ≤ (ji3) then (some (shl .i64 (wrap64 (8 + (Int.tmod (wrap64 (a0)) 8))) (ji3))) else (none)) = some r := by first | (rw [hji3] at H; exact H) | (simp only [hji3] at H ⊢; exact H)
    have hji3w : (IntKind.i64.wrap ((wrap64 (Int.tdiv (wrap64 (a0)) 8)) - 1)) = ji3 := (i64_w _).trans hji3
    by_cases c4 : 0 ≤ (ji3)
    · rw [if_pos c4] at H
      have c4b0 := eq_true c4
      have c4b1 : decide (0 ≤ (ji3)) = true := decide_eq_true c4
      clear c4
      obtain ⟨ji5, hji5⟩ : ∃ j_ : Int, (shl .i64 (wrap64 (8 + (Int.tmod (wrap64 (a0)) 8))) (ji3)) = j_ := ⟨_, rfl⟩
      replace H : (some ji5) = some r := by first | (rw [hji5] at H; exact H) | (simp only [hji5] at H ⊢; exact H)
      have hji5_ : (IntKind.i64.wrap ((wrap64 (8 + (Int.tmod (wrap64 (a0)) 8))) * 2 ^ min (ji3).toNat 64)) = ji5 := hji5
      have hji5z : (ji3) ≤ 64 → (IntKind.i64.wrap ((wrap64 (8 + (Int.tmod (wrap64 (a0)) 8))) * 2 ^ (ji3).toNat)) = ji5 := shl_small hji5
      have hji5y : (wrap64 ((wrap64 (8 + (Int.tmod (wrap64 (a0)) 8))) * 2 ^ min (ji3).toNat 64)) = ji5 := (i64_w _).symm.trans hji5_
      have hji5x : (ji3) ≤ 64 → (wrap64 ((wrap64 (8 + (Int.tmod (wrap64 (a0)) 8))) * 2 ^ (ji3).toNat)) = ji5 := fun h_ => (i64_w _).symm.trans (hji5z h_)
      obtain rfl := Option.some.inj H
      go_enter Try.func31, Try.ntmps31
      go_wp2
      go_ret
      exact ⟨by first | rfl | (simp; done) | (simp only [← hji3, ← hji5] <;> (first | rfl | simp)) | (simp [*]; done), by repeat (first | exact Drawn0.refl _ | apply Drawn0.step)⟩
    · rw [if_neg c4] at H
      exact absurd H (by simp)

/-! ### bits_Len32: function 53 -/

/-! ### bits_Len64: function 54 -/

/-! ### bits_Len: function 50 -/
/-- How many bits a number has. -/
def bits_Len.f (a0 : Int) : Option Int := if 0 ≤ a0 ∧ a0 ≤ 1099511627775 then some (Lib.bitLen a0.toNat) else none
theorem len8_eq_tab : (⟨((([0, 1, 2, 2, 3, 3, 3, 3, 4, 4, 4, 4, 4, 4, 4, 4, 5, 5, 5, 5, 5, 5, 5, 5, 5, 5, 5, 5, 5, 5, 5, 5, 6, 6, 6, 6, 6, 6, 6, 6, 6, 6, 6, 6, 6, 6, 6, 6, 6, 6, 6, 6, 6, 6, 6, 6, 6, 6, 6, 6, 6, 6, 6, 6] : List UInt8).append [7, 7, 7, 7, 7, 7, 7, 7, 7, 7, 7, 7, 7, 7, 7, 7, 7, 7, 7, 7, 7, 7, 7, 7, 7, 7, 7, 7, 7, 7, 7, 7, 7, 7, 7, 7, 7, 7, 7, 7, 7, 7, 7, 7, 7, 7, 7, 7, 7, 7, 7, 7, 7, 7, 7, 7, 7, 7, 7, 7, 7, 7, 7, 7]).append (([8, 8, 8, 8, 8, 8, 8, 8, 8, 8, 8, 8, 8, 8, 8, 8, 8, 8, 8, 8, 8, 8, 8, 8, 8, 8, 8, 8, 8, 8, 8, 8, 8, 8, 8, 8, 8, 8, 8, 8, 8, 8, 8, 8, 8, 8, 8, 8, 8, 8, 8, 8, 8, 8, 8, 8, 8, 8, 8, 8, 8, 8, 8, 8] : List UInt8).append [8, 8, 8, 8, 8, 8, 8, 8, 8, 8, 8, 8, 8, 8, 8, 8, 8, 8, 8, 8, 8, 8, 8, 8, 8, 8, 8, 8, 8, 8, 8, 8, 8, 8, 8, 8, 8, 8, 8, 8, 8, 8, 8, 8, 8, 8, 8, 8, 8, 8, 8, 8, 8, 8, 8, 8, 8, 8, 8, 8, 8, 8, 8, 8])).toArray⟩ : ByteArray) = Lib.len8tab := by kernel_rfl
attribute [local go_sem ↓ high] len8_eq_tab
theorem div_div_nat (x : Int) (h0 : 0 ≤ x) (a b c : Nat) (h : a * b = c) : (x / (a : Int) / (b : Int)).toNat = x.toNat / c := by
  obtain ⟨m, rfl⟩ := Int.eq_ofNat_of_zero_le h0
  rw [← Int.natCast_ediv, ← Int.natCast_ediv, Int.toNat_natCast, Int.toNat_natCast, Nat.div_div_eq_div_mul, h]
theorem ge24 (x : Int) (h : 256 ≤ x / 65536) : 16777216 ≤ x.toNat := by
  have := Int.mul_le_of_le_ediv (show (0 : Int) < 65536 by decide) h
  omega
theorem fin_len (b c : Nat) (hc : c ≤ 56) (hb : b ≤ 8) : (((c : Int) + (((b : Int) + 9223372036854775808) % 18446744073709551616 - 9223372036854775808) + 9223372036854775808) % 18446744073709551616 - 9223372036854775808) = ((c + b : Nat) : Int) := by
  rw [Int.emod_eq_of_lt (by omega) (by omega), Int.emod_eq_of_lt (by omega) (by omega)]; omega
theorem fin_len0 (b : Nat) (hb : b ≤ 8) : ((((b : Int) + 9223372036854775808) % 18446744073709551616 - 9223372036854775808) + 9223372036854775808) % 18446744073709551616 - 9223372036854775808 = (b : Int) := by
  rw [Int.emod_eq_of_lt (by omega) (by omega), Int.emod_eq_of_lt (by omega) (by omega)]; omega
theorem len8_read (i : Int) (h0 : 0 ≤ i) (h1 : i ≤ 255) (h : i.toNat < Lib.len8tab.size) : ((Lib.len8tab[i.toNat]'h).toNat : Int) = Lib.len8 i := by
  simp only [Lib.len8, ByteArray.getElem?_lt' _ _ h, Option.getD_some]
set_option maxHeartbeats 4000000 in
set_option maxRecDepth 100000 in
theorem bits_Len64_walk (x : Int) (w : World) (h0 : 0 ≤ x) (h1 : x ≤ 1099511627775) :
    Calls Try.prog 54 #[.int .u64 x] w fun e w' => e = .returned (.int .i64 (Lib.bitLen x.toNat)) ∧ w = w' := by
  have hsz := Lib.len8tab_size
  go_enter Try.func54, Try.ntmps54
  go_wp2
  all_goals (go_ret; refine ⟨congrArg Ending.returned (congrArg (Value.int IntKind.i64) ?_), rfl⟩)
  all_goals rw [len8_read _ (by omega) (by omega)]
  all_goals unfold wrap64
  all_goals first
    | (rw [Lib.len8_of (x / 4294967296) (by omega) (by omega)]
       have e : (x / 4294967296).toNat = x.toNat / 4294967296 := by omega
       have l := Lib.bitLen_le8' (x / 4294967296) (by omega) (by omega)
       have s := Lib.bitLen_shift32 x.toNat (by omega) (by omega)
       rw [e] at l ⊢
       rw [s]
       exact fin_len _ _ (by decide) l)
    | (rw [Lib.len8_of (x / 65536 / 256) (by omega) (by omega)]
       have e : (x / 65536 / 256).toNat = x.toNat / 16777216 := div_div_nat x h0 65536 256 16777216 (by decide)
       have l := Lib.bitLen_le8' (x / 65536 / 256) (by omega) (by omega)
       have hge : 256 ≤ x / 65536 := by assumption
       have s := Lib.bitLen_shift24 x.toNat (ge24 x hge) (by omega)
       rw [e] at l ⊢
       rw [s]
       exact fin_len _ _ (by decide) l)
    | (rw [Lib.len8_of (x / 65536) (by omega) (by omega)]
       have e : (x / 65536).toNat = x.toNat / 65536 := by omega
       have l := Lib.bitLen_le8' (x / 65536) (by omega) (by omega)
       have s := Lib.bitLen_shift16 x.toNat (by omega) (by omega)
       rw [e] at l ⊢
       rw [s]
       exact fin_len _ _ (by decide) l)
    | (rw [Lib.len8_of (x / 256) (by omega) (by omega)]
       have e : (x / 256).toNat = x.toNat / 256 := by omega
       have l := Lib.bitLen_le8' (x / 256) (by omega) (by omega)
       have s := Lib.bitLen_shift8 x.toNat (by omega) (by omega)
       rw [e] at l ⊢
       rw [s]
       exact fin_len _ _ (by decide) l)
    | (rw [Lib.len8_of x (by omega) (by omega)]
       have l := Lib.bitLen_le8' x (by omega) (by omega)
       exact fin_len0 _ l)
theorem bits_Len.calls (a0 r : Int) (w : World) (h : bits_Len.f a0 = some r) : Calls Try.prog 50 #[.int .u64 a0] w fun e w' => e = .returned (.int .i64 r) ∧ Drawn0 w w' := by
  unfold bits_Len.f at h
  by_cases c : 0 ≤ a0 ∧ a0 ≤ 1099511627775
  · rw [if_pos c] at h
    obtain rfl := Option.some.inj h
    clear h
    have C := Aside0.mk c
    clear c
    go_enter Try.func50, Try.ntmps50
    go_wp2_with (go_at_call 54; refine (bits_Len64_walk _ _ C.out.1 C.out.2).mono ?_; rintro e w' ⟨rfl, rfl⟩)
    go_ret
    exact ⟨rfl, Drawn0.refl _⟩
  · rw [if_neg c] at h; cases h

/-! ### geom_Hint: function 32 -/
def geom_Hint.j0 : Nat → Int → Bool → Option (Int × Int)
  | 0, _, _ => none
  | k + 1, x0, x12 => if x12 = true then (some (0, 23)) else (if x0 < 8 then (some ((x0) % 256, 0)) else ((bits_Len.f (IntKind.u64.wrap (x0))).bind fun t102 => (if 0 ≤ (wrap64 ((wrap64 (t102 - 3)) - 1)) then ((geom_Most.f ((wrap64 ((wrap64 ((wrap64 (8 * (wrap64 (t102 - 3)))) + (shr .i64 x0 (wrap64 ((wrap64 (t102 - 3)) - 1))))) - 8)) % 256)).bind fun t103 => (if t103 < x0 then (some ((wrap64 ((wrap64 ((wrap64 ((wrap64 (8 * (wrap64 (t102 - 3)))) + (shr .i64 x0 (wrap64 ((wrap64 (t102 - 3)) - 1))))) - 8)) + 1)) % 256, 0)) else (some ((wrap64 ((wrap64 ((wrap64 (8 * (wrap64 (t102 - 3)))) + (shr .i64 x0 (wrap64 ((wrap64 (t102 - 3)) - 1))))) - 8)) % 256, 0)))) else (none))))
def geom_Hint.f (k : Nat) (a0 : Int) : Option (Int × Int) := if a0 < 0 then (geom_Hint.j0 k a0 true) else ((geom_Most.f 255).bind fun t101 => (geom_Hint.j0 k a0 (decide (a0 > t101))))
theorem geom_Hint.mono_l : ∀ k, (∀ y0 y1, LeO (geom_Hint.j0 k y0 y1) (geom_Hint.j0 (k + 1) y0 y1))
  | 0 => fun _ _ r h => by simp [geom_Hint.j0] at h
  | k + 1 => by
    have ih0 := geom_Hint.mono_l k
    · intro y0 y1
      unfold geom_Hint.j0
      repeat' first
      | (with_reducible exact ih0 _ _)
      | (with_reducible exact LeO.refl _)
      | (with_reducible exact LeO.none _)
      | (with_reducible refine LeO.ite ?_ ?_)
      | (with_reducible refine LeO.bind ?_ (fun _ => ?_))
      | exact ih0 _ _
      | exact LeO.none _
      | refine LeO.ite ?_ ?_
      | refine LeO.bind ?_ (fun _ => ?_)
theorem geom_Hint.mono : ∀ a0 k, LeO (geom_Hint.f k a0) (geom_Hint.f (k + 1) a0) := by
  intro a0 k
  have ih0 := geom_Hint.mono_l k
  unfold geom_Hint.f
  repeat' first
      | (with_reducible exact ih0 _ _)
      | (with_reducible exact LeO.refl _)
      | (with_reducible exact LeO.none _)
      | (with_reducible refine LeO.ite ?_ ?_)
      | (with_reducible refine LeO.bind ?_ (fun _ => ?_))
      | exact ih0 _ _
      | exact LeO.none _
      | refine LeO.ite ?_ ?_
      | refine LeO.bind ?_ (fun _ => ?_)
set_option maxHeartbeats 8000000 in
set_option maxRecDepth 100000 in
theorem geom_Hint.calls (k : Nat) (a0 : Int) (r1 : Int) (r2 : Int) (w : World) (h : geom_Hint.f k a0 = some (r1, r2)) :
    Calls Try.prog 32 #[.int .i64 a0] w fun e w' => e = .returned (.tuple #[.int .u8 r1, .int .i64 r2]) ∧ Drawn0 w w' := by
  have H : (if a0 < 0 then (geom_Hint.j0 k a0 true) else ((geom_Most.f 255).bind fun t101 => (geom_Hint.j0 k a0 (decide (a0 > t101))))) = some (r1, r2) := h
  clear h
  have HC2 := Aside0.mk H
  clear H
  go_enter Try.func32, Try.ntmps32
  go_upto_region 1 with (fail)
  go_cut [12] (fun v12 wc => ∃ (kq : Nat) (x12_1 : Bool), v12 = .bool x12_1 ∧ Aside0 (geom_Hint.j0 kq a0 x12_1 = some (r1, r2)) ∧ Aside0 (kq ≤ k) ∧ Drawn0 w wc)
  case first =>
    have H := HC2.out
    clear HC2
    by_cases c3 : a0 < 0
    · rw [if_pos c3] at H
      have c3b0 : decide (a0 < 0) = true := decide_eq_true c3
      clear c3
      (first | rw [c3b0] | (simp only [i64_w, i32_w]; rw [c3b0]) | skip)
      have H' := Aside0.mk H
      clear H
      go_wp2
      go_meet
      case rel => exact ⟨_, (true), (by first | rfl | (simp; done) | (simp [*]; done)), H', ⟨by first | omega | exact Nat.le_refl _⟩, by repeat (first | exact Drawn0.refl _ | apply Drawn0.step)⟩
    · rw [if_neg c3] at H
      have c3b0 : decide (a0 < 0) = false := decide_eq_false c3
      clear c3
      (first | rw [c3b0] | (simp only [i64_w, i32_w]; rw [c3b0]) | skip)
      replace H := Option.bind_eq_some_iff.mp H
      obtain ⟨t101, A40, H⟩ := H
      replace H : (geom_Hint.j0 k a0 (decide (a0 > t101))) = some (r1, r2) := H
      have A4 := Aside0.mk A40
      clear A40
      have H' := Aside0.mk H
      clear H
      go_wp2_with (first | (go_at_call 31; (with_reducible refine (geom_Most.calls 255 t101 _ A4.out).mono ?_); rintro e w' ⟨rfl, ⟨nd, rfl⟩⟩))
      go_meet
      case rel => exact ⟨_, (decide (a0 > t101)), (by first | rfl | (simp; done) | (simp [*]; done)), H', ⟨by first | omega | exact Nat.le_refl _⟩, by repeat (first | exact Drawn0.refl _ | apply Drawn0.step)⟩
  case rest =>
    clear HC2
    try clear p2
    try clear c3
    try clear c3b0
    obtain ⟨kq, x12_1, rfl, HA, HJ1, ⟨mc1, rfl⟩⟩ := hcut
    cases kq with
    | zero => exact absurd HA.out (by simp [geom_Hint.j0])
    | succ kj1 =>
      have H := HA.out
      clear HA
      simp only [geom_Hint.j0] at H
      by_cases c5 : x12_1 = true
      · subst c5
        have H1 : (some (0, 23)) = some (r1, r2) := by rw [if_pos rfl] at H; exact H
        clear H
        have H := H1
        clear H1
        simp only [Option.some.injEq, Prod.mk.injEq] at H
        obtain ⟨rfl, rfl⟩ := H
        go_wp2
        go_ret2
        exact ⟨by first | rfl | (simp; done) | (simp [*]; done), by repeat (first | exact Drawn0.refl _ | apply Drawn0.step)⟩
      · replace c5 := Bool.eq_false_iff.mpr c5
        subst c5
        have H1 : (if a0 < 8 then (some ((a0) % 256, 0)) else ((bits_Len.f (IntKind.u64.wrap (a0))).bind fun t102 => (if 0 ≤ (wrap64 ((wrap64 (t102 - 3)) - 1)) then ((geom_Most.f ((wrap64 ((wrap64 ((wrap64 (8 * (wrap64 (t102 - 3)))) + (shr .i64 a0 (wrap64 ((wrap64 (t102 - 3)) - 1))))) - 8)) % 256)).bind fun t103 => (if t103 < a0 then (some ((wrap64 ((wrap64 ((wrap64 ((wrap64 (8 * (wrap64 (t102 - 3)))) + (shr .i64 a0 (wrap64 ((wrap64 (t102 - 3)) - 1))))) - 8)) + 1)) % 256, 0)) else (some ((wrap64 ((wrap64 ((wrap64 (8 * (wrap64 (t102 - 3)))) + (shr .i64 a0 (wrap64 ((wrap64 (t102 - 3)) - 1))))) - 8)) % 256, 0)))) else (none)))) = some (r1, r2) := by rw [if_neg (show ¬ (false = true) by decide)] at H; exact H
        clear H
        have H := H1
        clear H1
        by_cases c6 : a0 < 8
        · rw [if_pos c6] at H
          have c6b0 : decide (a0 < 8) = true := decide_eq_true c6
          clear c6
          simp only [Option.some.injEq, Prod.mk.injEq] at H
          obtain ⟨rfl, rfl⟩ := H
          go_wp2
          go_ret2
          exact ⟨by first | rfl | (simp; done) | (simp [*]; done), by repeat (first | exact Drawn0.refl _ | apply Drawn0.step)⟩
        · rw [if_neg c6] at H
          have c6b0 : decide (a0 < 8) = false := decide_eq_false c6
          clear c6
          replace H := Option.bind_eq_some_iff.mp H
          obtain ⟨t102, A70, H⟩ := H
          replace H : (if 0 ≤ (wrap64 ((wrap64 (t102 - 3)) - 1)) then ((geom_Most.f ((wrap64 ((wrap64 ((wrap64 (8 * (wrap64 (t102 - 3)))) + (shr .i64 a0 (wrap64 ((wrap64 (t102 - 3)) - 1))))) - 8)) % 256)).bind fun t103 => (if t103 < a0 then (some ((wrap64 ((wrap64 ((wrap64 ((wrap64 (8 * (wrap64 (t102 - 3)))) + (shr .i64 a0 (wrap64 ((wrap64 (t102 - 3)) - 1))))) - 8)) + 1)) % 256, 0)) else (some ((wrap64 ((wrap64 ((wrap64 (8 * (wrap64 (t102 - 3)))) + (shr .i64 a0 (wrap64 ((wrap64 (t102 - 3)) - 1))))) - 8)) % 256, 0)))) else (none)) = some (r1, r2) := H
          have A7 := Aside0.mk A70
          clear A70
          obtain ⟨ji8, hji8⟩ : ∃ j_ : Int, (wrap64 ((wrap64 (t102 - 3)) - 1)) = j_ := ⟨_, rfl⟩
          replace H : (if 0 ≤ (ji8) then ((geom_Most.f ((wrap64 ((wrap64 ((wrap64 (8 * (wrap64 (t102 - 3)))) + (shr .i64 a0 (ji8)))) - 8)) % 256)).bind fun t103 => (if t103 < a0 then (some ((wrap64 ((wrap64 ((wrap64 ((wrap64 (8 * (wrap64 (t102 - 3)))) + (shr .i64 a0 (ji8)))) - 8)) + 1)) % 256, 0)) else (some ((wrap64 ((wrap64 ((wrap64 (8 * (wrap64 (t102 - 3)))) + (shr .i64 a0 (ji8)))) - 8)) % 256, 0)))) else (none)) = some (r1, r2) := by first | (rw [hji8] at H; exact H) | (simp only [hji8] at H ⊢; exact H)
          (try rw [hji8] at A7)
          have hji8w : (IntKind.i64.wrap ((wrap64 (t102 - 3)) - 1)) = ji8 := (i64_w _).trans hji8
          by_cases c9 : 0 ≤ (ji8)
          · rw [if_pos c9] at H
            have c9b0 := eq_true c9
            have c9b1 : decide (0 ≤ (ji8)) = true := decide_eq_true c9
            clear c9
            obtain ⟨ji10, hji10⟩ : ∃ j_ : Int, (shr .i64 a0 (ji8)) = j_ := ⟨_, rfl⟩
            replace H : ((geom_Most.f ((wrap64 ((wrap64 ((wrap64 (8 * (wrap64 (t102 - 3)))) + (ji10))) - 8)) % 256)).bind fun t103 => (if t103 < a0 then (some ((wrap64 ((wrap64 ((wrap64 ((wrap64 (8 * (wrap64 (t102 - 3)))) + (ji10))) - 8)) + 1)) % 256, 0)) else (some ((wrap64 ((wrap64 ((wrap64 (8 * (wrap64 (t102 - 3)))) + (ji10))) - 8)) % 256, 0)))) = some (r1, r2) := by first | (rw [hji10] at H; exact H) | (simp only [hji10] at H ⊢; exact H)
            (try rw [hji10] at A7)
            have hji10_ : (a0 / 2 ^ min (ji8).toNat 64) = ji10 := hji10
            have hji10z : (ji8) ≤ 64 → (a0 / 2 ^ (ji8).toNat) = ji10 := shr_small hji10
            replace H := Option.bind_eq_some_iff.mp H
            obtain ⟨t103, A110, H⟩ := H
            replace H : (if t103 < a0 then (some ((wrap64 ((wrap64 ((wrap64 ((wrap64 (8 * (wrap64 (t102 - 3)))) + (ji10))) - 8)) + 1)) % 256, 0)) else (some ((wrap64 ((wrap64 ((wrap64 (8 * (wrap64 (t102 - 3)))) + (ji10))) - 8)) % 256, 0))) = some (r1, r2) := H
            have A11 := Aside0.mk A110
            clear A110
            by_cases c12 : t103 < a0
            · rw [if_pos c12] at H
              have c12b0 : decide (t103 < a0) = true := decide_eq_true c12
              clear c12
              simp only [Option.some.injEq, Prod.mk.injEq] at H
              obtain ⟨rfl, rfl⟩ := H
              go_wp2_with (first | ((with_reducible refine gate_callee (f := 50) rfl ?_); refine goesL_ (some 19) rfl rfl Try.func50 (by kernel_rfl) rfl #[.int .u64 (IntKind.u64.wrap (a0))] rfl (by (try simp only [List.map_toArray, List.map_cons, List.map_nil]); first | done | rfl | (simp only [List.length_drop, List.length_take]; rfl)) ?_; (with_reducible refine (bits_Len.calls (IntKind.u64.wrap (a0)) t102 _ A7.out).mono ?_); rintro e w' ⟨rfl, ⟨nd, rfl⟩⟩; refine ⟨_, rfl, ?_⟩) | ((with_reducible refine gate_callee (f := 31) rfl ?_); refine goesL_ (some 31) rfl rfl Try.func31 (by kernel_rfl) rfl #[.int .u8 ((wrap64 ((wrap64 ((wrap64 (8 * (wrap64 (t102 - 3)))) + (ji10))) - 8)) % 256)] rfl (by (try simp only [List.map_toArray, List.map_cons, List.map_nil]); first | done | (simp only [hji10]; rfl) | rfl | (simp only [List.length_drop, List.length_take]; rfl)) ?_; (with_reducible refine (geom_Most.calls ((wrap64 ((wrap64 ((wrap64 (8 * (wrap64 (t102 - 3)))) + (ji10))) - 8)) % 256) t103 _ A11.out).mono ?_); rintro e w' ⟨rfl, ⟨nd, rfl⟩⟩; refine ⟨_, rfl, ?_⟩))
              go_ret2
              exact ⟨by first | rfl | (simp; done) | (simp only [← hji8, ← hji10] <;> (first | rfl | simp)) | (simp [*]; done), by repeat (first | exact Drawn0.refl _ | apply Drawn0.step)⟩
            · rw [if_neg c12] at H
              have c12b0 : decide (t103 < a0) = false := decide_eq_false c12
              clear c12
              simp only [Option.some.injEq, Prod.mk.injEq] at H
              obtain ⟨rfl, rfl⟩ := H
              go_wp2_with (first | ((with_reducible refine gate_callee (f := 50) rfl ?_); refine goesL_ (some 19) rfl rfl Try.func50 (by kernel_rfl) rfl #[.int .u64 (IntKind.u64.wrap (a0))] rfl (by (try simp only [List.map_toArray, List.map_cons, List.map_nil]); first | done | rfl | (simp only [List.length_drop, List.length_take]; rfl)) ?_; (with_reducible refine (bits_Len.calls (IntKind.u64.wrap (a0)) t102 _ A7.out).mono ?_); rintro e w' ⟨rfl, ⟨nd, rfl⟩⟩; refine ⟨_, rfl, ?_⟩) | ((with_reducible refine gate_callee (f := 31) rfl ?_); refine goesL_ (some 31) rfl rfl Try.func31 (by kernel_rfl) rfl #[.int .u8 ((wrap64 ((wrap64 ((wrap64 (8 * (wrap64 (t102 - 3)))) + (ji10))) - 8)) % 256)] rfl (by (try simp only [List.map_toArray, List.map_cons, List.map_nil]); first | done | (simp only [hji10]; rfl) | rfl | (simp only [List.length_drop, List.length_take]; rfl)) ?_; (with_reducible refine (geom_Most.calls ((wrap64 ((wrap64 ((wrap64 (8 * (wrap64 (t102 - 3)))) + (ji10))) - 8)) % 256) t103 _ A11.out).mono ?_); rintro e w' ⟨rfl, ⟨nd, rfl⟩⟩; refine ⟨_, rfl, ?_⟩))
              go_ret2
              exact ⟨by first | rfl | (simp; done) | (simp only [← hji8, ← hji10] <;> (first | rfl | simp)) | (simp [*]; done), by repeat (first | exact Drawn0.refl _ | apply Drawn0.step)⟩
          · rw [if_neg c9] at H
            exact absurd H (by simp)

/-! ### cellarref02_Most: function 34 -/
def cellarref02_Most.l0 : Nat → Int → Int → Option (Int)
  | 0, _, _ => none
  | k + 1, x3, x4 => if x4 > 1 then (cellarref02_Most.l0 k (wrap64 (x3 * 2)) (wrap64 (x4 - 1))) else (some x3)
def cellarref02_Most.f (k : Nat) (a0 : Int) : Option (Int) := if a0 < 8 then (some a0) else (cellarref02_Most.l0 k (wrap64 (8 + (Int.tmod a0 8))) (wrap64 (Int.tdiv a0 8)))
theorem cellarref02_Most.mono_l : ∀ k, (∀ y0 y1, LeO (cellarref02_Most.l0 k y0 y1) (cellarref02_Most.l0 (k + 1) y0 y1))
  | 0 => fun _ _ r h => by simp [cellarref02_Most.l0] at h
  | k + 1 => by
    have ih0 := cellarref02_Most.mono_l k
    · intro y0 y1
      unfold cellarref02_Most.l0
      repeat' first
      | (with_reducible exact ih0 _ _)
      | (with_reducible exact LeO.refl _)
      | (with_reducible exact LeO.none _)
      | (with_reducible refine LeO.ite ?_ ?_)
      | (with_reducible refine LeO.bind ?_ (fun _ => ?_))
      | exact ih0 _ _
      | exact LeO.none _
      | refine LeO.ite ?_ ?_
      | refine LeO.bind ?_ (fun _ => ?_)
theorem cellarref02_Most.mono : ∀ a0 k, LeO (cellarref02_Most.f k a0) (cellarref02_Most.f (k + 1) a0) := by
  intro a0 k
  have ih0 := cellarref02_Most.mono_l k
  unfold cellarref02_Most.f
  repeat' first
      | (with_reducible exact ih0 _ _)
      | (with_reducible exact LeO.refl _)
      | (with_reducible exact LeO.none _)
      | (with_reducible refine LeO.ite ?_ ?_)
      | (with_reducible refine LeO.bind ?_ (fun _ => ?_))
      | exact ih0 _ _
      | exact LeO.none _
      | refine LeO.ite ?_ ?_
      | refine LeO.bind ?_ (fun _ => ?_)
set_option maxHeartbeats 8000000 in
set_option maxRecDepth 100000 in
theorem cellarref02_Most.calls (k : Nat) (a0 : Int) (r : Int) (w : World) (h : cellarref02_Most.f k a0 = some r) :
    Calls Try.prog 34 #[.int .i64 a0] w fun e w' => e = .returned (.int .i64 r) ∧ Drawn0 w w' := by
  have H : (if a0 < 8 then (some a0) else (cellarref02_Most.l0 k (wrap64 (8 + (Int.tmod a0 8))) (wrap64 (Int.tdiv a0 8)))) = some r := h
  clear h
  by_cases c2 : a0 < 8
  · rw [if_pos c2] at H
    have c2b0 : decide (a0 < 8) = true := decide_eq_true c2
    clear c2
    obtain rfl := Option.some.inj H
    go_enter Try.func34, Try.ntmps34
    go_wp2
    go_ret
    exact ⟨by first | rfl | (simp; done) | (simp [*]; done), by repeat (first | exact Drawn0.refl _ | apply Drawn0.step)⟩
  · rw [if_neg c2] at H
    have c2b0 : decide (a0 < 8) = false := decide_eq_false c2
    clear c2
    have H' := Aside0.mk H
    clear H
    go_enter Try.func34, Try.ntmps34
    go_wp2
    go_loopg [3, 4] k (fun kq v3 v4 w' => ∃ (x3_1 : Int) (x4_1 : Int), v3 = .int .i64 x3_1 ∧ v4 = .int .i64 x4_1 ∧ Aside0 (cellarref02_Most.l0 kq x3_1 x4_1 = some r) ∧ Aside0 (kq ≤ k) ∧ Drawn0 w w')
    case atStart => exact ⟨(wrap64 (8 + (Int.tmod a0 8))), (wrap64 (Int.tdiv a0 8)), (by first | rfl | (simp; done) | (simp [*]; done)), (by first | rfl | (simp; done) | (simp [*]; done)), H', ⟨Nat.le_refl _⟩, by repeat (first | exact Drawn0.refl _ | apply Drawn0.step)⟩
    case round =>
      clear H'
      try clear c2
      try clear c2b0
      try clear p2
      obtain ⟨x3_1, x4_1, rfl, rfl, HA, HK1, ⟨m1, rfl⟩⟩ := hrel
      cases gk with
      | zero => exact absurd HA.out (by simp [cellarref02_Most.l0])
      | succ k1 =>
        have H := HA.out
        clear HA
        simp only [cellarref02_Most.l0] at H
        by_cases c3 : x4_1 > 1
        · rw [if_pos c3] at H
          have c3b0 : decide (1 < x4_1) = true := decide_eq_true c3
          clear c3
          have H' := Aside0.mk H
          clear H
          go_wp2
          go_roundg k1
          case measure => have := HK1.out; omega
          case rel => exact ⟨(wrap64 (x3_1 * 2)), (wrap64 (x4_1 - 1)), (by first | rfl | (simp; done) | (simp [*]; done)), (by first | rfl | (simp; done) | (simp [*]; done)), H', ⟨by have := HK1.out; omega⟩, by repeat (first | exact Drawn0.refl _ | apply Drawn0.step)⟩
        · rw [if_neg c3] at H
          have c3b0 : decide (1 < x4_1) = false := decide_eq_false c3
          clear c3
          obtain rfl := Option.some.inj H
          go_wp2
          go_ret
          exact ⟨by first | rfl | (simp; done) | (simp [*]; done), by repeat (first | exact Drawn0.refl _ | apply Drawn0.step)⟩

/-! ### cellarref02_Hint: function 33 -/
mutual
def cellarref02_Hint.j0 : Nat → Int → Bool → Option (Int × Int)
  | 0, _, _ => none
  | k + 1, x0, x11 => if x11 = true then (some (0, 23)) else (cellarref02_Hint.l0 k x0 0)
def cellarref02_Hint.l0 : Nat → Int → Int → Option (Int × Int)
  | 0, _, _ => none
  | k + 1, x0, x4 => (cellarref02_Most.f k x4).bind fun t105 => (if t105 < x0 then (cellarref02_Hint.l0 k x0 (wrap64 (x4 + 1))) else (some (x4, 0)))
end
def cellarref02_Hint.f (k : Nat) (a0 : Int) : Option (Int × Int) := if a0 < 0 then (cellarref02_Hint.j0 k a0 true) else ((cellarref02_Most.f k 255).bind fun t104 => (cellarref02_Hint.j0 k a0 (decide (a0 > t104))))
theorem cellarref02_Hint.mono_l : ∀ k, (∀ y0 y1, LeO (cellarref02_Hint.j0 k y0 y1) (cellarref02_Hint.j0 (k + 1) y0 y1)) ∧ (∀ y0 y1, LeO (cellarref02_Hint.l0 k y0 y1) (cellarref02_Hint.l0 (k + 1) y0 y1))
  | 0 => ⟨fun _ _ r h => by simp [cellarref02_Hint.j0] at h, fun _ _ r h => by simp [cellarref02_Hint.l0] at h⟩
  | k + 1 => by
    obtain ⟨ih0, ih1⟩ := cellarref02_Hint.mono_l k
    refine ⟨?_, ?_⟩
    · intro y0 y1
      unfold cellarref02_Hint.j0
      repeat' first
      | (with_reducible exact ih0 _ _)
      | (with_reducible exact ih1 _ _)
      | (with_reducible exact cellarref02_Most.mono _ _)
      | (with_reducible exact LeO.refl _)
      | (with_reducible exact LeO.none _)
      | (with_reducible refine LeO.ite ?_ ?_)
      | (with_reducible refine LeO.bind ?_ (fun _ => ?_))
      | exact ih0 _ _
      | exact ih1 _ _
      | exact cellarref02_Most.mono _ _
      | exact LeO.none _
      | refine LeO.ite ?_ ?_
      | refine LeO.bind ?_ (fun _ => ?_)
    · intro y0 y1
      unfold cellarref02_Hint.l0
      repeat' first
      | (with_reducible exact ih0 _ _)
      | (with_reducible exact ih1 _ _)
      | (with_reducible exact cellarref02_Most.mono _ _)
      | (with_reducible exact LeO.refl _)
      | (with_reducible exact LeO.none _)
      | (with_reducible refine LeO.ite ?_ ?_)
      | (with_reducible refine LeO.bind ?_ (fun _ => ?_))
      | exact ih0 _ _
      | exact ih1 _ _
      | exact cellarref02_Most.mono _ _
      | exact LeO.none _
      | refine LeO.ite ?_ ?_
      | refine LeO.bind ?_ (fun _ => ?_)
theorem cellarref02_Hint.mono : ∀ a0 k, LeO (cellarref02_Hint.f k a0) (cellarref02_Hint.f (k + 1) a0) := by
  intro a0 k
  obtain ⟨ih0, ih1⟩ := cellarref02_Hint.mono_l k
  unfold cellarref02_Hint.f
  repeat' first
      | (with_reducible exact ih0 _ _)
      | (with_reducible exact ih1 _ _)
      | (with_reducible exact cellarref02_Most.mono _ _)
      | (with_reducible exact LeO.refl _)
      | (with_reducible exact LeO.none _)
      | (with_reducible refine LeO.ite ?_ ?_)
      | (with_reducible refine LeO.bind ?_ (fun _ => ?_))
      | exact ih0 _ _
      | exact ih1 _ _
      | exact cellarref02_Most.mono _ _
      | exact LeO.none _
      | refine LeO.ite ?_ ?_
      | refine LeO.bind ?_ (fun _ => ?_)
set_option maxHeartbeats 8000000 in
set_option maxRecDepth 100000 in
theorem cellarref02_Hint.calls (k : Nat) (a0 : Int) (r1 : Int) (r2 : Int) (w : World) (h : cellarref02_Hint.f k a0 = some (r1, r2)) :
    Calls Try.prog 33 #[.int .i64 a0] w fun e w' => e = .returned (.tuple #[.int .i64 r1, .int .i64 r2]) ∧ Drawn0 w w' := by
  have H : (if a0 < 0 then (cellarref02_Hint.j0 k a0 true) else ((cellarref02_Most.f k 255).bind fun t104 => (cellarref02_Hint.j0 k a0 (decide (a0 > t104))))) = some (r1, r2) := h
  clear h
  have HC2 := Aside0.mk H
  clear H
  go_enter Try.func33, Try.ntmps33
  go_upto_region 1 with (fail)
  go_cut [11] (fun v11 wc => ∃ (kq : Nat) (x11_1 : Bool), v11 = .bool x11_1 ∧ Aside0 (cellarref02_Hint.j0 kq a0 x11_1 = some (r1, r2)) ∧ Aside0 (kq ≤ k) ∧ Drawn0 w wc)
  case first =>
    have H := HC2.out
    clear HC2
    by_cases c3 : a0 < 0
    · rw [if_pos c3] at H
      have c3b0 : decide (a0 < 0) = true := decide_eq_true c3
      clear c3
      (first | rw [c3b0] | (simp only [i64_w, i32_w]; rw [c3b0]) | skip)
      have H' := Aside0.mk H
      clear H
      go_wp2
      go_meet
      case rel => exact ⟨_, (true), (by first | rfl | (simp; done) | (simp [*]; done)), H', ⟨by first | omega | exact Nat.le_refl _⟩, by repeat (first | exact Drawn0.refl _ | apply Drawn0.step)⟩
    · rw [if_neg c3] at H
      have c3b0 : decide (a0 < 0) = false := decide_eq_false c3
      clear c3
      (first | rw [c3b0] | (simp only [i64_w, i32_w]; rw [c3b0]) | skip)
      replace H := Option.bind_eq_some_iff.mp H
      obtain ⟨t104, A40, H⟩ := H
      replace H : (cellarref02_Hint.j0 k a0 (decide (a0 > t104))) = some (r1, r2) := H
      have A4 := Aside0.mk A40
      clear A40
      have H' := Aside0.mk H
      clear H
      go_wp2_with (first | (go_at_call 34; (with_reducible refine (cellarref02_Most.calls k 255 t104 _ A4.out).mono ?_); rintro e w' ⟨rfl, ⟨nd, rfl⟩⟩))
      go_meet
      case rel => exact ⟨_, (decide (a0 > t104)), (by first | rfl | (simp; done) | (simp [*]; done)), H', ⟨by first | omega | exact Nat.le_refl _⟩, by repeat (first | exact Drawn0.refl _ | apply Drawn0.step)⟩
  case rest =>
    clear HC2
    try clear p2
    try clear c3
    try clear c3b0
    obtain ⟨kq, x11_1, rfl, HA, HJ1, ⟨mc1, rfl⟩⟩ := hcut
    cases kq with
    | zero => exact absurd HA.out (by simp [cellarref02_Hint.j0])
    | succ kj1 =>
      have H := HA.out
      clear HA
      simp only [cellarref02_Hint.j0] at H
      by_cases c5 : x11_1 = true
      · subst c5
        have H1 : (some (0, 23)) = some (r1, r2) := by rw [if_pos rfl] at H; exact H
        clear H
        have H := H1
        clear H1
        simp only [Option.some.injEq, Prod.mk.injEq] at H
        obtain ⟨rfl, rfl⟩ := H
        go_wp2
        go_ret2
        exact ⟨by first | rfl | (simp; done) | (simp [*]; done), by repeat (first | exact Drawn0.refl _ | apply Drawn0.step)⟩
      · replace c5 := Bool.eq_false_iff.mpr c5
        subst c5
        have H1 : (cellarref02_Hint.l0 kj1 a0 0) = some (r1, r2) := by rw [if_neg (show ¬ (false = true) by decide)] at H; exact H
        clear H
        have H := H1
        clear H1
        have H' := Aside0.mk H
        clear H
        go_wp2
        go_loopg [4] kj1 (fun kq v4 w' => ∃ (x4_2 : Int), v4 = .int .i64 x4_2 ∧ Aside0 (cellarref02_Hint.l0 kq a0 x4_2 = some (r1, r2)) ∧ Aside0 (kq ≤ kj1) ∧ Drawn0 w w')
        case atStart => exact ⟨(0), (by first | rfl | (simp; done) | (simp [*]; done)), H', ⟨Nat.le_refl _⟩, by repeat (first | exact Drawn0.refl _ | apply Drawn0.step)⟩
        case round =>
          clear H'
          try clear c1
          try clear p2
          try clear c3
          try clear c3b0
          try clear c5
          try clear p2
          obtain ⟨x4_2, rfl, HA, HK2, ⟨m2, rfl⟩⟩ := hrel
          cases gk with
          | zero => exact absurd HA.out (by simp [cellarref02_Hint.l0])
          | succ k2 =>
            have H := HA.out
            clear HA
            simp only [cellarref02_Hint.l0] at H
            replace H := Option.bind_eq_some_iff.mp H
            obtain ⟨t105, A60, H⟩ := H
            replace H : (if t105 < a0 then (cellarref02_Hint.l0 k2 a0 (wrap64 (x4_2 + 1))) else (some (x4_2, 0))) = some (r1, r2) := H
            have A6 := Aside0.mk A60
            clear A60
            by_cases c7 : t105 < a0
            · rw [if_pos c7] at H
              have c7b0 : decide (t105 < a0) = true := decide_eq_true c7
              clear c7
              have H' := Aside0.mk H
              clear H
              go_wp2_with (first | ((with_reducible refine gate_callee (f := 34) rfl ?_); refine goesL_ (some 13) rfl rfl Try.func34 (by kernel_rfl) rfl #[.int .i64 x4_2] rfl (by (try simp only [List.map_toArray, List.map_cons, List.map_nil]); first | done | rfl | (simp only [List.length_drop, List.length_take]; rfl)) ?_; (with_reducible refine (cellarref02_Most.calls k2 x4_2 t105 _ A6.out).mono ?_); rintro e w' ⟨rfl, ⟨nd, rfl⟩⟩; refine ⟨_, rfl, ?_⟩))
              go_roundg k2
              case measure => have := HJ1.out; have := HK2.out; omega
              case rel => exact ⟨(wrap64 (x4_2 + 1)), (by first | rfl | (simp; done) | (simp [*]; done)), H', ⟨by have := HJ1.out; have := HK2.out; omega⟩, by repeat (first | exact Drawn0.refl _ | apply Drawn0.step)⟩
            · rw [if_neg c7] at H
              have c7b0 : decide (t105 < a0) = false := decide_eq_false c7
              clear c7
              simp only [Option.some.injEq, Prod.mk.injEq] at H
              obtain ⟨rfl, rfl⟩ := H
              go_wp2_with (first | ((with_reducible refine gate_callee (f := 34) rfl ?_); refine goesL_ (some 13) rfl rfl Try.func34 (by kernel_rfl) rfl #[.int .i64 x4_2] rfl (by (try simp only [List.map_toArray, List.map_cons, List.map_nil]); first | done | rfl | (simp only [List.length_drop, List.length_take]; rfl)) ?_; (with_reducible refine (cellarref02_Most.calls k2 x4_2 t105 _ A6.out).mono ?_); rintro e w' ⟨rfl, ⟨nd, rfl⟩⟩; refine ⟨_, rfl, ?_⟩))
              go_ret2
              exact ⟨by first | rfl | (simp; done) | (simp [*]; done), by repeat (first | exact Drawn0.refl _ | apply Drawn0.step)⟩

/-! ### cellarlaw02_GeomHints: function 10 -/
def cellarlaw02_GeomHints.f (k : Nat) (a0 : Int) (a1 : Int) : Option (Bool) := (geom_Most.f 37).bind fun t106 => (if t106 = 104 then ((geom_Hint.f k a0).bind fun bt107 => ((cellarref02_Hint.f k a0).bind fun bt109 => (if (wrap64 (bt107.1)) = bt109.1 then (if bt107.2 = bt109.2 then ((geom_Most.f a1).bind fun t111 => ((cellarref02_Most.f k (wrap64 (a1))).bind fun t112 => (some (t111 == t112)))) else (some false)) else (some false)))) else (some false))
theorem cellarlaw02_GeomHints.mono : ∀ a0 a1 k, LeO (cellarlaw02_GeomHints.f k a0 a1) (cellarlaw02_GeomHints.f (k + 1) a0 a1) := by
  intro a0 a1 k
  unfold cellarlaw02_GeomHints.f
  repeat' first
      | (with_reducible exact cellarref02_Hint.mono _ _)
      | (with_reducible exact cellarref02_Most.mono _ _)
      | (with_reducible exact geom_Hint.mono _ _)
      | (with_reducible exact LeO.refl _)
      | (with_reducible exact LeO.none _)
      | (with_reducible refine LeO.ite ?_ ?_)
      | (with_reducible refine LeO.bind ?_ (fun _ => ?_))
      | exact cellarref02_Hint.mono _ _
      | exact cellarref02_Most.mono _ _
      | exact geom_Hint.mono _ _
      | exact LeO.none _
      | refine LeO.ite ?_ ?_
      | refine LeO.bind ?_ (fun _ => ?_)
set_option maxHeartbeats 8000000 in
set_option maxRecDepth 100000 in
theorem cellarlaw02_GeomHints.calls (k : Nat) (a0 : Int) (a1 : Int) (r : Bool) (w : World) (h : cellarlaw02_GeomHints.f k a0 a1 = some r) :
    Calls Try.prog 10 #[.int .i64 a0, .int .u8 a1] w fun e w' => e = .returned (.bool r) ∧ Drawn0 w w' := by
  have H : ((geom_Most.f 37).bind fun t106 => (if t106 = 104 then ((geom_Hint.f k a0).bind fun bt107 => ((cellarref02_Hint.f k a0).bind fun bt109 => (if (wrap64 (bt107.1)) = bt109.1 then (if bt107.2 = bt109.2 then ((geom_Most.f a1).bind fun t111 => ((cellarref02_Most.f k (wrap64 (a1))).bind fun t112 => (some (t111 == t112)))) else (some false)) else (some false)))) else (some false))) = some r := h
  clear h
  replace H := Option.bind_eq_some_iff.mp H
  obtain ⟨t106, A30, H⟩ := H
  replace H : (if t106 = 104 then ((geom_Hint.f k a0).bind fun bt107 => ((cellarref02_Hint.f k a0).bind fun bt109 => (if (wrap64 (bt107.1)) = bt109.1 then (if bt107.2 = bt109.2 then ((geom_Most.f a1).bind fun t111 => ((cellarref02_Most.f k (wrap64 (a1))).bind fun t112 => (some (t111 == t112)))) else (some false)) else (some false)))) else (some false)) = some r := H
  have A3 := Aside0.mk A30
  clear A30
  by_cases c4 : t106 = 104
  · rw [if_pos c4] at H
    have c4b0 : (t106 == 104) = true := beq_iff_eq.mpr c4
    have c4b1 : (t106 != 104) = false := bne_eq_false_iff_eq.mpr c4
    clear c4
    replace H := Option.bind_eq_some_iff.mp H
    obtain ⟨⟨t107, t108⟩, A50, H⟩ := H
    replace H : ((cellarref02_Hint.f k a0).bind fun bt109 => (if (wrap64 (t107)) = bt109.1 then (if t108 = bt109.2 then ((geom_Most.f a1).bind fun t111 => ((cellarref02_Most.f k (wrap64 (a1))).bind fun t112 => (some (t111 == t112)))) else (some false)) else (some false))) = some r := H
    have A5 := Aside0.mk A50
    clear A50
    replace H := Option.bind_eq_some_iff.mp H
    obtain ⟨⟨t109, t110⟩, A60, H⟩ := H
    replace H : (if (wrap64 (t107)) = t109 then (if t108 = t110 then ((geom_Most.f a1).bind fun t111 => ((cellarref02_Most.f k (wrap64 (a1))).bind fun t112 => (some (t111 == t112)))) else (some false)) else (some false)) = some r := H
    have A6 := Aside0.mk A60
    clear A60
    by_cases c7 : (wrap64 (t107)) = t109
    · rw [if_pos c7] at H
      have c7b0 : ((wrap64 (t107)) == t109) = true := beq_iff_eq.mpr c7
      have c7b1 : ((wrap64 (t107)) != t109) = false := bne_eq_false_iff_eq.mpr c7
      clear c7
      by_cases c8 : t108 = t110
      · rw [if_pos c8] at H
        have c8b0 : (t108 == t110) = true := beq_iff_eq.mpr c8
        have c8b1 : (t108 != t110) = false := bne_eq_false_iff_eq.mpr c8
        clear c8
        replace H := Option.bind_eq_some_iff.mp H
        obtain ⟨t111, A90, H⟩ := H
        replace H : ((cellarref02_Most.f k (wrap64 (a1))).bind fun t112 => (some (t111 == t112))) = some r := H
        have A9 := Aside0.mk A90
        clear A90
        replace H := Option.bind_eq_some_iff.mp H
        obtain ⟨t112, A100, H⟩ := H
        replace H : (some (t111 == t112)) = some r := H
        have A10 := Aside0.mk A100
        clear A100
        obtain rfl := Option.some.inj H
        go_enter Try.func10, Try.ntmps10
        go_wp2_with (first | ((with_reducible refine gate_callee (f := 31) rfl ?_); refine goesL_ (some 9) rfl rfl Try.func31 (by kernel_rfl) rfl #[.int .u8 37] rfl (by (try simp only [List.map_toArray, List.map_cons, List.map_nil]); first | done | rfl | (simp only [List.length_drop, List.length_take]; rfl)) ?_; (with_reducible refine (geom_Most.calls 37 t106 _ A3.out).mono ?_); rintro e w' ⟨rfl, ⟨nd, rfl⟩⟩; refine ⟨_, rfl, ?_⟩) | ((with_reducible refine gate_callee (f := 32) rfl ?_); refine goesL_ (some 13) rfl rfl Try.func32 (by kernel_rfl) rfl #[.int .i64 a0] rfl (by (try simp only [List.map_toArray, List.map_cons, List.map_nil]); first | done | rfl | (simp only [List.length_drop, List.length_take]; rfl)) ?_; (with_reducible refine (geom_Hint.calls k a0 t107 t108 _ A5.out).mono ?_); rintro e w' ⟨rfl, ⟨nd, rfl⟩⟩; refine ⟨_, rfl, ?_⟩) | ((with_reducible refine gate_callee (f := 33) rfl ?_); refine goesL_ (some 18) rfl rfl Try.func33 (by kernel_rfl) rfl #[.int .i64 a0] rfl (by (try simp only [List.map_toArray, List.map_cons, List.map_nil]); first | done | rfl | (simp only [List.length_drop, List.length_take]; rfl)) ?_; (with_reducible refine (cellarref02_Hint.calls k a0 t109 t110 _ A6.out).mono ?_); rintro e w' ⟨rfl, ⟨nd, rfl⟩⟩; refine ⟨_, rfl, ?_⟩) | (go_at_call 31; (with_reducible refine (geom_Most.calls a1 t111 _ A9.out).mono ?_); rintro e w' ⟨rfl, ⟨nd, rfl⟩⟩) | (go_at_call 34; (with_reducible refine (cellarref02_Most.calls k (wrap64 (a1)) t112 _ A10.out).mono ?_); rintro e w' ⟨rfl, ⟨nd, rfl⟩⟩))
        go_ret
        exact ⟨by first | rfl | (simp; done) | (simp [*]; done), by repeat (first | exact Drawn0.refl _ | apply Drawn0.step)⟩
      · rw [if_neg c8] at H
        have c8b0 : (t108 == t110) = false := beq_eq_false_iff_ne.mpr c8
        have c8b1 : (t108 != t110) = true := bne_iff_ne.mpr c8
        obtain rfl := Option.some.inj H
        go_enter Try.func10, Try.ntmps10
        go_wp2_with (first | ((with_reducible refine gate_callee (f := 31) rfl ?_); refine goesL_ (some 9) rfl rfl Try.func31 (by kernel_rfl) rfl #[.int .u8 37] rfl (by (try simp only [List.map_toArray, List.map_cons, List.map_nil]); first | done | rfl | (simp only [List.length_drop, List.length_take]; rfl)) ?_; (with_reducible refine (geom_Most.calls 37 t106 _ A3.out).mono ?_); rintro e w' ⟨rfl, ⟨nd, rfl⟩⟩; refine ⟨_, rfl, ?_⟩) | ((with_reducible refine gate_callee (f := 32) rfl ?_); refine goesL_ (some 13) rfl rfl Try.func32 (by kernel_rfl) rfl #[.int .i64 a0] rfl (by (try simp only [List.map_toArray, List.map_cons, List.map_nil]); first | done | rfl | (simp only [List.length_drop, List.length_take]; rfl)) ?_; (with_reducible refine (geom_Hint.calls k a0 t107 t108 _ A5.out).mono ?_); rintro e w' ⟨rfl, ⟨nd, rfl⟩⟩; refine ⟨_, rfl, ?_⟩) | ((with_reducible refine gate_callee (f := 33) rfl ?_); refine goesL_ (some 18) rfl rfl Try.func33 (by kernel_rfl) rfl #[.int .i64 a0] rfl (by (try simp only [List.map_toArray, List.map_cons, List.map_nil]); first | done | rfl | (simp only [List.length_drop, List.length_take]; rfl)) ?_; (with_reducible refine (cellarref02_Hint.calls k a0 t109 t110 _ A6.out).mono ?_); rintro e w' ⟨rfl, ⟨nd, rfl⟩⟩; refine ⟨_, rfl, ?_⟩))
        go_ret
        exact ⟨by first | rfl | (simp; done) | (simp [*]; done), by repeat (first | exact Drawn0.refl _ | apply Drawn0.step)⟩
    · rw [if_neg c7] at H
      have c7b0 : ((wrap64 (t107)) == t109) = false := beq_eq_false_iff_ne.mpr c7
      have c7b1 : ((wrap64 (t107)) != t109) = true := bne_iff_ne.mpr c7
      obtain rfl := Option.some.inj H
      go_enter Try.func10, Try.ntmps10
      go_wp2_with (first | ((with_reducible refine gate_callee (f := 31) rfl ?_); refine goesL_ (some 9) rfl rfl Try.func31 (by kernel_rfl) rfl #[.int .u8 37] rfl (by (try simp only [List.map_toArray, List.map_cons, List.map_nil]); first | done | rfl | (simp only [List.length_drop, List.length_take]; rfl)) ?_; (with_reducible refine (geom_Most.calls 37 t106 _ A3.out).mono ?_); rintro e w' ⟨rfl, ⟨nd, rfl⟩⟩; refine ⟨_, rfl, ?_⟩) | ((with_reducible refine gate_callee (f := 32) rfl ?_); refine goesL_ (some 13) rfl rfl Try.func32 (by kernel_rfl) rfl #[.int .i64 a0] rfl (by (try simp only [List.map_toArray, List.map_cons, List.map_nil]); first | done | rfl | (simp only [List.length_drop, List.length_take]; rfl)) ?_; (with_reducible refine (geom_Hint.calls k a0 t107 t108 _ A5.out).mono ?_); rintro e w' ⟨rfl, ⟨nd, rfl⟩⟩; refine ⟨_, rfl, ?_⟩) | ((with_reducible refine gate_callee (f := 33) rfl ?_); refine goesL_ (some 18) rfl rfl Try.func33 (by kernel_rfl) rfl #[.int .i64 a0] rfl (by (try simp only [List.map_toArray, List.map_cons, List.map_nil]); first | done | rfl | (simp only [List.length_drop, List.length_take]; rfl)) ?_; (with_reducible refine (cellarref02_Hint.calls k a0 t109 t110 _ A6.out).mono ?_); rintro e w' ⟨rfl, ⟨nd, rfl⟩⟩; refine ⟨_, rfl, ?_⟩))
      go_ret
      exact ⟨by first | rfl | (simp; done) | (simp [*]; done), by repeat (first | exact Drawn0.refl _ | apply Drawn0.step)⟩
  · rw [if_neg c4] at H
    have c4b0 : (t106 == 104) = false := beq_eq_false_iff_ne.mpr c4
    have c4b1 : (t106 != 104) = true := bne_iff_ne.mpr c4
    obtain rfl := Option.some.inj H
    go_enter Try.func10, Try.ntmps10
    go_wp2_with (first | ((with_reducible refine gate_callee (f := 31) rfl ?_); refine goesL_ (some 9) rfl rfl Try.func31 (by kernel_rfl) rfl #[.int .u8 37] rfl (by (try simp only [List.map_toArray, List.map_cons, List.map_nil]); first | done | rfl | (simp only [List.length_drop, List.length_take]; rfl)) ?_; (with_reducible refine (geom_Most.calls 37 t106 _ A3.out).mono ?_); rintro e w' ⟨rfl, ⟨nd, rfl⟩⟩; refine ⟨_, rfl, ?_⟩))
    go_ret
    exact ⟨by first | rfl | (simp; done) | (simp [*]; done), by repeat (first | exact Drawn0.refl _ | apply Drawn0.step)⟩

/-- THE ONE PURE STATEMENT of cellarlaw02_GeomHints: yours. -/
def cellarlaw02_GeomHints.Pure : Prop := ∀ (a0 : Int) (a1 : Int), (Lit.int .i64 a0).wf = true → (Lit.int .u8 a1).wf = true → ∃ k, cellarlaw02_GeomHints.f k a0 a1 = some true
theorem cellarlaw02_GeomHints.walk (P : cellarlaw02_GeomHints.Pure) (a0 : Int) (a1 : Int) (w : World) (w0 : (Lit.int .i64 a0).wf = true) (w1 : (Lit.int .u8 a1).wf = true) :
    Calls Try.prog 10 #[.int .i64 a0, .int .u8 a1] w fun e w' => e = .returned (.bool true) ∧ Below w.heap.size w w' := by
  obtain ⟨k, h⟩ := P a0 a1 w0 w1
  refine (cellarlaw02_GeomHints.calls k a0 a1 true w h).mono ?_
  rintro e w' ⟨rfl, hd⟩
  exact ⟨rfl, hd.below⟩

end Go.Proofs.Ytdmcihajgcdhmaa.QGeomHints
