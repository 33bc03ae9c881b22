-- Written by a program of this session (wip/tools/print2): a turned copy of the kit's print.
import Derived.Test.YtdmcihajgcdhmaaQGeomJoinsx0
import Derived.Test.YtdmcihajgcdhmaaQGeomJoinsx2
namespace Go.Proofs.Ytdmcihajgcdhmaa.QGeomJoins
open Go.RowKit Go.Proofs.YtdmcihajgcdhmaaW.PrintWords Go.Proofs.YtdmcihajgcdhmaaW.PrintLast Go.Proofs.YtdmcihajgcdhmaaW.PrintMore
attribute [local go_sem] max2_int min2_int max_two min_two max_three min_three max_four min_four   -- for this text's walks alone
set_option linter.unusedVariables false
set_option linter.unusedSimpArgs false

/-! ### geom_Join: function 24 -/
/-- What Join answers. -/
def geom_Join.f (k : Nat) (p s r a g q y : Int) : Option (Int × Int) :=
  (geom_Bytes.f k p s r a).bind fun b => if b.2.2 = 0 then (if (0 ≤ g ∧ g < r) ∧ (0 ≤ q ∧ q < s) ∧ (0 ≤ y ∧ y < p) then some (wrap64 (wrap64 (wrap64 (g * b.1) + wrap64 (q * p)) + y), 0) else some (0, 21)) else some (0, b.2.2)

theorem geom_Join.mono : ∀ a0 a1 a2 a3 a4 a5 a6 k, LeO (geom_Join.f k a0 a1 a2 a3 a4 a5 a6) (geom_Join.f (k + 1) a0 a1 a2 a3 a4 a5 a6) := by
  intro a0 a1 a2 a3 a4 a5 a6 k
  unfold geom_Join.f
  exact LeO.bind (geom_Bytes.mono _ _ _ _ _) (fun _ => LeO.refl _)
theorem geom_Join.within_yes (n m : Int) (w : World) (h : 0 ≤ n ∧ n < m) : Calls Try.prog 47 #[.int .i64 n, .int .i64 m] w fun e w' => e = .returned (.bool true) ∧ w = w' := by
  have h1 : decide (0 ≤ n) = true := decide_eq_true h.1
  have h2 : decide (n < m) = true := decide_eq_true h.2
  go_enter Try.func47, Try.ntmps47
  go_wp2
  go_ret
  exact ⟨rfl, rfl⟩
theorem geom_Join.within_no (n m : Int) (w : World) (h : ¬ (0 ≤ n ∧ n < m)) : Calls Try.prog 47 #[.int .i64 n, .int .i64 m] w fun e w' => e = .returned (.bool false) ∧ w = w' := by
  by_cases h1 : 0 ≤ n
  · have h2 : decide (n < m) = false := decide_eq_false (fun x => h ⟨h1, x⟩)
    have h1 : decide (0 ≤ n) = true := decide_eq_true h1
    clear h
    go_enter Try.func47, Try.ntmps47
    go_wp2
    go_ret
    exact ⟨rfl, rfl⟩
  · have h1 : decide (0 ≤ n) = false := decide_eq_false h1
    clear h
    go_enter Try.func47, Try.ntmps47
    go_wp2
    go_ret
    exact ⟨rfl, rfl⟩
set_option maxHeartbeats 1000000 in
set_option maxRecDepth 100000 in
theorem geom_Join.calls (k : Nat) (p s r a g q y r1 r2 : Int) (w : World) (h : geom_Join.f k p s r a g q y = some (r1, r2)) :
    Calls Try.prog 24 #[.agg #[.int .i64 p, .int .i64 s, .int .i64 r, .int .i64 a], .agg #[.int .i64 g, .int .i64 q, .int .i64 y]] w fun e w' => e = .returned (.tuple #[.int .i64 r1, .int .i64 r2]) ∧ Below w.heap.size w w' := by
  unfold geom_Join.f at h
  obtain ⟨⟨b1, b2, b3⟩, hb, h⟩ := Option.bind_eq_some_iff.1 h
  simp only at h
  have HBy := Aside0.mk hb
  clear hb
  have hbel : ∀ w1, Below ((w.alloc (.cells #[.int .i64 p, .int .i64 s, .int .i64 r, .int .i64 a] 24)).alloc (.cells #[.int .i64 g, .int .i64 q, .int .i64 y] 32)).heap.size ((w.alloc (.cells #[.int .i64 p, .int .i64 s, .int .i64 r, .int .i64 a] 24)).alloc (.cells #[.int .i64 g, .int .i64 q, .int .i64 y] 32)) w1 →
      w1.heap[w.heap.size]? = some (.cells #[.int .i64 p, .int .i64 s, .int .i64 r, .int .i64 a] 24 (0, 0)) ∧ w1.heap[w.heap.size + 1]? = some (.cells #[.int .i64 g, .int .i64 q, .int .i64 y] 32 (0, 0)) ∧ Below w.heap.size w w1 := by
    intro w1 hb
    refine ⟨blk_below (blk_alloc (blk_new w _) _) hb, blk_below ?_ hb, ?_⟩
    · have := blk_new (w.alloc (.cells #[.int .i64 p, .int .i64 s, .int .i64 r, .int .i64 a] 24)) (.cells #[.int .i64 g, .int .i64 q, .int .i64 y] 32)
      rw [World.size_alloc] at this
      exact this
    · exact ((below_alloc (below_alloc (Below.refl _ w) _) _).trans (hb.mono (by rw [World.size_alloc, World.size_alloc]; omega)))
  have HL := Aside0.mk hbel
  clear hbel
  by_cases c : b3 = 0
  · rw [if_pos c] at h
    have c0 : (b3 != 0) = false := by simp [c]
    clear c
    have H := Aside0.mk h
    clear h
    by_cases cg : 0 ≤ g ∧ g < r
    · by_cases cq : 0 ≤ q ∧ q < s
      · by_cases cy : 0 ≤ y ∧ y < p
        · have h := H.out
          rw [if_pos ⟨cg, cq, cy⟩] at h
          simp only [Option.some.injEq, Prod.mk.injEq] at h
          obtain ⟨rfl, rfl⟩ := h
          clear H
          have CG := Aside0.mk cg
          have CQ := Aside0.mk cq
          have CY := Aside0.mk cy
          clear cg cq cy
          go_enter Try.func24, Try.ntmps24
          go_wp2_with fail
          refine (geom_Bytes.calls k p s r a b1 b2 b3 _ HBy.out).mono ?_
          rintro e w1 ⟨rfl, hb⟩
          obtain ⟨K1, K2, hbl⟩ := HL.out _ hb
          have HF := Aside0.mk hbl
          have f0 := (blk_cell K1 0).trans rfl
          have f1 := (blk_cell K1 1).trans rfl
          have f2 := (blk_cell K1 2).trans rfl
          have e0 := (blk_cell K2 0).trans rfl
          have e1 := (blk_cell K2 1).trans rfl
          have e2 := (blk_cell K2 2).trans rfl
          clear K1 K2 hb hbl
          go_wp2_with fail
          refine (geom_Join.within_yes _ _ _ CG.out).mono ?_
          rintro e w' ⟨rfl, rfl⟩
          go_wp2_with fail
          refine (geom_Join.within_yes _ _ _ CQ.out).mono ?_
          rintro e w' ⟨rfl, rfl⟩
          go_wp2_with fail
          refine (geom_Join.within_yes _ _ _ CY.out).mono ?_
          rintro e w' ⟨rfl, rfl⟩
          go_wp2
          go_ret2
          exact ⟨rfl, HF.out⟩
        · have h := H.out
          rw [if_neg (fun z => cy z.2.2)] at h
          simp only [Option.some.injEq, Prod.mk.injEq] at h
          obtain ⟨rfl, rfl⟩ := h
          clear H
          have CG := Aside0.mk cg
          have CQ := Aside0.mk cq
          have CY := Aside0.mk cy
          clear cg cq cy
          go_enter Try.func24, Try.ntmps24
          go_wp2_with fail
          refine (geom_Bytes.calls k p s r a b1 b2 b3 _ HBy.out).mono ?_
          rintro e w1 ⟨rfl, hb⟩
          obtain ⟨K1, K2, hbl⟩ := HL.out _ hb
          have HF := Aside0.mk hbl
          have f0 := (blk_cell K1 0).trans rfl
          have f1 := (blk_cell K1 1).trans rfl
          have f2 := (blk_cell K1 2).trans rfl
          have e0 := (blk_cell K2 0).trans rfl
          have e1 := (blk_cell K2 1).trans rfl
          have e2 := (blk_cell K2 2).trans rfl
          clear K1 K2 hb hbl
          go_wp2_with fail
          refine (geom_Join.within_yes _ _ _ CG.out).mono ?_
          rintro e w' ⟨rfl, rfl⟩
          go_wp2_with fail
          refine (geom_Join.within_yes _ _ _ CQ.out).mono ?_
          rintro e w' ⟨rfl, rfl⟩
          go_wp2_with fail
          refine (geom_Join.within_no _ _ _ CY.out).mono ?_
          rintro e w' ⟨rfl, rfl⟩
          go_wp2
          go_ret2
          exact ⟨rfl, HF.out⟩
      · have h := H.out
        rw [if_neg (fun z => cq z.2.1)] at h
        simp only [Option.some.injEq, Prod.mk.injEq] at h
        obtain ⟨rfl, rfl⟩ := h
        clear H
        have CG := Aside0.mk cg
        have CQ := Aside0.mk cq
        clear cg cq
        go_enter Try.func24, Try.ntmps24
        go_wp2_with fail
        refine (geom_Bytes.calls k p s r a b1 b2 b3 _ HBy.out).mono ?_
        rintro e w1 ⟨rfl, hb⟩
        obtain ⟨K1, K2, hbl⟩ := HL.out _ hb
        have HF := Aside0.mk hbl
        have f0 := (blk_cell K1 0).trans rfl
        have f1 := (blk_cell K1 1).trans rfl
        have f2 := (blk_cell K1 2).trans rfl
        have e0 := (blk_cell K2 0).trans rfl
        have e1 := (blk_cell K2 1).trans rfl
        have e2 := (blk_cell K2 2).trans rfl
        clear K1 K2 hb hbl
        go_wp2_with fail
        refine (geom_Join.within_yes _ _ _ CG.out).mono ?_
        rintro e w' ⟨rfl, rfl⟩
        go_wp2_with fail
        refine (geom_Join.within_no _ _ _ CQ.out).mono ?_
        rintro e w' ⟨rfl, rfl⟩
        go_wp2
        go_ret2
        exact ⟨rfl, HF.out⟩
    · have h := H.out
      rw [if_neg (fun z => cg z.1)] at h
      simp only [Option.some.injEq, Prod.mk.injEq] at h
      obtain ⟨rfl, rfl⟩ := h
      clear H
      have CG := Aside0.mk cg
      clear cg
      go_enter Try.func24, Try.ntmps24
      go_wp2_with fail
      refine (geom_Bytes.calls k p s r a b1 b2 b3 _ HBy.out).mono ?_
      rintro e w1 ⟨rfl, hb⟩
      obtain ⟨K1, K2, hbl⟩ := HL.out _ hb
      have HF := Aside0.mk hbl
      have f0 := (blk_cell K1 0).trans rfl
      have f1 := (blk_cell K1 1).trans rfl
      have f2 := (blk_cell K1 2).trans rfl
      have e0 := (blk_cell K2 0).trans rfl
      have e1 := (blk_cell K2 1).trans rfl
      have e2 := (blk_cell K2 2).trans rfl
      clear K1 K2 hb hbl
      go_wp2_with fail
      refine (geom_Join.within_no _ _ _ CG.out).mono ?_
      rintro e w' ⟨rfl, rfl⟩
      go_wp2
      go_ret2
      exact ⟨rfl, HF.out⟩
  · rw [if_neg c] at h
    simp only [Option.some.injEq, Prod.mk.injEq] at h
    obtain ⟨rfl, rfl⟩ := h
    have c0 : (b3 != 0) = true := by simp [c]
    clear c
    go_enter Try.func24, Try.ntmps24
    go_wp2_with fail
    refine (geom_Bytes.calls k p s r a b1 b2 b3 _ HBy.out).mono ?_
    rintro e w1 ⟨rfl, hb⟩
    obtain ⟨K1, K2, hbl⟩ := HL.out _ hb
    have HF := Aside0.mk hbl
    clear K1 K2 hb hbl
    go_wp2
    go_ret2
    exact ⟨rfl, HF.out⟩

/-! ### cellarref02_Power: function 45 -/
def cellarref02_Power.l0 : Nat → Int → Int → Int → Option (Bool)
  | 0, _, _, _ => none
  | k + 1, x0, x2, x7 => if x7 ≤ x2 then (if x0 = x7 then (some true) else (cellarref02_Power.l0 k x0 x2 (wrap64 (x7 * 2)))) else (some false)
def cellarref02_Power.f (k : Nat) (a0 : Int) (a1 : Int) (a2 : Int) : Option (Bool) := cellarref02_Power.l0 k a0 a2 a1
theorem cellarref02_Power.mono_l : ∀ k, (∀ y0 y1 y2, LeO (cellarref02_Power.l0 k y0 y1 y2) (cellarref02_Power.l0 (k + 1) y0 y1 y2))
  | 0 => fun _ _ _ r h => by simp [cellarref02_Power.l0] at h
  | k + 1 => by
    have ih0 := cellarref02_Power.mono_l k
    · intro y0 y1 y2
      unfold cellarref02_Power.l0
      repeat' first
      | (with_reducible exact ih0 _ _ _)
      | (with_reducible exact LeO.refl _)
      | (with_reducible exact LeO.none _)
      | (with_reducible refine LeO.ite ?_ ?_)
      | (with_reducible refine LeO.bind ?_ (fun _ => ?_))
      | exact ih0 _ _ _
      | exact LeO.none _
      | refine LeO.ite ?_ ?_
      | refine LeO.bind ?_ (fun _ => ?_)
theorem cellarref02_Power.mono : ∀ a0 a1 a2 k, LeO (cellarref02_Power.f k a0 a1 a2) (cellarref02_Power.f (k + 1) a0 a1 a2) := by
  intro a0 a1 a2 k
  have ih0 := cellarref02_Power.mono_l k
  unfold cellarref02_Power.f
  repeat' first
      | (with_reducible exact ih0 _ _ _)
      | (with_reducible exact LeO.refl _)
      | (with_reducible exact LeO.none _)
      | (with_reducible refine LeO.ite ?_ ?_)
      | (with_reducible refine LeO.bind ?_ (fun _ => ?_))
      | exact ih0 _ _ _
      | exact LeO.none _
      | refine LeO.ite ?_ ?_
      | refine LeO.bind ?_ (fun _ => ?_)
set_option maxHeartbeats 8000000 in
set_option maxRecDepth 100000 in
theorem cellarref02_Power.calls (k : Nat) (a0 : Int) (a1 : Int) (a2 : Int) (r : Bool) (w : World) (h : cellarref02_Power.f k a0 a1 a2 = some r) :
    Calls Try.prog 45 #[.int .i64 a0, .int .i64 a1, .int .i64 a2] w fun e w' => e = .returned (.bool r) ∧ Drawn0 w w' := by
  have H : (cellarref02_Power.l0 k a0 a2 a1) = some r := h
  clear h
  have H' := Aside0.mk H
  clear H
  go_enter Try.func45, Try.ntmps45
  go_wp2
  go_loopg [7] k (fun kq v7 w' => ∃ (x7_1 : Int), v7 = .int .i64 x7_1 ∧ Aside0 (cellarref02_Power.l0 kq a0 a2 x7_1 = some r) ∧ Aside0 (kq ≤ k) ∧ Drawn0 w w')
  case atStart => exact ⟨(a1), (by first | rfl | (simp; done) | (simp [*]; done)), H', ⟨Nat.le_refl _⟩, by repeat (first | exact Drawn0.refl _ | apply Drawn0.step)⟩
  case round =>
    clear H'
    try clear p2
    obtain ⟨x7_1, rfl, HA, HK1, ⟨m1, rfl⟩⟩ := hrel
    cases gk with
    | zero => exact absurd HA.out (by simp [cellarref02_Power.l0])
    | succ k1 =>
      have H := HA.out
      clear HA
      simp only [cellarref02_Power.l0] at H
      by_cases c4 : x7_1 ≤ a2
      · rw [if_pos c4] at H
        have c4b0 : decide (x7_1 ≤ a2) = true := decide_eq_true c4
        clear c4
        by_cases c5 : a0 = x7_1
        · rw [if_pos c5] at H
          have c5b0 : (a0 == x7_1) = true := beq_iff_eq.mpr c5
          have c5b1 : (a0 != x7_1) = false := bne_eq_false_iff_eq.mpr c5
          clear c5
          obtain rfl := Option.some.inj H
          go_wp2
          go_ret
          exact ⟨by first | rfl | (simp; done) | (simp [*]; done), by repeat (first | exact Drawn0.refl _ | apply Drawn0.step)⟩
        · rw [if_neg c5] at H
          have c5b0 : (a0 == x7_1) = false := beq_eq_false_iff_ne.mpr c5
          have c5b1 : (a0 != x7_1) = true := bne_iff_ne.mpr c5
          have H' := Aside0.mk H
          clear H
          go_wp2
          go_roundg k1
          case measure => have := HK1.out; omega
          case rel => exact ⟨(wrap64 (x7_1 * 2)), (by first | rfl | (simp; done) | (simp [*]; done)), H', ⟨by have := HK1.out; omega⟩, by repeat (first | exact Drawn0.refl _ | apply Drawn0.step)⟩
      · rw [if_neg c4] at H
        have c4b0 : decide (x7_1 ≤ a2) = false := decide_eq_false c4
        clear c4
        obtain rfl := Option.some.inj H
        go_wp2
        go_ret
        exact ⟨by first | rfl | (simp; done) | (simp [*]; done), by repeat (first | exact Drawn0.refl _ | apply Drawn0.step)⟩

/-! ### cellarref02_Check: function 17 -/
def cellarref02_Check.j0 : Nat → Bool → Int → Int → Int → Int → Option (Int)
  | 0, _, _, _, _, _ => none
  | k + 1, x34, x129000, x129001, x129002, x129003 => if x34 = true then (some 20) else (if (wrap64 (x129000 * x129001)) < 128 then (some 20) else (if (wrap64 ((wrap64 (x129000 * x129001)) - 48)) < x129003 then (some 20) else (if (wrap64 ((wrap64 (x129000 * x129001)) * x129002)) > 1048576 then (some 20) else (some 0))))
def cellarref02_Check.f (k : Nat) (a0_0 : Int) (a0_1 : Int) (a0_2 : Int) (a0_3 : Int) : Option (Int) := (cellarref02_Power.f k a0_0 16 4096).bind fun t129 => (if t129 = true then (if a0_1 < 1 then (cellarref02_Check.j0 k true a0_0 a0_1 a0_2 a0_3) else (if a0_1 > 64 then (cellarref02_Check.j0 k true a0_0 a0_1 a0_2 a0_3) else (if a0_2 < 2 then (cellarref02_Check.j0 k true a0_0 a0_1 a0_2 a0_3) else (if a0_2 > 256 then (cellarref02_Check.j0 k true a0_0 a0_1 a0_2 a0_3) else ((cellarref02_Power.f k a0_3 1 a0_0).bind fun t130 => (cellarref02_Check.j0 k (!t130) a0_0 a0_1 a0_2 a0_3)))))) else (cellarref02_Check.j0 k true a0_0 a0_1 a0_2 a0_3))
theorem cellarref02_Check.mono_l : ∀ k, (∀ y0 y1 y2 y3 y4, LeO (cellarref02_Check.j0 k y0 y1 y2 y3 y4) (cellarref02_Check.j0 (k + 1) y0 y1 y2 y3 y4))
  | 0 => fun _ _ _ _ _ r h => by simp [cellarref02_Check.j0] at h
  | k + 1 => by
    have ih0 := cellarref02_Check.mono_l k
    · intro y0 y1 y2 y3 y4
      unfold cellarref02_Check.j0
      repeat' first
      | (with_reducible exact ih0 _ _ _ _ _)
      | (with_reducible exact cellarref02_Power.mono _ _ _ _)
      | (with_reducible exact LeO.refl _)
      | (with_reducible exact LeO.none _)
      | (with_reducible refine LeO.ite ?_ ?_)
      | (with_reducible refine LeO.bind ?_ (fun _ => ?_))
      | exact ih0 _ _ _ _ _
      | exact cellarref02_Power.mono _ _ _ _
      | exact LeO.none _
      | refine LeO.ite ?_ ?_
      | refine LeO.bind ?_ (fun _ => ?_)
theorem cellarref02_Check.mono : ∀ a0 a1 a2 a3 k, LeO (cellarref02_Check.f k a0 a1 a2 a3) (cellarref02_Check.f (k + 1) a0 a1 a2 a3) := by
  intro a0 a1 a2 a3 k
  have ih0 := cellarref02_Check.mono_l k
  unfold cellarref02_Check.f
  repeat' first
      | (with_reducible exact ih0 _ _ _ _ _)
      | (with_reducible exact cellarref02_Power.mono _ _ _ _)
      | (with_reducible exact LeO.refl _)
      | (with_reducible exact LeO.none _)
      | (with_reducible refine LeO.ite ?_ ?_)
      | (with_reducible refine LeO.bind ?_ (fun _ => ?_))
      | exact ih0 _ _ _ _ _
      | exact cellarref02_Power.mono _ _ _ _
      | exact LeO.none _
      | refine LeO.ite ?_ ?_
      | refine LeO.bind ?_ (fun _ => ?_)
set_option maxHeartbeats 8000000 in
set_option maxRecDepth 100000 in
theorem cellarref02_Check.calls (k : Nat) (a0_0 : Int) (a0_1 : Int) (a0_2 : Int) (a0_3 : Int) (r : Int) (w : World) (h : cellarref02_Check.f k a0_0 a0_1 a0_2 a0_3 = some r) :
    Calls Try.prog 17 #[.agg #[.int .i64 a0_0, .int .i64 a0_1, .int .i64 a0_2, .int .i64 a0_3]] w fun e w' => e = .returned (.int .i64 r) ∧ Below w.heap.size w w' := by
  have hu24 := Try.underlying24
  have HB := Aside0.mk (Below.refl w.heap.size w)
  have H : ((cellarref02_Power.f k a0_0 16 4096).bind fun t129 => (if t129 = true then (if a0_1 < 1 then (cellarref02_Check.j0 k true a0_0 a0_1 a0_2 a0_3) else (if a0_1 > 64 then (cellarref02_Check.j0 k true a0_0 a0_1 a0_2 a0_3) else (if a0_2 < 2 then (cellarref02_Check.j0 k true a0_0 a0_1 a0_2 a0_3) else (if a0_2 > 256 then (cellarref02_Check.j0 k true a0_0 a0_1 a0_2 a0_3) else ((cellarref02_Power.f k a0_3 1 a0_0).bind fun t130 => (cellarref02_Check.j0 k (!t130) a0_0 a0_1 a0_2 a0_3)))))) else (cellarref02_Check.j0 k true a0_0 a0_1 a0_2 a0_3))) = some r := h
  clear h
  have HC2 := Aside0.mk H
  clear H
  go_enter Try.func17, Try.ntmps17
  go_upto_region 1 with (first | ((with_reducible refine gate_dst (N := 1) rfl ?_); refine box_event ?hg (N := 1) ?hd (cs := #[.int .i64 a0_0, .int .i64 a0_1, .int .i64 a0_2, .int .i64 a0_3]) (t := 24) ?hr ?_; (case hd => rfl); (case hg => rfl); (case hr => first | (go_simp; done) | (go_simp; rfl)); intro gb128 hg w3 hbox hb; have n0_ := Aside0.mk (below_step (by repeat (first | (with_reducible first | exact HB.out | apply below_alloc | apply pw_below_drewN | apply below_drew1) | exact HB.out)) hb); have n1_ := Aside0.mk (hbox); have n2_ := Aside0.mk ((by rw [hg]; exact (below_size (by repeat (first | (with_reducible first | exact HB.out | apply below_alloc | apply pw_below_drewN | apply below_drew1) | exact HB.out))) : w.heap.size ≤ gb128)); have n3_ := Aside0.mk ((by rw [hg]; exact (below_size (by repeat (first | (with_reducible first | exact HB.out | apply below_alloc | apply pw_below_drewN | apply below_drew1) | exact HB.out))) : w.heap.size ≤ gb128)); clear HB; have HB := n0_; have BK128 := n1_; have GW128 := n2_; have GE128 := n3_; clear n0_ n1_ n2_ n3_; clear hb hbox hg))
  (try simp only [Act.put, List.setIfInBounds_toArray, List.set_cons_zero, List.set_cons_succ])
  go_cut [34] (fun v34 wc => ∃ (kq : Nat) (x34_1 : Bool), v34 = .bool x34_1 ∧ Aside0 (cellarref02_Check.j0 kq x34_1 a0_0 a0_1 a0_2 a0_3 = some r) ∧ Aside0 (kq ≤ k) ∧ Aside0 (wc.heap[gb128]? = some (.cells #[.int .i64 a0_0, .int .i64 a0_1, .int .i64 a0_2, .int .i64 a0_3] 24 (0, 0))) ∧ Aside0 (Below w.heap.size w wc))
  case first =>
    have H := HC2.out
    clear HC2
    replace H := Option.bind_eq_some_iff.mp H
    obtain ⟨t129, A40, H⟩ := H
    replace H : (if t129 = true then (if a0_1 < 1 then (cellarref02_Check.j0 k true a0_0 a0_1 a0_2 a0_3) else (if a0_1 > 64 then (cellarref02_Check.j0 k true a0_0 a0_1 a0_2 a0_3) else (if a0_2 < 2 then (cellarref02_Check.j0 k true a0_0 a0_1 a0_2 a0_3) else (if a0_2 > 256 then (cellarref02_Check.j0 k true a0_0 a0_1 a0_2 a0_3) else ((cellarref02_Power.f k a0_3 1 a0_0).bind fun t130 => (cellarref02_Check.j0 k (!t130) a0_0 a0_1 a0_2 a0_3)))))) else (cellarref02_Check.j0 k true a0_0 a0_1 a0_2 a0_3)) = some r := H
    have A4 := Aside0.mk A40
    clear A40
    by_cases c5 : t129 = true
    · subst c5
      have H1 : (if a0_1 < 1 then (cellarref02_Check.j0 k true a0_0 a0_1 a0_2 a0_3) else (if a0_1 > 64 then (cellarref02_Check.j0 k true a0_0 a0_1 a0_2 a0_3) else (if a0_2 < 2 then (cellarref02_Check.j0 k true a0_0 a0_1 a0_2 a0_3) else (if a0_2 > 256 then (cellarref02_Check.j0 k true a0_0 a0_1 a0_2 a0_3) else ((cellarref02_Power.f k a0_3 1 a0_0).bind fun t130 => (cellarref02_Check.j0 k (!t130) a0_0 a0_1 a0_2 a0_3)))))) = some r := by rw [if_pos rfl] at H; exact H
      clear H
      have H := H1
      clear H1
      by_cases c6 : a0_1 < 1
      · rw [if_pos c6] at H
        have c6b0 : decide (a0_1 < 1) = true := decide_eq_true c6
        clear c6
        (first | rw [c6b0] | (simp only [i64_w, i32_w]; rw [c6b0]) | skip)
        have H' := Aside0.mk H
        clear H
        have hcz7_0 : w3.cell? ⟨gb128, 0, none⟩ = some (.int .i64 a0_0) := (blk_cell BK128.out 0).trans rfl
        have hcz7_1 : w3.cell? ⟨gb128, 1, none⟩ = some (.int .i64 a0_1) := (blk_cell BK128.out 1).trans rfl
        have hcz7_2 : w3.cell? ⟨gb128, 2, none⟩ = some (.int .i64 a0_2) := (blk_cell BK128.out 2).trans rfl
        have hcz7_3 : w3.cell? ⟨gb128, 3, none⟩ = some (.int .i64 a0_3) := (blk_cell BK128.out 3).trans rfl
        have hfz7_0 := blk_frozen BK128.out 0
        have hfz7_1 := blk_frozen BK128.out 1
        have hfz7_2 := blk_frozen BK128.out 2
        have hfz7_3 := blk_frozen BK128.out 3
        go_wp2_with (first | ((with_reducible refine gate_callee (f := 45) rfl ?_); refine goesL_ (some 5) rfl rfl Try.func45 (by kernel_rfl) rfl #[.int .i64 a0_0, .int .i64 16, .int .i64 4096] rfl (by (try simp only [List.map_toArray, List.map_cons, List.map_nil]); first | done | rfl | (simp only [List.length_drop, List.length_take]; rfl)) ?_; (with_reducible refine (cellarref02_Power.calls k a0_0 16 4096 true _ A4.out).mono ?_); rintro e w' ⟨rfl, ⟨nd, rfl⟩⟩; refine ⟨_, rfl, ?_⟩))
        go_meet
        case rel => exact ⟨_, (true), (by first | rfl | (simp; done) | (simp [*]; done)), H', ⟨by first | omega | exact Nat.le_refl _⟩, ⟨by (with_reducible repeat (first | refine blk_drewN ?_ _ | refine blk_drew ?_ | refine blk_alloc ?_ _)); exact BK128.out⟩, ⟨by repeat (first | (with_reducible first | exact HB.out | apply below_alloc | apply pw_below_drewN | apply below_drew1 | refine below_set ?_ GE128.out) | exact HB.out)⟩⟩
      · rw [if_neg c6] at H
        have c6b0 : decide (a0_1 < 1) = false := decide_eq_false c6
        clear c6
        (first | rw [c6b0] | (simp only [i64_w, i32_w]; rw [c6b0]) | skip)
        by_cases c8 : a0_1 > 64
        · rw [if_pos c8] at H
          have c8b0 : decide (64 < a0_1) = true := decide_eq_true c8
          clear c8
          have H' := Aside0.mk H
          clear H
          have hcz9_0 : w3.cell? ⟨gb128, 0, none⟩ = some (.int .i64 a0_0) := (blk_cell BK128.out 0).trans rfl
          have hcz9_1 : w3.cell? ⟨gb128, 1, none⟩ = some (.int .i64 a0_1) := (blk_cell BK128.out 1).trans rfl
          have hcz9_2 : w3.cell? ⟨gb128, 2, none⟩ = some (.int .i64 a0_2) := (blk_cell BK128.out 2).trans rfl
          have hcz9_3 : w3.cell? ⟨gb128, 3, none⟩ = some (.int .i64 a0_3) := (blk_cell BK128.out 3).trans rfl
          have hfz9_0 := blk_frozen BK128.out 0
          have hfz9_1 := blk_frozen BK128.out 1
          have hfz9_2 := blk_frozen BK128.out 2
          have hfz9_3 := blk_frozen BK128.out 3
          go_wp2_with (first | ((with_reducible refine gate_callee (f := 45) rfl ?_); refine goesL_ (some 5) rfl rfl Try.func45 (by kernel_rfl) rfl #[.int .i64 a0_0, .int .i64 16, .int .i64 4096] rfl (by (try simp only [List.map_toArray, List.map_cons, List.map_nil]); first | done | rfl | (simp only [List.length_drop, List.length_take]; rfl)) ?_; (with_reducible refine (cellarref02_Power.calls k a0_0 16 4096 true _ A4.out).mono ?_); rintro e w' ⟨rfl, ⟨nd, rfl⟩⟩; refine ⟨_, rfl, ?_⟩))
          go_meet
          case rel => exact ⟨_, (true), (by first | rfl | (simp; done) | (simp [*]; done)), H', ⟨by first | omega | exact Nat.le_refl _⟩, ⟨by (with_reducible repeat (first | refine blk_drewN ?_ _ | refine blk_drew ?_ | refine blk_alloc ?_ _)); exact BK128.out⟩, ⟨by repeat (first | (with_reducible first | exact HB.out | apply below_alloc | apply pw_below_drewN | apply below_drew1 | refine below_set ?_ GE128.out) | exact HB.out)⟩⟩
        · rw [if_neg c8] at H
          have c8b0 : decide (64 < a0_1) = false := decide_eq_false c8
          clear c8
          by_cases c10 : a0_2 < 2
          · rw [if_pos c10] at H
            have c10b0 : decide (a0_2 < 2) = true := decide_eq_true c10
            clear c10
            have H' := Aside0.mk H
            clear H
            have hcz11_0 : w3.cell? ⟨gb128, 0, none⟩ = some (.int .i64 a0_0) := (blk_cell BK128.out 0).trans rfl
            have hcz11_1 : w3.cell? ⟨gb128, 1, none⟩ = some (.int .i64 a0_1) := (blk_cell BK128.out 1).trans rfl
            have hcz11_2 : w3.cell? ⟨gb128, 2, none⟩ = some (.int .i64 a0_2) := (blk_cell BK128.out 2).trans rfl
            have hcz11_3 : w3.cell? ⟨gb128, 3, none⟩ = some (.int .i64 a0_3) := (blk_cell BK128.out 3).trans rfl
            have hfz11_0 := blk_frozen BK128.out 0
            have hfz11_1 := blk_frozen BK128.out 1
            have hfz11_2 := blk_frozen BK128.out 2
            have hfz11_3 := blk_frozen BK128.out 3
            go_wp2_with (first | ((with_reducible refine gate_callee (f := 45) rfl ?_); refine goesL_ (some 5) rfl rfl Try.func45 (by kernel_rfl) rfl #[.int .i64 a0_0, .int .i64 16, .int .i64 4096] rfl (by (try simp only [List.map_toArray, List.map_cons, List.map_nil]); first | done | rfl | (simp only [List.length_drop, List.length_take]; rfl)) ?_; (with_reducible refine (cellarref02_Power.calls k a0_0 16 4096 true _ A4.out).mono ?_); rintro e w' ⟨rfl, ⟨nd, rfl⟩⟩; refine ⟨_, rfl, ?_⟩))
            go_meet
            case rel => exact ⟨_, (true), (by first | rfl | (simp; done) | (simp [*]; done)), H', ⟨by first | omega | exact Nat.le_refl _⟩, ⟨by (with_reducible repeat (first | refine blk_drewN ?_ _ | refine blk_drew ?_ | refine blk_alloc ?_ _)); exact BK128.out⟩, ⟨by repeat (first | (with_reducible first | exact HB.out | apply below_alloc | apply pw_below_drewN | apply below_drew1 | refine below_set ?_ GE128.out) | exact HB.out)⟩⟩
          · rw [if_neg c10] at H
            have c10b0 : decide (a0_2 < 2) = false := decide_eq_false c10
            clear c10
            by_cases c12 : a0_2 > 256
            · rw [if_pos c12] at H
              have c12b0 : decide (256 < a0_2) = true := decide_eq_true c12
              clear c12
              have H' := Aside0.mk H
              clear H
              have hcz13_0 : w3.cell? ⟨gb128, 0, none⟩ = some (.int .i64 a0_0) := (blk_cell BK128.out 0).trans rfl
              have hcz13_1 : w3.cell? ⟨gb128, 1, none⟩ = some (.int .i64 a0_1) := (blk_cell BK128.out 1).trans rfl
              have hcz13_2 : w3.cell? ⟨gb128, 2, none⟩ = some (.int .i64 a0_2) := (blk_cell BK128.out 2).trans rfl
              have hcz13_3 : w3.cell? ⟨gb128, 3, none⟩ = some (.int .i64 a0_3) := (blk_cell BK128.out 3).trans rfl
              have hfz13_0 := blk_frozen BK128.out 0
              have hfz13_1 := blk_frozen BK128.out 1
              have hfz13_2 := blk_frozen BK128.out 2
              have hfz13_3 := blk_frozen BK128.out 3
              go_wp2_with (first | ((with_reducible refine gate_callee (f := 45) rfl ?_); refine goesL_ (some 5) rfl rfl Try.func45 (by kernel_rfl) rfl #[.int .i64 a0_0, .int .i64 16, .int .i64 4096] rfl (by (try simp only [List.map_toArray, List.map_cons, List.map_nil]); first | done | rfl | (simp only [List.length_drop, List.length_take]; rfl)) ?_; (with_reducible refine (cellarref02_Power.calls k a0_0 16 4096 true _ A4.out).mono ?_); rintro e w' ⟨rfl, ⟨nd, rfl⟩⟩; refine ⟨_, rfl, ?_⟩))
              go_meet
              case rel => exact ⟨_, (true), (by first | rfl | (simp; done) | (simp [*]; done)), H', ⟨by first | omega | exact Nat.le_refl _⟩, ⟨by (with_reducible repeat (first | refine blk_drewN ?_ _ | refine blk_drew ?_ | refine blk_alloc ?_ _)); exact BK128.out⟩, ⟨by repeat (first | (with_reducible first | exact HB.out | apply below_alloc | apply pw_below_drewN | apply below_drew1 | refine below_set ?_ GE128.out) | exact HB.out)⟩⟩
            · rw [if_neg c12] at H
              have c12b0 : decide (256 < a0_2) = false := decide_eq_false c12
              clear c12
              replace H := Option.bind_eq_some_iff.mp H
              obtain ⟨t130, A140, H⟩ := H
              replace H : (cellarref02_Check.j0 k (!t130) a0_0 a0_1 a0_2 a0_3) = some r := H
              have A14 := Aside0.mk A140
              clear A140
              have H' := Aside0.mk H
              clear H
              have hcz15_0 : w3.cell? ⟨gb128, 0, none⟩ = some (.int .i64 a0_0) := (blk_cell BK128.out 0).trans rfl
              have hcz15_1 : w3.cell? ⟨gb128, 1, none⟩ = some (.int .i64 a0_1) := (blk_cell BK128.out 1).trans rfl
              have hcz15_2 : w3.cell? ⟨gb128, 2, none⟩ = some (.int .i64 a0_2) := (blk_cell BK128.out 2).trans rfl
              have hcz15_3 : w3.cell? ⟨gb128, 3, none⟩ = some (.int .i64 a0_3) := (blk_cell BK128.out 3).trans rfl
              have hfz15_0 := blk_frozen BK128.out 0
              have hfz15_1 := blk_frozen BK128.out 1
              have hfz15_2 := blk_frozen BK128.out 2
              have hfz15_3 := blk_frozen BK128.out 3
              go_wp2_with (first | ((with_reducible refine gate_callee (f := 45) rfl ?_); refine goesL_ (some 5) rfl rfl Try.func45 (by kernel_rfl) rfl #[.int .i64 a0_0, .int .i64 16, .int .i64 4096] rfl (by (try simp only [List.map_toArray, List.map_cons, List.map_nil]); first | done | rfl | (simp only [List.length_drop, List.length_take]; rfl)) ?_; (with_reducible refine (cellarref02_Power.calls k a0_0 16 4096 true _ A4.out).mono ?_); rintro e w' ⟨rfl, ⟨nd, rfl⟩⟩; refine ⟨_, rfl, ?_⟩) | (go_at_call 45; (with_reducible refine (cellarref02_Power.calls k a0_3 1 a0_0 t130 _ A14.out).mono ?_); rintro e w' ⟨rfl, ⟨nd, rfl⟩⟩))
              go_meet
              case rel => exact ⟨_, (!t130), (by first | rfl | (simp; done) | (simp [*]; done)), H', ⟨by first | omega | exact Nat.le_refl _⟩, ⟨by (with_reducible repeat (first | refine blk_drewN ?_ _ | refine blk_drew ?_ | refine blk_alloc ?_ _)); exact BK128.out⟩, ⟨by repeat (first | (with_reducible first | exact HB.out | apply below_alloc | apply pw_below_drewN | apply below_drew1 | refine below_set ?_ GE128.out) | exact HB.out)⟩⟩
    · replace c5 := Bool.eq_false_iff.mpr c5
      subst c5
      have H1 : (cellarref02_Check.j0 k true a0_0 a0_1 a0_2 a0_3) = some r := by rw [if_neg (show ¬ (false = true) by decide)] at H; exact H
      clear H
      have H := H1
      clear H1
      have H' := Aside0.mk H
      clear H
      have hcz16_0 : w3.cell? ⟨gb128, 0, none⟩ = some (.int .i64 a0_0) := (blk_cell BK128.out 0).trans rfl
      have hcz16_1 : w3.cell? ⟨gb128, 1, none⟩ = some (.int .i64 a0_1) := (blk_cell BK128.out 1).trans rfl
      have hcz16_2 : w3.cell? ⟨gb128, 2, none⟩ = some (.int .i64 a0_2) := (blk_cell BK128.out 2).trans rfl
      have hcz16_3 : w3.cell? ⟨gb128, 3, none⟩ = some (.int .i64 a0_3) := (blk_cell BK128.out 3).trans rfl
      have hfz16_0 := blk_frozen BK128.out 0
      have hfz16_1 := blk_frozen BK128.out 1
      have hfz16_2 := blk_frozen BK128.out 2
      have hfz16_3 := blk_frozen BK128.out 3
      go_wp2_with (first | ((with_reducible refine gate_callee (f := 45) rfl ?_); refine goesL_ (some 5) rfl rfl Try.func45 (by kernel_rfl) rfl #[.int .i64 a0_0, .int .i64 16, .int .i64 4096] rfl (by (try simp only [List.map_toArray, List.map_cons, List.map_nil]); first | done | rfl | (simp only [List.length_drop, List.length_take]; rfl)) ?_; (with_reducible refine (cellarref02_Power.calls k a0_0 16 4096 false _ A4.out).mono ?_); rintro e w' ⟨rfl, ⟨nd, rfl⟩⟩; refine ⟨_, rfl, ?_⟩))
      go_meet
      case rel => exact ⟨_, (true), (by first | rfl | (simp; done) | (simp [*]; done)), H', ⟨by first | omega | exact Nat.le_refl _⟩, ⟨by (with_reducible repeat (first | refine blk_drewN ?_ _ | refine blk_drew ?_ | refine blk_alloc ?_ _)); exact BK128.out⟩, ⟨by repeat (first | (with_reducible first | exact HB.out | apply below_alloc | apply pw_below_drewN | apply below_drew1 | refine below_set ?_ GE128.out) | exact HB.out)⟩⟩
  case rest =>
    clear HC2
    try clear c1
    try clear p2
    try clear c4
    try clear c5
    try clear c6
    try clear c6b0
    try clear c8
    try clear c8b0
    try clear c10
    try clear c10b0
    try clear c12
    try clear c12b0
    try clear hcz11_0
    try clear hcz11_1
    try clear hcz11_2
    try clear hcz11_3
    try clear hcz13_0
    try clear hcz13_1
    try clear hcz13_2
    try clear hcz13_3
    try clear hcz15_0
    try clear hcz15_1
    try clear hcz15_2
    try clear hcz15_3
    try clear hcz16_0
    try clear hcz16_1
    try clear hcz16_2
    try clear hcz16_3
    try clear hcz7_0
    try clear hcz7_1
    try clear hcz7_2
    try clear hcz7_3
    try clear hcz9_0
    try clear hcz9_1
    try clear hcz9_2
    try clear hcz9_3
    try clear hfz11_0
    try clear hfz11_1
    try clear hfz11_2
    try clear hfz11_3
    try clear hfz13_0
    try clear hfz13_1
    try clear hfz13_2
    try clear hfz13_3
    try clear hfz15_0
    try clear hfz15_1
    try clear hfz15_2
    try clear hfz15_3
    try clear hfz16_0
    try clear hfz16_1
    try clear hfz16_2
    try clear hfz16_3
    try clear hfz7_0
    try clear hfz7_1
    try clear hfz7_2
    try clear hfz7_3
    try clear hfz9_0
    try clear hfz9_1
    try clear hfz9_2
    try clear hfz9_3
    obtain ⟨kq, x34_1, rfl, HA, HJ1, BK128, HB⟩ := hcut
    cases kq with
    | zero => exact absurd HA.out (by simp [cellarref02_Check.j0])
    | succ kj1 =>
      have H := HA.out
      clear HA
      simp only [cellarref02_Check.j0] at H
      by_cases c17 : x34_1 = true
      · subst c17
        have H1 : (some 20) = some r := by rw [if_pos rfl] at H; exact H
        clear H
        have H := H1
        clear H1
        obtain rfl := Option.some.inj H
        go_wp2
        go_ret
        exact ⟨by first | rfl | (simp [errW_none, errW_some] <;> rfl) | (simp [*, errW_none, errW_some] <;> rfl), by repeat (first | (with_reducible first | exact HB.out | apply below_alloc | apply pw_below_drewN | apply below_drew1 | refine below_set ?_ GE128.out) | exact HB.out)⟩
      · replace c17 := Bool.eq_false_iff.mpr c17
        subst c17
        have H1 : (if (wrap64 (a0_0 * a0_1)) < 128 then (some 20) else (if (wrap64 ((wrap64 (a0_0 * a0_1)) - 48)) < a0_3 then (some 20) else (if (wrap64 ((wrap64 (a0_0 * a0_1)) * a0_2)) > 1048576 then (some 20) else (some 0)))) = some r := by rw [if_neg (show ¬ (false = true) by decide)] at H; exact H
        clear H
        have H := H1
        clear H1
        by_cases c18 : (wrap64 (a0_0 * a0_1)) < 128
        · rw [if_pos c18] at H
          have c18b0 : decide ((wrap64 (a0_0 * a0_1)) < 128) = true := decide_eq_true c18
          clear c18
          obtain rfl := Option.some.inj H
          have hcz19_0 : wc.cell? ⟨gb128, 0, none⟩ = some (.int .i64 a0_0) := (blk_cell BK128.out 0).trans rfl
          have hcz19_1 : wc.cell? ⟨gb128, 1, none⟩ = some (.int .i64 a0_1) := (blk_cell BK128.out 1).trans rfl
          have hcz19_2 : wc.cell? ⟨gb128, 2, none⟩ = some (.int .i64 a0_2) := (blk_cell BK128.out 2).trans rfl
          have hcz19_3 : wc.cell? ⟨gb128, 3, none⟩ = some (.int .i64 a0_3) := (blk_cell BK128.out 3).trans rfl
          have hfz19_0 := blk_frozen BK128.out 0
          have hfz19_1 := blk_frozen BK128.out 1
          have hfz19_2 := blk_frozen BK128.out 2
          have hfz19_3 := blk_frozen BK128.out 3
          go_wp2
          go_ret
          exact ⟨by first | rfl | (simp [errW_none, errW_some] <;> rfl) | (simp [*, errW_none, errW_some] <;> rfl), by repeat (first | (with_reducible first | exact HB.out | apply below_alloc | apply pw_below_drewN | apply below_drew1 | refine below_set ?_ GE128.out) | exact HB.out)⟩
        · rw [if_neg c18] at H
          have c18b0 : decide ((wrap64 (a0_0 * a0_1)) < 128) = false := decide_eq_false c18
          clear c18
          by_cases c20 : (wrap64 ((wrap64 (a0_0 * a0_1)) - 48)) < a0_3
          · rw [if_pos c20] at H
            have c20b0 : decide ((wrap64 ((wrap64 (a0_0 * a0_1)) - 48)) < a0_3) = true := decide_eq_true c20
            clear c20
            obtain rfl := Option.some.inj H
            have hcz21_0 : wc.cell? ⟨gb128, 0, none⟩ = some (.int .i64 a0_0) := (blk_cell BK128.out 0).trans rfl
            have hcz21_1 : wc.cell? ⟨gb128, 1, none⟩ = some (.int .i64 a0_1) := (blk_cell BK128.out 1).trans rfl
            have hcz21_2 : wc.cell? ⟨gb128, 2, none⟩ = some (.int .i64 a0_2) := (blk_cell BK128.out 2).trans rfl
            have hcz21_3 : wc.cell? ⟨gb128, 3, none⟩ = some (.int .i64 a0_3) := (blk_cell BK128.out 3).trans rfl
            have hfz21_0 := blk_frozen BK128.out 0
            have hfz21_1 := blk_frozen BK128.out 1
            have hfz21_2 := blk_frozen BK128.out 2
            have hfz21_3 := blk_frozen BK128.out 3
            go_wp2
            go_ret
            exact ⟨by first | rfl | (simp [errW_none, errW_some] <;> rfl) | (simp [*, errW_none, errW_some] <;> rfl), by repeat (first | (with_reducible first | exact HB.out | apply below_alloc | apply pw_below_drewN | apply below_drew1 | refine below_set ?_ GE128.out) | exact HB.out)⟩
          · rw [if_neg c20] at H
            have c20b0 : decide ((wrap64 ((wrap64 (a0_0 * a0_1)) - 48)) < a0_3) = false := decide_eq_false c20
            clear c20
            by_cases c22 : (wrap64 ((wrap64 (a0_0 * a0_1)) * a0_2)) > 1048576
            · rw [if_pos c22] at H
              have c22b0 : decide (1048576 < (wrap64 ((wrap64 (a0_0 * a0_1)) * a0_2))) = true := decide_eq_true c22
              clear c22
              obtain rfl := Option.some.inj H
              have hcz23_0 : wc.cell? ⟨gb128, 0, none⟩ = some (.int .i64 a0_0) := (blk_cell BK128.out 0).trans rfl
              have hcz23_1 : wc.cell? ⟨gb128, 1, none⟩ = some (.int .i64 a0_1) := (blk_cell BK128.out 1).trans rfl
              have hcz23_2 : wc.cell? ⟨gb128, 2, none⟩ = some (.int .i64 a0_2) := (blk_cell BK128.out 2).trans rfl
              have hcz23_3 : wc.cell? ⟨gb128, 3, none⟩ = some (.int .i64 a0_3) := (blk_cell BK128.out 3).trans rfl
              have hfz23_0 := blk_frozen BK128.out 0
              have hfz23_1 := blk_frozen BK128.out 1
              have hfz23_2 := blk_frozen BK128.out 2
              have hfz23_3 := blk_frozen BK128.out 3
              go_wp2
              go_ret
              exact ⟨by first | rfl | (simp [errW_none, errW_some] <;> rfl) | (simp [*, errW_none, errW_some] <;> rfl), by repeat (first | (with_reducible first | exact HB.out | apply below_alloc | apply pw_below_drewN | apply below_drew1 | refine below_set ?_ GE128.out) | exact HB.out)⟩
            · rw [if_neg c22] at H
              have c22b0 : decide (1048576 < (wrap64 ((wrap64 (a0_0 * a0_1)) * a0_2))) = false := decide_eq_false c22
              clear c22
              obtain rfl := Option.some.inj H
              have hcz24_0 : wc.cell? ⟨gb128, 0, none⟩ = some (.int .i64 a0_0) := (blk_cell BK128.out 0).trans rfl
              have hcz24_1 : wc.cell? ⟨gb128, 1, none⟩ = some (.int .i64 a0_1) := (blk_cell BK128.out 1).trans rfl
              have hcz24_2 : wc.cell? ⟨gb128, 2, none⟩ = some (.int .i64 a0_2) := (blk_cell BK128.out 2).trans rfl
              have hcz24_3 : wc.cell? ⟨gb128, 3, none⟩ = some (.int .i64 a0_3) := (blk_cell BK128.out 3).trans rfl
              have hfz24_0 := blk_frozen BK128.out 0
              have hfz24_1 := blk_frozen BK128.out 1
              have hfz24_2 := blk_frozen BK128.out 2
              have hfz24_3 := blk_frozen BK128.out 3
              go_wp2
              go_ret
              exact ⟨by first | rfl | (simp [errW_none, errW_some] <;> rfl) | (simp [*, errW_none, errW_some] <;> rfl), by repeat (first | (with_reducible first | exact HB.out | apply below_alloc | apply pw_below_drewN | apply below_drew1 | refine below_set ?_ GE128.out) | exact HB.out)⟩

/-! ### cellarref02_Region: function 20 -/
def cellarref02_Region.f (a0_0 : Int) (a0_1 : Int) (a0_2 : Int) (a0_3 : Int) : Option (Int) := some (wrap64 (a0_0 * a0_1))
set_option maxHeartbeats 8000000 in
set_option maxRecDepth 100000 in
theorem cellarref02_Region.calls (a0_0 : Int) (a0_1 : Int) (a0_2 : Int) (a0_3 : Int) (r : Int) (w : World) (h : cellarref02_Region.f a0_0 a0_1 a0_2 a0_3 = some r) :
    Calls Try.prog 20 #[.agg #[.int .i64 a0_0, .int .i64 a0_1, .int .i64 a0_2, .int .i64 a0_3]] w fun e w' => e = .returned (.int .i64 r) ∧ Below w.heap.size w w' := by
  have hu24 := Try.underlying24
  have HB := Aside0.mk (Below.refl w.heap.size w)
  have H : (some (wrap64 (a0_0 * a0_1))) = some r := h
  clear h
  obtain rfl := Option.some.inj H
  go_enter Try.func20, Try.ntmps20
  go_wp2_with (first | ((with_reducible refine gate_dst (N := 1) rfl ?_); refine box_event ?hg (N := 1) ?hd (cs := #[.int .i64 a0_0, .int .i64 a0_1, .int .i64 a0_2, .int .i64 a0_3]) (t := 24) ?hr ?_; (case hd => rfl); (case hg => rfl); (case hr => first | (go_simp; done) | (go_simp; rfl)); intro gb131 hg w2 hbox hb; have n0_ := Aside0.mk (below_step (by repeat (first | (with_reducible first | exact HB.out | apply below_alloc | apply pw_below_drewN | apply below_drew1) | exact HB.out)) hb); have n1_ := Aside0.mk (hbox); have n2_ := Aside0.mk ((by rw [hg]; exact (below_size (by repeat (first | (with_reducible first | exact HB.out | apply below_alloc | apply pw_below_drewN | apply below_drew1) | exact HB.out))) : w.heap.size ≤ gb131)); have n3_ := Aside0.mk ((by rw [hg]; exact (below_size (by repeat (first | (with_reducible first | exact HB.out | apply below_alloc | apply pw_below_drewN | apply below_drew1) | exact HB.out))) : w.heap.size ≤ gb131)); clear HB; have HB := n0_; have BK131 := n1_; have GW131 := n2_; have GE131 := n3_; clear n0_ n1_ n2_ n3_; clear hb hbox hg; have hcz3_0 : w2.cell? ⟨gb131, 0, none⟩ = some (.int .i64 a0_0) := (blk_cell BK131.out 0).trans rfl; have hcz3_1 : w2.cell? ⟨gb131, 1, none⟩ = some (.int .i64 a0_1) := (blk_cell BK131.out 1).trans rfl; have hcz3_2 : w2.cell? ⟨gb131, 2, none⟩ = some (.int .i64 a0_2) := (blk_cell BK131.out 2).trans rfl; have hcz3_3 : w2.cell? ⟨gb131, 3, none⟩ = some (.int .i64 a0_3) := (blk_cell BK131.out 3).trans rfl; have hfz3_0 := blk_frozen BK131.out 0; have hfz3_1 := blk_frozen BK131.out 1; have hfz3_2 := blk_frozen BK131.out 2; have hfz3_3 := blk_frozen BK131.out 3))
  go_ret
  exact ⟨by first | rfl | (simp [errW_none, errW_some] <;> rfl) | (simp [*, errW_none, errW_some] <;> rfl), by repeat (first | (with_reducible first | exact HB.out | apply below_alloc | apply pw_below_drewN | apply below_drew1 | refine below_set ?_ GE131.out) | exact HB.out)⟩

end Go.Proofs.Ytdmcihajgcdhmaa.QGeomJoins
