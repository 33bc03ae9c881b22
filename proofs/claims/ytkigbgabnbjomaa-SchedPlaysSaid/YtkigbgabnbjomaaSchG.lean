/- What is one is found to be one; lives.
   No condition. -/
import Derived.Test.YtkigbgabnbjomaaSchF
import Derived.Test.YtkigbgabnbjomaaPSchedPlaysx1
import Derived.ArgAppend
import Derived.BigRegion
import Derived.Deep.QuietTactic
import Derived.BigQuiet
import Derived.Deep.RegionHeld3
import Derived.ChangeAlike
import Derived.RegionTactic
import Derived.Deep.DeepCutAuto
import Derived.Deep.CutBlock
import Derived.Deep.RegionLaw
import Derived.StillTailTactics
import Derived.WalkSpells
import Derived.Lib.SliceRun
namespace Go.Proofs.Ytkigbgabnbjomaa.Sched
open Go.Proofs.Ytkigbgabnbjomaa.PSchedPlays
open Go.RowKit Go.Proofs.YtkigbgabnbjomaaW.PrintWords Go.Proofs.YtkigbgabnbjomaaW.PrintLast Go.Proofs.YtkigbgabnbjomaaW.PrintMore
attribute [local go_sem] max2_int min2_int max_two min_two   -- for this text's walks alone
set_option linter.unusedVariables false
set_option linter.unusedSimpArgs false
/-! ### What is one is found to be one -/
attribute [local go_sem high] eqA51
set_option maxHeartbeats 4000000 in
theorem sameInts_walk {w : World} {A A' : Option Addr} {c c' : Nat} {l : List Int} (h : (Kd.int .i64).C w A l.length l) (h' : (Kd.int .i64).C w A' l.length l) :
    Calls Try.prog 14 #[.slice A l.length c, .slice A' l.length c'] w (Told w true) := by
  have HA := Aside0.mk (Kd.reads_of_C (d := 0) h)
  have HA' := Aside0.mk (Kd.reads_of_C (d := 0) h')
  obtain ⟨n, hn⟩ : ∃ n, l.length = n := ⟨_, rfl⟩
  have hmax : n ≤ 9223372036854775807 := by rw [← hn]; exact h.2.1
  rw [hn] at HA HA'
  rw [hn]
  clear h h' hn
  go_enter Try.func14, Try.ntmps14
  go_wp2
  go_loopw [5] (fun idx wr => ∃ (k : Nat) (q : Nat), k ≤ n ∧ idx = .int .i64 (k : Int) ∧ wr = w.drewN q) (fun idx _ => n - (intOf idx).toNat)
  case atStart => exact ⟨0, 0, Nat.zero_le _, rfl, rfl⟩
  case round =>
    obtain ⟨k, q, hk, rfl, rfl⟩ := hrel
    by_cases hlt : k < n
    · obtain ⟨ad, ea, x0⟩ := HA.out.at_ (k : Int) (by omega) (by omega)
      obtain ⟨ad', ea', y0⟩ := HA'.out.at_ (k : Int) (by omega) (by omega)
      subst ea ea'
      simp only [Int.toNat_natCast] at x0 y0
      obtain ⟨z, hz⟩ : ∃ z, rdOf 0 l (k : Int) = z := ⟨_, rfl⟩
      rw [hz] at x0 y0
      clear hz
      have ix : decide ((k : Int) < (n : Int)) = true := decide_eq_true (by omega)
      go_wp2
      go_quiet (fail)
      go_wp2
      go_roundw
      case rel => exact ⟨k + 1, _, by omega, by go_num, rfl⟩
      case measure => simp [intOf]; omega
    · have hkl : k = n := by omega
      subst hkl
      go_wp2
      go_ret
      exact ⟨rfl, ⟨⟨_, rfl⟩⟩⟩
set_option maxHeartbeats 4000000 in
theorem sameTurned_walk {w : World} {A A' : Option Addr} {c c' : Nat} {x : S26} (h : (Kd.int .i64).C w A x.f2.length x.f2) (h' : (Kd.int .i64).C w A' x.f2.length x.f2) :
    Calls Try.prog 12 #[.agg #[.bool x.f0, .bool x.f1, .slice A x.f2.length c], .agg #[.bool x.f0, .bool x.f1, .slice A' x.f2.length c']] w fun e w' => e = .returned (.bool true) ∧ Below w.heap.size w w' := by
  have H := Aside0.mk h
  have H' := Aside0.mk h'
  clear h h'
  have S := Aside0.mk (fun (w1 : World) (hb : Below w.heap.size w w1) => sameInts_walk (c := c) (c' := c') (Kd.C_below H.out hb) (Kd.C_below H'.out hb))
  obtain ⟨n, hn⟩ : ∃ n, x.f2.length = n := ⟨_, rfl⟩
  rw [hn] at S
  rw [hn]
  clear hn
  go_enter Try.func12, Try.ntmps12
  go_wp2_with (go_at_call 14; refine (S.out _ (below_alloc (below_alloc (Below.refl _ _) _) _)).mono ?_; rintro e w1 ⟨rfl, ⟨q, rfl⟩⟩)
  go_ret
  exact ⟨rfl, pw_below_drewN (below_alloc (below_alloc (Below.refl _ _) _) _) _⟩
set_option maxHeartbeats 4000000 in
theorem sameEvents_walk {w : World} {A A' : Option Addr} {c c' : Nat} {l : List S51} (h : k51.C w A l.length l) (h' : k51.C w A' l.length l) :
    Calls Try.prog 46 #[.slice A l.length c, .slice A' l.length c'] w (Told w true) := by
  have HA := Aside0.mk h
  have HA' := Aside0.mk h'
  obtain ⟨n, hn⟩ : ∃ n, l.length = n := ⟨_, rfl⟩
  have hmax : n ≤ 9223372036854775807 := by rw [← hn]; exact h.2.1
  rw [hn] at HA HA'
  rw [hn]
  clear h h' hn
  go_enter Try.func46, Try.ntmps46
  go_wp2
  go_loopw [5] (fun idx wr => ∃ (k : Nat) (q : Nat), k ≤ n ∧ idx = .int .i64 (k : Int) ∧ wr = w.drewN q) (fun idx _ => n - (intOf idx).toNat)
  case atStart => exact ⟨0, 0, Nat.zero_le _, rfl, rfl⟩
  case round =>
    obtain ⟨k, q, hk, rfl, rfl⟩ := hrel
    by_cases hlt : k < n
    · obtain ⟨ad, ea, x0, x1, x2, x3⟩ := at_T51 HA.out (k : Int) (by omega) (by omega)
      obtain ⟨ad', ea', y0, y1, y2, y3⟩ := at_T51 HA'.out (k : Int) (by omega) (by omega)
      subst ea ea'
      simp only [Int.toNat_natCast] at x0 x1 x2 x3 y0 y1 y2 y3
      obtain ⟨z, hz⟩ : ∃ z, rd_T51 l (k : Int) = z := ⟨_, rfl⟩
      rw [hz] at x0 x1 x2 x3 y0 y1 y2 y3
      clear hz
      have ix : decide ((k : Int) < (n : Int)) = true := decide_eq_true (by omega)
      go_wp2
      go_quiet (fail)
      go_wp2
      go_roundw
      case rel => exact ⟨k + 1, _, by omega, by go_num, rfl⟩
      case measure => simp [intOf]; omega
    · have hkl : k = n := by omega
      subst hkl
      go_wp2
      go_ret
      exact ⟨rfl, ⟨⟨_, rfl⟩⟩⟩
/-! ### lives -/
theorem C_of_blk {α : Type} {d : Kd α} {w : World} {g e : Nat} {ps : List α} {cs : List Value} (hb : w.heap[g]? = some (.cells cs.toArray e (0, 0))) (hr : Reps (d.K w) d.sz ps cs) (hl : ps.length ≤ 9223372036854775807) : d.C w (some ⟨g, 0, none⟩) ps.length ps := by
  refine ⟨rfl, hl, fun hn => ⟨⟨g, 0, none⟩, rfl, fun j p hp => ⟨(cs.drop (j * d.sz)).take d.sz, ?_, hr.2 j p hp, fun i u hu => ?_⟩⟩⟩
  · exact d.K_len (hr.2 j p hp)
  · have hlt : i < d.sz := by
      have h1 := (List.getElem?_eq_some_iff.1 hu).1
      rw [List.length_take] at h1
      omega
    rw [List.getElem?_take_of_lt hlt, List.getElem?_drop] at hu
    rw [add_plain, blk_cell hb, List.getElem?_toArray]
    exact hu
theorem reps2 {α : Type} {R : α → List Value → Prop} {size : Nat} {a b : α} {ca cb : List Value} (ha : R a ca) (hb : R b cb) (la : ca.length = size) (lb : cb.length = size) : Reps R size [a, b] (ca ++ cb) :=
  ((Reps.none R size).snoc ha la).snoc hb lb
theorem reps1 {α : Type} {R : α → List Value → Prop} {size : Nat} {a : α} {ca : List Value} (ha : R a ca) (la : ca.length = size) : Reps R size [a] ca := (Reps.none R size).snoc ha la
theorem blk_new_at {w : World} {n : Nat} (o : Obj) (h : w.heap.size = n) : (w.alloc o).heap[n]? = some o := by subst h; exact blk_new w o
def calls0 : List (List (List S26)) := [[[z26, z26]], [[z26, z26]]]
theorem z26_K (w : World) : k26.K w z26 [.bool false, .bool false, .slice none 0 0] := k26_mk w z26 (A2 := none) (c2 := 0) (by decide) ⟨rfl, by decide, fun h => absurd h (by decide)⟩
theorem lives_mem {w : World} {g0 g1 g2 g3 g4 : Nat} (h0 : w.heap[g0]? = some (.cells #[.bool false, .bool false, .slice none 0 0, .bool false, .bool false, .slice none 0 0] 26 (0, 0))) (h1 : w.heap[g1]? = some (.cells #[.slice (some ⟨g0, 0, none⟩) 2 2] 22 (0, 0)))
    (h2 : w.heap[g2]? = some (.cells #[.bool false, .bool false, .slice none 0 0, .bool false, .bool false, .slice none 0 0] 26 (0, 0))) (h3 : w.heap[g3]? = some (.cells #[.slice (some ⟨g2, 0, none⟩) 2 2] 22 (0, 0)))
    (h4 : w.heap[g4]? = some (.cells #[.slice (some ⟨g1, 0, none⟩) 1 1, .slice (some ⟨g3, 0, none⟩) 1 1] 65 (0, 0))) :
    (Kd.slice 22 (Kd.slice 26 k26)).C w (some ⟨g4, 0, none⟩) 2 calls0 := by
  have c0 : k26.C w (some ⟨g0, 0, none⟩) 2 [z26, z26] := C_of_blk (d := k26) (cs := [.bool false, .bool false, .slice none 0 0, .bool false, .bool false, .slice none 0 0]) h0 (reps2 (z26_K w) (z26_K w) rfl rfl) (by decide)
  have c2 : k26.C w (some ⟨g2, 0, none⟩) 2 [z26, z26] := C_of_blk (d := k26) (cs := [.bool false, .bool false, .slice none 0 0, .bool false, .bool false, .slice none 0 0]) h2 (reps2 (z26_K w) (z26_K w) rfl rfl) (by decide)
  have c1 : (Kd.slice 26 k26).C w (some ⟨g1, 0, none⟩) 1 [[z26, z26]] := C_of_blk (d := Kd.slice 26 k26) (cs := [.slice (some ⟨g0, 0, none⟩) 2 2]) h1 (reps1 ⟨some ⟨g0, 0, none⟩, 2, rfl, by decide, c0⟩ rfl) (by decide)
  have c3 : (Kd.slice 26 k26).C w (some ⟨g3, 0, none⟩) 1 [[z26, z26]] := C_of_blk (d := Kd.slice 26 k26) (cs := [.slice (some ⟨g2, 0, none⟩) 2 2]) h3 (reps1 ⟨some ⟨g2, 0, none⟩, 2, rfl, by decide, c2⟩ rfl) (by decide)
  have e1 : (Kd.slice 22 (Kd.slice 26 k26)).K w [[z26, z26]] [.slice (some ⟨g1, 0, none⟩) 1 1] := ⟨some ⟨g1, 0, none⟩, 1, rfl, by decide, c1⟩
  have e3 : (Kd.slice 22 (Kd.slice 26 k26)).K w [[z26, z26]] [.slice (some ⟨g3, 0, none⟩) 1 1] := ⟨some ⟨g3, 0, none⟩, 1, rfl, by decide, c3⟩
  exact C_of_blk (d := Kd.slice 22 (Kd.slice 26 k26)) (cs := [.slice (some ⟨g1, 0, none⟩) 1 1, .slice (some ⟨g3, 0, none⟩) 1 1]) h4 (reps2 e1 e3 rfl rfl) (by decide)
theorem sizes0 : Sizes calls0 := by
  refine ⟨by decide, fun cl hcl => ?_⟩
  have hcl' : cl = [[z26, z26]] := by
    unfold calls0 at hcl
    simpa using hcl
  subst hcl'
  refine ⟨by decide, fun turns ht => ?_⟩
  have ht' : turns = [z26, z26] := by simpa using ht
  subst ht'
  refine ⟨by decide, fun y hy => ?_⟩
  have hy' : y = z26 := by simpa using hy
  subst hy'
  decide
def x0 : X := xOf calls0
theorem x0_1 : x0.pick 1 = (x0.step 1, 1, true) := rfl
theorem x0_2 : (x0.step 1).pick 3 = ((x0.step 1).step 1, 1, true) := rfl
theorem x0_steps : ((x0.step 1).step 1).steps = 2 := by
  show wrap64 (wrap64 (0 + 1) + 1) = 2
  unfold wrap64
  omega
theorem x0_done : ((x0.step 1).step 1).done = false := rfl
theorem x0_ready : ((x0.step 1).step 1).ready = [0] := rfl
theorem x0_ok : x0.Ok := xOf_ok (by rfl) sizes0
theorem x1_ok : (x0.step 1).Ok := X.step_ok x0_ok 1 (by decide) (by decide)
theorem x2_ok : ((x0.step 1).step 1).Ok := X.step_ok x1_ok 1 (by decide) (by decide)
set_option maxHeartbeats 4000000 in
set_option maxRecDepth 100000 in
theorem lives_walk (w : World) : Calls Try.prog 9 #[] w fun e w' => e = .returned (.bool true) ∧ Below w.heap.size w w' := by
  have q36 := some36
  have PW := Aside0.mk (fun (W : World) (hb : Below w.heap.size w W) {A : Option Addr} {c : Nat} (hC : (Kd.slice 22 (Kd.slice 26 k26)).C W A 2 calls0) => (show Calls Try.prog 17 #[.slice A 2 c] W (fun e w' => ∃ v, e = .returned v ∧ ∃ W0, Below w.heap.size w W0 ∧ OutSt W0 w' v calls0) from
    (procs_walk (calls := calls0) hC sizes0).mono (fun e w' h => by obtain ⟨v, he, ho⟩ := h; exact ⟨v, he, W, hb, ho⟩)))
  go_enter Try.func9, Try.ntmps9
  go_upto_region 2 with (first
    | (go_at_call 17; refine (PW.out _ (below_alloc (below_alloc (below_alloc (below_alloc (below_alloc (Below.refl _ _) _) _) _) _) _) (lives_mem (g0 := w.heap.size) (g1 := w.heap.size + 1) (g2 := w.heap.size + 1 + 1) (g3 := w.heap.size + 1 + 1 + 1) (blk_alloc (blk_alloc (blk_alloc (blk_alloc (blk_new w _) _) _) _) _) (blk_alloc (blk_alloc (blk_alloc (blk_new_at _ (by simp)) _) _) _) (blk_alloc (blk_alloc (blk_new_at _ (by simp)) _) _) (blk_alloc (blk_new_at _ (by simp)) _) (blk_new_at _ (by simp)))).mono ?_; rintro e w6 ⟨v, rfl, W0, hW, ho⟩; have HW := Aside0.mk hW; have HO := Aside0.mk ho; clear hW ho)
    | (go_at_call 16; refine (new_yes HO.out (by rfl)).mono ?_; rintro e w7 ⟨rb, f7, tv, tb, cv, C, rfl, hx, hb⟩; have HX := Aside0.mk hx; have HB := Aside0.mk hb; clear hx hb))
  have K1 := Aside0.mk (show Calls Try.prog 21 #[.pointer (some ⟨rb, 0, none⟩), .int .i64 1] w7 (fun e w' => e = .returned (.tuple #[.int .i64 1, .bool true]) ∧ AfterX W0.heap.size f7 w7 rb (fun id => W0.heap.size ≤ id ∧ id < w7.heap.size) (x0.step 1) tv tb cv C w') from pick_walk HX.out x0_ok (fun i hi => hi.2) 1)
  go_upto_region 5 with (go_at_call 21; refine K1.out.mono ?_; rintro e w8 ⟨rfl, f8, hx8, m8⟩; have A8 := Aside0.mk (And.intro hx8 m8); clear hx8 m8)
  have K2 := Aside0.mk (show Calls Try.prog 21 #[.pointer (some ⟨rb, 0, none⟩), .int .i64 3] w8 (fun e w' => e = .returned (.tuple #[.int .i64 1, .bool true]) ∧ AfterX W0.heap.size f8 w8 rb (fun id => W0.heap.size ≤ id ∧ id < w7.heap.size) ((x0.step 1).step 1) tv tb cv C w') from pick_walk A8.out.1 x1_ok (fun i hi => Nat.lt_of_lt_of_le hi.2 A8.out.2.below.size) 3)
  go_upto_region 8 with (go_at_call 21; refine K2.out.mono ?_; rintro e w9 ⟨rfl, f9, hx9, m9⟩; have A9 := Aside0.mk (And.intro hx9 m9); clear hx9 m9)
  have KS := Aside0.mk (stepsX A9.out.1)
  have KD := Aside0.mk (doneX A9.out.1)
  have KR := Aside0.mk (fun (w' : World) (hb : Below w9.heap.size w9 w') => readyX (A9.out.1.below hb))
  rw [x0_steps] at KS
  rw [x0_done] at KD
  rw [x0_ready] at KR
  go_wp2_with (first
    | (go_at_call 23; refine KS.out.mono ?_; rintro e w' ⟨rfl, rfl⟩)
    | (go_at_call 28; refine KD.out.mono ?_; rintro e w10 ⟨rfl, hb⟩; have B10 := Aside0.mk hb; clear hb)
    | (go_at_call 20; refine (KR.out _ B10.out).mono ?_; rintro e w11 ⟨v2, rfl, hR, hb⟩; obtain ⟨A2, c2, hv⟩ := Kd.R_slice hR; rw [show (ints [0]).length = 1 from rfl] at hv; subst hv; have R11 := Aside0.mk hR; have B11 := Aside0.mk hb; clear hR hb)
    | (go_at_call 14; refine (sameInts_walk (l := [0]) (Kd.C_below (R_C R11.out).1 (below_alloc (Below.refl _ _) _)) (C_of_blk (d := Kd.int .i64) (cs := [.int .i64 0]) (blk_new w11 _) (reps1 rfl rfl) (by decide))).mono ?_; rintro e w12 ⟨rfl, hd⟩; have D12 := Aside0.mk hd; clear hd))
  go_ret
  refine ⟨rfl, ?_⟩
  have b1 := HW.out.trans (HB.out.mono HW.out.size)
  have b2 := b1.trans (A8.out.2.below.mono HW.out.size)
  have b3 := b2.trans (A9.out.2.below.mono HW.out.size)
  have b4 := b3.trans (B10.out.mono b3.size)
  have b5 := b4.trans (B11.out.mono b4.size)
  exact (below_alloc b5 _).trans (D12.out.below.mono (below_alloc b5 _).size)
end Go.Proofs.Ytkigbgabnbjomaa.Sched
