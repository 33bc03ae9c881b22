/- The law SchedNobody, walked by hand; and the call.
   No condition. -/
import Derived.Test.YtkigbgabnbjomaaSchG
import Derived.ArgAppend
import Derived.BigRegion
import Derived.Deep.QuietTactic
import Derived.BigQuiet
import Derived.Deep.RegionHeld3
import Derived.ChangeAlike
import Derived.RegionTactic
import Derived.Deep.DeepCutAuto
import Derived.Deep.CutBlock
import Derived.Deep.RegionLaw
import Derived.StillTailTactics
import Derived.WalkSpells
import Derived.Lib.SliceRun
namespace Go.Proofs.Ytkigbgabnbjomaa.Sched
open Go.Proofs.Ytkigbgabnbjomaa.PSchedPlays
open Go.RowKit Go.Proofs.YtkigbgabnbjomaaW.PrintWords Go.Proofs.YtkigbgabnbjomaaW.PrintLast Go.Proofs.YtkigbgabnbjomaaW.PrintMore
attribute [local go_sem] max2_int min2_int max_two min_two   -- for this text's walks alone
set_option linter.unusedVariables false
set_option linter.unusedSimpArgs false
/-! ### Nobody -/
def Same0 (w : World) (v : Value) (en : Ending) (w' : World) : Prop := en = .returned v ∧ w = w'
set_option maxHeartbeats 1000000 in
theorem those_nil (g : Value) (w : World) : Calls Try.prog 38 #[.pointer none, g] w (Same0 w (.slice none 0 0)) := by
  have q := nil36
  go_enter Try.func38, Try.ntmps38
  go_wp2
  go_ret
  exact ⟨rfl, rfl⟩
theorem ready_nil (w : World) : Calls Try.prog 20 #[.pointer none] w (Same0 w (.slice none 0 0)) := by
  go_enter Try.func20, Try.ntmps20
  go_wp2_with (go_at_call 38; refine (those_nil _ _).mono ?_; rintro e w' ⟨rfl, rfl⟩)
  go_ret
  exact ⟨rfl, rfl⟩
theorem waiting_nil (w : World) : Calls Try.prog 24 #[.pointer none] w (Same0 w (.slice none 0 0)) := by
  go_enter Try.func24, Try.ntmps24
  go_wp2_with (go_at_call 38; refine (those_nil _ _).mono ?_; rintro e w' ⟨rfl, rfl⟩)
  go_ret
  exact ⟨rfl, rfl⟩
theorem done_nil (w : World) : Calls Try.prog 28 #[.pointer none] w (Same0 w (.bool false)) := by
  have q := nenil36
  go_enter Try.func28, Try.ntmps28
  go_wp2
  go_ret
  exact ⟨rfl, rfl⟩
theorem stuck_nil (w : World) : Calls Try.prog 25 #[.pointer none] w (Same0 w (.bool false)) := by
  have q := nenil36
  go_enter Try.func25, Try.ntmps25
  go_wp2
  go_ret
  exact ⟨rfl, rfl⟩
theorem steps_nil (w : World) : Calls Try.prog 23 #[.pointer none] w (Same0 w (.int .i64 0)) := by
  have q := nil36
  go_enter Try.func23, Try.ntmps23
  go_wp2
  go_ret
  exact ⟨rfl, rfl⟩
theorem events_nil (w : World) : Calls Try.prog 22 #[.pointer none] w (Same0 w (.slice none 0 0)) := by
  have q := nil36
  go_enter Try.func22, Try.ntmps22
  go_wp2
  go_ret
  exact ⟨rfl, rfl⟩
theorem taken_nil (w : World) : Calls Try.prog 15 #[.pointer none] w (Same0 w (.slice none 0 0)) := by
  have q := nil27
  go_enter Try.func15, Try.ntmps15
  go_wp2
  go_ret
  exact ⟨rfl, rfl⟩
set_option maxHeartbeats 1000000 in
theorem pick_nil (p : Int) (w : World) : Calls Try.prog 21 #[.pointer none, .int .i64 p] w (Same0 w (.tuple #[.int .i64 0, .bool false])) := by
  by_cases c1 : p < 0
  · have g1 : decide (p < 0) = true := decide_eq_true c1
    go_enter Try.func21, Try.ntmps21
    go_wp2_with (go_at_call 20; refine (ready_nil _).mono ?_; rintro e w' ⟨rfl, rfl⟩)
    go_ret2
    exact ⟨rfl, rfl⟩
  · have g1 : decide (p < 0) = false := decide_eq_false c1
    by_cases c2 : 2147483647 < p
    · have g2 : decide (2147483647 < p) = true := decide_eq_true c2
      go_enter Try.func21, Try.ntmps21
      go_wp2_with (go_at_call 20; refine (ready_nil _).mono ?_; rintro e w' ⟨rfl, rfl⟩)
      go_ret2
      exact ⟨rfl, rfl⟩
    · have g2 : decide (2147483647 < p) = false := decide_eq_false c2
      go_enter Try.func21, Try.ntmps21
      go_wp2_with (go_at_call 20; refine (ready_nil _).mono ?_; rintro e w' ⟨rfl, rfl⟩)
      go_ret2
      exact ⟨rfl, rfl⟩
set_option maxHeartbeats 2000000 in
theorem run_nil {w : World} {A : Option Addr} {c : Nat} {l : List Int} (hC : (Kd.int .i64).C w A l.length l) : Calls Try.prog 19 #[.pointer none, .slice A l.length c] w (Same0 w (.int .i64 0)) := by
  have HC := Aside0.mk (Kd.reads_of_C (d := 0) hC)
  have hmax := hC.2.1
  obtain ⟨n, hn⟩ : ∃ n, l.length = n := ⟨_, rfl⟩
  rw [hn] at HC hmax
  rw [hn]
  clear hC hn
  go_enter Try.func19, Try.ntmps19
  go_wp2
  go_loop [5, 12] (fun v idx => ∃ k : Nat, k ≤ n ∧ idx = .int .i64 (k : Int) ∧ v = .int .i64 0) (fun _ idx => n - (intOf idx).toNat)
  case atStart => exact ⟨0, Nat.zero_le _, rfl, rfl⟩
  case round =>
    obtain ⟨k, hk, rfl, rfl⟩ := hrel
    by_cases hlt : k < n
    · obtain ⟨ad, ea, x0⟩ := HC.out.at_ (k : Int) (by omega) (by omega)
      subst ea
      simp only [Int.toNat_natCast] at x0
      have ix : decide ((k : Int) < (n : Int)) = true := decide_eq_true (by omega)
      go_wp2_with (go_at_call 21; refine (pick_nil _ _).mono ?_; rintro e w' ⟨rfl, rfl⟩)
      go_round
      case rel => exact ⟨k + 1, by omega, by go_num, rfl⟩
      case measure => simp [intOf]; omega
    · have hkl : k = n := by omega
      subst hkl
      go_wp2
      go_ret
      exact ⟨rfl, rfl⟩
set_option maxHeartbeats 2000000 in
theorem finish_nil (w : World) : Calls Try.prog 26 #[.pointer none, .int .i64 3] w (Same0 w (.bool false)) := by
  go_enter Try.func26, Try.ntmps26
  go_wp2
  go_loop [9] (fun idx => idx = .int .i64 0) (fun _ => 0)
  case atStart => rfl
  case round =>
    obtain rfl := hrel
    go_wp2_with (first
      | (go_at_call 21; refine (pick_nil _ _).mono ?_; rintro e w' ⟨rfl, rfl⟩)
      | (go_at_call 28; refine (done_nil _).mono ?_; rintro e w' ⟨rfl, rfl⟩))
    go_ret
    exact ⟨rfl, rfl⟩
def xN : X := X.new 1 (fun _ => 2) (fun _ c => if c = 1 then some [] else none)
theorem xN_ok : xN.Ok := by
  refine ⟨by decide, fun t _ => by show 2 ≤ 256; decide, fun t _ => Nat.zero_le _, fun t _ _ => stepsOf_pos _, fun t _ ha => rfl, fun t c turns _ hp => ?_, rfl⟩
  have hp' : (if c = 1 then some ([] : List S26) else none) = some turns := hp
  split at hp'
  · injection hp' with e; subst e; exact ⟨by decide, fun y hy => by simp at hy⟩
  · cases hp'
theorem xN_done : (xN.fin 2).done = true := rfl
theorem xN_steps : (xN.fin 2).steps = 2 := by
  show wrap64 (wrap64 (0 + 1) + 1) = 2
  unfold wrap64
  omega
theorem runN {w0 w w' : World} {f : Owner} {pb : Nat} (hp : PlayAt w0.heap.size f w pb [] []) (hb : Below w0.heap.size w0 w) (hn : NewSt w w' [[none, some pb]] 1) :
    ∃ tv tb cv C, RunX w0.heap.size (owns f w.heap.size w.heap.size) w' w.heap.size (fun id => w0.heap.size ≤ id ∧ id < w'.heap.size) xN tv tb cv C := by
  obtain ⟨tv, tb, cv, h1, h2, h3, h4, h5⟩ := hn
  have hw0 := hb.size
  have hlt := blk_lt h1
  have t0 : ∀ t, t < xN.n → t = 0 := fun t ht => by have : t < 1 := ht; omega
  refine ⟨tv, tb, cv, fun _ => [none, some pb], .slice none 0 0, fun _ _ => [], ?_, fun t ht => ⟨fun _ => rfl, fun _ _ => rfl⟩⟩
  exact
    { rblk := h1
      rown := owns_new _ _ _ _ (Nat.le_refl _)
      rbase := hw0
      rP := ⟨hw0, hlt⟩
      n16 := by show 1 ≤ 16; decide
      trow := Kd.R_mono (Kd.R_lower h2 hw0) (fun k hk => owns_new _ _ _ _ hk)
      tinj := fun t u ht hu => h4 t u ht hu
      tblk := fun t ht => (h3 t ht).1
      town := fun t ht => owns_new _ _ _ _ (h3 t ht).2.1
      tbase := fun t ht => Nat.le_trans hw0 (h3 t ht).2.1
      crow := fun t ht => by
        obtain rfl := t0 t ht
        exact Kd.R_mono (Kd.R_lower (h3 0 ht).2.2 hw0) (fun k hk => owns_new _ _ _ _ hk)
      clen := fun t ht => rfl
      erow := Kd.R_nil _ _ _ _ _
      play := fun t c pb' ht hc => by
        have hpl := hp.lt
        have hc' : ([none, some pb] : List (Option Nat))[c]? = some (some pb') := hc
        match c, hc' with
        | 0, h => cases h
        | 1, h =>
          injection h with h
          injection h with h
          subst h
          exact ⟨⟨hp.base, by omega⟩, by omega, [], rfl, hp.mv (o := fun _ => False) (Mv.of_below (B := w.heap.size) h5 (Nat.le_refl _) (fun k hk => owns_old _ _ _ k hk)) id⟩
        | c + 2, h => simp at h
      noplay := fun t c ht hc => by
        have hc' : ([none, some pb] : List (Option Nat))[c]? = some none := hc
        match c, hc' with
        | 0, h => rfl
        | 1, h => cases h
        | c + 2, h => simp at h
      pinj := fun t c t' c' pb' ht ht' hc hc' => by
        have a : ([none, some pb] : List (Option Nat))[c]? = some (some pb') := hc
        have b : ([none, some pb] : List (Option Nat))[c']? = some (some pb') := hc'
        have one : ∀ i : Nat, ([none, some pb] : List (Option Nat))[i]? = some (some pb') → i = 1 := fun i h => by
          match i, h with
          | 0, h => cases h
          | 1, _ => rfl
          | i + 2, h => simp at h
        rw [t0 t ht, t0 t' ht', one c a, one c' b]
        exact ⟨rfl, rfl⟩ }
def OnN (w0 : World) (en : Ending) (w' : World) : Prop :=
  ∃ rb f tv tb cv C, en = .returned (.tuple #[.pointer (some ⟨rb, 0, none⟩), .int .i64 0]) ∧ RunX w0.heap.size f w' rb (fun id => w0.heap.size ≤ id ∧ id < w'.heap.size) xN tv tb cv C ∧ Below w0.heap.size w0 w'
theorem newN {w0 w1 : World} (h01 : Below w0.heap.size w0 w1) {w2 : World} (hn : NPSt w1 w2 [] 0) {g1 g0 : Nat} {w4 : World} (h24 : Below w2.heap.size w2 w4) (b1 : w4.heap[g1]? = some (.cells #[.nilIface, .iface 27 (.pointer (some ⟨w1.heap.size, 0, none⟩))] 78 (0, 0))) (b0 : w4.heap[g0]? = some (.cells #[.slice (some ⟨g1, 0, none⟩) 2 2] 63 (0, 0))) :
    Calls Try.prog 16 #[.slice (some ⟨g0, 0, none⟩) 1 1] w4 (OnN w0) := by
  have c1 : kProc.C w4 (some ⟨g1, 0, none⟩) 2 [none, some w1.heap.size] := C_of_blk (d := kProc) (ps := [none, some w1.heap.size]) (cs := [.nilIface, .iface 27 (.pointer (some ⟨w1.heap.size, 0, none⟩))]) b1 (reps2 (ca := [.nilIface]) (cb := [.iface 27 (.pointer (some ⟨w1.heap.size, 0, none⟩))]) rfl rfl rfl rfl) (by simp)
  have e1 : kProcs.K w4 [none, some w1.heap.size] [.slice (some ⟨g1, 0, none⟩) 2 2] := ⟨some ⟨g1, 0, none⟩, 2, rfl, by simp, c1⟩
  have c0 : kProcs.C w4 (some ⟨g0, 0, none⟩) 1 [[none, some w1.heap.size]] := C_of_blk (d := kProcs) (ps := [[none, some w1.heap.size]]) (cs := [.slice (some ⟨g1, 0, none⟩) 2 2]) b0 (reps1 e1 rfl) (by simp)
  have hbl : Below w1.heap.size w1 w2 := hn.choose_spec.2.2
  have p2 := play_new (f := fun _ => 0) (B := w0.heap.size) h01.size (turns := []) hn
  have p4 := p2.below h24
  have h02 := h01.trans (hbl.mono h01.size)
  have h04 := h02.trans (h24.mono h02.size)
  refine (new_walk (xs := [[none, some w1.heap.size]]) c0 (by simp) (by rfl)).mono ?_
  rintro e w' ⟨he, hs⟩
  obtain ⟨tv, tb, cv, C, hx⟩ := runN p4 h04 hs
  exact ⟨_, _, tv, tb, cv, C, he, hx, h04.trans (hs.choose_spec.choose_spec.choose_spec.2.2.2.2.mono h04.size)⟩
set_option maxHeartbeats 8000000 in
set_option maxRecDepth 100000 in
theorem law_Nobody (W : World) (A0 : Option Addr) (c0 : Nat) (l0 : List Int) (a1 : Int) (hC0 : Kd.C (Kd.int .i64) W A0 l0.length l0) :
    Calls Try.prog 8 #[.slice A0 l0.length c0, .int .i64 a1] W fun e w' => e = .returned (.bool true) ∧ Below W.heap.size W w' := by
  have q36 := nil36
  have HC := Aside0.mk hC0
  have RN := Aside0.mk (fun (w : World) (hb : Below W.heap.size W w) => run_nil (c := c0) (Kd.C_below HC.out hb))
  obtain ⟨n, hn⟩ : ∃ n, l0.length = n := ⟨_, rfl⟩
  rw [hn] at RN
  rw [hn]
  clear hC0 hn
  go_enter Try.func8, Try.ntmps8
  go_upto_region 6 with (first
    | (go_at_call 21; refine (pick_nil _ _).mono ?_; rintro e w' ⟨rfl, rfl⟩)
    | (go_at_call 9; refine (lives_walk _).mono ?_; rintro e w1 ⟨rfl, hb⟩; have B1 := Aside0.mk hb; clear hb)
    | (go_at_call 19; refine (RN.out _ B1.out).mono ?_; rintro e w' ⟨rfl, rfl⟩)
    | (go_at_call 26; refine (finish_nil _).mono ?_; rintro e w' ⟨rfl, rfl⟩)
    | (go_at_call 28; refine (done_nil _).mono ?_; rintro e w' ⟨rfl, rfl⟩)
    | (go_at_call 25; refine (stuck_nil _).mono ?_; rintro e w' ⟨rfl, rfl⟩)
    | (go_at_call 23; refine (steps_nil _).mono ?_; rintro e w' ⟨rfl, rfl⟩)
    | (go_at_call 22; refine (events_nil _).mono ?_; rintro e w' ⟨rfl, rfl⟩)
    | (go_at_call 20; refine (ready_nil _).mono ?_; rintro e w' ⟨rfl, rfl⟩)
    | (go_at_call 24; refine (waiting_nil _).mono ?_; rintro e w' ⟨rfl, rfl⟩))
  have nilC : ∀ w : World, (Kd.int .i64).C w none 0 [] := fun w => ⟨rfl, by decide, fun h => absurd h (by decide)⟩
  have NC := Aside0.mk nilC
  clear nilC
  go_upto_region 8 with (first
    | (go_at_call 11; refine (step_nil _ _).mono ?_; rintro e w2 ⟨rfl, hb⟩; have B2 := Aside0.mk hb; clear hb)
    | (go_at_call 12; refine (sameTurned_walk (x := ⟨true, false, []⟩) (c := 0) (c' := 0) (NC.out _) (NC.out _)).mono ?_; rintro e w3 ⟨rfl, hb⟩; have B3 := Aside0.mk hb; clear hb)
    | (go_at_call 15; refine (taken_nil _).mono ?_; rintro e w' ⟨rfl, rfl⟩))
  go_upto_region 9 with (first
    | (go_at_call 10; refine (newPlay_walk (turns := []) (c := 0) ⟨rfl, by decide, fun h => absurd h (by decide)⟩ (by decide) (fun x hx => by simp at hx)).mono ?_; rintro e w4 ⟨rfl, hn⟩; have HN4 := Aside0.mk hn; have hz4 : w3.heap.size < w4.heap.size := blk_lt hn.choose_spec.1; clear hn)
    | (go_at_call 16; refine (newN (w0 := w3) (Below.refl _ _) HN4.out (g1 := w4.heap.size) (below_alloc (below_alloc (Below.refl _ _) _) _) (blk_alloc (blk_new w4 _) _) (blk_new_at _ (by simp))).mono ?_; rintro e w7 ⟨rb, f7, tv, tb, cv, C, rfl, hx, hb⟩; have HX := Aside0.mk hx; have HB := Aside0.mk hb; clear hx hb))
  have KF := Aside0.mk (show Calls Try.prog 26 #[.pointer (some ⟨rb, 0, none⟩), .int .i64 2] w7 (fun e w' => e = .returned (.bool true) ∧ AfterX w3.heap.size f7 w7 rb (fun id => w3.heap.size ≤ id ∧ id < w7.heap.size) (xN.fin 2) tv tb cv C w') from finish_walk HX.out xN_ok (fun i hi => hi.2) 2 (by decide))
  go_wp2_with (first
    | (go_at_call 26; refine KF.out.mono ?_; rintro e w8 ⟨rfl, f8, hx8, m8⟩; have KS := stepsX hx8; rw [xN_steps] at KS; have KS := Aside0.mk KS; have M8 := Aside0.mk m8; clear hx8 m8)
    | (go_at_call 23; refine KS.out.mono ?_; rintro e w' ⟨rfl, rfl⟩))
  go_ret
  refine ⟨rfl, ?_⟩
  have b2 := B1.out.trans (B2.out.mono B1.out.size)
  have b3 := b2.trans (B3.out.mono b2.size)
  have b4 := b3.trans (HB.out.mono b3.size)
  exact b4.trans (M8.out.below.mono b3.size)
end Go.Proofs.Ytkigbgabnbjomaa.Sched
namespace Go.Proofs.Ytkigbgabnbjomaa.Main
open Go.Proofs.Ytkigbgabnbjomaa.Sched Go.Proofs.Ytkigbgabnbjomaa.PSchedPlays
open Go.RowKit Go.Proofs.YtkigbgabnbjomaaW.PrintWords Go.Proofs.YtkigbgabnbjomaaW.PrintLast Go.Proofs.YtkigbgabnbjomaaW.PrintMore
set_option linter.unusedVariables false
set_option linter.unusedSimpArgs false
theorem SchedNobody (W : World) (A0 : Option Addr) (c0 : Nat) (l0 : List Int) (a1 : Int) (hC0 : Kd.C (Kd.int .i64) W A0 l0.length l0) (hc0 : l0.length ≤ c0) (hG0 : (fun l => l.length * 8 ≤ 140737488351232 ∧ l.length ≤ 9223372036854775807 ∧ ∀ x ∈ l, (fun x => (Lit.int .i64 x).wf = true) x) l0) (w1 : (Lit.int .i64 a1).wf = true) :
    Calls Try.prog 8 #[.slice A0 l0.length c0, .int .i64 a1] W fun e w' => e = .returned (.bool true) ∧ Below W.heap.size W w' := by
  exact law_Nobody W A0 c0 l0 a1 hC0
end Go.Proofs.Ytkigbgabnbjomaa.Main
