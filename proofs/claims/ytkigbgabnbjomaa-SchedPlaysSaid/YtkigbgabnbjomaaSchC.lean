/- A step of the runner, its call not begun.
   No condition. -/
import Derived.Test.YtkigbgabnbjomaaSchB
import Derived.ArgAppend
import Derived.BigRegion
import Derived.Deep.QuietTactic
import Derived.BigQuiet
import Derived.Deep.RegionHeld3
import Derived.ChangeAlike
import Derived.RegionTactic
import Derived.Deep.DeepCutAuto
import Derived.Deep.CutBlock
import Derived.Deep.RegionLaw
import Derived.StillTailTactics
import Derived.WalkSpells
import Derived.Lib.SliceRun
namespace Go.Proofs.Ytkigbgabnbjomaa.Sched
open Go.Proofs.Ytkigbgabnbjomaa.PSchedPlays
open Go.RowKit Go.Proofs.YtkigbgabnbjomaaW.PrintWords Go.Proofs.YtkigbgabnbjomaaW.PrintLast Go.Proofs.YtkigbgabnbjomaaW.PrintMore
attribute [local go_sem] max2_int min2_int max_two min_two   -- for this text's walks alone
set_option linter.unusedVariables false
set_option linter.unusedSimpArgs false
set_option maxHeartbeats 8000000 in
set_option maxRecDepth 100000 in
theorem stepFN {B : Nat} {f : Owner} {w : World} {rb : Nat} {P : Nat → Prop} {x : M} {tv ev : Value} {tb : Nat → Nat} {cv : Nat → Value} {C : Nat → List (Option Nat)} (h : RunG B f w rb P x tv ev tb cv C) (t : Nat) (ht : t < x.n) (hat : x.at_ t < x.len t) (hev : (x.events.length + 2) * 32 ≤ 140737488355328) (hl256 : x.len t ≤ 256) (hP : ∀ i, P i → i < w.heap.size) (hbg : x.bg t = false)
    (hc : (C t)[x.at_ t]? = some none) :
    Calls Try.prog 41 #[.pointer (some ⟨rb, 0, none⟩), .int .i64 (t : Int)] w (Quits (After B f w rb P (x.stepWith t ⟨true, false, []⟩ x.tk) tv tb cv C P)) := by
  have q78 := nenil78
  have hn16 := h.n16
  obtain ⟨At, ct, htv⟩ := Kd.R_slice h.trow
  rw [List.length_map, List.length_range] at htv
  subst htv
  obtain ⟨ad, ead, p0⟩ := h.tptr t ht
  subst ead
  obtain ⟨Ac, cc, hcv⟩ := h.cvs t ht
  have r0 := h.r0
  have a2 := h.t2 t ht
  have f2 := h.tf t ht 2
  rw [hbg] at a2
  have H := Aside0.mk h
  have HEV := Aside0.mk hev
  have HT := Aside0.mk ht
  have HPP := Aside0.mk hP
  have HCV := Aside0.mk hcv
  have HBG := Aside0.mk hbg
  have HAT := Aside0.mk hat
  have ix0 : decide ((t : Int) < (x.n : Int)) = true := decide_eq_true (by omega)
  have HP := Aside0.mk (And.intro hc trivial)
  clear hc
  clear h hev hcv hbg hP
  have H1 := Aside0.mk (H.out.setBg t HT.out true)
  go_enter Try.func41, Try.ntmps41
  go_upto_region 4 with (go_at_call 50; refine (note_walk H1.out.1 t HT.out false (by have := HEV.out; show (x.events.length + 1) * 32 ≤ _; omega)).mono ?_; rintro e w1 ⟨rfl, hh⟩; have A1 := Aside0.mk hh; clear hh)
  obtain ⟨f1, ev1, h1, m1'⟩ := A1.out
  have m1 : Mv B (· = rb) f w f1 w1 := H1.out.2.trans m1'
  clear r0 a2 f2 p0
  go_upto_region 5 with (fail)
  obtain ⟨w2, hw2⟩ : ∃ w2, w1.alloc (.cells #[.bool true, .bool false, .slice none 0 0] 26) = w2 := ⟨_, rfl⟩
  obtain ⟨bx, hbx⟩ : ∃ bx, w1.heap.size = bx := ⟨_, rfl⟩
  rw [hw2, hbx]
  have b2 : w2.heap[bx]? = some (.cells #[.bool true, .bool false, .slice none 0 0] 26 (0, 0)) := by rw [← hw2, ← hbx]; exact blk_new _ _
  have BL : Below w1.heap.size w1 w2 := by rw [← hw2]; exact below_alloc (Below.refl _ _) _
  obtain ⟨f2, hf2⟩ : ∃ f2, owns f1 w1.heap.size bx = f2 := ⟨_, rfl⟩
  have fold : ∀ k, k < w1.heap.size → f2 k = f1 k := fun k hk => by rw [← hf2]; exact owns_old _ _ _ k hk
  have fbx : f2 bx = bx := by rw [← hf2]; exact owns_new _ _ _ _ (by omega)
  have mb : ∀ o : Nat → Prop, Mv B o f1 w1 f2 w2 := fun o => Mv.of_below BL (by have := blk_lt h1.rblk; have := h1.rbase; omega) fold
  have h2 := h1.mv (mb (fun _ => False)) (fun _ _ e => e)
  have M2 := Aside0.mk (And.intro h2 (And.intro (Mv.trans m1 (mb (· = rb))) (And.intro b2 (And.intro (show w.heap.size ≤ bx by rw [← hbx]; exact m1.below.size) fbx))))
  obtain ⟨hnl, ad2, ead2, pc⟩ := h2.proc_at t HT.out HCV.out (x.at_ t) HAT.out HP.out.1
  clear hnl
  subst ead2
  have k0 := h2.t0 t HT.out
  rw [HCV.out] at k0
  have k1 : w2.cell? ⟨tb t, 1, none⟩ = some (.int .i64 (x.at_ t : Int)) := h2.t1 t HT.out
  simp only [procV] at pc
  have ix1 : decide ((x.at_ t : Int) < (x.len t : Int)) = true := decide_eq_true (by omega)
  clear A1 h1 m1' m1 hw2 hbx b2 BL h2 mb fold fbx hf2
  refine start_ (n := 11) (S := fun w' => w'.cell? ⟨tb t, 0, none⟩ = some (.slice (some ad2) (x.len t) cc) ∧ w'.cell? ⟨tb t, 1, none⟩ = some (.int .i64 (x.at_ t : Int)) ∧ w'.cell? (ad2.add (x.at_ t)) = some .nilIface) (ds := []) #[F,F,F,F,F,F,F,F,F,F,F] (by kernel_rfl) rfl rfl (⟨k0, k1, pc⟩) (fun hHeld => ?_)
  refine pure_ (i := 0) (N := some 28) (v := ?_) (a' := ?_) #[T,F,F,F,F,F,F,F,F,F,F] rfl rfl (by kernel_rfl) (fun _ _ _ h => h) (Or.inl ⟨by rfl, ?_⟩) ?_ ?_
  rotate_left
  · intro w'
    go_simp
    with_reducible rfl
  rotate_left
  · simp only [Act.put, sA, s0_, sS, i64_w, i32_w]
    rfl
  refine pure_ (i := 1) (N := some 29) (v := ?_) (a' := ?_) #[T,T,F,F,F,F,F,F,F,F,F] rfl rfl (by kernel_rfl) (fun _ _ _ h => h) (Or.inl ⟨by rfl, ?_⟩) ?_ ?_
  rotate_left
  · intro w'
    go_simp
    with_reducible rfl
  rotate_left
  · simp only [Act.put, sA, s0_, sS, i64_w, i32_w]
    rfl
  refine pure_ (i := 2) (N := some 30) (v := ?_) (a' := ?_) #[T,T,T,F,F,F,F,F,F,F,F] rfl rfl (by kernel_rfl) (fun _ _ _ h => h) (Or.inl ⟨by rfl, ?_⟩) ?_ ?_
  rotate_left
  · intro w'
    go_simp
    with_reducible rfl
  rotate_left
  · simp only [Act.put, sA, s0_, sS, i64_w, i32_w]
    rfl
  refine take_ (i := 3) (N := some 31) (v := ?_) (a' := ?_) #[T,T,T,T,F,F,F,F,F,F,F] rfl rfl (by kernel_rfl) (fun _ _ _ h => h) (Or.inl ⟨by rfl, ?_⟩) hHeld ?_ ?_
  rotate_left
  · intro w' s0
    obtain ⟨s1, s2, s3⟩ := s0
    go_simp
    with_reducible rfl
  rotate_left
  · simp only [Act.put, sA, s0_, sS, i64_w, i32_w]
    rfl
  refine pure_ (i := 4) (N := some 32) (v := ?_) (a' := ?_) #[T,T,T,T,T,F,F,F,F,F,F] rfl rfl (by kernel_rfl) (fun _ _ _ h => h) (Or.inl ⟨by rfl, ?_⟩) ?_ ?_
  rotate_left
  · intro w'
    go_simp
    with_reducible rfl
  rotate_left
  · simp only [Act.put, sA, s0_, sS, i64_w, i32_w]
    rfl
  refine pure_ (i := 5) (N := some 33) (v := ?_) (a' := ?_) #[T,T,T,T,T,T,F,F,F,F,F] rfl rfl (by kernel_rfl) (fun _ _ _ h => h) (Or.inl ⟨by rfl, ?_⟩) ?_ ?_
  rotate_left
  · intro w'
    go_simp
    with_reducible rfl
  rotate_left
  · simp only [Act.put, sA, s0_, sS, i64_w, i32_w]
    rfl
  refine pure_ (i := 6) (N := some 34) (v := ?_) (a' := ?_) #[T,T,T,T,T,T,T,F,F,F,F] rfl rfl (by kernel_rfl) (fun _ _ _ h => h) (Or.inl ⟨by rfl, ?_⟩) ?_ ?_
  rotate_left
  · intro w'
    go_simp
    with_reducible rfl
  rotate_left
  · simp only [Act.put, sA, s0_, sS, i64_w, i32_w]
    rfl
  refine take_ (i := 7) (N := some 35) (v := ?_) (a' := ?_) #[T,T,T,T,T,T,T,T,F,F,F] rfl rfl (by kernel_rfl) (fun _ _ _ h => h) (Or.inl ⟨by rfl, ?_⟩) hHeld ?_ ?_
  rotate_left
  · intro w' s0
    obtain ⟨s1, s2, s3⟩ := s0
    go_simp
    with_reducible rfl
  rotate_left
  · simp only [Act.put, sA, s0_, sS, i64_w, i32_w]
    rfl
  refine pure_ (i := 8) (N := some 36) (v := ?_) (a' := ?_) #[T,T,T,T,T,T,T,T,T,F,F] rfl rfl (by kernel_rfl) (fun _ _ _ h => h) (Or.inl ⟨by rfl, ?_⟩) ?_ ?_
  rotate_left
  · intro w'
    go_simp
    with_reducible rfl
  rotate_left
  · simp only [Act.put, sA, s0_, sS, i64_w, i32_w]
    rfl
  refine take_ (i := 9) (N := some 37) (v := ?_) (a' := ?_) #[T,T,T,T,T,T,T,T,T,T,F] rfl rfl (by kernel_rfl) (fun _ _ _ h => h) (Or.inl ⟨by rfl, ?_⟩) hHeld ?_ ?_
  rotate_left
  · intro w' s0
    obtain ⟨s1, s2, s3⟩ := s0
    go_simp
    with_reducible rfl
  rotate_left
  · simp only [Act.put, sA, s0_, sS, i64_w, i32_w]
    rfl
  refine pure_ (i := 10) (N := some 6) (v := ?_) (a' := ?_) #[T,T,T,T,T,T,T,T,T,T,T] rfl rfl (by kernel_rfl) (fun _ _ _ h => h) (Or.inl ⟨by rfl, ?_⟩) ?_ ?_
  rotate_left
  · intro w'
    go_simp
    with_reducible rfl
  rotate_left
  · simp only [Act.put, sA, s0_, sS, i64_w, i32_w]
    rfl
  refine done_ (by kernel_rfl) ?_
  clear k0 k1 pc ix1
  obtain ⟨w3, hw3⟩ : ∃ w3, w2.drew = w3 := ⟨_, rfl⟩
  rw [hw3]
  have M3 : Aside0 (RunG B f2 w3 rb P { x with bg := upd x.bg t true, events := x.events ++ [⟨x.steps, t, x.at_ t, false⟩] } (Value.slice (some ad) x.n ct) ev1 tb cv C ∧ Mv B (· = rb) f w f2 w3 ∧ w3.heap[bx]? = some (.cells #[.bool true, .bool false, .slice none 0 0] 26 (0, 0)) ∧ w.heap.size ≤ bx ∧ f2 bx = bx) := ⟨by
    rw [← hw3]
    obtain ⟨g1, g2, g3, g4⟩ := M2.out
    exact ⟨g1.below (below_drew (Below.refl _ _)), g2.drewN 1, g3, g4⟩⟩
  clear M2 hw3
  obtain ⟨f4, hf4⟩ : ∃ f4, f2 = f4 := ⟨_, rfl⟩
  obtain ⟨w5, hw5⟩ : ∃ w5, w3 = w5 := ⟨_, rfl⟩
  rw [hw5]
  obtain ⟨nm, hnm⟩ : ∃ nm, w3.heap.size = nm := ⟨_, rfl⟩
  have M5 : Aside0 (RunG B f4 w5 rb P { x with bg := upd x.bg t true, events := x.events ++ [⟨x.steps, t, x.at_ t, false⟩] } (Value.slice (some ad) x.n ct) ev1 tb cv C ∧ Mv B P f w f4 w5 ∧ w5.heap[bx]? = some (.cells #[.bool true, .bool false, .slice none 0 0] 26 (0, 0)) ∧ w.heap.size ≤ bx ∧ f4 bx = bx ∧ (Kd.int .i64).R 3 w5 nm (fun k => nm ≤ k ∧ f4 k = nm) (.slice none 0 0) [] ∧ rb < nm) := ⟨by
    obtain ⟨g1, g2, g3, g4, g5⟩ := M3.out
    rw [← hw5, ← hnm, ← hf4]
    exact ⟨g1, g2.mono (fun i e => by rw [e]; exact g1.rP), g3, g4, g5, Kd.R_nil _ _ _ _ _, blk_lt g1.rblk⟩⟩
  clear hw5 hf4
  have b5 := M5.out.2.2.1
  have j0 := blk_cell b5 0
  simp only [List.getElem?_toArray, List.getElem?_cons_zero, List.getElem?_cons_succ] at j0
  clear b5
  have NB : Aside0 (¬ f4 bx = rb ∧ ¬ tb t = bx) := ⟨by
    refine ⟨?_, blk_ne (M5.out.1.tblk t HT.out) M5.out.2.2.1 (by decide)⟩
    rw [M5.out.2.2.2.2.1]
    exact blk_ne M5.out.2.2.1 M5.out.1.rblk (by decide)⟩
  have hne := NB.out.2
  have hne' : ¬ bx = tb t := fun e => hne e.symm
  have N5 := Aside0.mk (note_walk M5.out.1 t HT.out true (by have := HEV.out; show ((x.events ++ [_]).length + 1) * 32 ≤ _; rw [List.length_append, List.length_singleton]; omega))
  go_upto_region 13 with (go_at_call 50; refine N5.out.mono ?_; rintro e w6 ⟨rfl, f6, ev6, h6, m6⟩; have R6 := Aside0.mk (And.intro h6 m6); have a1 : w6.cell? ⟨tb t, 1, none⟩ = some (.int .i64 (x.at_ t : Int)) := h6.t1 t HT.out; have a2 := h6.t2 t HT.out; have a3 := h6.t3 t HT.out; have g1 := h6.tf t HT.out 1; have g2 := h6.tf t HT.out 2; have g3 := h6.tf t HT.out 3; have b6 := m6.blk M5.out.2.2.1 NB.out.1; have j0 := blk_cell b6 0; have j1 := blk_cell b6 1; have j2 := blk_cell b6 2; simp only [List.getElem?_toArray, List.getElem?_cons_zero, List.getElem?_cons_succ] at j0 j1 j2; clear h6 m6 b6)
  obtain ⟨w7, hw7⟩ : ∃ w7, ((w6.setCell ⟨tb t, 1, none⟩ (.int .i64 ((x.at_ t : Int) + 1))).setCell ⟨tb t, 2, none⟩ (.bool false)).setCell ⟨tb t, 3, none⟩ (.bool false) = w7 := ⟨_, rfl⟩
  rw [hw7]
  have M7 : Aside0 (Waking B f w rb P { x with at_ := upd x.at_ t (x.at_ t + 1), bg := upd (upd x.bg t true) t false, waits := upd x.waits t false, events := x.events ++ [⟨x.steps, t, x.at_ t, false⟩] ++ [⟨x.steps, t, x.at_ t, true⟩] } (Value.slice (some ad) x.n ct) tb cv C nm (.slice none 0 0) [] 0 w7 ∧ w7.cell? ⟨bx, 2, none⟩ = some (.slice none 0 0)) := ⟨by
    obtain ⟨h6, m6⟩ := R6.out
    obtain ⟨h7, m7⟩ := h6.setAt t HT.out (x.at_ t + 1)
    obtain ⟨h8, m8⟩ := h7.setBg t HT.out false
    obtain ⟨h9, m9⟩ := h8.setWaits t HT.out false
    have mm := ((m6.trans m7).trans m8).trans m9
    have e : ((w6.setCell ⟨tb t, 1, none⟩ (.int .i64 ((x.at_ t + 1 : Nat) : Int))).setCell ⟨tb t, 2, none⟩ (.bool false)).setCell ⟨tb t, 3, none⟩ (.bool false) = w7 := hw7
    rw [e] at h9 mm
    refine ⟨⟨f6, ev6, ?_, M5.out.2.1.trans (mm.mono (fun i e => by rw [e]; exact h6.rP)), mm.row M5.out.2.2.2.2.2.1 (fun k hk _ e => by have := hk.1; have := hk.2; have := M5.out.2.2.2.2.2.2; omega) (fun k hk hl => ⟨hk.1, (mm.old k hl).trans hk.2⟩)⟩, blk_cell (mm.blk M5.out.2.2.1 NB.out.1) 2⟩
    rw [List.take_zero, woke_nil]
    exact h9⟩
  clear j0 j1 j2 a1 a2 a3 g1 g2 g3 hw7
  have j2 := M7.out.2
  have S0 := Aside0.mk M7.out.1
  obtain ⟨m4, hm4⟩ : ∃ m4 : M, { x with at_ := upd x.at_ t (x.at_ t + 1), bg := upd (upd x.bg t true) t false, waits := upd x.waits t false, events := x.events ++ [⟨x.steps, t, x.at_ t, false⟩] ++ [⟨x.steps, t, x.at_ t, true⟩] } = m4 := ⟨_, rfl⟩
  have HM4 := Aside0.mk hm4
  have HN4 : Aside0 (m4.n = x.n ∧ m4.steps = x.steps) := ⟨by rw [← hm4]; exact ⟨rfl, rfl⟩⟩
  rw [hm4] at S0
  have HRB := Aside0.mk M5.out.2.2.2.2.2.2
  clear hm4 M7 M5 R6 N5 NB M3 hne hne' H1 q78
  go_wp2
  go_loopw [71] (fun idx wr => idx = .int .i64 0 ∧ Aside0 (Waking B f w rb P m4 (.slice (some ad) x.n ct) tb cv C nm (.slice none 0 0) [] 0 wr)) (fun _ _ => 0)
  case atStart => exact ⟨rfl, S0⟩
  case round =>
    obtain ⟨rfl, SK⟩ := hrel
    have HE := Aside0.mk (show Waking B f w rb P m4 (.slice (some ad) x.n ct) tb cv C nm (.slice none 0 0) [] ([] : List Int).length wr from SK.out)
    obtain ⟨f', ev', h1, h2, h3⟩ := SK.out
    have r1 : wr.cell? ⟨rb, 1, none⟩ = some (.int .i64 m4.steps) := h1.r1
    have r1f := h1.rf 1
    rw [HN4.out.2] at r1
    clear h1 h2 h3
    go_wp2
    go_end0
    refine ⟨rfl, ?_⟩
    have EQ : x.stepWith t ⟨true, false, []⟩ x.tk = { m4 with waits := woke [] m4.waits, steps := wrap64 (x.steps + 1) } := by
      rw [← HM4.out]
      unfold M.stepWith
      simp [HBG.out, upd_upd, upd_self, upd_same]
    rw [EQ]
    exact HE.out.end_ _
set_option maxHeartbeats 8000000 in
set_option maxRecDepth 100000 in
theorem stepFDf {B : Nat} {f : Owner} {w : World} {rb : Nat} {P : Nat → Prop} {x : M} {tv ev : Value} {tb : Nat → Nat} {cv : Nat → Value} {C : Nat → List (Option Nat)} (h : RunG B f w rb P x tv ev tb cv C) (t : Nat) (ht : t < x.n) (hat : x.at_ t < x.len t) (hev : (x.events.length + 2) * 32 ≤ 140737488355328) (hl256 : x.len t ≤ 256) (hP : ∀ i, P i → i < w.heap.size) (hbg : x.bg t = false)
    {pb : Nat} (hc : (C t)[x.at_ t]? = some (some pb)) {turns : List S26} (hproc : x.proc t (x.at_ t) = some turns) (hs : turns.length * 32 ≤ 140737488355328) (hw : ∀ y ∈ turns, y.f2.length * 8 ≤ 140737488355328) (htl : ((x.tk t (x.at_ t)).length + 1) * 8 ≤ 140737488355328) {wk : List Int} (hd : pTurn turns (x.tk t (x.at_ t)).length = ⟨true, false, wk⟩) :
    Calls Try.prog 41 #[.pointer (some ⟨rb, 0, none⟩), .int .i64 (t : Int)] w (Quits (After B f w rb P (x.stepWith t ⟨true, false, wk⟩ (fun s c => if s = t ∧ c = x.at_ t then x.tk t (x.at_ t) ++ [(t : Int)] else x.tk s c)) tv tb cv C P)) := by
  have q78 := nesome78
  have hn16 := h.n16
  obtain ⟨At, ct, htv⟩ := Kd.R_slice h.trow
  rw [List.length_map, List.length_range] at htv
  subst htv
  obtain ⟨ad, ead, p0⟩ := h.tptr t ht
  subst ead
  obtain ⟨Ac, cc, hcv⟩ := h.cvs t ht
  have r0 := h.r0
  have a2 := h.t2 t ht
  have f2 := h.tf t ht 2
  rw [hbg] at a2
  have H := Aside0.mk h
  have HEV := Aside0.mk hev
  have HT := Aside0.mk ht
  have HPP := Aside0.mk hP
  have HCV := Aside0.mk hcv
  have HBG := Aside0.mk hbg
  have HAT := Aside0.mk hat
  have ix0 : decide ((t : Int) < (x.n : Int)) = true := decide_eq_true (by omega)
  have HP := Aside0.mk (And.intro hc (And.intro hproc (And.intro hs (And.intro hw (And.intro htl hd)))))
  clear hc hproc hs hw htl hd
  clear h hev hcv hbg hP
  have H1 := Aside0.mk (H.out.setBg t HT.out true)
  go_enter Try.func41, Try.ntmps41
  go_upto_region 4 with (go_at_call 50; refine (note_walk H1.out.1 t HT.out false (by have := HEV.out; show (x.events.length + 1) * 32 ≤ _; omega)).mono ?_; rintro e w1 ⟨rfl, hh⟩; have A1 := Aside0.mk hh; clear hh)
  obtain ⟨f1, ev1, h1, m1'⟩ := A1.out
  have m1 : Mv B (· = rb) f w f1 w1 := H1.out.2.trans m1'
  clear r0 a2 f2 p0
  go_upto_region 5 with (fail)
  obtain ⟨w2, hw2⟩ : ∃ w2, w1.alloc (.cells #[.bool true, .bool false, .slice none 0 0] 26) = w2 := ⟨_, rfl⟩
  obtain ⟨bx, hbx⟩ : ∃ bx, w1.heap.size = bx := ⟨_, rfl⟩
  rw [hw2, hbx]
  have b2 : w2.heap[bx]? = some (.cells #[.bool true, .bool false, .slice none 0 0] 26 (0, 0)) := by rw [← hw2, ← hbx]; exact blk_new _ _
  have BL : Below w1.heap.size w1 w2 := by rw [← hw2]; exact below_alloc (Below.refl _ _) _
  obtain ⟨f2, hf2⟩ : ∃ f2, owns f1 w1.heap.size bx = f2 := ⟨_, rfl⟩
  have fold : ∀ k, k < w1.heap.size → f2 k = f1 k := fun k hk => by rw [← hf2]; exact owns_old _ _ _ k hk
  have fbx : f2 bx = bx := by rw [← hf2]; exact owns_new _ _ _ _ (by omega)
  have mb : ∀ o : Nat → Prop, Mv B o f1 w1 f2 w2 := fun o => Mv.of_below BL (by have := blk_lt h1.rblk; have := h1.rbase; omega) fold
  have h2 := h1.mv (mb (fun _ => False)) (fun _ _ e => e)
  have M2 := Aside0.mk (And.intro h2 (And.intro (Mv.trans m1 (mb (· = rb))) (And.intro b2 (And.intro (show w.heap.size ≤ bx by rw [← hbx]; exact m1.below.size) fbx))))
  obtain ⟨hnl, ad2, ead2, pc⟩ := h2.proc_at t HT.out HCV.out (x.at_ t) HAT.out HP.out.1
  clear hnl
  subst ead2
  have k0 := h2.t0 t HT.out
  rw [HCV.out] at k0
  have k1 : w2.cell? ⟨tb t, 1, none⟩ = some (.int .i64 (x.at_ t : Int)) := h2.t1 t HT.out
  simp only [procV] at pc
  have ix1 : decide ((x.at_ t : Int) < (x.len t : Int)) = true := decide_eq_true (by omega)
  clear A1 h1 m1' m1 hw2 hbx b2 BL h2 mb fold fbx hf2
  refine start_ (n := 11) (S := fun w' => w'.cell? ⟨tb t, 0, none⟩ = some (.slice (some ad2) (x.len t) cc) ∧ w'.cell? ⟨tb t, 1, none⟩ = some (.int .i64 (x.at_ t : Int)) ∧ w'.cell? (ad2.add (x.at_ t)) = some (.iface 27 (.pointer (some ⟨pb, 0, none⟩)))) (ds := []) #[F,F,F,F,F,F,F,F,F,F,F] (by kernel_rfl) rfl rfl (⟨k0, k1, pc⟩) (fun hHeld => ?_)
  refine pure_ (i := 0) (N := some 28) (v := ?_) (a' := ?_) #[T,F,F,F,F,F,F,F,F,F,F] rfl rfl (by kernel_rfl) (fun _ _ _ h => h) (Or.inl ⟨by rfl, ?_⟩) ?_ ?_
  rotate_left
  · intro w'
    go_simp
    with_reducible rfl
  rotate_left
  · simp only [Act.put, sA, s0_, sS, i64_w, i32_w]
    rfl
  refine pure_ (i := 1) (N := some 29) (v := ?_) (a' := ?_) #[T,T,F,F,F,F,F,F,F,F,F] rfl rfl (by kernel_rfl) (fun _ _ _ h => h) (Or.inl ⟨by rfl, ?_⟩) ?_ ?_
  rotate_left
  · intro w'
    go_simp
    with_reducible rfl
  rotate_left
  · simp only [Act.put, sA, s0_, sS, i64_w, i32_w]
    rfl
  refine pure_ (i := 2) (N := some 30) (v := ?_) (a' := ?_) #[T,T,T,F,F,F,F,F,F,F,F] rfl rfl (by kernel_rfl) (fun _ _ _ h => h) (Or.inl ⟨by rfl, ?_⟩) ?_ ?_
  rotate_left
  · intro w'
    go_simp
    with_reducible rfl
  rotate_left
  · simp only [Act.put, sA, s0_, sS, i64_w, i32_w]
    rfl
  refine take_ (i := 3) (N := some 31) (v := ?_) (a' := ?_) #[T,T,T,T,F,F,F,F,F,F,F] rfl rfl (by kernel_rfl) (fun _ _ _ h => h) (Or.inl ⟨by rfl, ?_⟩) hHeld ?_ ?_
  rotate_left
  · intro w' s0
    obtain ⟨s1, s2, s3⟩ := s0
    go_simp
    with_reducible rfl
  rotate_left
  · simp only [Act.put, sA, s0_, sS, i64_w, i32_w]
    rfl
  refine pure_ (i := 4) (N := some 32) (v := ?_) (a' := ?_) #[T,T,T,T,T,F,F,F,F,F,F] rfl rfl (by kernel_rfl) (fun _ _ _ h => h) (Or.inl ⟨by rfl, ?_⟩) ?_ ?_
  rotate_left
  · intro w'
    go_simp
    with_reducible rfl
  rotate_left
  · simp only [Act.put, sA, s0_, sS, i64_w, i32_w]
    rfl
  refine pure_ (i := 5) (N := some 33) (v := ?_) (a' := ?_) #[T,T,T,T,T,T,F,F,F,F,F] rfl rfl (by kernel_rfl) (fun _ _ _ h => h) (Or.inl ⟨by rfl, ?_⟩) ?_ ?_
  rotate_left
  · intro w'
    go_simp
    with_reducible rfl
  rotate_left
  · simp only [Act.put, sA, s0_, sS, i64_w, i32_w]
    rfl
  refine pure_ (i := 6) (N := some 34) (v := ?_) (a' := ?_) #[T,T,T,T,T,T,T,F,F,F,F] rfl rfl (by kernel_rfl) (fun _ _ _ h => h) (Or.inl ⟨by rfl, ?_⟩) ?_ ?_
  rotate_left
  · intro w'
    go_simp
    with_reducible rfl
  rotate_left
  · simp only [Act.put, sA, s0_, sS, i64_w, i32_w]
    rfl
  refine take_ (i := 7) (N := some 35) (v := ?_) (a' := ?_) #[T,T,T,T,T,T,T,T,F,F,F] rfl rfl (by kernel_rfl) (fun _ _ _ h => h) (Or.inl ⟨by rfl, ?_⟩) hHeld ?_ ?_
  rotate_left
  · intro w' s0
    obtain ⟨s1, s2, s3⟩ := s0
    go_simp
    with_reducible rfl
  rotate_left
  · simp only [Act.put, sA, s0_, sS, i64_w, i32_w]
    rfl
  refine pure_ (i := 8) (N := some 36) (v := ?_) (a' := ?_) #[T,T,T,T,T,T,T,T,T,F,F] rfl rfl (by kernel_rfl) (fun _ _ _ h => h) (Or.inl ⟨by rfl, ?_⟩) ?_ ?_
  rotate_left
  · intro w'
    go_simp
    with_reducible rfl
  rotate_left
  · simp only [Act.put, sA, s0_, sS, i64_w, i32_w]
    rfl
  refine take_ (i := 9) (N := some 37) (v := ?_) (a' := ?_) #[T,T,T,T,T,T,T,T,T,T,F] rfl rfl (by kernel_rfl) (fun _ _ _ h => h) (Or.inl ⟨by rfl, ?_⟩) hHeld ?_ ?_
  rotate_left
  · intro w' s0
    obtain ⟨s1, s2, s3⟩ := s0
    go_simp
    with_reducible rfl
  rotate_left
  · simp only [Act.put, sA, s0_, sS, i64_w, i32_w]
    rfl
  refine pure_ (i := 10) (N := some 6) (v := ?_) (a' := ?_) #[T,T,T,T,T,T,T,T,T,T,T] rfl rfl (by kernel_rfl) (fun _ _ _ h => h) (Or.inl ⟨by rfl, ?_⟩) ?_ ?_
  rotate_left
  · intro w'
    go_simp
    with_reducible rfl
  rotate_left
  · simp only [Act.put, sA, s0_, sS, i64_w, i32_w]
    rfl
  refine done_ (by kernel_rfl) ?_
  go_upto_region 7 with (fail)
  clear k0 k1 pc ix1
  obtain ⟨w3, hw3⟩ : ∃ w3, w2.drew = w3 := ⟨_, rfl⟩
  rw [hw3]
  have M3 : Aside0 (RunG B f2 w3 rb P { x with bg := upd x.bg t true, events := x.events ++ [⟨x.steps, t, x.at_ t, false⟩] } (Value.slice (some ad) x.n ct) ev1 tb cv C ∧ Mv B (· = rb) f w f2 w3 ∧ w3.heap[bx]? = some (.cells #[.bool true, .bool false, .slice none 0 0] 26 (0, 0)) ∧ w.heap.size ≤ bx ∧ f2 bx = bx) := ⟨by
    rw [← hw3]
    obtain ⟨g1, g2, g3, g4⟩ := M2.out
    exact ⟨g1.below (below_drew (Below.refl _ _)), g2.drewN 1, g3, g4⟩⟩
  clear M2 hw3
  have M4 := Aside0.mk (show ∃ turns', x.proc t (x.at_ t) = some turns' ∧ PlayAt B f2 w3 pb turns' (x.tk t (x.at_ t)) from (M3.out.1.play t (x.at_ t) pb HT.out HP.out.1).2.2)
  have MC := Aside0.mk (show Calls Try.prog 11 #[.pointer (some ⟨pb, 0, none⟩), .int .i64 (t : Int)] w3 (Stepped B f2 w3 pb turns (x.tk t (x.at_ t) ++ [(t : Int)]) ⟨true, false, wk⟩) from by
    obtain ⟨q1, q2, q3, q4, q5, q6⟩ := HP.out
    obtain ⟨turns', e1, hp⟩ := M4.out
    rw [q2] at e1
    injection e1 with e1
    subst e1
    rw [← q6]
    exact step_any hp q3 q4 (t : Int) q5)
  have NBX : Aside0 (¬ f2 bx = pb) := ⟨by
    obtain ⟨turns', _, hp⟩ := M4.out
    obtain ⟨⟨_, _, hb, _⟩, _, _⟩ := hp
    rw [M3.out.2.2.2.2]
    exact blk_ne M3.out.2.2.1 hb (by decide)⟩
  have qm := method27
  go_upto_region 8 with (go_at_call 11; refine MC.out.mono ?_; rintro e w4 ⟨v, f4, rfl, hR, hp, hm⟩; obtain ⟨Av, cvv, hv⟩ := Kd.R_slice hR; subst hv; have R4 := Aside0.mk hR; have P4 := Aside0.mk hp; have V4 := Aside0.mk hm; have b4 := hm.blk M3.out.2.2.1 NBX.out; have B4 := Aside0.mk b4; have j0 := blk_cell b4 0; have j1 := blk_cell b4 1; have j2 := blk_cell b4 2; have l0 := blk_frozen b4 0; have l1 := blk_frozen b4 1; have l2 := blk_frozen b4 2; clear hR hp hm b4)
  obtain ⟨w5, hw5⟩ : ∃ w5, ((w4.setCell ⟨bx, 0, none⟩ (.bool true)).setCell ⟨bx, 1, none⟩ (.bool false)).setCell ⟨bx, 2, none⟩ (.slice Av wk.length cvv) = w5 := ⟨_, rfl⟩
  rw [hw5]
  obtain ⟨nm, hnm⟩ : ∃ nm, w3.heap.size = nm := ⟨_, rfl⟩
  have M5 : Aside0 (RunG B f4 w5 rb P { x with bg := upd x.bg t true, events := x.events ++ [⟨x.steps, t, x.at_ t, false⟩], tk := fun s c => if s = t ∧ c = x.at_ t then x.tk t (x.at_ t) ++ [(t : Int)] else x.tk s c } (Value.slice (some ad) x.n ct) ev1 tb cv C ∧ Mv B P f w f4 w5 ∧ w5.heap[bx]? = some (.cells #[.bool true, .bool false, .slice Av wk.length cvv] 26 (0, 0)) ∧ w.heap.size ≤ bx ∧ f4 bx = bx ∧ (Kd.int .i64).R 3 w5 nm (fun k => nm ≤ k ∧ f4 k = nm) (.slice Av wk.length cvv) wk ∧ rb < nm) := ⟨by
    obtain ⟨g1, g2, g3, g4, g5⟩ := M3.out
    obtain ⟨turns', e1, _⟩ := M4.out
    have e2 := HP.out.2.1
    rw [e2] at e1
    injection e1 with e1
    subst e1
    have hpb : P pb := (g1.play t (x.at_ t) pb HT.out HP.out.1).1
    have g6 := g1.stepped t (x.at_ t) pb HT.out HP.out.1 V4.out P4.out e2
    have hlt := blk_lt g3
    have f4bx : f4 bx = bx := (V4.out.old bx hlt).trans g5
    have hB : B ≤ bx := by have := g1.rbase; have := blk_lt H.out.rblk; omega
    have ms : Mv B (· = bx) f4 w4 f4 w5 := by rw [← hw5]; exact mv3 (Mv.refl _ _ _ _) hB f4bx _ _ _
    refine ⟨g6.mv ms (fun i hi e => ?_), ?_, ?_, g4, f4bx, ?_, ?_⟩
    · have := HPP.out i hi; omega
    · rw [← hw5]
      exact mv3' ((g2.mono (fun i e => by rw [e]; exact g1.rP)).trans (V4.out.mono (fun i e => by rw [e]; exact hpb))) hB g4 _ _ _
    · rw [← hw5]; exact put3 B4.out _ _ _
    · rw [← hw5, ← hnm]; exact far3 R4.out (fun k hk => by omega) _ _ _
    · rw [← hnm]; exact blk_lt g1.rblk⟩
  clear j0 j1 j2 l0 l1 l2 hw5
  have b5 := M5.out.2.2.1
  have j0 := blk_cell b5 0
  simp only [List.getElem?_toArray, List.getElem?_cons_zero, List.getElem?_cons_succ] at j0
  clear b5
  have NB : Aside0 (¬ f4 bx = rb ∧ ¬ tb t = bx) := ⟨by
    refine ⟨?_, blk_ne (M5.out.1.tblk t HT.out) M5.out.2.2.1 (by decide)⟩
    rw [M5.out.2.2.2.2.1]
    exact blk_ne M5.out.2.2.1 M5.out.1.rblk (by decide)⟩
  have hne := NB.out.2
  have hne' : ¬ bx = tb t := fun e => hne e.symm
  have N5 := Aside0.mk (note_walk M5.out.1 t HT.out true (by have := HEV.out; show ((x.events ++ [_]).length + 1) * 32 ≤ _; rw [List.length_append, List.length_singleton]; omega))
  go_upto_region 13 with (go_at_call 50; refine N5.out.mono ?_; rintro e w6 ⟨rfl, f6, ev6, h6, m6⟩; have R6 := Aside0.mk (And.intro h6 m6); have a1 : w6.cell? ⟨tb t, 1, none⟩ = some (.int .i64 (x.at_ t : Int)) := h6.t1 t HT.out; have a2 := h6.t2 t HT.out; have a3 := h6.t3 t HT.out; have g1 := h6.tf t HT.out 1; have g2 := h6.tf t HT.out 2; have g3 := h6.tf t HT.out 3; have b6 := m6.blk M5.out.2.2.1 NB.out.1; have j0 := blk_cell b6 0; have j1 := blk_cell b6 1; have j2 := blk_cell b6 2; simp only [List.getElem?_toArray, List.getElem?_cons_zero, List.getElem?_cons_succ] at j0 j1 j2; clear h6 m6 b6)
  obtain ⟨w7, hw7⟩ : ∃ w7, ((w6.setCell ⟨tb t, 1, none⟩ (.int .i64 ((x.at_ t : Int) + 1))).setCell ⟨tb t, 2, none⟩ (.bool false)).setCell ⟨tb t, 3, none⟩ (.bool false) = w7 := ⟨_, rfl⟩
  rw [hw7]
  have M7 : Aside0 (Waking B f w rb P { x with at_ := upd x.at_ t (x.at_ t + 1), bg := upd (upd x.bg t true) t false, waits := upd x.waits t false, events := x.events ++ [⟨x.steps, t, x.at_ t, false⟩] ++ [⟨x.steps, t, x.at_ t, true⟩], tk := fun s c => if s = t ∧ c = x.at_ t then x.tk t (x.at_ t) ++ [(t : Int)] else x.tk s c } (Value.slice (some ad) x.n ct) tb cv C nm (.slice Av wk.length cvv) wk 0 w7 ∧ w7.cell? ⟨bx, 2, none⟩ = some (.slice Av wk.length cvv)) := ⟨by
    obtain ⟨h6, m6⟩ := R6.out
    obtain ⟨h7, m7⟩ := h6.setAt t HT.out (x.at_ t + 1)
    obtain ⟨h8, m8⟩ := h7.setBg t HT.out false
    obtain ⟨h9, m9⟩ := h8.setWaits t HT.out false
    have mm := ((m6.trans m7).trans m8).trans m9
    have e : ((w6.setCell ⟨tb t, 1, none⟩ (.int .i64 ((x.at_ t + 1 : Nat) : Int))).setCell ⟨tb t, 2, none⟩ (.bool false)).setCell ⟨tb t, 3, none⟩ (.bool false) = w7 := hw7
    rw [e] at h9 mm
    refine ⟨⟨f6, ev6, ?_, M5.out.2.1.trans (mm.mono (fun i e => by rw [e]; exact h6.rP)), mm.row M5.out.2.2.2.2.2.1 (fun k hk _ e => by have := hk.1; have := hk.2; have := M5.out.2.2.2.2.2.2; omega) (fun k hk hl => ⟨hk.1, (mm.old k hl).trans hk.2⟩)⟩, blk_cell (mm.blk M5.out.2.2.1 NB.out.1) 2⟩
    rw [List.take_zero, woke_nil]
    exact h9⟩
  clear j0 j1 j2 a1 a2 a3 g1 g2 g3 hw7
  have j2 := M7.out.2
  have S0 := Aside0.mk M7.out.1
  obtain ⟨lw, hlw⟩ : ∃ lw, wk.length = lw := ⟨_, rfl⟩
  have HLW := Aside0.mk hlw
  rw [hlw] at j2
  clear hlw
  obtain ⟨m4, hm4⟩ : ∃ m4 : M, { x with at_ := upd x.at_ t (x.at_ t + 1), bg := upd (upd x.bg t true) t false, waits := upd x.waits t false, events := x.events ++ [⟨x.steps, t, x.at_ t, false⟩] ++ [⟨x.steps, t, x.at_ t, true⟩], tk := fun s c => if s = t ∧ c = x.at_ t then x.tk t (x.at_ t) ++ [(t : Int)] else x.tk s c } = m4 := ⟨_, rfl⟩
  have HM4 := Aside0.mk hm4
  have HN4 : Aside0 (m4.n = x.n ∧ m4.steps = x.steps) := ⟨by rw [← hm4]; exact ⟨rfl, rfl⟩⟩
  rw [hm4, HLW.out] at S0
  have HRB := Aside0.mk M5.out.2.2.2.2.2.2
  have hlw63 : lw ≤ 9223372036854775807 := by obtain ⟨_, _, _, _, h3⟩ := S0.out; exact (R_C h3).1.2.1
  clear hm4 M7 M5 M4 R6 N5 NB R4 P4 V4 B4 MC NBX M3 hne hne' H1 q78 qm
  go_wp2
  go_loopw [71] (fun idx wr => ∃ k : Nat, k ≤ lw ∧ idx = .int .i64 (k : Int) ∧ Aside0 (Waking B f w rb P m4 (.slice (some ad) x.n ct) tb cv C nm (.slice Av lw cvv) wk k wr)) (fun idx _ => lw - (intOf idx).toNat)
  case atStart => exact ⟨0, Nat.zero_le _, rfl, S0⟩
  case round =>
    obtain ⟨k, hk, rfl, SK⟩ := hrel
    by_cases hlt : k < lw
    · obtain ⟨f', ev', h1, h2, h3⟩ := SK.out
      obtain ⟨adw, eadw, cz⟩ := (Kd.reads_of_C (d := 0) (R_C h3).1).at_ (k : Int) (by omega) (by omega)
      simp only [Int.toNat_natCast, rdOf] at cz
      have r0 := h1.r0
      have hkl : k < wk.length := by rw [HLW.out]; exact hlt
      have HKL := Aside0.mk hkl
      obtain ⟨z, hz⟩ : ∃ z, wk.getD k 0 = z := ⟨_, rfl⟩
      have HZ := Aside0.mk hz
      rw [hz] at cz
      subst eadw
      by_cases hz0 : 0 ≤ z
      · obtain ⟨u, rfl⟩ : ∃ u : Nat, z = (u : Int) := ⟨z.toNat, by omega⟩
        by_cases hun : u < x.n
        · have hun4 : u < m4.n := by rw [HN4.out.1]; exact hun
          obtain ⟨ad', ead', cp⟩ := h1.tptr u hun4
          injection ead' with ead'
          subst ead'
          have c3 := h1.t3 u hun4
          have c4 := h1.tf u hun4 3
          have SK1 := Aside0.mk (SK.out.in_ hkl u hun4 hz HRB.out)
          have i1 : decide ((u : Int) < (x.n : Int)) = true := decide_eq_true (by omega)
          clear h1 h2 h3 hkl hz hun4
          go_wp2
          go_roundw
          case rel => exact ⟨k + 1, by omega, by go_num, SK1⟩
          case measure => simp [intOf]; omega
        · have SK1 := Aside0.mk (SK.out.out hkl (fun s hs e => by rw [hz] at e; have := HN4.out.1; omega))
          have i1 : decide ((u : Int) < (x.n : Int)) = false := decide_eq_false (by omega)
          clear h1 h2 h3 hkl hz
          go_wp2
          go_roundw
          case rel => exact ⟨k + 1, by omega, by go_num, SK1⟩
          case measure => simp [intOf]; omega
      · have SK1 := Aside0.mk (SK.out.out hkl (fun s hs e => by rw [hz] at e; omega))
        have i1 : decide (0 ≤ z) = false := decide_eq_false hz0
        clear h1 h2 h3 hkl hz
        go_wp2
        go_roundw
        case rel => exact ⟨k + 1, by omega, by go_num, SK1⟩
        case measure => simp [intOf]; omega
    · have hkl : k = lw := by omega
      subst hkl
      have HE := Aside0.mk (show Waking B f w rb P m4 (.slice (some ad) x.n ct) tb cv C nm (.slice Av k cvv) wk wk.length wr by rw [HLW.out]; exact SK.out)
      obtain ⟨f', ev', h1, h2, h3⟩ := SK.out
      have r1 : wr.cell? ⟨rb, 1, none⟩ = some (.int .i64 m4.steps) := h1.r1
      have r1f := h1.rf 1
      rw [HN4.out.2] at r1
      clear h1 h2 h3
      go_wp2
      go_end0
      refine ⟨rfl, ?_⟩
      have EQ : x.stepWith t ⟨true, false, wk⟩ (fun s c => if s = t ∧ c = x.at_ t then x.tk t (x.at_ t) ++ [(t : Int)] else x.tk s c) = { m4 with waits := woke wk m4.waits, steps := wrap64 (x.steps + 1) } := by
        rw [← HM4.out]
        unfold M.stepWith
        simp [HBG.out, upd_upd, upd_self, upd_same]
      rw [EQ]
      exact HE.out.end_ _
set_option maxHeartbeats 8000000 in
set_option maxRecDepth 100000 in
theorem stepFDt {B : Nat} {f : Owner} {w : World} {rb : Nat} {P : Nat → Prop} {x : M} {tv ev : Value} {tb : Nat → Nat} {cv : Nat → Value} {C : Nat → List (Option Nat)} (h : RunG B f w rb P x tv ev tb cv C) (t : Nat) (ht : t < x.n) (hat : x.at_ t < x.len t) (hev : (x.events.length + 2) * 32 ≤ 140737488355328) (hl256 : x.len t ≤ 256) (hP : ∀ i, P i → i < w.heap.size) (hbg : x.bg t = false)
    {pb : Nat} (hc : (C t)[x.at_ t]? = some (some pb)) {turns : List S26} (hproc : x.proc t (x.at_ t) = some turns) (hs : turns.length * 32 ≤ 140737488355328) (hw : ∀ y ∈ turns, y.f2.length * 8 ≤ 140737488355328) (htl : ((x.tk t (x.at_ t)).length + 1) * 8 ≤ 140737488355328) {wk : List Int} (hd : pTurn turns (x.tk t (x.at_ t)).length = ⟨true, true, wk⟩) :
    Calls Try.prog 41 #[.pointer (some ⟨rb, 0, none⟩), .int .i64 (t : Int)] w (Quits (After B f w rb P (x.stepWith t ⟨true, true, wk⟩ (fun s c => if s = t ∧ c = x.at_ t then x.tk t (x.at_ t) ++ [(t : Int)] else x.tk s c)) tv tb cv C P)) := by
  have q78 := nesome78
  have hn16 := h.n16
  obtain ⟨At, ct, htv⟩ := Kd.R_slice h.trow
  rw [List.length_map, List.length_range] at htv
  subst htv
  obtain ⟨ad, ead, p0⟩ := h.tptr t ht
  subst ead
  obtain ⟨Ac, cc, hcv⟩ := h.cvs t ht
  have r0 := h.r0
  have a2 := h.t2 t ht
  have f2 := h.tf t ht 2
  rw [hbg] at a2
  have H := Aside0.mk h
  have HEV := Aside0.mk hev
  have HT := Aside0.mk ht
  have HPP := Aside0.mk hP
  have HCV := Aside0.mk hcv
  have HBG := Aside0.mk hbg
  have HAT := Aside0.mk hat
  have ix0 : decide ((t : Int) < (x.n : Int)) = true := decide_eq_true (by omega)
  have HP := Aside0.mk (And.intro hc (And.intro hproc (And.intro hs (And.intro hw (And.intro htl hd)))))
  clear hc hproc hs hw htl hd
  clear h hev hcv hbg hP
  have H1 := Aside0.mk (H.out.setBg t HT.out true)
  go_enter Try.func41, Try.ntmps41
  go_upto_region 4 with (go_at_call 50; refine (note_walk H1.out.1 t HT.out false (by have := HEV.out; show (x.events.length + 1) * 32 ≤ _; omega)).mono ?_; rintro e w1 ⟨rfl, hh⟩; have A1 := Aside0.mk hh; clear hh)
  obtain ⟨f1, ev1, h1, m1'⟩ := A1.out
  have m1 : Mv B (· = rb) f w f1 w1 := H1.out.2.trans m1'
  clear r0 a2 f2 p0
  go_upto_region 5 with (fail)
  obtain ⟨w2, hw2⟩ : ∃ w2, w1.alloc (.cells #[.bool true, .bool false, .slice none 0 0] 26) = w2 := ⟨_, rfl⟩
  obtain ⟨bx, hbx⟩ : ∃ bx, w1.heap.size = bx := ⟨_, rfl⟩
  rw [hw2, hbx]
  have b2 : w2.heap[bx]? = some (.cells #[.bool true, .bool false, .slice none 0 0] 26 (0, 0)) := by rw [← hw2, ← hbx]; exact blk_new _ _
  have BL : Below w1.heap.size w1 w2 := by rw [← hw2]; exact below_alloc (Below.refl _ _) _
  obtain ⟨f2, hf2⟩ : ∃ f2, owns f1 w1.heap.size bx = f2 := ⟨_, rfl⟩
  have fold : ∀ k, k < w1.heap.size → f2 k = f1 k := fun k hk => by rw [← hf2]; exact owns_old _ _ _ k hk
  have fbx : f2 bx = bx := by rw [← hf2]; exact owns_new _ _ _ _ (by omega)
  have mb : ∀ o : Nat → Prop, Mv B o f1 w1 f2 w2 := fun o => Mv.of_below BL (by have := blk_lt h1.rblk; have := h1.rbase; omega) fold
  have h2 := h1.mv (mb (fun _ => False)) (fun _ _ e => e)
  have M2 := Aside0.mk (And.intro h2 (And.intro (Mv.trans m1 (mb (· = rb))) (And.intro b2 (And.intro (show w.heap.size ≤ bx by rw [← hbx]; exact m1.below.size) fbx))))
  obtain ⟨hnl, ad2, ead2, pc⟩ := h2.proc_at t HT.out HCV.out (x.at_ t) HAT.out HP.out.1
  clear hnl
  subst ead2
  have k0 := h2.t0 t HT.out
  rw [HCV.out] at k0
  have k1 : w2.cell? ⟨tb t, 1, none⟩ = some (.int .i64 (x.at_ t : Int)) := h2.t1 t HT.out
  simp only [procV] at pc
  have ix1 : decide ((x.at_ t : Int) < (x.len t : Int)) = true := decide_eq_true (by omega)
  clear A1 h1 m1' m1 hw2 hbx b2 BL h2 mb fold fbx hf2
  refine start_ (n := 11) (S := fun w' => w'.cell? ⟨tb t, 0, none⟩ = some (.slice (some ad2) (x.len t) cc) ∧ w'.cell? ⟨tb t, 1, none⟩ = some (.int .i64 (x.at_ t : Int)) ∧ w'.cell? (ad2.add (x.at_ t)) = some (.iface 27 (.pointer (some ⟨pb, 0, none⟩)))) (ds := []) #[F,F,F,F,F,F,F,F,F,F,F] (by kernel_rfl) rfl rfl (⟨k0, k1, pc⟩) (fun hHeld => ?_)
  refine pure_ (i := 0) (N := some 28) (v := ?_) (a' := ?_) #[T,F,F,F,F,F,F,F,F,F,F] rfl rfl (by kernel_rfl) (fun _ _ _ h => h) (Or.inl ⟨by rfl, ?_⟩) ?_ ?_
  rotate_left
  · intro w'
    go_simp
    with_reducible rfl
  rotate_left
  · simp only [Act.put, sA, s0_, sS, i64_w, i32_w]
    rfl
  refine pure_ (i := 1) (N := some 29) (v := ?_) (a' := ?_) #[T,T,F,F,F,F,F,F,F,F,F] rfl rfl (by kernel_rfl) (fun _ _ _ h => h) (Or.inl ⟨by rfl, ?_⟩) ?_ ?_
  rotate_left
  · intro w'
    go_simp
    with_reducible rfl
  rotate_left
  · simp only [Act.put, sA, s0_, sS, i64_w, i32_w]
    rfl
  refine pure_ (i := 2) (N := some 30) (v := ?_) (a' := ?_) #[T,T,T,F,F,F,F,F,F,F,F] rfl rfl (by kernel_rfl) (fun _ _ _ h => h) (Or.inl ⟨by rfl, ?_⟩) ?_ ?_
  rotate_left
  · intro w'
    go_simp
    with_reducible rfl
  rotate_left
  · simp only [Act.put, sA, s0_, sS, i64_w, i32_w]
    rfl
  refine take_ (i := 3) (N := some 31) (v := ?_) (a' := ?_) #[T,T,T,T,F,F,F,F,F,F,F] rfl rfl (by kernel_rfl) (fun _ _ _ h => h) (Or.inl ⟨by rfl, ?_⟩) hHeld ?_ ?_
  rotate_left
  · intro w' s0
    obtain ⟨s1, s2, s3⟩ := s0
    go_simp
    with_reducible rfl
  rotate_left
  · simp only [Act.put, sA, s0_, sS, i64_w, i32_w]
    rfl
  refine pure_ (i := 4) (N := some 32) (v := ?_) (a' := ?_) #[T,T,T,T,T,F,F,F,F,F,F] rfl rfl (by kernel_rfl) (fun _ _ _ h => h) (Or.inl ⟨by rfl, ?_⟩) ?_ ?_
  rotate_left
  · intro w'
    go_simp
    with_reducible rfl
  rotate_left
  · simp only [Act.put, sA, s0_, sS, i64_w, i32_w]
    rfl
  refine pure_ (i := 5) (N := some 33) (v := ?_) (a' := ?_) #[T,T,T,T,T,T,F,F,F,F,F] rfl rfl (by kernel_rfl) (fun _ _ _ h => h) (Or.inl ⟨by rfl, ?_⟩) ?_ ?_
  rotate_left
  · intro w'
    go_simp
    with_reducible rfl
  rotate_left
  · simp only [Act.put, sA, s0_, sS, i64_w, i32_w]
    rfl
  refine pure_ (i := 6) (N := some 34) (v := ?_) (a' := ?_) #[T,T,T,T,T,T,T,F,F,F,F] rfl rfl (by kernel_rfl) (fun _ _ _ h => h) (Or.inl ⟨by rfl, ?_⟩) ?_ ?_
  rotate_left
  · intro w'
    go_simp
    with_reducible rfl
  rotate_left
  · simp only [Act.put, sA, s0_, sS, i64_w, i32_w]
    rfl
  refine take_ (i := 7) (N := some 35) (v := ?_) (a' := ?_) #[T,T,T,T,T,T,T,T,F,F,F] rfl rfl (by kernel_rfl) (fun _ _ _ h => h) (Or.inl ⟨by rfl, ?_⟩) hHeld ?_ ?_
  rotate_left
  · intro w' s0
    obtain ⟨s1, s2, s3⟩ := s0
    go_simp
    with_reducible rfl
  rotate_left
  · simp only [Act.put, sA, s0_, sS, i64_w, i32_w]
    rfl
  refine pure_ (i := 8) (N := some 36) (v := ?_) (a' := ?_) #[T,T,T,T,T,T,T,T,T,F,F] rfl rfl (by kernel_rfl) (fun _ _ _ h => h) (Or.inl ⟨by rfl, ?_⟩) ?_ ?_
  rotate_left
  · intro w'
    go_simp
    with_reducible rfl
  rotate_left
  · simp only [Act.put, sA, s0_, sS, i64_w, i32_w]
    rfl
  refine take_ (i := 9) (N := some 37) (v := ?_) (a' := ?_) #[T,T,T,T,T,T,T,T,T,T,F] rfl rfl (by kernel_rfl) (fun _ _ _ h => h) (Or.inl ⟨by rfl, ?_⟩) hHeld ?_ ?_
  rotate_left
  · intro w' s0
    obtain ⟨s1, s2, s3⟩ := s0
    go_simp
    with_reducible rfl
  rotate_left
  · simp only [Act.put, sA, s0_, sS, i64_w, i32_w]
    rfl
  refine pure_ (i := 10) (N := some 6) (v := ?_) (a' := ?_) #[T,T,T,T,T,T,T,T,T,T,T] rfl rfl (by kernel_rfl) (fun _ _ _ h => h) (Or.inl ⟨by rfl, ?_⟩) ?_ ?_
  rotate_left
  · intro w'
    go_simp
    with_reducible rfl
  rotate_left
  · simp only [Act.put, sA, s0_, sS, i64_w, i32_w]
    rfl
  refine done_ (by kernel_rfl) ?_
  go_upto_region 7 with (fail)
  clear k0 k1 pc ix1
  obtain ⟨w3, hw3⟩ : ∃ w3, w2.drew = w3 := ⟨_, rfl⟩
  rw [hw3]
  have M3 : Aside0 (RunG B f2 w3 rb P { x with bg := upd x.bg t true, events := x.events ++ [⟨x.steps, t, x.at_ t, false⟩] } (Value.slice (some ad) x.n ct) ev1 tb cv C ∧ Mv B (· = rb) f w f2 w3 ∧ w3.heap[bx]? = some (.cells #[.bool true, .bool false, .slice none 0 0] 26 (0, 0)) ∧ w.heap.size ≤ bx ∧ f2 bx = bx) := ⟨by
    rw [← hw3]
    obtain ⟨g1, g2, g3, g4⟩ := M2.out
    exact ⟨g1.below (below_drew (Below.refl _ _)), g2.drewN 1, g3, g4⟩⟩
  clear M2 hw3
  have M4 := Aside0.mk (show ∃ turns', x.proc t (x.at_ t) = some turns' ∧ PlayAt B f2 w3 pb turns' (x.tk t (x.at_ t)) from (M3.out.1.play t (x.at_ t) pb HT.out HP.out.1).2.2)
  have MC := Aside0.mk (show Calls Try.prog 11 #[.pointer (some ⟨pb, 0, none⟩), .int .i64 (t : Int)] w3 (Stepped B f2 w3 pb turns (x.tk t (x.at_ t) ++ [(t : Int)]) ⟨true, true, wk⟩) from by
    obtain ⟨q1, q2, q3, q4, q5, q6⟩ := HP.out
    obtain ⟨turns', e1, hp⟩ := M4.out
    rw [q2] at e1
    injection e1 with e1
    subst e1
    rw [← q6]
    exact step_any hp q3 q4 (t : Int) q5)
  have NBX : Aside0 (¬ f2 bx = pb) := ⟨by
    obtain ⟨turns', _, hp⟩ := M4.out
    obtain ⟨⟨_, _, hb, _⟩, _, _⟩ := hp
    rw [M3.out.2.2.2.2]
    exact blk_ne M3.out.2.2.1 hb (by decide)⟩
  have qm := method27
  go_upto_region 8 with (go_at_call 11; refine MC.out.mono ?_; rintro e w4 ⟨v, f4, rfl, hR, hp, hm⟩; obtain ⟨Av, cvv, hv⟩ := Kd.R_slice hR; subst hv; have R4 := Aside0.mk hR; have P4 := Aside0.mk hp; have V4 := Aside0.mk hm; have b4 := hm.blk M3.out.2.2.1 NBX.out; have B4 := Aside0.mk b4; have j0 := blk_cell b4 0; have j1 := blk_cell b4 1; have j2 := blk_cell b4 2; have l0 := blk_frozen b4 0; have l1 := blk_frozen b4 1; have l2 := blk_frozen b4 2; clear hR hp hm b4)
  obtain ⟨w5, hw5⟩ : ∃ w5, ((w4.setCell ⟨bx, 0, none⟩ (.bool true)).setCell ⟨bx, 1, none⟩ (.bool true)).setCell ⟨bx, 2, none⟩ (.slice Av wk.length cvv) = w5 := ⟨_, rfl⟩
  rw [hw5]
  obtain ⟨nm, hnm⟩ : ∃ nm, w3.heap.size = nm := ⟨_, rfl⟩
  have M5 : Aside0 (RunG B f4 w5 rb P { x with bg := upd x.bg t true, events := x.events ++ [⟨x.steps, t, x.at_ t, false⟩], tk := fun s c => if s = t ∧ c = x.at_ t then x.tk t (x.at_ t) ++ [(t : Int)] else x.tk s c } (Value.slice (some ad) x.n ct) ev1 tb cv C ∧ Mv B P f w f4 w5 ∧ w5.heap[bx]? = some (.cells #[.bool true, .bool true, .slice Av wk.length cvv] 26 (0, 0)) ∧ w.heap.size ≤ bx ∧ f4 bx = bx ∧ (Kd.int .i64).R 3 w5 nm (fun k => nm ≤ k ∧ f4 k = nm) (.slice Av wk.length cvv) wk ∧ rb < nm) := ⟨by
    obtain ⟨g1, g2, g3, g4, g5⟩ := M3.out
    obtain ⟨turns', e1, _⟩ := M4.out
    have e2 := HP.out.2.1
    rw [e2] at e1
    injection e1 with e1
    subst e1
    have hpb : P pb := (g1.play t (x.at_ t) pb HT.out HP.out.1).1
    have g6 := g1.stepped t (x.at_ t) pb HT.out HP.out.1 V4.out P4.out e2
    have hlt := blk_lt g3
    have f4bx : f4 bx = bx := (V4.out.old bx hlt).trans g5
    have hB : B ≤ bx := by have := g1.rbase; have := blk_lt H.out.rblk; omega
    have ms : Mv B (· = bx) f4 w4 f4 w5 := by rw [← hw5]; exact mv3 (Mv.refl _ _ _ _) hB f4bx _ _ _
    refine ⟨g6.mv ms (fun i hi e => ?_), ?_, ?_, g4, f4bx, ?_, ?_⟩
    · have := HPP.out i hi; omega
    · rw [← hw5]
      exact mv3' ((g2.mono (fun i e => by rw [e]; exact g1.rP)).trans (V4.out.mono (fun i e => by rw [e]; exact hpb))) hB g4 _ _ _
    · rw [← hw5]; exact put3 B4.out _ _ _
    · rw [← hw5, ← hnm]; exact far3 R4.out (fun k hk => by omega) _ _ _
    · rw [← hnm]; exact blk_lt g1.rblk⟩
  clear j0 j1 j2 l0 l1 l2 hw5
  have b5 := M5.out.2.2.1
  have j0 := blk_cell b5 0
  simp only [List.getElem?_toArray, List.getElem?_cons_zero, List.getElem?_cons_succ] at j0
  clear b5
  have NB : Aside0 (¬ f4 bx = rb ∧ ¬ tb t = bx) := ⟨by
    refine ⟨?_, blk_ne (M5.out.1.tblk t HT.out) M5.out.2.2.1 (by decide)⟩
    rw [M5.out.2.2.2.2.1]
    exact blk_ne M5.out.2.2.1 M5.out.1.rblk (by decide)⟩
  have hne := NB.out.2
  have hne' : ¬ bx = tb t := fun e => hne e.symm
  have N5 := Aside0.mk (note_walk M5.out.1 t HT.out true (by have := HEV.out; show ((x.events ++ [_]).length + 1) * 32 ≤ _; rw [List.length_append, List.length_singleton]; omega))
  go_upto_region 13 with (go_at_call 50; refine N5.out.mono ?_; rintro e w6 ⟨rfl, f6, ev6, h6, m6⟩; have R6 := Aside0.mk (And.intro h6 m6); have a1 : w6.cell? ⟨tb t, 1, none⟩ = some (.int .i64 (x.at_ t : Int)) := h6.t1 t HT.out; have a2 := h6.t2 t HT.out; have a3 := h6.t3 t HT.out; have g1 := h6.tf t HT.out 1; have g2 := h6.tf t HT.out 2; have g3 := h6.tf t HT.out 3; have b6 := m6.blk M5.out.2.2.1 NB.out.1; have j0 := blk_cell b6 0; have j1 := blk_cell b6 1; have j2 := blk_cell b6 2; simp only [List.getElem?_toArray, List.getElem?_cons_zero, List.getElem?_cons_succ] at j0 j1 j2; clear h6 m6 b6)
  obtain ⟨w7, hw7⟩ : ∃ w7, ((w6.setCell ⟨tb t, 1, none⟩ (.int .i64 ((x.at_ t : Int) + 1))).setCell ⟨tb t, 2, none⟩ (.bool false)).setCell ⟨tb t, 3, none⟩ (.bool false) = w7 := ⟨_, rfl⟩
  rw [hw7]
  have M7 : Aside0 (Waking B f w rb P { x with at_ := upd x.at_ t (x.at_ t + 1), bg := upd (upd x.bg t true) t false, waits := upd x.waits t false, events := x.events ++ [⟨x.steps, t, x.at_ t, false⟩] ++ [⟨x.steps, t, x.at_ t, true⟩], tk := fun s c => if s = t ∧ c = x.at_ t then x.tk t (x.at_ t) ++ [(t : Int)] else x.tk s c } (Value.slice (some ad) x.n ct) tb cv C nm (.slice Av wk.length cvv) wk 0 w7 ∧ w7.cell? ⟨bx, 2, none⟩ = some (.slice Av wk.length cvv)) := ⟨by
    obtain ⟨h6, m6⟩ := R6.out
    obtain ⟨h7, m7⟩ := h6.setAt t HT.out (x.at_ t + 1)
    obtain ⟨h8, m8⟩ := h7.setBg t HT.out false
    obtain ⟨h9, m9⟩ := h8.setWaits t HT.out false
    have mm := ((m6.trans m7).trans m8).trans m9
    have e : ((w6.setCell ⟨tb t, 1, none⟩ (.int .i64 ((x.at_ t + 1 : Nat) : Int))).setCell ⟨tb t, 2, none⟩ (.bool false)).setCell ⟨tb t, 3, none⟩ (.bool false) = w7 := hw7
    rw [e] at h9 mm
    refine ⟨⟨f6, ev6, ?_, M5.out.2.1.trans (mm.mono (fun i e => by rw [e]; exact h6.rP)), mm.row M5.out.2.2.2.2.2.1 (fun k hk _ e => by have := hk.1; have := hk.2; have := M5.out.2.2.2.2.2.2; omega) (fun k hk hl => ⟨hk.1, (mm.old k hl).trans hk.2⟩)⟩, blk_cell (mm.blk M5.out.2.2.1 NB.out.1) 2⟩
    rw [List.take_zero, woke_nil]
    exact h9⟩
  clear j0 j1 j2 a1 a2 a3 g1 g2 g3 hw7
  have j2 := M7.out.2
  have S0 := Aside0.mk M7.out.1
  obtain ⟨lw, hlw⟩ : ∃ lw, wk.length = lw := ⟨_, rfl⟩
  have HLW := Aside0.mk hlw
  rw [hlw] at j2
  clear hlw
  obtain ⟨m4, hm4⟩ : ∃ m4 : M, { x with at_ := upd x.at_ t (x.at_ t + 1), bg := upd (upd x.bg t true) t false, waits := upd x.waits t false, events := x.events ++ [⟨x.steps, t, x.at_ t, false⟩] ++ [⟨x.steps, t, x.at_ t, true⟩], tk := fun s c => if s = t ∧ c = x.at_ t then x.tk t (x.at_ t) ++ [(t : Int)] else x.tk s c } = m4 := ⟨_, rfl⟩
  have HM4 := Aside0.mk hm4
  have HN4 : Aside0 (m4.n = x.n ∧ m4.steps = x.steps) := ⟨by rw [← hm4]; exact ⟨rfl, rfl⟩⟩
  rw [hm4, HLW.out] at S0
  have HRB := Aside0.mk M5.out.2.2.2.2.2.2
  have hlw63 : lw ≤ 9223372036854775807 := by obtain ⟨_, _, _, _, h3⟩ := S0.out; exact (R_C h3).1.2.1
  clear hm4 M7 M5 M4 R6 N5 NB R4 P4 V4 B4 MC NBX M3 hne hne' H1 q78 qm
  go_wp2
  go_loopw [71] (fun idx wr => ∃ k : Nat, k ≤ lw ∧ idx = .int .i64 (k : Int) ∧ Aside0 (Waking B f w rb P m4 (.slice (some ad) x.n ct) tb cv C nm (.slice Av lw cvv) wk k wr)) (fun idx _ => lw - (intOf idx).toNat)
  case atStart => exact ⟨0, Nat.zero_le _, rfl, S0⟩
  case round =>
    obtain ⟨k, hk, rfl, SK⟩ := hrel
    by_cases hlt : k < lw
    · obtain ⟨f', ev', h1, h2, h3⟩ := SK.out
      obtain ⟨adw, eadw, cz⟩ := (Kd.reads_of_C (d := 0) (R_C h3).1).at_ (k : Int) (by omega) (by omega)
      simp only [Int.toNat_natCast, rdOf] at cz
      have r0 := h1.r0
      have hkl : k < wk.length := by rw [HLW.out]; exact hlt
      have HKL := Aside0.mk hkl
      obtain ⟨z, hz⟩ : ∃ z, wk.getD k 0 = z := ⟨_, rfl⟩
      have HZ := Aside0.mk hz
      rw [hz] at cz
      subst eadw
      by_cases hz0 : 0 ≤ z
      · obtain ⟨u, rfl⟩ : ∃ u : Nat, z = (u : Int) := ⟨z.toNat, by omega⟩
        by_cases hun : u < x.n
        · have hun4 : u < m4.n := by rw [HN4.out.1]; exact hun
          obtain ⟨ad', ead', cp⟩ := h1.tptr u hun4
          injection ead' with ead'
          subst ead'
          have c3 := h1.t3 u hun4
          have c4 := h1.tf u hun4 3
          have SK1 := Aside0.mk (SK.out.in_ hkl u hun4 hz HRB.out)
          have i1 : decide ((u : Int) < (x.n : Int)) = true := decide_eq_true (by omega)
          clear h1 h2 h3 hkl hz hun4
          go_wp2
          go_roundw
          case rel => exact ⟨k + 1, by omega, by go_num, SK1⟩
          case measure => simp [intOf]; omega
        · have SK1 := Aside0.mk (SK.out.out hkl (fun s hs e => by rw [hz] at e; have := HN4.out.1; omega))
          have i1 : decide ((u : Int) < (x.n : Int)) = false := decide_eq_false (by omega)
          clear h1 h2 h3 hkl hz
          go_wp2
          go_roundw
          case rel => exact ⟨k + 1, by omega, by go_num, SK1⟩
          case measure => simp [intOf]; omega
      · have SK1 := Aside0.mk (SK.out.out hkl (fun s hs e => by rw [hz] at e; omega))
        have i1 : decide (0 ≤ z) = false := decide_eq_false hz0
        clear h1 h2 h3 hkl hz
        go_wp2
        go_roundw
        case rel => exact ⟨k + 1, by omega, by go_num, SK1⟩
        case measure => simp [intOf]; omega
    · have hkl : k = lw := by omega
      subst hkl
      have HE := Aside0.mk (show Waking B f w rb P m4 (.slice (some ad) x.n ct) tb cv C nm (.slice Av k cvv) wk wk.length wr by rw [HLW.out]; exact SK.out)
      obtain ⟨f', ev', h1, h2, h3⟩ := SK.out
      have r1 : wr.cell? ⟨rb, 1, none⟩ = some (.int .i64 m4.steps) := h1.r1
      have r1f := h1.rf 1
      rw [HN4.out.2] at r1
      clear h1 h2 h3
      go_wp2
      go_end0
      refine ⟨rfl, ?_⟩
      have EQ : x.stepWith t ⟨true, true, wk⟩ (fun s c => if s = t ∧ c = x.at_ t then x.tk t (x.at_ t) ++ [(t : Int)] else x.tk s c) = { m4 with waits := woke wk m4.waits, steps := wrap64 (x.steps + 1) } := by
        rw [← HM4.out]
        unfold M.stepWith
        simp [HBG.out, upd_upd, upd_self, upd_same]
      rw [EQ]
      exact HE.out.end_ _
set_option maxHeartbeats 8000000 in
set_option maxRecDepth 100000 in
theorem stepFOf {B : Nat} {f : Owner} {w : World} {rb : Nat} {P : Nat → Prop} {x : M} {tv ev : Value} {tb : Nat → Nat} {cv : Nat → Value} {C : Nat → List (Option Nat)} (h : RunG B f w rb P x tv ev tb cv C) (t : Nat) (ht : t < x.n) (hat : x.at_ t < x.len t) (hev : (x.events.length + 2) * 32 ≤ 140737488355328) (hl256 : x.len t ≤ 256) (hP : ∀ i, P i → i < w.heap.size) (hbg : x.bg t = false)
    {pb : Nat} (hc : (C t)[x.at_ t]? = some (some pb)) {turns : List S26} (hproc : x.proc t (x.at_ t) = some turns) (hs : turns.length * 32 ≤ 140737488355328) (hw : ∀ y ∈ turns, y.f2.length * 8 ≤ 140737488355328) (htl : ((x.tk t (x.at_ t)).length + 1) * 8 ≤ 140737488355328) {wk : List Int} (hd : pTurn turns (x.tk t (x.at_ t)).length = ⟨false, false, wk⟩) :
    Calls Try.prog 41 #[.pointer (some ⟨rb, 0, none⟩), .int .i64 (t : Int)] w (Quits (After B f w rb P (x.stepWith t ⟨false, false, wk⟩ (fun s c => if s = t ∧ c = x.at_ t then x.tk t (x.at_ t) ++ [(t : Int)] else x.tk s c)) tv tb cv C P)) := by
  have q78 := nesome78
  have hn16 := h.n16
  obtain ⟨At, ct, htv⟩ := Kd.R_slice h.trow
  rw [List.length_map, List.length_range] at htv
  subst htv
  obtain ⟨ad, ead, p0⟩ := h.tptr t ht
  subst ead
  obtain ⟨Ac, cc, hcv⟩ := h.cvs t ht
  have r0 := h.r0
  have a2 := h.t2 t ht
  have f2 := h.tf t ht 2
  rw [hbg] at a2
  have H := Aside0.mk h
  have HEV := Aside0.mk hev
  have HT := Aside0.mk ht
  have HPP := Aside0.mk hP
  have HCV := Aside0.mk hcv
  have HBG := Aside0.mk hbg
  have HAT := Aside0.mk hat
  have ix0 : decide ((t : Int) < (x.n : Int)) = true := decide_eq_true (by omega)
  have HP := Aside0.mk (And.intro hc (And.intro hproc (And.intro hs (And.intro hw (And.intro htl hd)))))
  clear hc hproc hs hw htl hd
  clear h hev hcv hbg hP
  have H1 := Aside0.mk (H.out.setBg t HT.out true)
  go_enter Try.func41, Try.ntmps41
  go_upto_region 4 with (go_at_call 50; refine (note_walk H1.out.1 t HT.out false (by have := HEV.out; show (x.events.length + 1) * 32 ≤ _; omega)).mono ?_; rintro e w1 ⟨rfl, hh⟩; have A1 := Aside0.mk hh; clear hh)
  obtain ⟨f1, ev1, h1, m1'⟩ := A1.out
  have m1 : Mv B (· = rb) f w f1 w1 := H1.out.2.trans m1'
  clear r0 a2 f2 p0
  go_upto_region 5 with (fail)
  obtain ⟨w2, hw2⟩ : ∃ w2, w1.alloc (.cells #[.bool true, .bool false, .slice none 0 0] 26) = w2 := ⟨_, rfl⟩
  obtain ⟨bx, hbx⟩ : ∃ bx, w1.heap.size = bx := ⟨_, rfl⟩
  rw [hw2, hbx]
  have b2 : w2.heap[bx]? = some (.cells #[.bool true, .bool false, .slice none 0 0] 26 (0, 0)) := by rw [← hw2, ← hbx]; exact blk_new _ _
  have BL : Below w1.heap.size w1 w2 := by rw [← hw2]; exact below_alloc (Below.refl _ _) _
  obtain ⟨f2, hf2⟩ : ∃ f2, owns f1 w1.heap.size bx = f2 := ⟨_, rfl⟩
  have fold : ∀ k, k < w1.heap.size → f2 k = f1 k := fun k hk => by rw [← hf2]; exact owns_old _ _ _ k hk
  have fbx : f2 bx = bx := by rw [← hf2]; exact owns_new _ _ _ _ (by omega)
  have mb : ∀ o : Nat → Prop, Mv B o f1 w1 f2 w2 := fun o => Mv.of_below BL (by have := blk_lt h1.rblk; have := h1.rbase; omega) fold
  have h2 := h1.mv (mb (fun _ => False)) (fun _ _ e => e)
  have M2 := Aside0.mk (And.intro h2 (And.intro (Mv.trans m1 (mb (· = rb))) (And.intro b2 (And.intro (show w.heap.size ≤ bx by rw [← hbx]; exact m1.below.size) fbx))))
  obtain ⟨hnl, ad2, ead2, pc⟩ := h2.proc_at t HT.out HCV.out (x.at_ t) HAT.out HP.out.1
  clear hnl
  subst ead2
  have k0 := h2.t0 t HT.out
  rw [HCV.out] at k0
  have k1 : w2.cell? ⟨tb t, 1, none⟩ = some (.int .i64 (x.at_ t : Int)) := h2.t1 t HT.out
  simp only [procV] at pc
  have ix1 : decide ((x.at_ t : Int) < (x.len t : Int)) = true := decide_eq_true (by omega)
  clear A1 h1 m1' m1 hw2 hbx b2 BL h2 mb fold fbx hf2
  refine start_ (n := 11) (S := fun w' => w'.cell? ⟨tb t, 0, none⟩ = some (.slice (some ad2) (x.len t) cc) ∧ w'.cell? ⟨tb t, 1, none⟩ = some (.int .i64 (x.at_ t : Int)) ∧ w'.cell? (ad2.add (x.at_ t)) = some (.iface 27 (.pointer (some ⟨pb, 0, none⟩)))) (ds := []) #[F,F,F,F,F,F,F,F,F,F,F] (by kernel_rfl) rfl rfl (⟨k0, k1, pc⟩) (fun hHeld => ?_)
  refine pure_ (i := 0) (N := some 28) (v := ?_) (a' := ?_) #[T,F,F,F,F,F,F,F,F,F,F] rfl rfl (by kernel_rfl) (fun _ _ _ h => h) (Or.inl ⟨by rfl, ?_⟩) ?_ ?_
  rotate_left
  · intro w'
    go_simp
    with_reducible rfl
  rotate_left
  · simp only [Act.put, sA, s0_, sS, i64_w, i32_w]
    rfl
  refine pure_ (i := 1) (N := some 29) (v := ?_) (a' := ?_) #[T,T,F,F,F,F,F,F,F,F,F] rfl rfl (by kernel_rfl) (fun _ _ _ h => h) (Or.inl ⟨by rfl, ?_⟩) ?_ ?_
  rotate_left
  · intro w'
    go_simp
    with_reducible rfl
  rotate_left
  · simp only [Act.put, sA, s0_, sS, i64_w, i32_w]
    rfl
  refine pure_ (i := 2) (N := some 30) (v := ?_) (a' := ?_) #[T,T,T,F,F,F,F,F,F,F,F] rfl rfl (by kernel_rfl) (fun _ _ _ h => h) (Or.inl ⟨by rfl, ?_⟩) ?_ ?_
  rotate_left
  · intro w'
    go_simp
    with_reducible rfl
  rotate_left
  · simp only [Act.put, sA, s0_, sS, i64_w, i32_w]
    rfl
  refine take_ (i := 3) (N := some 31) (v := ?_) (a' := ?_) #[T,T,T,T,F,F,F,F,F,F,F] rfl rfl (by kernel_rfl) (fun _ _ _ h => h) (Or.inl ⟨by rfl, ?_⟩) hHeld ?_ ?_
  rotate_left
  · intro w' s0
    obtain ⟨s1, s2, s3⟩ := s0
    go_simp
    with_reducible rfl
  rotate_left
  · simp only [Act.put, sA, s0_, sS, i64_w, i32_w]
    rfl
  refine pure_ (i := 4) (N := some 32) (v := ?_) (a' := ?_) #[T,T,T,T,T,F,F,F,F,F,F] rfl rfl (by kernel_rfl) (fun _ _ _ h => h) (Or.inl ⟨by rfl, ?_⟩) ?_ ?_
  rotate_left
  · intro w'
    go_simp
    with_reducible rfl
  rotate_left
  · simp only [Act.put, sA, s0_, sS, i64_w, i32_w]
    rfl
  refine pure_ (i := 5) (N := some 33) (v := ?_) (a' := ?_) #[T,T,T,T,T,T,F,F,F,F,F] rfl rfl (by kernel_rfl) (fun _ _ _ h => h) (Or.inl ⟨by rfl, ?_⟩) ?_ ?_
  rotate_left
  · intro w'
    go_simp
    with_reducible rfl
  rotate_left
  · simp only [Act.put, sA, s0_, sS, i64_w, i32_w]
    rfl
  refine pure_ (i := 6) (N := some 34) (v := ?_) (a' := ?_) #[T,T,T,T,T,T,T,F,F,F,F] rfl rfl (by kernel_rfl) (fun _ _ _ h => h) (Or.inl ⟨by rfl, ?_⟩) ?_ ?_
  rotate_left
  · intro w'
    go_simp
    with_reducible rfl
  rotate_left
  · simp only [Act.put, sA, s0_, sS, i64_w, i32_w]
    rfl
  refine take_ (i := 7) (N := some 35) (v := ?_) (a' := ?_) #[T,T,T,T,T,T,T,T,F,F,F] rfl rfl (by kernel_rfl) (fun _ _ _ h => h) (Or.inl ⟨by rfl, ?_⟩) hHeld ?_ ?_
  rotate_left
  · intro w' s0
    obtain ⟨s1, s2, s3⟩ := s0
    go_simp
    with_reducible rfl
  rotate_left
  · simp only [Act.put, sA, s0_, sS, i64_w, i32_w]
    rfl
  refine pure_ (i := 8) (N := some 36) (v := ?_) (a' := ?_) #[T,T,T,T,T,T,T,T,T,F,F] rfl rfl (by kernel_rfl) (fun _ _ _ h => h) (Or.inl ⟨by rfl, ?_⟩) ?_ ?_
  rotate_left
  · intro w'
    go_simp
    with_reducible rfl
  rotate_left
  · simp only [Act.put, sA, s0_, sS, i64_w, i32_w]
    rfl
  refine take_ (i := 9) (N := some 37) (v := ?_) (a' := ?_) #[T,T,T,T,T,T,T,T,T,T,F] rfl rfl (by kernel_rfl) (fun _ _ _ h => h) (Or.inl ⟨by rfl, ?_⟩) hHeld ?_ ?_
  rotate_left
  · intro w' s0
    obtain ⟨s1, s2, s3⟩ := s0
    go_simp
    with_reducible rfl
  rotate_left
  · simp only [Act.put, sA, s0_, sS, i64_w, i32_w]
    rfl
  refine pure_ (i := 10) (N := some 6) (v := ?_) (a' := ?_) #[T,T,T,T,T,T,T,T,T,T,T] rfl rfl (by kernel_rfl) (fun _ _ _ h => h) (Or.inl ⟨by rfl, ?_⟩) ?_ ?_
  rotate_left
  · intro w'
    go_simp
    with_reducible rfl
  rotate_left
  · simp only [Act.put, sA, s0_, sS, i64_w, i32_w]
    rfl
  refine done_ (by kernel_rfl) ?_
  go_upto_region 7 with (fail)
  clear k0 k1 pc ix1
  obtain ⟨w3, hw3⟩ : ∃ w3, w2.drew = w3 := ⟨_, rfl⟩
  rw [hw3]
  have M3 : Aside0 (RunG B f2 w3 rb P { x with bg := upd x.bg t true, events := x.events ++ [⟨x.steps, t, x.at_ t, false⟩] } (Value.slice (some ad) x.n ct) ev1 tb cv C ∧ Mv B (· = rb) f w f2 w3 ∧ w3.heap[bx]? = some (.cells #[.bool true, .bool false, .slice none 0 0] 26 (0, 0)) ∧ w.heap.size ≤ bx ∧ f2 bx = bx) := ⟨by
    rw [← hw3]
    obtain ⟨g1, g2, g3, g4⟩ := M2.out
    exact ⟨g1.below (below_drew (Below.refl _ _)), g2.drewN 1, g3, g4⟩⟩
  clear M2 hw3
  have M4 := Aside0.mk (show ∃ turns', x.proc t (x.at_ t) = some turns' ∧ PlayAt B f2 w3 pb turns' (x.tk t (x.at_ t)) from (M3.out.1.play t (x.at_ t) pb HT.out HP.out.1).2.2)
  have MC := Aside0.mk (show Calls Try.prog 11 #[.pointer (some ⟨pb, 0, none⟩), .int .i64 (t : Int)] w3 (Stepped B f2 w3 pb turns (x.tk t (x.at_ t) ++ [(t : Int)]) ⟨false, false, wk⟩) from by
    obtain ⟨q1, q2, q3, q4, q5, q6⟩ := HP.out
    obtain ⟨turns', e1, hp⟩ := M4.out
    rw [q2] at e1
    injection e1 with e1
    subst e1
    rw [← q6]
    exact step_any hp q3 q4 (t : Int) q5)
  have NBX : Aside0 (¬ f2 bx = pb) := ⟨by
    obtain ⟨turns', _, hp⟩ := M4.out
    obtain ⟨⟨_, _, hb, _⟩, _, _⟩ := hp
    rw [M3.out.2.2.2.2]
    exact blk_ne M3.out.2.2.1 hb (by decide)⟩
  have qm := method27
  go_upto_region 8 with (go_at_call 11; refine MC.out.mono ?_; rintro e w4 ⟨v, f4, rfl, hR, hp, hm⟩; obtain ⟨Av, cvv, hv⟩ := Kd.R_slice hR; subst hv; have R4 := Aside0.mk hR; have P4 := Aside0.mk hp; have V4 := Aside0.mk hm; have b4 := hm.blk M3.out.2.2.1 NBX.out; have B4 := Aside0.mk b4; have j0 := blk_cell b4 0; have j1 := blk_cell b4 1; have j2 := blk_cell b4 2; have l0 := blk_frozen b4 0; have l1 := blk_frozen b4 1; have l2 := blk_frozen b4 2; clear hR hp hm b4)
  obtain ⟨w5, hw5⟩ : ∃ w5, ((w4.setCell ⟨bx, 0, none⟩ (.bool false)).setCell ⟨bx, 1, none⟩ (.bool false)).setCell ⟨bx, 2, none⟩ (.slice Av wk.length cvv) = w5 := ⟨_, rfl⟩
  rw [hw5]
  obtain ⟨nm, hnm⟩ : ∃ nm, w3.heap.size = nm := ⟨_, rfl⟩
  have M5 : Aside0 (RunG B f4 w5 rb P { x with bg := upd x.bg t true, events := x.events ++ [⟨x.steps, t, x.at_ t, false⟩], tk := fun s c => if s = t ∧ c = x.at_ t then x.tk t (x.at_ t) ++ [(t : Int)] else x.tk s c } (Value.slice (some ad) x.n ct) ev1 tb cv C ∧ Mv B P f w f4 w5 ∧ w5.heap[bx]? = some (.cells #[.bool false, .bool false, .slice Av wk.length cvv] 26 (0, 0)) ∧ w.heap.size ≤ bx ∧ f4 bx = bx ∧ (Kd.int .i64).R 3 w5 nm (fun k => nm ≤ k ∧ f4 k = nm) (.slice Av wk.length cvv) wk ∧ rb < nm) := ⟨by
    obtain ⟨g1, g2, g3, g4, g5⟩ := M3.out
    obtain ⟨turns', e1, _⟩ := M4.out
    have e2 := HP.out.2.1
    rw [e2] at e1
    injection e1 with e1
    subst e1
    have hpb : P pb := (g1.play t (x.at_ t) pb HT.out HP.out.1).1
    have g6 := g1.stepped t (x.at_ t) pb HT.out HP.out.1 V4.out P4.out e2
    have hlt := blk_lt g3
    have f4bx : f4 bx = bx := (V4.out.old bx hlt).trans g5
    have hB : B ≤ bx := by have := g1.rbase; have := blk_lt H.out.rblk; omega
    have ms : Mv B (· = bx) f4 w4 f4 w5 := by rw [← hw5]; exact mv3 (Mv.refl _ _ _ _) hB f4bx _ _ _
    refine ⟨g6.mv ms (fun i hi e => ?_), ?_, ?_, g4, f4bx, ?_, ?_⟩
    · have := HPP.out i hi; omega
    · rw [← hw5]
      exact mv3' ((g2.mono (fun i e => by rw [e]; exact g1.rP)).trans (V4.out.mono (fun i e => by rw [e]; exact hpb))) hB g4 _ _ _
    · rw [← hw5]; exact put3 B4.out _ _ _
    · rw [← hw5, ← hnm]; exact far3 R4.out (fun k hk => by omega) _ _ _
    · rw [← hnm]; exact blk_lt g1.rblk⟩
  clear j0 j1 j2 l0 l1 l2 hw5
  have b5 := M5.out.2.2.1
  have j0 := blk_cell b5 0
  simp only [List.getElem?_toArray, List.getElem?_cons_zero, List.getElem?_cons_succ] at j0
  clear b5
  have NB : Aside0 (¬ f4 bx = rb ∧ ¬ tb t = bx) := ⟨by
    refine ⟨?_, blk_ne (M5.out.1.tblk t HT.out) M5.out.2.2.1 (by decide)⟩
    rw [M5.out.2.2.2.2.1]
    exact blk_ne M5.out.2.2.1 M5.out.1.rblk (by decide)⟩
  have hne := NB.out.2
  have hne' : ¬ bx = tb t := fun e => hne e.symm
  have a3 := M5.out.1.t3 t HT.out
  have g3 := M5.out.1.tf t HT.out 3
  have j1 := blk_cell M5.out.2.2.1 1
  have j2 := blk_cell M5.out.2.2.1 2
  simp only [List.getElem?_toArray, List.getElem?_cons_zero, List.getElem?_cons_succ] at j1 j2
  go_upto_region 13 with (fail)
  obtain ⟨w7, hw7⟩ : ∃ w7, w5.setCell ⟨tb t, 3, none⟩ (.bool false) = w7 := ⟨_, rfl⟩
  rw [hw7]
  have M7 : Aside0 (Waking B f w rb P { x with bg := upd x.bg t true, waits := upd x.waits t false, events := x.events ++ [⟨x.steps, t, x.at_ t, false⟩], tk := fun s c => if s = t ∧ c = x.at_ t then x.tk t (x.at_ t) ++ [(t : Int)] else x.tk s c } (Value.slice (some ad) x.n ct) tb cv C nm (.slice Av wk.length cvv) wk 0 w7 ∧ w7.cell? ⟨bx, 2, none⟩ = some (.slice Av wk.length cvv)) := ⟨by
    obtain ⟨h9, mm⟩ := M5.out.1.setWaits t HT.out false
    rw [hw7] at h9 mm
    refine ⟨⟨f4, ev1, ?_, M5.out.2.1.trans (mm.mono (fun i e => by rw [e]; exact h9.rP)), mm.row M5.out.2.2.2.2.2.1 (fun k hk _ e => by have := hk.1; have := hk.2; have := M5.out.2.2.2.2.2.2; omega) (fun k hk hl => ⟨hk.1, (mm.old k hl).trans hk.2⟩)⟩, blk_cell (mm.blk M5.out.2.2.1 NB.out.1) 2⟩
    rw [List.take_zero, woke_nil]
    exact h9⟩
  clear j0 j1 j2 a3 g3 hw7
  have j2 := M7.out.2
  have S0 := Aside0.mk M7.out.1
  obtain ⟨lw, hlw⟩ : ∃ lw, wk.length = lw := ⟨_, rfl⟩
  have HLW := Aside0.mk hlw
  rw [hlw] at j2
  clear hlw
  obtain ⟨m4, hm4⟩ : ∃ m4 : M, { x with bg := upd x.bg t true, waits := upd x.waits t false, events := x.events ++ [⟨x.steps, t, x.at_ t, false⟩], tk := fun s c => if s = t ∧ c = x.at_ t then x.tk t (x.at_ t) ++ [(t : Int)] else x.tk s c } = m4 := ⟨_, rfl⟩
  have HM4 := Aside0.mk hm4
  have HN4 : Aside0 (m4.n = x.n ∧ m4.steps = x.steps) := ⟨by rw [← hm4]; exact ⟨rfl, rfl⟩⟩
  rw [hm4, HLW.out] at S0
  have HRB := Aside0.mk M5.out.2.2.2.2.2.2
  have hlw63 : lw ≤ 9223372036854775807 := by obtain ⟨_, _, _, _, h3⟩ := S0.out; exact (R_C h3).1.2.1
  clear hm4 M7 M5 M4 NB R4 P4 V4 B4 MC NBX M3 hne hne' H1 q78 qm
  go_wp2
  go_loopw [71] (fun idx wr => ∃ k : Nat, k ≤ lw ∧ idx = .int .i64 (k : Int) ∧ Aside0 (Waking B f w rb P m4 (.slice (some ad) x.n ct) tb cv C nm (.slice Av lw cvv) wk k wr)) (fun idx _ => lw - (intOf idx).toNat)
  case atStart => exact ⟨0, Nat.zero_le _, rfl, S0⟩
  case round =>
    obtain ⟨k, hk, rfl, SK⟩ := hrel
    by_cases hlt : k < lw
    · obtain ⟨f', ev', h1, h2, h3⟩ := SK.out
      obtain ⟨adw, eadw, cz⟩ := (Kd.reads_of_C (d := 0) (R_C h3).1).at_ (k : Int) (by omega) (by omega)
      simp only [Int.toNat_natCast, rdOf] at cz
      have r0 := h1.r0
      have hkl : k < wk.length := by rw [HLW.out]; exact hlt
      have HKL := Aside0.mk hkl
      obtain ⟨z, hz⟩ : ∃ z, wk.getD k 0 = z := ⟨_, rfl⟩
      have HZ := Aside0.mk hz
      rw [hz] at cz
      subst eadw
      by_cases hz0 : 0 ≤ z
      · obtain ⟨u, rfl⟩ : ∃ u : Nat, z = (u : Int) := ⟨z.toNat, by omega⟩
        by_cases hun : u < x.n
        · have hun4 : u < m4.n := by rw [HN4.out.1]; exact hun
          obtain ⟨ad', ead', cp⟩ := h1.tptr u hun4
          injection ead' with ead'
          subst ead'
          have c3 := h1.t3 u hun4
          have c4 := h1.tf u hun4 3
          have SK1 := Aside0.mk (SK.out.in_ hkl u hun4 hz HRB.out)
          have i1 : decide ((u : Int) < (x.n : Int)) = true := decide_eq_true (by omega)
          clear h1 h2 h3 hkl hz hun4
          go_wp2
          go_roundw
          case rel => exact ⟨k + 1, by omega, by go_num, SK1⟩
          case measure => simp [intOf]; omega
        · have SK1 := Aside0.mk (SK.out.out hkl (fun s hs e => by rw [hz] at e; have := HN4.out.1; omega))
          have i1 : decide ((u : Int) < (x.n : Int)) = false := decide_eq_false (by omega)
          clear h1 h2 h3 hkl hz
          go_wp2
          go_roundw
          case rel => exact ⟨k + 1, by omega, by go_num, SK1⟩
          case measure => simp [intOf]; omega
      · have SK1 := Aside0.mk (SK.out.out hkl (fun s hs e => by rw [hz] at e; omega))
        have i1 : decide (0 ≤ z) = false := decide_eq_false hz0
        clear h1 h2 h3 hkl hz
        go_wp2
        go_roundw
        case rel => exact ⟨k + 1, by omega, by go_num, SK1⟩
        case measure => simp [intOf]; omega
    · have hkl : k = lw := by omega
      subst hkl
      have HE := Aside0.mk (show Waking B f w rb P m4 (.slice (some ad) x.n ct) tb cv C nm (.slice Av k cvv) wk wk.length wr by rw [HLW.out]; exact SK.out)
      obtain ⟨f', ev', h1, h2, h3⟩ := SK.out
      have r1 : wr.cell? ⟨rb, 1, none⟩ = some (.int .i64 m4.steps) := h1.r1
      have r1f := h1.rf 1
      rw [HN4.out.2] at r1
      clear h1 h2 h3
      go_wp2
      go_end0
      refine ⟨rfl, ?_⟩
      have EQ : x.stepWith t ⟨false, false, wk⟩ (fun s c => if s = t ∧ c = x.at_ t then x.tk t (x.at_ t) ++ [(t : Int)] else x.tk s c) = { m4 with waits := woke wk m4.waits, steps := wrap64 (x.steps + 1) } := by
        rw [← HM4.out]
        unfold M.stepWith
        simp [HBG.out, upd_upd, upd_self, upd_same]
      rw [EQ]
      exact HE.out.end_ _
set_option maxHeartbeats 8000000 in
set_option maxRecDepth 100000 in
theorem stepFOt {B : Nat} {f : Owner} {w : World} {rb : Nat} {P : Nat → Prop} {x : M} {tv ev : Value} {tb : Nat → Nat} {cv : Nat → Value} {C : Nat → List (Option Nat)} (h : RunG B f w rb P x tv ev tb cv C) (t : Nat) (ht : t < x.n) (hat : x.at_ t < x.len t) (hev : (x.events.length + 2) * 32 ≤ 140737488355328) (hl256 : x.len t ≤ 256) (hP : ∀ i, P i → i < w.heap.size) (hbg : x.bg t = false)
    {pb : Nat} (hc : (C t)[x.at_ t]? = some (some pb)) {turns : List S26} (hproc : x.proc t (x.at_ t) = some turns) (hs : turns.length * 32 ≤ 140737488355328) (hw : ∀ y ∈ turns, y.f2.length * 8 ≤ 140737488355328) (htl : ((x.tk t (x.at_ t)).length + 1) * 8 ≤ 140737488355328) {wk : List Int} (hd : pTurn turns (x.tk t (x.at_ t)).length = ⟨false, true, wk⟩) :
    Calls Try.prog 41 #[.pointer (some ⟨rb, 0, none⟩), .int .i64 (t : Int)] w (Quits (After B f w rb P (x.stepWith t ⟨false, true, wk⟩ (fun s c => if s = t ∧ c = x.at_ t then x.tk t (x.at_ t) ++ [(t : Int)] else x.tk s c)) tv tb cv C P)) := by
  have q78 := nesome78
  have hn16 := h.n16
  obtain ⟨At, ct, htv⟩ := Kd.R_slice h.trow
  rw [List.length_map, List.length_range] at htv
  subst htv
  obtain ⟨ad, ead, p0⟩ := h.tptr t ht
  subst ead
  obtain ⟨Ac, cc, hcv⟩ := h.cvs t ht
  have r0 := h.r0
  have a2 := h.t2 t ht
  have f2 := h.tf t ht 2
  rw [hbg] at a2
  have H := Aside0.mk h
  have HEV := Aside0.mk hev
  have HT := Aside0.mk ht
  have HPP := Aside0.mk hP
  have HCV := Aside0.mk hcv
  have HBG := Aside0.mk hbg
  have HAT := Aside0.mk hat
  have ix0 : decide ((t : Int) < (x.n : Int)) = true := decide_eq_true (by omega)
  have HP := Aside0.mk (And.intro hc (And.intro hproc (And.intro hs (And.intro hw (And.intro htl hd)))))
  clear hc hproc hs hw htl hd
  clear h hev hcv hbg hP
  have H1 := Aside0.mk (H.out.setBg t HT.out true)
  go_enter Try.func41, Try.ntmps41
  go_upto_region 4 with (go_at_call 50; refine (note_walk H1.out.1 t HT.out false (by have := HEV.out; show (x.events.length + 1) * 32 ≤ _; omega)).mono ?_; rintro e w1 ⟨rfl, hh⟩; have A1 := Aside0.mk hh; clear hh)
  obtain ⟨f1, ev1, h1, m1'⟩ := A1.out
  have m1 : Mv B (· = rb) f w f1 w1 := H1.out.2.trans m1'
  clear r0 a2 f2 p0
  go_upto_region 5 with (fail)
  obtain ⟨w2, hw2⟩ : ∃ w2, w1.alloc (.cells #[.bool true, .bool false, .slice none 0 0] 26) = w2 := ⟨_, rfl⟩
  obtain ⟨bx, hbx⟩ : ∃ bx, w1.heap.size = bx := ⟨_, rfl⟩
  rw [hw2, hbx]
  have b2 : w2.heap[bx]? = some (.cells #[.bool true, .bool false, .slice none 0 0] 26 (0, 0)) := by rw [← hw2, ← hbx]; exact blk_new _ _
  have BL : Below w1.heap.size w1 w2 := by rw [← hw2]; exact below_alloc (Below.refl _ _) _
  obtain ⟨f2, hf2⟩ : ∃ f2, owns f1 w1.heap.size bx = f2 := ⟨_, rfl⟩
  have fold : ∀ k, k < w1.heap.size → f2 k = f1 k := fun k hk => by rw [← hf2]; exact owns_old _ _ _ k hk
  have fbx : f2 bx = bx := by rw [← hf2]; exact owns_new _ _ _ _ (by omega)
  have mb : ∀ o : Nat → Prop, Mv B o f1 w1 f2 w2 := fun o => Mv.of_below BL (by have := blk_lt h1.rblk; have := h1.rbase; omega) fold
  have h2 := h1.mv (mb (fun _ => False)) (fun _ _ e => e)
  have M2 := Aside0.mk (And.intro h2 (And.intro (Mv.trans m1 (mb (· = rb))) (And.intro b2 (And.intro (show w.heap.size ≤ bx by rw [← hbx]; exact m1.below.size) fbx))))
  obtain ⟨hnl, ad2, ead2, pc⟩ := h2.proc_at t HT.out HCV.out (x.at_ t) HAT.out HP.out.1
  clear hnl
  subst ead2
  have k0 := h2.t0 t HT.out
  rw [HCV.out] at k0
  have k1 : w2.cell? ⟨tb t, 1, none⟩ = some (.int .i64 (x.at_ t : Int)) := h2.t1 t HT.out
  simp only [procV] at pc
  have ix1 : decide ((x.at_ t : Int) < (x.len t : Int)) = true := decide_eq_true (by omega)
  clear A1 h1 m1' m1 hw2 hbx b2 BL h2 mb fold fbx hf2
  refine start_ (n := 11) (S := fun w' => w'.cell? ⟨tb t, 0, none⟩ = some (.slice (some ad2) (x.len t) cc) ∧ w'.cell? ⟨tb t, 1, none⟩ = some (.int .i64 (x.at_ t : Int)) ∧ w'.cell? (ad2.add (x.at_ t)) = some (.iface 27 (.pointer (some ⟨pb, 0, none⟩)))) (ds := []) #[F,F,F,F,F,F,F,F,F,F,F] (by kernel_rfl) rfl rfl (⟨k0, k1, pc⟩) (fun hHeld => ?_)
  refine pure_ (i := 0) (N := some 28) (v := ?_) (a' := ?_) #[T,F,F,F,F,F,F,F,F,F,F] rfl rfl (by kernel_rfl) (fun _ _ _ h => h) (Or.inl ⟨by rfl, ?_⟩) ?_ ?_
  rotate_left
  · intro w'
    go_simp
    with_reducible rfl
  rotate_left
  · simp only [Act.put, sA, s0_, sS, i64_w, i32_w]
    rfl
  refine pure_ (i := 1) (N := some 29) (v := ?_) (a' := ?_) #[T,T,F,F,F,F,F,F,F,F,F] rfl rfl (by kernel_rfl) (fun _ _ _ h => h) (Or.inl ⟨by rfl, ?_⟩) ?_ ?_
  rotate_left
  · intro w'
    go_simp
    with_reducible rfl
  rotate_left
  · simp only [Act.put, sA, s0_, sS, i64_w, i32_w]
    rfl
  refine pure_ (i := 2) (N := some 30) (v := ?_) (a' := ?_) #[T,T,T,F,F,F,F,F,F,F,F] rfl rfl (by kernel_rfl) (fun _ _ _ h => h) (Or.inl ⟨by rfl, ?_⟩) ?_ ?_
  rotate_left
  · intro w'
    go_simp
    with_reducible rfl
  rotate_left
  · simp only [Act.put, sA, s0_, sS, i64_w, i32_w]
    rfl
  refine take_ (i := 3) (N := some 31) (v := ?_) (a' := ?_) #[T,T,T,T,F,F,F,F,F,F,F] rfl rfl (by kernel_rfl) (fun _ _ _ h => h) (Or.inl ⟨by rfl, ?_⟩) hHeld ?_ ?_
  rotate_left
  · intro w' s0
    obtain ⟨s1, s2, s3⟩ := s0
    go_simp
    with_reducible rfl
  rotate_left
  · simp only [Act.put, sA, s0_, sS, i64_w, i32_w]
    rfl
  refine pure_ (i := 4) (N := some 32) (v := ?_) (a' := ?_) #[T,T,T,T,T,F,F,F,F,F,F] rfl rfl (by kernel_rfl) (fun _ _ _ h => h) (Or.inl ⟨by rfl, ?_⟩) ?_ ?_
  rotate_left
  · intro w'
    go_simp
    with_reducible rfl
  rotate_left
  · simp only [Act.put, sA, s0_, sS, i64_w, i32_w]
    rfl
  refine pure_ (i := 5) (N := some 33) (v := ?_) (a' := ?_) #[T,T,T,T,T,T,F,F,F,F,F] rfl rfl (by kernel_rfl) (fun _ _ _ h => h) (Or.inl ⟨by rfl, ?_⟩) ?_ ?_
  rotate_left
  · intro w'
    go_simp
    with_reducible rfl
  rotate_left
  · simp only [Act.put, sA, s0_, sS, i64_w, i32_w]
    rfl
  refine pure_ (i := 6) (N := some 34) (v := ?_) (a' := ?_) #[T,T,T,T,T,T,T,F,F,F,F] rfl rfl (by kernel_rfl) (fun _ _ _ h => h) (Or.inl ⟨by rfl, ?_⟩) ?_ ?_
  rotate_left
  · intro w'
    go_simp
    with_reducible rfl
  rotate_left
  · simp only [Act.put, sA, s0_, sS, i64_w, i32_w]
    rfl
  refine take_ (i := 7) (N := some 35) (v := ?_) (a' := ?_) #[T,T,T,T,T,T,T,T,F,F,F] rfl rfl (by kernel_rfl) (fun _ _ _ h => h) (Or.inl ⟨by rfl, ?_⟩) hHeld ?_ ?_
  rotate_left
  · intro w' s0
    obtain ⟨s1, s2, s3⟩ := s0
    go_simp
    with_reducible rfl
  rotate_left
  · simp only [Act.put, sA, s0_, sS, i64_w, i32_w]
    rfl
  refine pure_ (i := 8) (N := some 36) (v := ?_) (a' := ?_) #[T,T,T,T,T,T,T,T,T,F,F] rfl rfl (by kernel_rfl) (fun _ _ _ h => h) (Or.inl ⟨by rfl, ?_⟩) ?_ ?_
  rotate_left
  · intro w'
    go_simp
    with_reducible rfl
  rotate_left
  · simp only [Act.put, sA, s0_, sS, i64_w, i32_w]
    rfl
  refine take_ (i := 9) (N := some 37) (v := ?_) (a' := ?_) #[T,T,T,T,T,T,T,T,T,T,F] rfl rfl (by kernel_rfl) (fun _ _ _ h => h) (Or.inl ⟨by rfl, ?_⟩) hHeld ?_ ?_
  rotate_left
  · intro w' s0
    obtain ⟨s1, s2, s3⟩ := s0
    go_simp
    with_reducible rfl
  rotate_left
  · simp only [Act.put, sA, s0_, sS, i64_w, i32_w]
    rfl
  refine pure_ (i := 10) (N := some 6) (v := ?_) (a' := ?_) #[T,T,T,T,T,T,T,T,T,T,T] rfl rfl (by kernel_rfl) (fun _ _ _ h => h) (Or.inl ⟨by rfl, ?_⟩) ?_ ?_
  rotate_left
  · intro w'
    go_simp
    with_reducible rfl
  rotate_left
  · simp only [Act.put, sA, s0_, sS, i64_w, i32_w]
    rfl
  refine done_ (by kernel_rfl) ?_
  go_upto_region 7 with (fail)
  clear k0 k1 pc ix1
  obtain ⟨w3, hw3⟩ : ∃ w3, w2.drew = w3 := ⟨_, rfl⟩
  rw [hw3]
  have M3 : Aside0 (RunG B f2 w3 rb P { x with bg := upd x.bg t true, events := x.events ++ [⟨x.steps, t, x.at_ t, false⟩] } (Value.slice (some ad) x.n ct) ev1 tb cv C ∧ Mv B (· = rb) f w f2 w3 ∧ w3.heap[bx]? = some (.cells #[.bool true, .bool false, .slice none 0 0] 26 (0, 0)) ∧ w.heap.size ≤ bx ∧ f2 bx = bx) := ⟨by
    rw [← hw3]
    obtain ⟨g1, g2, g3, g4⟩ := M2.out
    exact ⟨g1.below (below_drew (Below.refl _ _)), g2.drewN 1, g3, g4⟩⟩
  clear M2 hw3
  have M4 := Aside0.mk (show ∃ turns', x.proc t (x.at_ t) = some turns' ∧ PlayAt B f2 w3 pb turns' (x.tk t (x.at_ t)) from (M3.out.1.play t (x.at_ t) pb HT.out HP.out.1).2.2)
  have MC := Aside0.mk (show Calls Try.prog 11 #[.pointer (some ⟨pb, 0, none⟩), .int .i64 (t : Int)] w3 (Stepped B f2 w3 pb turns (x.tk t (x.at_ t) ++ [(t : Int)]) ⟨false, true, wk⟩) from by
    obtain ⟨q1, q2, q3, q4, q5, q6⟩ := HP.out
    obtain ⟨turns', e1, hp⟩ := M4.out
    rw [q2] at e1
    injection e1 with e1
    subst e1
    rw [← q6]
    exact step_any hp q3 q4 (t : Int) q5)
  have NBX : Aside0 (¬ f2 bx = pb) := ⟨by
    obtain ⟨turns', _, hp⟩ := M4.out
    obtain ⟨⟨_, _, hb, _⟩, _, _⟩ := hp
    rw [M3.out.2.2.2.2]
    exact blk_ne M3.out.2.2.1 hb (by decide)⟩
  have qm := method27
  go_upto_region 8 with (go_at_call 11; refine MC.out.mono ?_; rintro e w4 ⟨v, f4, rfl, hR, hp, hm⟩; obtain ⟨Av, cvv, hv⟩ := Kd.R_slice hR; subst hv; have R4 := Aside0.mk hR; have P4 := Aside0.mk hp; have V4 := Aside0.mk hm; have b4 := hm.blk M3.out.2.2.1 NBX.out; have B4 := Aside0.mk b4; have j0 := blk_cell b4 0; have j1 := blk_cell b4 1; have j2 := blk_cell b4 2; have l0 := blk_frozen b4 0; have l1 := blk_frozen b4 1; have l2 := blk_frozen b4 2; clear hR hp hm b4)
  obtain ⟨w5, hw5⟩ : ∃ w5, ((w4.setCell ⟨bx, 0, none⟩ (.bool false)).setCell ⟨bx, 1, none⟩ (.bool true)).setCell ⟨bx, 2, none⟩ (.slice Av wk.length cvv) = w5 := ⟨_, rfl⟩
  rw [hw5]
  obtain ⟨nm, hnm⟩ : ∃ nm, w3.heap.size = nm := ⟨_, rfl⟩
  have M5 : Aside0 (RunG B f4 w5 rb P { x with bg := upd x.bg t true, events := x.events ++ [⟨x.steps, t, x.at_ t, false⟩], tk := fun s c => if s = t ∧ c = x.at_ t then x.tk t (x.at_ t) ++ [(t : Int)] else x.tk s c } (Value.slice (some ad) x.n ct) ev1 tb cv C ∧ Mv B P f w f4 w5 ∧ w5.heap[bx]? = some (.cells #[.bool false, .bool true, .slice Av wk.length cvv] 26 (0, 0)) ∧ w.heap.size ≤ bx ∧ f4 bx = bx ∧ (Kd.int .i64).R 3 w5 nm (fun k => nm ≤ k ∧ f4 k = nm) (.slice Av wk.length cvv) wk ∧ rb < nm) := ⟨by
    obtain ⟨g1, g2, g3, g4, g5⟩ := M3.out
    obtain ⟨turns', e1, _⟩ := M4.out
    have e2 := HP.out.2.1
    rw [e2] at e1
    injection e1 with e1
    subst e1
    have hpb : P pb := (g1.play t (x.at_ t) pb HT.out HP.out.1).1
    have g6 := g1.stepped t (x.at_ t) pb HT.out HP.out.1 V4.out P4.out e2
    have hlt := blk_lt g3
    have f4bx : f4 bx = bx := (V4.out.old bx hlt).trans g5
    have hB : B ≤ bx := by have := g1.rbase; have := blk_lt H.out.rblk; omega
    have ms : Mv B (· = bx) f4 w4 f4 w5 := by rw [← hw5]; exact mv3 (Mv.refl _ _ _ _) hB f4bx _ _ _
    refine ⟨g6.mv ms (fun i hi e => ?_), ?_, ?_, g4, f4bx, ?_, ?_⟩
    · have := HPP.out i hi; omega
    · rw [← hw5]
      exact mv3' ((g2.mono (fun i e => by rw [e]; exact g1.rP)).trans (V4.out.mono (fun i e => by rw [e]; exact hpb))) hB g4 _ _ _
    · rw [← hw5]; exact put3 B4.out _ _ _
    · rw [← hw5, ← hnm]; exact far3 R4.out (fun k hk => by omega) _ _ _
    · rw [← hnm]; exact blk_lt g1.rblk⟩
  clear j0 j1 j2 l0 l1 l2 hw5
  have b5 := M5.out.2.2.1
  have j0 := blk_cell b5 0
  simp only [List.getElem?_toArray, List.getElem?_cons_zero, List.getElem?_cons_succ] at j0
  clear b5
  have NB : Aside0 (¬ f4 bx = rb ∧ ¬ tb t = bx) := ⟨by
    refine ⟨?_, blk_ne (M5.out.1.tblk t HT.out) M5.out.2.2.1 (by decide)⟩
    rw [M5.out.2.2.2.2.1]
    exact blk_ne M5.out.2.2.1 M5.out.1.rblk (by decide)⟩
  have hne := NB.out.2
  have hne' : ¬ bx = tb t := fun e => hne e.symm
  have a3 := M5.out.1.t3 t HT.out
  have g3 := M5.out.1.tf t HT.out 3
  have j1 := blk_cell M5.out.2.2.1 1
  have j2 := blk_cell M5.out.2.2.1 2
  simp only [List.getElem?_toArray, List.getElem?_cons_zero, List.getElem?_cons_succ] at j1 j2
  go_upto_region 13 with (fail)
  obtain ⟨w7, hw7⟩ : ∃ w7, w5.setCell ⟨tb t, 3, none⟩ (.bool true) = w7 := ⟨_, rfl⟩
  rw [hw7]
  have M7 : Aside0 (Waking B f w rb P { x with bg := upd x.bg t true, waits := upd x.waits t true, events := x.events ++ [⟨x.steps, t, x.at_ t, false⟩], tk := fun s c => if s = t ∧ c = x.at_ t then x.tk t (x.at_ t) ++ [(t : Int)] else x.tk s c } (Value.slice (some ad) x.n ct) tb cv C nm (.slice Av wk.length cvv) wk 0 w7 ∧ w7.cell? ⟨bx, 2, none⟩ = some (.slice Av wk.length cvv)) := ⟨by
    obtain ⟨h9, mm⟩ := M5.out.1.setWaits t HT.out true
    rw [hw7] at h9 mm
    refine ⟨⟨f4, ev1, ?_, M5.out.2.1.trans (mm.mono (fun i e => by rw [e]; exact h9.rP)), mm.row M5.out.2.2.2.2.2.1 (fun k hk _ e => by have := hk.1; have := hk.2; have := M5.out.2.2.2.2.2.2; omega) (fun k hk hl => ⟨hk.1, (mm.old k hl).trans hk.2⟩)⟩, blk_cell (mm.blk M5.out.2.2.1 NB.out.1) 2⟩
    rw [List.take_zero, woke_nil]
    exact h9⟩
  clear j0 j1 j2 a3 g3 hw7
  have j2 := M7.out.2
  have S0 := Aside0.mk M7.out.1
  obtain ⟨lw, hlw⟩ : ∃ lw, wk.length = lw := ⟨_, rfl⟩
  have HLW := Aside0.mk hlw
  rw [hlw] at j2
  clear hlw
  obtain ⟨m4, hm4⟩ : ∃ m4 : M, { x with bg := upd x.bg t true, waits := upd x.waits t true, events := x.events ++ [⟨x.steps, t, x.at_ t, false⟩], tk := fun s c => if s = t ∧ c = x.at_ t then x.tk t (x.at_ t) ++ [(t : Int)] else x.tk s c } = m4 := ⟨_, rfl⟩
  have HM4 := Aside0.mk hm4
  have HN4 : Aside0 (m4.n = x.n ∧ m4.steps = x.steps) := ⟨by rw [← hm4]; exact ⟨rfl, rfl⟩⟩
  rw [hm4, HLW.out] at S0
  have HRB := Aside0.mk M5.out.2.2.2.2.2.2
  have hlw63 : lw ≤ 9223372036854775807 := by obtain ⟨_, _, _, _, h3⟩ := S0.out; exact (R_C h3).1.2.1
  clear hm4 M7 M5 M4 NB R4 P4 V4 B4 MC NBX M3 hne hne' H1 q78 qm
  go_wp2
  go_loopw [71] (fun idx wr => ∃ k : Nat, k ≤ lw ∧ idx = .int .i64 (k : Int) ∧ Aside0 (Waking B f w rb P m4 (.slice (some ad) x.n ct) tb cv C nm (.slice Av lw cvv) wk k wr)) (fun idx _ => lw - (intOf idx).toNat)
  case atStart => exact ⟨0, Nat.zero_le _, rfl, S0⟩
  case round =>
    obtain ⟨k, hk, rfl, SK⟩ := hrel
    by_cases hlt : k < lw
    · obtain ⟨f', ev', h1, h2, h3⟩ := SK.out
      obtain ⟨adw, eadw, cz⟩ := (Kd.reads_of_C (d := 0) (R_C h3).1).at_ (k : Int) (by omega) (by omega)
      simp only [Int.toNat_natCast, rdOf] at cz
      have r0 := h1.r0
      have hkl : k < wk.length := by rw [HLW.out]; exact hlt
      have HKL := Aside0.mk hkl
      obtain ⟨z, hz⟩ : ∃ z, wk.getD k 0 = z := ⟨_, rfl⟩
      have HZ := Aside0.mk hz
      rw [hz] at cz
      subst eadw
      by_cases hz0 : 0 ≤ z
      · obtain ⟨u, rfl⟩ : ∃ u : Nat, z = (u : Int) := ⟨z.toNat, by omega⟩
        by_cases hun : u < x.n
        · have hun4 : u < m4.n := by rw [HN4.out.1]; exact hun
          obtain ⟨ad', ead', cp⟩ := h1.tptr u hun4
          injection ead' with ead'
          subst ead'
          have c3 := h1.t3 u hun4
          have c4 := h1.tf u hun4 3
          have SK1 := Aside0.mk (SK.out.in_ hkl u hun4 hz HRB.out)
          have i1 : decide ((u : Int) < (x.n : Int)) = true := decide_eq_true (by omega)
          clear h1 h2 h3 hkl hz hun4
          go_wp2
          go_roundw
          case rel => exact ⟨k + 1, by omega, by go_num, SK1⟩
          case measure => simp [intOf]; omega
        · have SK1 := Aside0.mk (SK.out.out hkl (fun s hs e => by rw [hz] at e; have := HN4.out.1; omega))
          have i1 : decide ((u : Int) < (x.n : Int)) = false := decide_eq_false (by omega)
          clear h1 h2 h3 hkl hz
          go_wp2
          go_roundw
          case rel => exact ⟨k + 1, by omega, by go_num, SK1⟩
          case measure => simp [intOf]; omega
      · have SK1 := Aside0.mk (SK.out.out hkl (fun s hs e => by rw [hz] at e; omega))
        have i1 : decide (0 ≤ z) = false := decide_eq_false hz0
        clear h1 h2 h3 hkl hz
        go_wp2
        go_roundw
        case rel => exact ⟨k + 1, by omega, by go_num, SK1⟩
        case measure => simp [intOf]; omega
    · have hkl : k = lw := by omega
      subst hkl
      have HE := Aside0.mk (show Waking B f w rb P m4 (.slice (some ad) x.n ct) tb cv C nm (.slice Av k cvv) wk wk.length wr by rw [HLW.out]; exact SK.out)
      obtain ⟨f', ev', h1, h2, h3⟩ := SK.out
      have r1 : wr.cell? ⟨rb, 1, none⟩ = some (.int .i64 m4.steps) := h1.r1
      have r1f := h1.rf 1
      rw [HN4.out.2] at r1
      clear h1 h2 h3
      go_wp2
      go_end0
      refine ⟨rfl, ?_⟩
      have EQ : x.stepWith t ⟨false, true, wk⟩ (fun s c => if s = t ∧ c = x.at_ t then x.tk t (x.at_ t) ++ [(t : Int)] else x.tk s c) = { m4 with waits := woke wk m4.waits, steps := wrap64 (x.steps + 1) } := by
        rw [← HM4.out]
        unfold M.stepWith
        simp [HBG.out, upd_upd, upd_self, upd_same]
      rw [EQ]
      exact HE.out.end_ _
end Go.Proofs.Ytkigbgabnbjomaa.Sched
