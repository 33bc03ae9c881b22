/- The law SchedPlays, walked by hand; and the call.
   No condition. -/
import Derived.Test.YtkigbgabnbjomaaSchM
import Derived.ArgAppend
import Derived.BigRegion
import Derived.Deep.QuietTactic
import Derived.BigQuiet
import Derived.Deep.RegionHeld3
import Derived.ChangeAlike
import Derived.RegionTactic
import Derived.Deep.DeepCutAuto
import Derived.Deep.CutBlock
import Derived.Deep.RegionLaw
import Derived.StillTailTactics
import Derived.WalkSpells
import Derived.Lib.SliceRun
namespace Go.Proofs.Ytkigbgabnbjomaa.Sched
open Go.Proofs.Ytkigbgabnbjomaa.PSchedPlays
open Go.RowKit Go.Proofs.YtkigbgabnbjomaaW.PrintWords Go.Proofs.YtkigbgabnbjomaaW.PrintLast Go.Proofs.YtkigbgabnbjomaaW.PrintMore
attribute [local go_sem] max2_int min2_int max_two min_two   -- for this text's walks alone
set_option linter.unusedVariables false
set_option linter.unusedSimpArgs false
/-! ### looks: both say the same -/
def Gave {α : Type} (d : Kd α) (w : World) (l : List α) (en : Ending) (w' : World) : Prop := ∃ A c, en = .returned (.slice A l.length c) ∧ d.C w' A l.length l ∧ Below w.heap.size w w'
theorem Made.gave {α : Type} {d : Kd α} {e : Nat} {w : World} {l : List α} {en : Ending} {w' : World} (h : Made d e w l en w') : Gave d w l en w' := by
  obtain ⟨v, rfl, hR, hb⟩ := h
  obtain ⟨A, c, e, _, hC⟩ := Kd.R_reads hR
  exact ⟨A, c, by rw [e], hC, hb⟩
set_option maxHeartbeats 8000000 in
set_option maxRecDepth 100000 in
theorem looks_any {w : World} {rb xb : Nat} {st : Int} {le : List S51} {Ae : Option Addr} {ce : Nat} {l1 l2 : List Int} {b1 b2 : Bool} (h4 : w.cell? ⟨xb, 4, none⟩ = some (.int .i64 st)) (h5 : w.cell? ⟨xb, 5, none⟩ = some (.slice Ae le.length ce)) (hE : Aside0 (k51.C w Ae le.length le))
    (KS : Aside0 (∀ w1, Below w.heap.size w w1 → Calls Try.prog 23 #[.pointer (some ⟨rb, 0, none⟩)] w1 fun e w' => e = .returned (.int .i64 st) ∧ w1 = w'))
    (KE : Aside0 (∀ w1, Below w.heap.size w w1 → Calls Try.prog 22 #[.pointer (some ⟨rb, 0, none⟩)] w1 (Gave k51 w1 le)))
    (K20 : Aside0 (∀ w1, Below w.heap.size w w1 → Calls Try.prog 20 #[.pointer (some ⟨rb, 0, none⟩)] w1 (Gave (Kd.int .i64) w1 l1)))
    (K44 : Aside0 (∀ w1, Below w.heap.size w w1 → Calls Try.prog 44 #[.pointer (some ⟨xb, 0, none⟩)] w1 (Gave (Kd.int .i64) w1 l1)))
    (K24 : Aside0 (∀ w1, Below w.heap.size w w1 → Calls Try.prog 24 #[.pointer (some ⟨rb, 0, none⟩)] w1 (Gave (Kd.int .i64) w1 l2)))
    (K47 : Aside0 (∀ w1, Below w.heap.size w w1 → Calls Try.prog 47 #[.pointer (some ⟨xb, 0, none⟩)] w1 (Gave (Kd.int .i64) w1 l2)))
    (K28 : Aside0 (∀ w1, Below w.heap.size w w1 → Calls Try.prog 28 #[.pointer (some ⟨rb, 0, none⟩)] w1 (Says w1 b1)))
    (K45 : Aside0 (∀ w1, Below w.heap.size w w1 → Calls Try.prog 45 #[.pointer (some ⟨xb, 0, none⟩)] w1 (Says w1 b1)))
    (K25 : Aside0 (∀ w1, Below w.heap.size w w1 → Calls Try.prog 25 #[.pointer (some ⟨rb, 0, none⟩)] w1 (Says w1 b2)))
    (K48 : Aside0 (∀ w1, Below w.heap.size w w1 → Calls Try.prog 48 #[.pointer (some ⟨xb, 0, none⟩)] w1 (Says w1 b2))) :
    Calls Try.prog 32 #[.pointer (some ⟨rb, 0, none⟩), .pointer (some ⟨xb, 0, none⟩)] w (Says w true) := by
  go_enter Try.func32, Try.ntmps32
  go_upto_region 1 with (fail)
  refine start_ (n := 45) (S := fun w' => w'.cell? ⟨xb, 4, none⟩ = some (.int .i64 st) ∧ w'.cell? ⟨xb, 5, none⟩ = some (.slice Ae le.length ce)) (ds := []) #[F,F,F,F,F,F,F,F,F,F,F,F,F,F,F,F,F,F,F,F,F,F,F,F,F,F,F,F,F,F,F,F,F,F,F,F,F,F,F,F,F,F,F,F,F] (by kernel_rfl) rfl rfl (⟨h4, h5⟩) (fun hHeld => ?_)
  generalize hwd : w.drew = wd at hHeld ⊢
  have B0 : Aside0 (Below w.heap.size w wd) := ⟨by rw [← hwd]; exact below_drew (Below.refl _ _)⟩
  clear hwd
  refine pure_ (i := 0) (N := some 5) (v := ?_) (a' := ?_) #[T,F,F,F,F,F,F,F,F,F,F,F,F,F,F,F,F,F,F,F,F,F,F,F,F,F,F,F,F,F,F,F,F,F,F,F,F,F,F,F,F,F,F,F,F] rfl rfl (by kernel_rfl) (fun _ _ _ h => h) (Or.inl ⟨by rfl, ?_⟩) ?_ ?_
  rotate_left
  · intro w'
    go_simp
    with_reducible rfl
  rotate_left
  · simp only [Act.put, sA, s0_, sS, i64_w, i32_w]
    rfl
  refine pure_ (i := 2) (N := some 7) (v := ?_) (a' := ?_) #[T,F,T,F,F,F,F,F,F,F,F,F,F,F,F,F,F,F,F,F,F,F,F,F,F,F,F,F,F,F,F,F,F,F,F,F,F,F,F,F,F,F,F,F,F] rfl rfl (by kernel_rfl) (fun _ _ _ h => h) (Or.inl ⟨by rfl, ?_⟩) ?_ ?_
  rotate_left
  · intro w'
    go_simp
    with_reducible rfl
  rotate_left
  · simp only [Act.put, sA, s0_, sS, i64_w, i32_w]
    rfl
  refine pure_ (i := 3) (N := some 8) (v := ?_) (a' := ?_) #[T,F,T,T,F,F,F,F,F,F,F,F,F,F,F,F,F,F,F,F,F,F,F,F,F,F,F,F,F,F,F,F,F,F,F,F,F,F,F,F,F,F,F,F,F] rfl rfl (by kernel_rfl) (fun _ _ _ h => h) (Or.inl ⟨by rfl, ?_⟩) ?_ ?_
  rotate_left
  · intro w'
    go_simp
    with_reducible rfl
  rotate_left
  · simp only [Act.put, sA, s0_, sS, i64_w, i32_w]
    rfl
  refine pure_ (i := 4) (N := some 9) (v := ?_) (a' := ?_) #[T,F,T,T,T,F,F,F,F,F,F,F,F,F,F,F,F,F,F,F,F,F,F,F,F,F,F,F,F,F,F,F,F,F,F,F,F,F,F,F,F,F,F,F,F] rfl rfl (by kernel_rfl) (fun _ _ _ h => h) (Or.inl ⟨by rfl, ?_⟩) ?_ ?_
  rotate_left
  · intro w'
    go_simp
    with_reducible rfl
  rotate_left
  · simp only [Act.put, sA, s0_, sS, i64_w, i32_w]
    rfl
  refine take_ (i := 5) (N := some 10) (v := ?_) (a' := ?_) #[T,F,T,T,T,T,F,F,F,F,F,F,F,F,F,F,F,F,F,F,F,F,F,F,F,F,F,F,F,F,F,F,F,F,F,F,F,F,F,F,F,F,F,F,F] rfl rfl (by kernel_rfl) (fun _ _ _ h => h) (Or.inl ⟨by rfl, ?_⟩) hHeld ?_ ?_
  rotate_left
  · intro w' s0
    obtain ⟨s1, s2⟩ := s0
    go_simp
    with_reducible rfl
  rotate_left
  · simp only [Act.put, sA, s0_, sS, i64_w, i32_w]
    rfl
  refine one_ (i := 1) (N := some 6) #[T,T,T,T,T,T,F,F,F,F,F,F,F,F,F,F,F,F,F,F,F,F,F,F,F,F,F,F,F,F,F,F,F,F,F,F,F,F,F,F,F,F,F,F,F] rfl rfl (by kernel_rfl) (by decide) (fun K hK => ?_)
  refine goes_ Try.func23 (by kernel_rfl) rfl #[.pointer (some ⟨rb, 0, none⟩)] (by rfl) rfl rfl (by (try simp only [List.map_toArray, List.map_cons, List.map_nil]); first | done | rfl) ?_
  with_reducible refine (KS.out wd B0.out).mono ?_
  rintro e w' ⟨rfl, rfl⟩
  refine ⟨_, rfl, ?_⟩
  refine hK.out _ _ (by exact ⟨pw_cell_below B0.out h4, pw_cell_below B0.out h5⟩) (fun hHeld => ?_)
  clear hK K
  refine norm_ (a' := ?_) ?_ ?_
  rotate_left
  · show Act.put _ (some 6) _ = _
    simp only [Act.put, sA, s0_, sS, i64_w, i32_w]
    rfl
  refine pure_ (i := 6) (N := some 11) (v := ?_) (a' := ?_) #[T,T,T,T,T,T,T,F,F,F,F,F,F,F,F,F,F,F,F,F,F,F,F,F,F,F,F,F,F,F,F,F,F,F,F,F,F,F,F,F,F,F,F,F,F] rfl rfl (by kernel_rfl) (fun _ _ _ h => h) (Or.inl ⟨by rfl, ?_⟩) ?_ ?_
  rotate_left
  · intro w'
    go_simp
    with_reducible rfl
  rotate_left
  · simp only [Act.put, sA, s0_, sS, i64_w, i32_w]
    rfl
  refine pure_ (i := 7) (N := some 12) (v := ?_) (a' := ?_) #[T,T,T,T,T,T,T,T,F,F,F,F,F,F,F,F,F,F,F,F,F,F,F,F,F,F,F,F,F,F,F,F,F,F,F,F,F,F,F,F,F,F,F,F,F] rfl rfl (by kernel_rfl) (fun _ _ _ h => h) (Or.inl ⟨by rfl, ?_⟩) ?_ ?_
  rotate_left
  · intro w'
    go_simp
    with_reducible rfl
  rotate_left
  · simp only [Act.put, sA, s0_, sS, i64_w, i32_w]
    rfl
  refine pure_ (i := 8) (N := some 13) (v := ?_) (a' := ?_) #[T,T,T,T,T,T,T,T,T,F,F,F,F,F,F,F,F,F,F,F,F,F,F,F,F,F,F,F,F,F,F,F,F,F,F,F,F,F,F,F,F,F,F,F,F] rfl rfl (by kernel_rfl) (fun _ _ _ h => h) (Or.inl ⟨by rfl, ?_⟩) ?_ ?_
  rotate_left
  · intro w'
    go_simp
    with_reducible rfl
  rotate_left
  · simp only [Act.put, sA, s0_, sS, i64_w, i32_w]
    rfl
  refine pure_ (i := 10) (N := some 15) (v := ?_) (a' := ?_) #[T,T,T,T,T,T,T,T,T,F,T,F,F,F,F,F,F,F,F,F,F,F,F,F,F,F,F,F,F,F,F,F,F,F,F,F,F,F,F,F,F,F,F,F,F] rfl rfl (by kernel_rfl) (fun _ _ _ h => h) (Or.inl ⟨by rfl, ?_⟩) ?_ ?_
  rotate_left
  · intro w'
    go_simp
    with_reducible rfl
  rotate_left
  · simp only [Act.put, sA, s0_, sS, i64_w, i32_w]
    rfl
  refine pure_ (i := 11) (N := some 16) (v := ?_) (a' := ?_) #[T,T,T,T,T,T,T,T,T,F,T,T,F,F,F,F,F,F,F,F,F,F,F,F,F,F,F,F,F,F,F,F,F,F,F,F,F,F,F,F,F,F,F,F,F] rfl rfl (by kernel_rfl) (fun _ _ _ h => h) (Or.inl ⟨by rfl, ?_⟩) ?_ ?_
  rotate_left
  · intro w'
    go_simp
    with_reducible rfl
  rotate_left
  · simp only [Act.put, sA, s0_, sS, i64_w, i32_w]
    rfl
  refine pure_ (i := 12) (N := some 17) (v := ?_) (a' := ?_) #[T,T,T,T,T,T,T,T,T,F,T,T,T,F,F,F,F,F,F,F,F,F,F,F,F,F,F,F,F,F,F,F,F,F,F,F,F,F,F,F,F,F,F,F,F] rfl rfl (by kernel_rfl) (fun _ _ _ h => h) (Or.inl ⟨by rfl, ?_⟩) ?_ ?_
  rotate_left
  · intro w'
    go_simp
    with_reducible rfl
  rotate_left
  · simp only [Act.put, sA, s0_, sS, i64_w, i32_w]
    rfl
  refine take_ (i := 13) (N := some 18) (v := ?_) (a' := ?_) #[T,T,T,T,T,T,T,T,T,F,T,T,T,T,F,F,F,F,F,F,F,F,F,F,F,F,F,F,F,F,F,F,F,F,F,F,F,F,F,F,F,F,F,F,F] rfl rfl (by kernel_rfl) (fun _ _ _ h => h) (Or.inl ⟨by rfl, ?_⟩) hHeld ?_ ?_
  rotate_left
  · intro w' s0
    obtain ⟨s1, s2⟩ := s0
    go_simp
    with_reducible rfl
  rotate_left
  · simp only [Act.put, sA, s0_, sS, i64_w, i32_w]
    rfl
  refine one_ (i := 9) (N := some 14) #[T,T,T,T,T,T,T,T,T,T,T,T,T,T,F,F,F,F,F,F,F,F,F,F,F,F,F,F,F,F,F,F,F,F,F,F,F,F,F,F,F,F,F,F,F] rfl rfl (by kernel_rfl) (by decide) (fun K hK => ?_)
  refine goes_ Try.func22 (by kernel_rfl) rfl #[.pointer (some ⟨rb, 0, none⟩)] (by rfl) rfl rfl (by (try simp only [List.map_toArray, List.map_cons, List.map_nil]); first | done | rfl) ?_
  with_reducible refine (KE.out wd B0.out).mono ?_
  rintro e w2 ⟨A2, c2, rfl, hC2, hb2⟩
  refine ⟨_, rfl, ?_⟩
  have C2 := Aside0.mk hC2
  have B2 := Aside0.mk (B0.out.trans (hb2.mono B0.out.size))
  clear hC2 hb2 B0
  refine hK.out _ _ (by exact ⟨pw_cell_below B2.out h4, pw_cell_below B2.out h5⟩) (fun hHeld => ?_)
  clear hK K
  refine norm_ (a' := ?_) ?_ ?_
  rotate_left
  · show Act.put _ (some 14) _ = _
    simp only [Act.put, sA, s0_, sS, i64_w, i32_w]
    rfl
  refine one_ (i := 14) (N := some 19) #[T,T,T,T,T,T,T,T,T,T,T,T,T,T,T,F,F,F,F,F,F,F,F,F,F,F,F,F,F,F,F,F,F,F,F,F,F,F,F,F,F,F,F,F,F] rfl rfl (by kernel_rfl) (by decide) (fun K hK => ?_)
  refine goes_ Try.func46 (by kernel_rfl) rfl #[.slice A2 le.length c2, .slice Ae le.length ce] (by rfl) rfl rfl (by (try simp only [List.map_toArray, List.map_cons, List.map_nil]); first | done | rfl) ?_
  with_reducible refine (sameEvents_walk C2.out (Kd.C_below hE.out B2.out)).mono ?_
  rintro e w3 ⟨rfl, hd3⟩
  refine ⟨_, rfl, ?_⟩
  have B3 := Aside0.mk (B2.out.trans (hd3.below.mono B2.out.size))
  clear hd3 C2 B2
  refine hK.out _ _ (by exact ⟨pw_cell_below B3.out h4, pw_cell_below B3.out h5⟩) (fun hHeld => ?_)
  clear hK K
  refine norm_ (a' := ?_) ?_ ?_
  rotate_left
  · show Act.put _ (some 19) _ = _
    simp only [Act.put, sA, s0_, sS, i64_w, i32_w]
    rfl
  refine pure_ (i := 15) (N := some 20) (v := ?_) (a' := ?_) #[T,T,T,T,T,T,T,T,T,T,T,T,T,T,T,T,F,F,F,F,F,F,F,F,F,F,F,F,F,F,F,F,F,F,F,F,F,F,F,F,F,F,F,F,F] rfl rfl (by kernel_rfl) (fun _ _ _ h => h) (Or.inl ⟨by rfl, ?_⟩) ?_ ?_
  rotate_left
  · intro w'
    go_simp
    with_reducible rfl
  rotate_left
  · simp only [Act.put, sA, s0_, sS, i64_w, i32_w]
    rfl
  refine pure_ (i := 16) (N := some 21) (v := ?_) (a' := ?_) #[T,T,T,T,T,T,T,T,T,T,T,T,T,T,T,T,T,F,F,F,F,F,F,F,F,F,F,F,F,F,F,F,F,F,F,F,F,F,F,F,F,F,F,F,F] rfl rfl (by kernel_rfl) (fun _ _ _ h => h) (Or.inl ⟨by rfl, ?_⟩) ?_ ?_
  rotate_left
  · intro w'
    go_simp
    with_reducible rfl
  rotate_left
  · simp only [Act.put, sA, s0_, sS, i64_w, i32_w]
    rfl
  refine pure_ (i := 17) (N := some 22) (v := ?_) (a' := ?_) #[T,T,T,T,T,T,T,T,T,T,T,T,T,T,T,T,T,T,F,F,F,F,F,F,F,F,F,F,F,F,F,F,F,F,F,F,F,F,F,F,F,F,F,F,F] rfl rfl (by kernel_rfl) (fun _ _ _ h => h) (Or.inl ⟨by rfl, ?_⟩) ?_ ?_
  rotate_left
  · intro w'
    go_simp
    with_reducible rfl
  rotate_left
  · simp only [Act.put, sA, s0_, sS, i64_w, i32_w]
    rfl
  refine pure_ (i := 19) (N := some 24) (v := ?_) (a' := ?_) #[T,T,T,T,T,T,T,T,T,T,T,T,T,T,T,T,T,T,F,T,F,F,F,F,F,F,F,F,F,F,F,F,F,F,F,F,F,F,F,F,F,F,F,F,F] rfl rfl (by kernel_rfl) (fun _ _ _ h => h) (Or.inl ⟨by rfl, ?_⟩) ?_ ?_
  rotate_left
  · intro w'
    go_simp
    with_reducible rfl
  rotate_left
  · simp only [Act.put, sA, s0_, sS, i64_w, i32_w]
    rfl
  refine one_ (i := 18) (N := some 23) #[T,T,T,T,T,T,T,T,T,T,T,T,T,T,T,T,T,T,T,T,F,F,F,F,F,F,F,F,F,F,F,F,F,F,F,F,F,F,F,F,F,F,F,F,F] rfl rfl (by kernel_rfl) (by decide) (fun K hK => ?_)
  refine goes_ Try.func20 (by kernel_rfl) rfl #[.pointer (some ⟨rb, 0, none⟩)] (by rfl) rfl rfl (by (try simp only [List.map_toArray, List.map_cons, List.map_nil]); first | done | rfl) ?_
  with_reducible refine (K20.out w3 B3.out).mono ?_
  rintro e w4 ⟨A4, c4, rfl, hC, hb⟩
  refine ⟨_, rfl, ?_⟩
  have C4 := Aside0.mk hC
  have B4 := Aside0.mk (B3.out.trans (hb.mono B3.out.size))
  clear hC hb B3
  refine hK.out _ _ (by exact ⟨pw_cell_below B4.out h4, pw_cell_below B4.out h5⟩) (fun hHeld => ?_)
  clear hK K
  refine norm_ (a' := ?_) ?_ ?_
  rotate_left
  · show Act.put _ (some 23) _ = _
    simp only [Act.put, sA, s0_, sS, i64_w, i32_w]
    rfl
  refine one_ (i := 20) (N := some 25) #[T,T,T,T,T,T,T,T,T,T,T,T,T,T,T,T,T,T,T,T,T,F,F,F,F,F,F,F,F,F,F,F,F,F,F,F,F,F,F,F,F,F,F,F,F] rfl rfl (by kernel_rfl) (by decide) (fun K hK => ?_)
  refine goes_ Try.func44 (by kernel_rfl) rfl #[.pointer (some ⟨xb, 0, none⟩)] (by rfl) rfl rfl (by (try simp only [List.map_toArray, List.map_cons, List.map_nil]); first | done | rfl) ?_
  with_reducible refine (K44.out w4 B4.out).mono ?_
  rintro e w5 ⟨A5, c5, rfl, hC, hb⟩
  refine ⟨_, rfl, ?_⟩
  have C5 := Aside0.mk hC
  have D4 := Aside0.mk (Kd.C_below C4.out hb)
  have B5 := Aside0.mk (B4.out.trans (hb.mono B4.out.size))
  clear hC hb B4 C4
  refine hK.out _ _ (by exact ⟨pw_cell_below B5.out h4, pw_cell_below B5.out h5⟩) (fun hHeld => ?_)
  clear hK K
  refine norm_ (a' := ?_) ?_ ?_
  rotate_left
  · show Act.put _ (some 25) _ = _
    simp only [Act.put, sA, s0_, sS, i64_w, i32_w]
    rfl
  refine one_ (i := 21) (N := some 26) #[T,T,T,T,T,T,T,T,T,T,T,T,T,T,T,T,T,T,T,T,T,T,F,F,F,F,F,F,F,F,F,F,F,F,F,F,F,F,F,F,F,F,F,F,F] rfl rfl (by kernel_rfl) (by decide) (fun K hK => ?_)
  refine goes_ Try.func14 (by kernel_rfl) rfl #[.slice A4 l1.length c4, .slice A5 l1.length c5] (by rfl) rfl rfl (by (try simp only [List.map_toArray, List.map_cons, List.map_nil]); first | done | rfl) ?_
  with_reducible refine (sameInts_walk D4.out C5.out).mono ?_
  rintro e w6 ⟨rfl, hd⟩
  refine ⟨_, rfl, ?_⟩
  have B6 := Aside0.mk (B5.out.trans (hd.below.mono B5.out.size))
  clear hd C5 D4 B5
  refine hK.out _ _ (by exact ⟨pw_cell_below B6.out h4, pw_cell_below B6.out h5⟩) (fun hHeld => ?_)
  clear hK K
  refine norm_ (a' := ?_) ?_ ?_
  rotate_left
  · show Act.put _ (some 26) _ = _
    simp only [Act.put, sA, s0_, sS, i64_w, i32_w]
    rfl
  refine pure_ (i := 22) (N := some 27) (v := ?_) (a' := ?_) #[T,T,T,T,T,T,T,T,T,T,T,T,T,T,T,T,T,T,T,T,T,T,T,F,F,F,F,F,F,F,F,F,F,F,F,F,F,F,F,F,F,F,F,F,F] rfl rfl (by kernel_rfl) (fun _ _ _ h => h) (Or.inl ⟨by rfl, ?_⟩) ?_ ?_
  rotate_left
  · intro w'
    go_simp
    with_reducible rfl
  rotate_left
  · simp only [Act.put, sA, s0_, sS, i64_w, i32_w]
    rfl
  refine pure_ (i := 23) (N := some 28) (v := ?_) (a' := ?_) #[T,T,T,T,T,T,T,T,T,T,T,T,T,T,T,T,T,T,T,T,T,T,T,T,F,F,F,F,F,F,F,F,F,F,F,F,F,F,F,F,F,F,F,F,F] rfl rfl (by kernel_rfl) (fun _ _ _ h => h) (Or.inl ⟨by rfl, ?_⟩) ?_ ?_
  rotate_left
  · intro w'
    go_simp
    with_reducible rfl
  rotate_left
  · simp only [Act.put, sA, s0_, sS, i64_w, i32_w]
    rfl
  refine pure_ (i := 24) (N := some 29) (v := ?_) (a' := ?_) #[T,T,T,T,T,T,T,T,T,T,T,T,T,T,T,T,T,T,T,T,T,T,T,T,T,F,F,F,F,F,F,F,F,F,F,F,F,F,F,F,F,F,F,F,F] rfl rfl (by kernel_rfl) (fun _ _ _ h => h) (Or.inl ⟨by rfl, ?_⟩) ?_ ?_
  rotate_left
  · intro w'
    go_simp
    with_reducible rfl
  rotate_left
  · simp only [Act.put, sA, s0_, sS, i64_w, i32_w]
    rfl
  refine pure_ (i := 26) (N := some 31) (v := ?_) (a' := ?_) #[T,T,T,T,T,T,T,T,T,T,T,T,T,T,T,T,T,T,T,T,T,T,T,T,T,F,T,F,F,F,F,F,F,F,F,F,F,F,F,F,F,F,F,F,F] rfl rfl (by kernel_rfl) (fun _ _ _ h => h) (Or.inl ⟨by rfl, ?_⟩) ?_ ?_
  rotate_left
  · intro w'
    go_simp
    with_reducible rfl
  rotate_left
  · simp only [Act.put, sA, s0_, sS, i64_w, i32_w]
    rfl
  refine one_ (i := 25) (N := some 30) #[T,T,T,T,T,T,T,T,T,T,T,T,T,T,T,T,T,T,T,T,T,T,T,T,T,T,T,F,F,F,F,F,F,F,F,F,F,F,F,F,F,F,F,F,F] rfl rfl (by kernel_rfl) (by decide) (fun K hK => ?_)
  refine goes_ Try.func24 (by kernel_rfl) rfl #[.pointer (some ⟨rb, 0, none⟩)] (by rfl) rfl rfl (by (try simp only [List.map_toArray, List.map_cons, List.map_nil]); first | done | rfl) ?_
  with_reducible refine (K24.out w6 B6.out).mono ?_
  rintro e w7 ⟨A7, c7, rfl, hC, hb⟩
  refine ⟨_, rfl, ?_⟩
  have C7 := Aside0.mk hC
  have B7 := Aside0.mk (B6.out.trans (hb.mono B6.out.size))
  clear hC hb B6
  refine hK.out _ _ (by exact ⟨pw_cell_below B7.out h4, pw_cell_below B7.out h5⟩) (fun hHeld => ?_)
  clear hK K
  refine norm_ (a' := ?_) ?_ ?_
  rotate_left
  · show Act.put _ (some 30) _ = _
    simp only [Act.put, sA, s0_, sS, i64_w, i32_w]
    rfl
  refine one_ (i := 27) (N := some 32) #[T,T,T,T,T,T,T,T,T,T,T,T,T,T,T,T,T,T,T,T,T,T,T,T,T,T,T,T,F,F,F,F,F,F,F,F,F,F,F,F,F,F,F,F,F] rfl rfl (by kernel_rfl) (by decide) (fun K hK => ?_)
  refine goes_ Try.func47 (by kernel_rfl) rfl #[.pointer (some ⟨xb, 0, none⟩)] (by rfl) rfl rfl (by (try simp only [List.map_toArray, List.map_cons, List.map_nil]); first | done | rfl) ?_
  with_reducible refine (K47.out w7 B7.out).mono ?_
  rintro e w8 ⟨A8, c8, rfl, hC, hb⟩
  refine ⟨_, rfl, ?_⟩
  have C8 := Aside0.mk hC
  have D7 := Aside0.mk (Kd.C_below C7.out hb)
  have B8 := Aside0.mk (B7.out.trans (hb.mono B7.out.size))
  clear hC hb B7 C7
  refine hK.out _ _ (by exact ⟨pw_cell_below B8.out h4, pw_cell_below B8.out h5⟩) (fun hHeld => ?_)
  clear hK K
  refine norm_ (a' := ?_) ?_ ?_
  rotate_left
  · show Act.put _ (some 32) _ = _
    simp only [Act.put, sA, s0_, sS, i64_w, i32_w]
    rfl
  refine one_ (i := 28) (N := some 33) #[T,T,T,T,T,T,T,T,T,T,T,T,T,T,T,T,T,T,T,T,T,T,T,T,T,T,T,T,T,F,F,F,F,F,F,F,F,F,F,F,F,F,F,F,F] rfl rfl (by kernel_rfl) (by decide) (fun K hK => ?_)
  refine goes_ Try.func14 (by kernel_rfl) rfl #[.slice A7 l2.length c7, .slice A8 l2.length c8] (by rfl) rfl rfl (by (try simp only [List.map_toArray, List.map_cons, List.map_nil]); first | done | rfl) ?_
  with_reducible refine (sameInts_walk D7.out C8.out).mono ?_
  rintro e w9 ⟨rfl, hd⟩
  refine ⟨_, rfl, ?_⟩
  have B9 := Aside0.mk (B8.out.trans (hd.below.mono B8.out.size))
  clear hd C8 D7 B8
  refine hK.out _ _ (by exact ⟨pw_cell_below B9.out h4, pw_cell_below B9.out h5⟩) (fun hHeld => ?_)
  clear hK K
  refine norm_ (a' := ?_) ?_ ?_
  rotate_left
  · show Act.put _ (some 33) _ = _
    simp only [Act.put, sA, s0_, sS, i64_w, i32_w]
    rfl
  refine pure_ (i := 29) (N := some 34) (v := ?_) (a' := ?_) #[T,T,T,T,T,T,T,T,T,T,T,T,T,T,T,T,T,T,T,T,T,T,T,T,T,T,T,T,T,T,F,F,F,F,F,F,F,F,F,F,F,F,F,F,F] rfl rfl (by kernel_rfl) (fun _ _ _ h => h) (Or.inl ⟨by rfl, ?_⟩) ?_ ?_
  rotate_left
  · intro w'
    go_simp
    with_reducible rfl
  rotate_left
  · simp only [Act.put, sA, s0_, sS, i64_w, i32_w]
    rfl
  refine pure_ (i := 30) (N := some 35) (v := ?_) (a' := ?_) #[T,T,T,T,T,T,T,T,T,T,T,T,T,T,T,T,T,T,T,T,T,T,T,T,T,T,T,T,T,T,T,F,F,F,F,F,F,F,F,F,F,F,F,F,F] rfl rfl (by kernel_rfl) (fun _ _ _ h => h) (Or.inl ⟨by rfl, ?_⟩) ?_ ?_
  rotate_left
  · intro w'
    go_simp
    with_reducible rfl
  rotate_left
  · simp only [Act.put, sA, s0_, sS, i64_w, i32_w]
    rfl
  refine pure_ (i := 31) (N := some 36) (v := ?_) (a' := ?_) #[T,T,T,T,T,T,T,T,T,T,T,T,T,T,T,T,T,T,T,T,T,T,T,T,T,T,T,T,T,T,T,T,F,F,F,F,F,F,F,F,F,F,F,F,F] rfl rfl (by kernel_rfl) (fun _ _ _ h => h) (Or.inl ⟨by rfl, ?_⟩) ?_ ?_
  rotate_left
  · intro w'
    go_simp
    with_reducible rfl
  rotate_left
  · simp only [Act.put, sA, s0_, sS, i64_w, i32_w]
    rfl
  refine pure_ (i := 33) (N := some 38) (v := ?_) (a' := ?_) #[T,T,T,T,T,T,T,T,T,T,T,T,T,T,T,T,T,T,T,T,T,T,T,T,T,T,T,T,T,T,T,T,F,T,F,F,F,F,F,F,F,F,F,F,F] rfl rfl (by kernel_rfl) (fun _ _ _ h => h) (Or.inl ⟨by rfl, ?_⟩) ?_ ?_
  rotate_left
  · intro w'
    go_simp
    with_reducible rfl
  rotate_left
  · simp only [Act.put, sA, s0_, sS, i64_w, i32_w]
    rfl
  refine one_ (i := 32) (N := some 37) #[T,T,T,T,T,T,T,T,T,T,T,T,T,T,T,T,T,T,T,T,T,T,T,T,T,T,T,T,T,T,T,T,T,T,F,F,F,F,F,F,F,F,F,F,F] rfl rfl (by kernel_rfl) (by decide) (fun K hK => ?_)
  refine goes_ Try.func28 (by kernel_rfl) rfl #[.pointer (some ⟨rb, 0, none⟩)] (by rfl) rfl rfl (by (try simp only [List.map_toArray, List.map_cons, List.map_nil]); first | done | rfl) ?_
  with_reducible refine (K28.out w9 B9.out).mono ?_
  rintro e w10 ⟨rfl, hb⟩
  refine ⟨_, rfl, ?_⟩
  have B10 := Aside0.mk (B9.out.trans (hb.mono B9.out.size))
  clear hb B9
  refine hK.out _ _ (by exact ⟨pw_cell_below B10.out h4, pw_cell_below B10.out h5⟩) (fun hHeld => ?_)
  clear hK K
  refine norm_ (a' := ?_) ?_ ?_
  rotate_left
  · show Act.put _ (some 37) _ = _
    simp only [Act.put, sA, s0_, sS, i64_w, i32_w]
    rfl
  refine one_ (i := 34) (N := some 39) #[T,T,T,T,T,T,T,T,T,T,T,T,T,T,T,T,T,T,T,T,T,T,T,T,T,T,T,T,T,T,T,T,T,T,T,F,F,F,F,F,F,F,F,F,F] rfl rfl (by kernel_rfl) (by decide) (fun K hK => ?_)
  refine goes_ Try.func45 (by kernel_rfl) rfl #[.pointer (some ⟨xb, 0, none⟩)] (by rfl) rfl rfl (by (try simp only [List.map_toArray, List.map_cons, List.map_nil]); first | done | rfl) ?_
  with_reducible refine (K45.out w10 B10.out).mono ?_
  rintro e w11 ⟨rfl, hb⟩
  refine ⟨_, rfl, ?_⟩
  have B11 := Aside0.mk (B10.out.trans (hb.mono B10.out.size))
  clear hb B10
  refine hK.out _ _ (by exact ⟨pw_cell_below B11.out h4, pw_cell_below B11.out h5⟩) (fun hHeld => ?_)
  clear hK K
  refine norm_ (a' := ?_) ?_ ?_
  rotate_left
  · show Act.put _ (some 39) _ = _
    simp only [Act.put, sA, s0_, sS, i64_w, i32_w]
    rfl
  refine pure_ (i := 35) (N := some 40) (v := ?_) (a' := ?_) #[T,T,T,T,T,T,T,T,T,T,T,T,T,T,T,T,T,T,T,T,T,T,T,T,T,T,T,T,T,T,T,T,T,T,T,T,F,F,F,F,F,F,F,F,F] rfl rfl (by kernel_rfl) (fun _ _ _ h => h) (Or.inl ⟨by rfl, ?_⟩) ?_ ?_
  rotate_left
  · intro w'
    go_simp
    with_reducible rfl
  rotate_left
  · simp only [Act.put, sA, s0_, sS, i64_w, i32_w]
    rfl
  refine pure_ (i := 36) (N := some 41) (v := ?_) (a' := ?_) #[T,T,T,T,T,T,T,T,T,T,T,T,T,T,T,T,T,T,T,T,T,T,T,T,T,T,T,T,T,T,T,T,T,T,T,T,T,F,F,F,F,F,F,F,F] rfl rfl (by kernel_rfl) (fun _ _ _ h => h) (Or.inl ⟨by rfl, ?_⟩) ?_ ?_
  rotate_left
  · intro w'
    go_simp
    with_reducible rfl
  rotate_left
  · simp only [Act.put, sA, s0_, sS, i64_w, i32_w]
    rfl
  refine pure_ (i := 37) (N := some 42) (v := ?_) (a' := ?_) #[T,T,T,T,T,T,T,T,T,T,T,T,T,T,T,T,T,T,T,T,T,T,T,T,T,T,T,T,T,T,T,T,T,T,T,T,T,T,F,F,F,F,F,F,F] rfl rfl (by kernel_rfl) (fun _ _ _ h => h) (Or.inl ⟨by rfl, ?_⟩) ?_ ?_
  rotate_left
  · intro w'
    go_simp
    with_reducible rfl
  rotate_left
  · simp only [Act.put, sA, s0_, sS, i64_w, i32_w]
    rfl
  refine pure_ (i := 38) (N := some 43) (v := ?_) (a' := ?_) #[T,T,T,T,T,T,T,T,T,T,T,T,T,T,T,T,T,T,T,T,T,T,T,T,T,T,T,T,T,T,T,T,T,T,T,T,T,T,T,F,F,F,F,F,F] rfl rfl (by kernel_rfl) (fun _ _ _ h => h) (Or.inl ⟨by rfl, ?_⟩) ?_ ?_
  rotate_left
  · intro w'
    go_simp
    with_reducible rfl
  rotate_left
  · simp only [Act.put, sA, s0_, sS, i64_w, i32_w]
    rfl
  refine pure_ (i := 40) (N := some 45) (v := ?_) (a' := ?_) #[T,T,T,T,T,T,T,T,T,T,T,T,T,T,T,T,T,T,T,T,T,T,T,T,T,T,T,T,T,T,T,T,T,T,T,T,T,T,T,F,T,F,F,F,F] rfl rfl (by kernel_rfl) (fun _ _ _ h => h) (Or.inl ⟨by rfl, ?_⟩) ?_ ?_
  rotate_left
  · intro w'
    go_simp
    with_reducible rfl
  rotate_left
  · simp only [Act.put, sA, s0_, sS, i64_w, i32_w]
    rfl
  refine one_ (i := 39) (N := some 44) #[T,T,T,T,T,T,T,T,T,T,T,T,T,T,T,T,T,T,T,T,T,T,T,T,T,T,T,T,T,T,T,T,T,T,T,T,T,T,T,T,T,F,F,F,F] rfl rfl (by kernel_rfl) (by decide) (fun K hK => ?_)
  refine goes_ Try.func25 (by kernel_rfl) rfl #[.pointer (some ⟨rb, 0, none⟩)] (by rfl) rfl rfl (by (try simp only [List.map_toArray, List.map_cons, List.map_nil]); first | done | rfl) ?_
  with_reducible refine (K25.out w11 B11.out).mono ?_
  rintro e w12 ⟨rfl, hb⟩
  refine ⟨_, rfl, ?_⟩
  have B12 := Aside0.mk (B11.out.trans (hb.mono B11.out.size))
  clear hb B11
  refine hK.out _ _ (by exact ⟨pw_cell_below B12.out h4, pw_cell_below B12.out h5⟩) (fun hHeld => ?_)
  clear hK K
  refine norm_ (a' := ?_) ?_ ?_
  rotate_left
  · show Act.put _ (some 44) _ = _
    simp only [Act.put, sA, s0_, sS, i64_w, i32_w]
    rfl
  refine one_ (i := 41) (N := some 46) #[T,T,T,T,T,T,T,T,T,T,T,T,T,T,T,T,T,T,T,T,T,T,T,T,T,T,T,T,T,T,T,T,T,T,T,T,T,T,T,T,T,T,F,F,F] rfl rfl (by kernel_rfl) (by decide) (fun K hK => ?_)
  refine goes_ Try.func48 (by kernel_rfl) rfl #[.pointer (some ⟨xb, 0, none⟩)] (by rfl) rfl rfl (by (try simp only [List.map_toArray, List.map_cons, List.map_nil]); first | done | rfl) ?_
  with_reducible refine (K48.out w12 B12.out).mono ?_
  rintro e w13 ⟨rfl, hb⟩
  refine ⟨_, rfl, ?_⟩
  have B13 := Aside0.mk (B12.out.trans (hb.mono B12.out.size))
  clear hb B12
  refine hK.out _ _ (by exact ⟨pw_cell_below B13.out h4, pw_cell_below B13.out h5⟩) (fun hHeld => ?_)
  clear hK K
  refine norm_ (a' := ?_) ?_ ?_
  rotate_left
  · show Act.put _ (some 46) _ = _
    simp only [Act.put, sA, s0_, sS, i64_w, i32_w]
    rfl
  refine pure_ (i := 42) (N := some 47) (v := ?_) (a' := ?_) #[T,T,T,T,T,T,T,T,T,T,T,T,T,T,T,T,T,T,T,T,T,T,T,T,T,T,T,T,T,T,T,T,T,T,T,T,T,T,T,T,T,T,T,F,F] rfl rfl (by kernel_rfl) (fun _ _ _ h => h) (Or.inl ⟨by rfl, ?_⟩) ?_ ?_
  rotate_left
  · intro w'
    go_simp
    with_reducible rfl
  rotate_left
  · simp only [Act.put, sA, s0_, sS, i64_w, i32_w]
    rfl
  refine pure_ (i := 43) (N := some 48) (v := ?_) (a' := ?_) #[T,T,T,T,T,T,T,T,T,T,T,T,T,T,T,T,T,T,T,T,T,T,T,T,T,T,T,T,T,T,T,T,T,T,T,T,T,T,T,T,T,T,T,T,F] rfl rfl (by kernel_rfl) (fun _ _ _ h => h) (Or.inl ⟨by rfl, ?_⟩) ?_ ?_
  rotate_left
  · intro w'
    go_simp
    with_reducible rfl
  rotate_left
  · simp only [Act.put, sA, s0_, sS, i64_w, i32_w]
    rfl
  refine pure_ (i := 44) (N := some 4) (v := ?_) (a' := ?_) #[T,T,T,T,T,T,T,T,T,T,T,T,T,T,T,T,T,T,T,T,T,T,T,T,T,T,T,T,T,T,T,T,T,T,T,T,T,T,T,T,T,T,T,T,T] rfl rfl (by kernel_rfl) (fun _ _ _ h => h) (Or.inl ⟨by rfl, ?_⟩) ?_ ?_
  rotate_left
  · intro w'
    go_simp
    with_reducible rfl
  rotate_left
  · simp only [Act.put, sA, s0_, sS, i64_w, i32_w]
    rfl
  refine done_ (by kernel_rfl) ?_
  go_wp2
  go_ret
  exact ⟨rfl, B13.out⟩
/-! ### Both runners -/
structure Both (w1 : World) (P : Nat → Prop) (rb xb : Nat) (A : Option Addr) (c : Nat) (tv : Value) (tb : Nat → Nat) (cv : Nat → Value) (C : Nat → List (Option Nat)) (x y : X) (wr : World) : Prop where
  below : Below w1.heap.size w1 wr
  far : ∀ i, P i → i < xb
  st : ∃ f, RunX w1.heap.size f wr rb P x tv tb cv C ∧ DX w1.heap.size f wr xb y A c
section
variable {w1 : World} {P : Nat → Prop} {rb xb : Nat} {A : Option Addr} {c : Nat} {tv : Value} {tb : Nat → Nat} {cv : Nat → Value} {C : Nat → List (Option Nat)} {x y : X} {wr : World} {calls : List (List (List S26))}
theorem Both.box (h : Both w1 P rb xb A c tv tb cv C x y wr) {w' : World} (hb : Below wr.heap.size wr w') : Both w1 P rb xb A c tv tb cv C x y w' := by
  obtain ⟨f, h1, h2⟩ := h.st
  exact ⟨h.below.trans (hb.mono h.below.size), h.far, f, h1.below hb, h2.below hb⟩
theorem Both.cell (h : Both w1 P rb xb A c tv tb cv C x y wr) {p : Addr} {v : Value} (hc : w1.cell? p = some v) : wr.cell? p = some v := pw_cell_below h.below hc
theorem Both.hP (h : Both w1 P rb xb A c tv tb cv C x y wr) : ∀ i, P i → i < wr.heap.size := by
  obtain ⟨f, h1, h2⟩ := h.st
  intro i hi
  have := h.far i hi
  have := h2.size.2.1
  omega
theorem Both.fromP (h : Both w1 P rb xb A c tv tb cv C x y wr) {f : Owner} (hd : DX w1.heap.size f wr xb y A c) {x' : X} {w' : World} (k : AfterX w1.heap.size f wr rb P x' tv tb cv C w') : Both w1 P rb xb A c tv tb cv C x' y w' := by
  obtain ⟨f', g1, g2⟩ := k
  exact ⟨h.below.trans g2.below, h.far, f', g1, hd.mv g2 (fun e => by have := h.far _ e; omega)⟩
theorem Both.fromD (h : Both w1 P rb xb A c tv tb cv C x y wr) {f : Owner} (hr : RunX w1.heap.size f wr rb P x tv tb cv C) {y' : X} {w' : World} (k : DAfter w1.heap.size f wr xb y' A c w') : Both w1 P rb xb A c tv tb cv C x y' w' := by
  obtain ⟨f', g1, g2⟩ := k
  exact ⟨h.below.trans g2.below, h.far, f', hr.mv g2 (fun i hi e => by have := h.far _ hi; omega), g1⟩
theorem Both.pickP (h : Both w1 P rb xb A c tv tb cv C x y wr) (ok : x.Ok) (p : Int) :
    Calls Try.prog 21 #[.pointer (some ⟨rb, 0, none⟩), .int .i64 p] wr fun en w' => en = .returned (.tuple #[.int .i64 ((x.pick p).2.1 : Int), .bool (x.pick p).2.2]) ∧ Both w1 P rb xb A c tv tb cv C (x.pick p).1 y w' := by
  obtain ⟨f, h1, h2⟩ := h.st
  exact (pick_walk h1 ok h.hP p).mono (fun e w' k => ⟨k.1, h.fromP h2 k.2⟩)
theorem Both.pickD (h : Both w1 P rb xb A c tv tb cv C x y wr) (hC : (Kd.slice 22 (Kd.slice 26 k26)).C w1 A calls.length calls) (hI : Is calls y) (ok : y.Ok) (p : Int) :
    Calls Try.prog 30 #[.pointer (some ⟨xb, 0, none⟩), .int .i64 p] wr fun en w' => en = .returned (.tuple #[.int .i64 ((y.pick p).2.1 : Int), .bool (y.pick p).2.2]) ∧ Both w1 P rb xb A c tv tb cv C x (y.pick p).1 w' := by
  obtain ⟨f, h1, h2⟩ := h.st
  exact (docpick_walk h2 hI hC h.below ok p).mono (fun e w' k => ⟨k.1, h.fromD h1 k.2⟩)
theorem Both.runP (h : Both w1 P rb xb A c tv tb cv C x y wr) (ok : x.Ok) {A2 : Option Addr} {c2 : Nat} {l : List Int} (hC : (Kd.int .i64).C w1 A2 l.length l) :
    Calls Try.prog 19 #[.pointer (some ⟨rb, 0, none⟩), .slice A2 l.length c2] wr fun en w' => en = .returned (.int .i64 ((x.run l).2 : Int)) ∧ Both w1 P rb xb A c tv tb cv C (x.run l).1 y w' := by
  obtain ⟨f, h1, h2⟩ := h.st
  exact (run_walk h1 ok h.hP h.below hC).mono (fun e w' k => ⟨k.1, h.fromP h2 k.2⟩)
theorem Both.finP (h : Both w1 P rb xb A c tv tb cv C x y wr) (ok : x.Ok) (most : Int) (hm : most ≤ 9223372036854775807) :
    Calls Try.prog 26 #[.pointer (some ⟨rb, 0, none⟩), .int .i64 most] wr fun en w' => en = .returned (.bool (x.fin most.toNat).done) ∧ Both w1 P rb xb A c tv tb cv C (x.fin most.toNat) y w' := by
  obtain ⟨f, h1, h2⟩ := h.st
  exact (finish_walk h1 ok h.hP most hm).mono (fun e w' k => ⟨k.1, h.fromP h2 k.2⟩)
theorem Both.finD (h : Both w1 P rb xb A c tv tb cv C x y wr) (hC : (Kd.slice 22 (Kd.slice 26 k26)).C w1 A calls.length calls) (hI : Is calls y) (ok : y.Ok) (most : Int) (hm : most ≤ 9223372036854775807) :
    Calls Try.prog 31 #[.pointer (some ⟨xb, 0, none⟩), .int .i64 most] wr fun en w' => en = .returned (.bool (y.fin most.toNat).done) ∧ Both w1 P rb xb A c tv tb cv C x (y.fin most.toNat) w' := by
  obtain ⟨f, h1, h2⟩ := h.st
  exact (docfin_walk h2 hI hC h.below ok most hm).mono (fun e w' k => ⟨k.1, h.fromD h1 k.2⟩)
theorem Both.looks (h : Both w1 P rb xb A c tv tb cv C x x wr) (hC : (Kd.slice 22 (Kd.slice 26 k26)).C w1 A calls.length calls) (hI : Is calls x) (ok : x.Ok) :
    Calls Try.prog 32 #[.pointer (some ⟨rb, 0, none⟩), .pointer (some ⟨xb, 0, none⟩)] wr fun en w' => en = .returned (.bool true) ∧ Both w1 P rb xb A c tv tb cv C x x w' := by
  obtain ⟨f, h1, h2⟩ := h.st
  have h2' := h2
  obtain ⟨ev, ga, gt, gw, ca, ct, cw, hd⟩ := h2'
  obtain ⟨Ae, ce, rfl, _, hE⟩ := Kd.R_reads hd.erow
  have bl : ∀ {w' : World}, Below wr.heap.size wr w' → Below w1.heap.size w1 w' := fun hb => h.below.trans (hb.mono h.below.size)
  refine (looks_any (st := x.steps) (le := x.events) (l1 := ints x.ready) (l2 := ints x.waiting) (b1 := x.done) (b2 := x.stuck) hd.c4 hd.c5 ⟨hE⟩
    ⟨fun w' hb => stepsX (h1.below hb)⟩ ⟨fun w' hb => (eventsX (h1.below hb) ok).mono (fun _ _ k => k.gave)⟩ ⟨fun w' hb => (readyX (h1.below hb)).mono (fun _ _ k => k.gave)⟩ ⟨fun w' hb => (ready44 (hd.below hb) hI hC (bl hb) ok.n16).mono (fun _ _ k => k.gave)⟩
    ⟨fun w' hb => (waitingX (h1.below hb)).mono (fun _ _ k => k.gave)⟩ ⟨fun w' hb => (waiting47 (hd.below hb) ok.n16).mono (fun _ _ k => k.gave)⟩
    ⟨fun w' hb => doneX (h1.below hb)⟩ ⟨fun w' hb => (done45 (hd.below hb) hI hC (bl hb) ok.n16).mono (fun _ _ k => ⟨k.1, k.2.below⟩)⟩
    ⟨fun w' hb => stuckX (h1.below hb)⟩ ⟨fun w' hb => stuck48 (hd.below hb) hI hC (bl hb) ok.n16⟩).mono ?_
  rintro e w' ⟨he, hb⟩
  exact ⟨he, h.box hb⟩
end
/-- At its start. -/
theorem Both.start {w1 w3 w4 : World} {f3 : Owner} {rb xb : Nat} {A : Option Addr} {c : Nat} {tv : Value} {tb : Nat → Nat} {cv : Nat → Value} {C : Nat → List (Option Nat)} {calls : List (List (List S26))}
    (hx : RunX w1.heap.size f3 w3 rb (fun id => w1.heap.size ≤ id ∧ id < w3.heap.size) (xOf calls) tv tb cv C) (hb : Below w1.heap.size w1 w3) (h4 : Below w3.heap.size w3 w4) (hx3 : w3.heap.size ≤ xb)
    (hd : ∀ (B : Nat) (f : Owner), B ≤ w3.heap.size → ∃ ga gt gw ca ct cw, DocG B (owns f w3.heap.size xb) w4 xb (xOf calls) (.slice A calls.length c) (.slice none 0 0) ga gt gw ca ct cw) :
    Both w1 (fun id => w1.heap.size ≤ id ∧ id < w3.heap.size) rb xb A c tv tb cv C (xOf calls) (xOf calls) w4 := by
  obtain ⟨ga, gt, gw, ca, ct, cw, h⟩ := hd w1.heap.size f3 hb.size
  exact ⟨hb.trans (h4.mono hb.size), fun i hi => Nat.lt_of_lt_of_le hi.2 hx3, owns f3 w3.heap.size xb, hx.mv (o := fun _ => False) (Mv.of_below (B := w3.heap.size) h4 (Nat.le_refl _) (fun k hk => owns_old _ _ _ k hk)) (fun _ _ => id), _, ga, gt, gw, ca, ct, cw, h⟩
/-! ### A call of the list -/
abbrev kOp : Kd (Int × (Int × List Int)) := Kd.pair (Kd.int .i64) (Kd.pair (Kd.int .i64) (Kd.slice 3 (Kd.int .i64)))
theorem at_op {w : World} {A : Option Addr} {n : Nat} {xs : List (Int × (Int × List Int))} (h : Kd.C kOp w A n xs) (k : Nat) (hk : k < xs.length) :
    ∃ ad A2 c2 K N l, A = some ad ∧ xs[k]? = some (K, N, l) ∧ w.cell? (ad.add (k * 3)) = some (.int .i64 K) ∧ w.cell? ⟨(ad.add (k * 3)).block, (ad.add (k * 3)).off + 1, none⟩ = some (.int .i64 N) ∧ w.cell? ⟨(ad.add (k * 3)).block, (ad.add (k * 3)).off + 2, none⟩ = some (.slice A2 l.length c2) ∧ (Kd.int .i64).C w A2 l.length l := by
  obtain ⟨ad, c, e, _, hK, hc0⟩ := Kd.C_get h (0, 0, []) (k : Int) (by omega) (by have := h.1; omega)
  rw [Int.toNat_natCast] at hK hc0
  obtain ⟨⟨K, N, l⟩, hx⟩ : ∃ y, xs[k]? = some y := ⟨_, List.getElem?_eq_getElem hk⟩
  rw [List.getD_eq_getElem?_getD, hx] at hK
  have hc : ∀ j u, c[j]? = some u → w.cell? (ad.add (k * 3 + j)) = some u := hc0
  obtain ⟨_, _, rfl, rfl, ⟨_, _, rfl, rfl, ⟨A2, c2, rfl, l2, g2⟩⟩⟩ := hK
  exact ⟨ad, A2, c2, K, N, l, e, hx, hc 0 _ rfl, by rw [← add_field _ _ 1 (by omega)]; exact hc 1 _ rfl, by rw [← add_field _ _ 2 (by omega)]; exact hc 2 _ rfl, g2⟩
/-! ### The law -/
set_option maxHeartbeats 16000000 in
set_option maxRecDepth 100000 in
theorem law_Plays (W : World) (A0 : Option Addr) (c0 : Nat) (calls : List (List (List S26))) (A1 : Option Addr) (c1 : Nat) (ops : List (Int × (Int × List Int))) (hC0 : (Kd.slice 22 (Kd.slice 26 k26)).C W A0 calls.length calls) (hs : Sizes calls) (hC1 : kOp.C W A1 ops.length ops) (hN : ∀ o ∈ ops, o.2.1 ≤ 9223372036854775807) :
    Calls Try.prog 7 #[.slice A0 calls.length c0, .slice A1 ops.length c1] W fun e w' => e = .returned (.bool true) ∧ Below W.heap.size W w' := by
  have q36 := nil36
  have PW := Aside0.mk (fun (w : World) (hb : Below W.heap.size W w) => procs_walk (c := c0) (Kd.C_below hC0 hb) hs)
  have HC0 := Aside0.mk hC0
  have HC1 := Aside0.mk hC1
  have HS := Aside0.mk hs
  have HNN := Aside0.mk hN
  obtain ⟨n, hn⟩ : ∃ n, calls.length = n := ⟨_, rfl⟩
  have HNE := Aside0.mk hn
  rw [hn] at PW
  obtain ⟨m, hmo⟩ : ∃ m, ops.length = m := ⟨_, rfl⟩
  have HMO := Aside0.mk hmo
  have hm63 : m ≤ 9223372036854775807 := by rw [← hmo]; exact hC1.2.1
  cases hm : tooMuch calls with
  | true =>
    have DN : Aside0 (∀ w : World, Below W.heap.size W w → Calls Try.prog 29 #[.slice A0 n c0] w (Refused w)) := ⟨fun w hb => by
      unfold tooMuch at hm
      by_cases h16 : 16 < calls.length
      · rw [← hn]; exact docnew_many h16
      · rw [decide_eq_false h16, Bool.false_or, List.any_eq_true] at hm
        obtain ⟨cl, hcl, hd⟩ := hm
        obtain ⟨t, ht⟩ := List.getElem?_of_mem hcl
        have htl := (List.getElem?_eq_some_iff.1 ht).1
        rw [← hn]
        exact docnew_long (Kd.C_below hC0 hb) (by omega) ⟨t, htl, by rw [List.getD_eq_getElem?_getD, ht]; simpa using hd⟩⟩
    have HM := Aside0.mk hm
    rw [hn, hmo]
    clear hC0 hs hC1 hn hm hmo hN
    go_enter Try.func7, Try.ntmps7
    go_wp2_with (first
      | (go_at_call 9; refine (lives_walk _).mono ?_; rintro e w1 ⟨rfl, hb⟩; have B1 := Aside0.mk hb; clear hb)
      | (go_at_call 17; refine (PW.out _ B1.out).mono ?_; rintro e w2 ⟨v, rfl, ho⟩; have HO := Aside0.mk ho; have B2 : Aside0 (Below W.heap.size W w2) := ⟨by obtain ⟨_, _, _, _, h⟩ := ho; exact B1.out.trans (h.mono B1.out.size)⟩; clear ho)
      | (go_at_call 16; refine (new_no HO.out HM.out).mono ?_; rintro e w' ⟨rfl, rfl⟩)
      | (go_at_call 29; refine (DN.out _ B2.out).mono ?_; rintro e w' ⟨rfl, rfl⟩))
    go_ret
    exact ⟨rfl, B2.out⟩
  | false =>
    have HM := Aside0.mk hm
    have OK := Aside0.mk (xOf_ok hm hs)
    have DN : Aside0 (∀ w : World, Below W.heap.size W w → Calls Try.prog 29 #[.slice A0 n c0] w (DocNew w calls A0 c0)) := ⟨fun w hb => by
      unfold tooMuch at hm
      rw [Bool.or_eq_false_iff, decide_eq_false_iff_not, List.any_eq_false] at hm
      rw [← hn]
      refine docnew_yes (Kd.C_below hC0 hb) (by omega) (fun t ht hl => ?_)
      have h := hm.2 (calls.getD t []) (by rw [List.getD_eq_getElem?_getD, List.getElem?_eq_getElem ht]; exact List.getElem_mem ht)
      exact h (decide_eq_true hl)⟩
    rw [hn, hmo]
    clear hC0 hs hC1 hn hm hmo hN
    go_enter Try.func7, Try.ntmps7
    go_upto_region 9 with (first
      | (go_at_call 9; refine (lives_walk _).mono ?_; rintro e w1 ⟨rfl, hb⟩; have B1 := Aside0.mk hb; clear hb)
      | (go_at_call 17; refine (PW.out _ B1.out).mono ?_; rintro e w2 ⟨v, rfl, ho⟩; have HO := Aside0.mk ho; clear ho)
      | (go_at_call 16; refine (new_yes HO.out HM.out).mono ?_; rintro e w3 ⟨rb, f3, tv, tb, cv, C, rfl, hx, hb⟩; have HX := Aside0.mk hx; have B3 := Aside0.mk hb; clear hx hb)
      | (go_at_call 29; refine (DN.out _ (B1.out.trans (B3.out.mono B1.out.size))).mono ?_; rintro e w4 ⟨hb, xb, rfl, hxb, hd⟩; have B4 := Aside0.mk hb; have HXB := Aside0.mk hxb; have HD := Aside0.mk hd; clear hb hxb hd))
    have S0 := Aside0.mk (Both.start HX.out B3.out B4.out HXB.out HD.out)
    obtain ⟨P, hP⟩ : ∃ P : Nat → Prop, (fun id => w1.heap.size ≤ id ∧ id < w3.heap.size) = P := ⟨_, rfl⟩
    rw [hP] at S0
    have HCC : Aside0 ((Kd.slice 22 (Kd.slice 26 k26)).C w1 A0 calls.length calls) := ⟨Kd.C_below HC0.out B1.out⟩
    have HCO : Aside0 (kOp.C w1 A1 ops.length ops) := ⟨Kd.C_below HC1.out B1.out⟩
    have SS0 : Aside0 (∃ x, Is calls x ∧ x.Ok ∧ Both w1 P rb xb A0 c0 tv tb cv C x x w4) := ⟨_, Is.new calls, OK.out, S0.out⟩
    clear hP HX B3 B4 HXB HD S0 HO PW DN HM OK HC0 HC1
    go_wp2
    go_loopw [9] (fun idx wr => ∃ k : Nat, k ≤ m ∧ idx = .int .i64 (k : Int) ∧ Aside0 (∃ x, Is calls x ∧ x.Ok ∧ Both w1 P rb xb A0 c0 tv tb cv C x x wr)) (fun idx _ => m - (intOf idx).toNat)
    case atStart => exact ⟨0, Nat.zero_le _, rfl, SS0⟩
    case round =>
      obtain ⟨k, hk, rfl, SK⟩ := hrel
      obtain ⟨wo, rfl⟩ : ∃ wo, wo = wr := ⟨_, rfl⟩
      obtain ⟨x, hI, hOK, hB⟩ := SK.out
      have SX := Aside0.mk hB
      have HI := Aside0.mk hI
      have XOK := Aside0.mk hOK
      clear SK hB hI hOK
      by_cases hlt : k < m
      · obtain ⟨ad, A2, c2, K, N, l, ea, hx, z0, z1, z2, Cl⟩ := at_op HCO.out k (by have := HMO.out; omega)
        have hN63 : N ≤ 9223372036854775807 := HNN.out _ (List.mem_of_getElem? hx)
        subst ea
        have z1 := Aside0.mk z1
        have z2 := Aside0.mk z2
        have CL := Aside0.mk Cl
        have y0 := SX.out.cell z0
        have y1 := SX.out.cell z1.out
        have y2 := SX.out.cell z2.out
        have HN63 := Aside0.mk hN63
        have ix : decide ((k : Int) < (m : Int)) = true := decide_eq_true (by omega)
        clear hx z0 Cl hN63
        by_cases e1 : K = 1
        · subst e1
          have KP := Aside0.mk (SX.out.pickP XOK.out N)
          have KD := Aside0.mk (fun (w5 : World) (h : Both w1 P rb xb A0 c0 tv tb cv C (x.pick N).1 x w5) => h.pickD HCC.out HI.out XOK.out N)
          have XP := Aside0.mk (And.intro (HI.out.pick N) (pick_ok XOK.out N))
          obtain ⟨t, ht⟩ : ∃ t, (x.pick N).2.1 = t := ⟨_, rfl⟩
          obtain ⟨b, hb⟩ : ∃ b, (x.pick N).2.2 = b := ⟨_, rfl⟩
          rw [ht, hb] at KP KD
          clear ht hb y2
          go_wp2_with (first
            | (go_at_call 21; refine KP.out.mono ?_; rintro e w5 ⟨rfl, hh⟩; have A5 := Aside0.mk hh; have y1 := A5.out.cell z1.out; clear hh)
            | (go_at_call 30; refine (KD.out _ A5.out).mono ?_; rintro e w6 ⟨rfl, hh⟩; have A6 := Aside0.mk hh; clear hh))
          go_roundw
          case rel => exact ⟨k + 1, by omega, by go_num, ⟨_, XP.out.1, XP.out.2, A6.out⟩⟩
          case measure => simp [intOf]; omega
        · have g1 : (K == 1) = false := by simpa using e1
          by_cases e2 : K = 2
          · subst e2
            obtain ⟨ll, hll⟩ : ∃ ll, l.length = ll := ⟨_, rfl⟩
            have HLL := Aside0.mk hll
            have hl63 : ll ≤ 9223372036854775807 := by rw [← hll]; exact CL.out.2.1
            rw [hll] at y2 z2
            have SR0 : Aside0 (Both w1 P rb xb A0 c0 tv tb cv C x (x.run (l.take 0)).1 wo) := SX
            clear y1 hll SX
            go_wp2
            go_loopw [14, 15] (fun cn idx wr => ∃ j : Nat, j ≤ ll ∧ idx = .int .i64 (j : Int) ∧ cn = .int .i64 (((x.run (l.take j)).2 : Nat) : Int) ∧ Aside0 (Both w1 P rb xb A0 c0 tv tb cv C x (x.run (l.take j)).1 wr)) (fun _ idx _ => ll - (intOf idx).toNat)
            case atStart => exact ⟨0, Nat.zero_le _, rfl, rfl, SR0⟩
            case round =>
              clear SR0 y0 y2
              obtain ⟨j, hj, rfl, rfl, SJ⟩ := hrel
              have y2 := SJ.out.cell z2.out
              have hcnt : (x.run (l.take j)).2 ≤ j := Nat.le_trans (run_le _ _) (List.length_take_le _ _)
              obtain ⟨cnt, hc⟩ : ∃ cnt, (x.run (l.take j)).2 = cnt := ⟨_, rfl⟩
              have HCN := Aside0.mk hc
              rw [hc] at hcnt
              rw [hc]
              clear hc
              by_cases hltj : j < ll
              · obtain ⟨adl, eadl, cz⟩ := (Kd.reads_of_C (d := 0) CL.out).at_ (j : Int) (by omega) (by have := HLL.out; omega)
                simp only [Int.toNat_natCast, rdOf] at cz
                subst eadl
                obtain ⟨p, hp⟩ : ∃ p, l.getD j 0 = p := ⟨_, rfl⟩
                rw [hp] at cz
                have y3 := SJ.out.cell cz
                have hs : l.take (j + 1) = l.take j ++ [p] := by
                  have hkl : j < l.length := by have := HLL.out; omega
                  rw [List.take_succ_eq_append_getElem hkl, ← hp, List.getD_eq_getElem?_getD, List.getElem?_eq_getElem hkl]
                  rfl
                have HP1 := Aside0.mk (SJ.out.pickD HCC.out (HI.out.run (l.take j)) (run_ok XOK.out _) p)
                have HSS := Aside0.mk (show x.run (l.take (j + 1)) = _ by rw [hs, run_snoc])
                have jx : decide ((j : Int) < (ll : Int)) = true := decide_eq_true (by omega)
                clear hp hs cz
                cases hok : ((x.run (l.take j)).1.pick p).2.2 with
                | true =>
                  rw [hok] at HP1 HSS
                  clear hok
                  go_wp2_with (go_at_call 30; refine HP1.out.mono ?_; rintro e w5 ⟨rfl, hh⟩; have A5 := Aside0.mk hh; clear hh)
                  go_roundw
                  case rel => exact ⟨j + 1, by omega, by go_num, by rw [HSS.out, HCN.out]; rfl, ⟨by rw [HSS.out]; exact A5.out⟩⟩
                  case measure => simp [intOf]; omega
                | false =>
                  rw [hok] at HP1 HSS
                  clear hok
                  go_wp2_with (go_at_call 30; refine HP1.out.mono ?_; rintro e w5 ⟨rfl, hh⟩; have A5 := Aside0.mk hh; clear hh)
                  go_roundw
                  case rel => exact ⟨j + 1, by omega, by go_num, by rw [HSS.out, HCN.out]; rfl, ⟨by rw [HSS.out]; exact A5.out⟩⟩
                  case measure => simp [intOf]; omega
              · have hjl : j = ll := by omega
                subst hjl
                have jx : decide ((j : Int) < (j : Int)) = false := decide_eq_false (by omega)
                have SE : Aside0 (Both w1 P rb xb A0 c0 tv tb cv C x (x.run l).1 wr ∧ (x.run l).2 = cnt) := ⟨by
                  have e : l.take j = l := by rw [← HLL.out, List.take_length]
                  have h1 := SJ.out
                  have h2 := HCN.out
                  rw [e] at h1 h2
                  exact ⟨h1, h2⟩⟩
                have KR := Aside0.mk (SE.out.1.runP (c2 := c2) XOK.out CL.out)
                rw [SE.out.2, HLL.out] at KR
                have XP := Aside0.mk (And.intro (HI.out.run l) (run_ok XOK.out l))
                clear SJ HCN
                go_wp2_with (go_at_call 19; refine KR.out.mono ?_; rintro e w5 ⟨rfl, hh⟩; have A5 := Aside0.mk hh; clear hh)
                go_roundw
                case rel => exact ⟨k + 1, by omega, by go_num, ⟨_, XP.out.1, XP.out.2, A5.out⟩⟩
                case measure => simp [intOf]; omega
          · have g2 : (K == 2) = false := by simpa using e2
            by_cases e3 : K = 3
            · subst e3
              have KFP : Aside0 (∀ w', Both w1 P rb xb A0 c0 tv tb cv C x x w' → _) := ⟨fun w' h => h.finP XOK.out N HN63.out⟩
              have KFD : Aside0 (∀ w', Both w1 P rb xb A0 c0 tv tb cv C (x.fin N.toNat) x w' → _) := ⟨fun w' h => h.finD HCC.out HI.out XOK.out N HN63.out⟩
              have XP := Aside0.mk (And.intro (HI.out.fin N.toNat) (fin_ok XOK.out N.toNat))
              clear y2
              go_upto_region 31 with (fail)
              refine start_ (n := 15) (S := fun w' => w'.cell? ⟨(ad.add (k * 3)).block, (ad.add (k * 3)).off + 1, none⟩ = some (.int .i64 N)) (ds := []) #[F,F,F,F,F,F,F,F,F,F,F,F,F,F,F] (by kernel_rfl) rfl rfl (y1) (fun hHeld => ?_)
              generalize hwd : wo.drew = wd at hHeld ⊢
              have B0 : Aside0 (Both w1 P rb xb A0 c0 tv tb cv C x x wd) := ⟨by rw [← hwd]; exact SX.out.box (below_drew (Below.refl _ _))⟩
              clear hwd
              refine pure_ (i := 0) (N := some 127) (v := ?_) (a' := ?_) #[T,F,F,F,F,F,F,F,F,F,F,F,F,F,F] rfl rfl (by kernel_rfl) (fun _ _ _ h => h) (Or.inl ⟨by rfl, ?_⟩) ?_ ?_
              rotate_left
              · intro w'
                go_simp
                with_reducible rfl
              rotate_left
              · simp only [Act.put, sA, s0_, sS, i64_w, i32_w]
                rfl
              refine pure_ (i := 1) (N := some 128) (v := ?_) (a' := ?_) #[T,T,F,F,F,F,F,F,F,F,F,F,F,F,F] rfl rfl (by kernel_rfl) (fun _ _ _ h => h) (Or.inl ⟨by rfl, ?_⟩) ?_ ?_
              rotate_left
              · intro w'
                go_simp
                with_reducible rfl
              rotate_left
              · simp only [Act.put, sA, s0_, sS, i64_w, i32_w]
                rfl
              refine pure_ (i := 2) (N := some 129) (v := ?_) (a' := ?_) #[T,T,T,F,F,F,F,F,F,F,F,F,F,F,F] rfl rfl (by kernel_rfl) (fun _ _ _ h => h) (Or.inl ⟨by rfl, ?_⟩) ?_ ?_
              rotate_left
              · intro w'
                go_simp
                with_reducible rfl
              rotate_left
              · simp only [Act.put, sA, s0_, sS, i64_w, i32_w]
                rfl
              refine pure_ (i := 3) (N := some 130) (v := ?_) (a' := ?_) #[T,T,T,T,F,F,F,F,F,F,F,F,F,F,F] rfl rfl (by kernel_rfl) (fun _ _ _ h => h) (Or.inl ⟨by rfl, ?_⟩) ?_ ?_
              rotate_left
              · intro w'
                go_simp
                with_reducible rfl
              rotate_left
              · simp only [Act.put, sA, s0_, sS, i64_w, i32_w]
                rfl
              refine pure_ (i := 4) (N := some 131) (v := ?_) (a' := ?_) #[T,T,T,T,T,F,F,F,F,F,F,F,F,F,F] rfl rfl (by kernel_rfl) (fun _ _ _ h => h) (Or.inl ⟨by rfl, ?_⟩) ?_ ?_
              rotate_left
              · intro w'
                go_simp
                with_reducible rfl
              rotate_left
              · simp only [Act.put, sA, s0_, sS, i64_w, i32_w]
                rfl
              refine take_ (i := 5) (N := some 132) (v := ?_) (a' := ?_) #[T,T,T,T,T,T,F,F,F,F,F,F,F,F,F] rfl rfl (by kernel_rfl) (fun _ _ _ h => h) (Or.inl ⟨by rfl, ?_⟩) hHeld ?_ ?_
              rotate_left
              · intro w' s0
                go_simp
                with_reducible rfl
              rotate_left
              · simp only [Act.put, sA, s0_, sS, i64_w, i32_w]
                rfl
              refine pure_ (i := 7) (N := some 134) (v := ?_) (a' := ?_) #[T,T,T,T,T,T,F,T,F,F,F,F,F,F,F] rfl rfl (by kernel_rfl) (fun _ _ _ h => h) (Or.inl ⟨by rfl, ?_⟩) ?_ ?_
              rotate_left
              · intro w'
                go_simp
                with_reducible rfl
              rotate_left
              · simp only [Act.put, sA, s0_, sS, i64_w, i32_w]
                rfl
              refine pure_ (i := 8) (N := some 135) (v := ?_) (a' := ?_) #[T,T,T,T,T,T,F,T,T,F,F,F,F,F,F] rfl rfl (by kernel_rfl) (fun _ _ _ h => h) (Or.inl ⟨by rfl, ?_⟩) ?_ ?_
              rotate_left
              · intro w'
                go_simp
                with_reducible rfl
              rotate_left
              · simp only [Act.put, sA, s0_, sS, i64_w, i32_w]
                rfl
              refine pure_ (i := 9) (N := some 136) (v := ?_) (a' := ?_) #[T,T,T,T,T,T,F,T,T,T,F,F,F,F,F] rfl rfl (by kernel_rfl) (fun _ _ _ h => h) (Or.inl ⟨by rfl, ?_⟩) ?_ ?_
              rotate_left
              · intro w'
                go_simp
                with_reducible rfl
              rotate_left
              · simp only [Act.put, sA, s0_, sS, i64_w, i32_w]
                rfl
              refine pure_ (i := 10) (N := some 137) (v := ?_) (a' := ?_) #[T,T,T,T,T,T,F,T,T,T,T,F,F,F,F] rfl rfl (by kernel_rfl) (fun _ _ _ h => h) (Or.inl ⟨by rfl, ?_⟩) ?_ ?_
              rotate_left
              · intro w'
                go_simp
                with_reducible rfl
              rotate_left
              · simp only [Act.put, sA, s0_, sS, i64_w, i32_w]
                rfl
              refine pure_ (i := 11) (N := some 138) (v := ?_) (a' := ?_) #[T,T,T,T,T,T,F,T,T,T,T,T,F,F,F] rfl rfl (by kernel_rfl) (fun _ _ _ h => h) (Or.inl ⟨by rfl, ?_⟩) ?_ ?_
              rotate_left
              · intro w'
                go_simp
                with_reducible rfl
              rotate_left
              · simp only [Act.put, sA, s0_, sS, i64_w, i32_w]
                rfl
              refine take_ (i := 12) (N := some 139) (v := ?_) (a' := ?_) #[T,T,T,T,T,T,F,T,T,T,T,T,T,F,F] rfl rfl (by kernel_rfl) (fun _ _ _ h => h) (Or.inl ⟨by rfl, ?_⟩) hHeld ?_ ?_
              rotate_left
              · intro w' s0
                go_simp
                with_reducible rfl
              rotate_left
              · simp only [Act.put, sA, s0_, sS, i64_w, i32_w]
                rfl
              refine one_ (i := 6) (N := some 133) #[T,T,T,T,T,T,T,T,T,T,T,T,T,F,F] rfl rfl (by kernel_rfl) (by decide) (fun K hK => ?_)
              refine goes_ Try.func26 (by kernel_rfl) rfl #[.pointer (some ⟨rb, 0, none⟩), .int .i64 N] (by rfl) rfl rfl (by (try simp only [List.map_toArray, List.map_cons, List.map_nil]); first | done | rfl) ?_
              with_reducible refine (KFP.out wd B0.out).mono ?_
              rintro e w6 ⟨rfl, hb⟩
              refine ⟨_, rfl, ?_⟩
              have B6 := Aside0.mk hb
              clear hb B0
              refine hK.out _ _ (by exact B6.out.cell z1.out) (fun hHeld => ?_)
              clear hK K
              refine norm_ (a' := ?_) ?_ ?_
              rotate_left
              · show Act.put _ (some 133) _ = _
                simp only [Act.put, sA, s0_, sS, i64_w, i32_w]
                rfl
              refine one_ (i := 13) (N := some 140) #[T,T,T,T,T,T,T,T,T,T,T,T,T,T,F] rfl rfl (by kernel_rfl) (by decide) (fun K hK => ?_)
              refine goes_ Try.func31 (by kernel_rfl) rfl #[.pointer (some ⟨xb, 0, none⟩), .int .i64 N] (by rfl) rfl rfl (by (try simp only [List.map_toArray, List.map_cons, List.map_nil]); first | done | rfl) ?_
              with_reducible refine (KFD.out w6 B6.out).mono ?_
              rintro e w7 ⟨rfl, hb⟩
              refine ⟨_, rfl, ?_⟩
              have B7 := Aside0.mk hb
              clear hb B6
              refine hK.out _ _ (by exact B7.out.cell z1.out) (fun hHeld => ?_)
              clear hK K
              refine norm_ (a' := ?_) ?_ ?_
              rotate_left
              · show Act.put _ (some 140) _ = _
                simp only [Act.put, sA, s0_, sS, i64_w, i32_w]
                rfl
              obtain ⟨bd, hbd⟩ : ∃ bd, (x.fin N.toNat).done = bd := ⟨_, rfl⟩
              rw [hbd]
              clear hbd
              refine pure_ (i := 14) (N := some 141) (v := ?_) (a' := ?_) #[T,T,T,T,T,T,T,T,T,T,T,T,T,T,T] rfl rfl (by kernel_rfl) (fun _ _ _ h => h) (Or.inl ⟨by rfl, ?_⟩) ?_ ?_
              rotate_left
              · intro w'
                go_simp
                with_reducible rfl
              rotate_left
              · simp only [Act.put, sA, s0_, sS, i64_w, i32_w]
                rfl
              refine done_ (by kernel_rfl) ?_
              go_wp2
              go_roundw
              case rel => exact ⟨k + 1, by omega, by go_num, ⟨_, XP.out.1, XP.out.2, B7.out⟩⟩
              case measure => simp [intOf]; omega
            · have g3 : (K == 3) = false := by simpa using e3
              have KL := Aside0.mk (SX.out.looks HCC.out HI.out XOK.out)
              clear y1 y2
              go_wp2_with (go_at_call 32; refine KL.out.mono ?_; rintro e w5 ⟨rfl, hh⟩; have B5 := Aside0.mk hh; clear hh)
              go_roundw
              case rel => exact ⟨k + 1, by omega, by go_num, ⟨_, HI.out, XOK.out, B5.out⟩⟩
              case measure => simp [intOf]; omega
      · have hkl : k = m := by omega
        subst hkl
        have KL := Aside0.mk (SX.out.looks HCC.out HI.out XOK.out)
        go_wp2_with (go_at_call 32; refine KL.out.mono ?_; rintro e w5 ⟨rfl, hh⟩; have B5 := Aside0.mk hh; clear hh)
        go_ret
        exact ⟨rfl, B1.out.trans (B5.out.below.mono B1.out.size)⟩
end Go.Proofs.Ytkigbgabnbjomaa.Sched
namespace Go.Proofs.Ytkigbgabnbjomaa.Main
open Go.Proofs.Ytkigbgabnbjomaa.Sched Go.Proofs.Ytkigbgabnbjomaa.PSchedPlays
open Go.RowKit Go.Proofs.YtkigbgabnbjomaaW.PrintWords Go.Proofs.YtkigbgabnbjomaaW.PrintLast Go.Proofs.YtkigbgabnbjomaaW.PrintMore
set_option linter.unusedVariables false
set_option linter.unusedSimpArgs false
theorem SchedPlays (W : World) (A0 : Option Addr) (c0 : Nat) (l0 : List (List (List (Bool × (Bool × (List Int)))))) (A1 : Option Addr) (c1 : Nat) (l1 : List (Int × (Int × (List Int)))) (hC0 : Kd.C (Kd.slice 22 (Kd.slice 26 (Kd.pair Kd.bool (Kd.pair Kd.bool (Kd.slice 3 (Kd.int .i64)))))) W A0 l0.length l0) (hc0 : l0.length ≤ c0) (hG0 : (fun l => l.length * 24 ≤ 140737488351232 ∧ l.length ≤ 9223372036854775807 ∧ ∀ x ∈ l, (fun l => l.length * 24 ≤ 140737488351232 ∧ l.length ≤ 9223372036854775807 ∧ ∀ x ∈ l, (fun l => l.length * 32 ≤ 140737488351232 ∧ l.length ≤ 9223372036854775807 ∧ ∀ x ∈ l, (fun x => (fun _ => True) x.1 ∧ (fun x => (fun _ => True) x.1 ∧ (fun l => l.length * 8 ≤ 140737488351232 ∧ l.length ≤ 9223372036854775807 ∧ ∀ x ∈ l, (fun x => (Lit.int .i64 x).wf = true) x) x.2) x.2) x) x) x) l0) (hC1 : Kd.C (Kd.pair (Kd.int .i64) (Kd.pair (Kd.int .i64) (Kd.slice 3 (Kd.int .i64)))) W A1 l1.length l1) (hc1 : l1.length ≤ c1) (hG1 : (fun l => l.length * 40 ≤ 140737488351232 ∧ l.length ≤ 9223372036854775807 ∧ ∀ x ∈ l, (fun x => (fun x => (Lit.int .i64 x).wf = true) x.1 ∧ (fun x => (fun x => (Lit.int .i64 x).wf = true) x.1 ∧ (fun l => l.length * 8 ≤ 140737488351232 ∧ l.length ≤ 9223372036854775807 ∧ ∀ x ∈ l, (fun x => (Lit.int .i64 x).wf = true) x) x.2) x.2) x) l1) :
    Calls Try.prog 7 #[.slice A0 l0.length c0, .slice A1 l1.length c1] W fun e w' => e = .returned (.bool true) ∧ Below W.heap.size W w' := by
  have h := law_Plays W A0 c0 (c26 l0) A1 c1 l1 (by rw [c26_length]; exact C_c26 hC0) (sizes_c26 hG0.1 (fun x hx => ⟨(hG0.2.2 x hx).1, fun y hy => ⟨((hG0.2.2 x hx).2.2 y hy).1, fun z hz => (((hG0.2.2 x hx).2.2 y hy).2.2 z hz).2.2.1⟩⟩)) hC1 (fun o ho => by
    have h1 := ((hG1.2.2 o ho).2).1
    simp [Lit.wf, IntKind.min, IntKind.max, IntKind.bits, IntKind.signed] at h1
    omega)
  rw [c26_length] at h
  exact h
end Go.Proofs.Ytkigbgabnbjomaa.Main
