/- Read, Fail, Image, Unsynced, Program.
   No condition. -/
import Derived.Test.YtnkbebdgkidbjaaFlB
import Derived.ArgAppend
import Derived.BigRegion
import Derived.Deep.QuietTactic
import Derived.BigQuiet
import Derived.Deep.RegionHeld3
import Derived.ChangeAlike
import Derived.RegionTactic
import Derived.Deep.DeepCutAuto
import Derived.Deep.CutBlock
import Derived.Deep.RegionLaw
import Derived.StillTailTactics
import Derived.WalkSpells
import Derived.Lib.SliceRun
import Derived.Laws.CopyRow
import Derived.Lib.SlBuf
import Derived.Lib.MakeNoZero
import Derived.Laws.BitsLemmas
import Derived.Lib.Bytes
import Derived.Lib.SlBytesConst
namespace Go.Proofs.Ytnkbebdgkidbjaa.Flash
open Go.Proofs.Ytnkbebdgkidbjaa.QFlashPlays
open Go.RowKit Go.Proofs.YtnkbebdgkidbjaaW.PrintWords Go.Proofs.YtnkbebdgkidbjaaW.PrintLast Go.Proofs.YtnkbebdgkidbjaaW.PrintMore
attribute [local go_sem] max2_int min2_int max_two min_two   -- for this text's walks alone
set_option linter.unusedVariables false
set_option linter.unusedSimpArgs false
set_option maxHeartbeats 4000000 in
set_option maxRecDepth 100000 in
theorem op_49 {B : Nat} {f : Owner} {w : World} {db : Nat} {d : Dv} (h : DevX B f w db d) (ok : d.Ok) (act : Dv → Dv) (HA : Aside0 (∀ w1, DevA B f w db (d.count 1) w1 → Calls Try.prog 49 #[] w1 (fun e w2 => e = .returned (.tuple #[]) ∧ DevA B f w db (act (d.count 1)) w2))) :
    Calls Try.prog 48 #[.pointer (some ⟨db, 0, none⟩), .int .i64 1, .func (.func 49) #[] #[]] w (fun e w' => e = .returned (.int .i64 (d.op 1 act).2) ∧ DevA B f w db (d.op 1 act).1 w') := by
  obtain ⟨im, imc, vu, vf, vw, hg⟩ := h
  have S1 : Aside0 (DevA B f w db (d.count 1) (w.setCell ⟨db, 8, none⟩ (.int .i64 (wrap64 (d.c 1 + 1)))).drew) := ⟨by
    obtain ⟨g1, g2⟩ := hg.setC 1 (by decide) (wrap64 (d.c 1 + 1))
    exact DevA.box ⟨f, ⟨im, imc, vu, vf, vw, g1⟩, g2⟩ (below_drew (Below.refl _ _))⟩
  have hfr := blk_frozen hg.blk 8
  have cc : w.cell? ⟨db, 8, none⟩ = some (.int .i64 (d.c 1)) := hg.at_ 8
  have FL := Aside0.mk (And.intro ok.fll ok.flk)
  have OPE : Aside0 (d.op 1 act = if d.fault 1 = 0 then (act (d.count 1), 0) else if d.fault 1 = 1 then ((d.count 1).flop, 5) else ((act (d.count 1)).flop, 5)) := ⟨rfl⟩
  obtain ⟨cv, hcv⟩ : ∃ cv, d.c 1 = cv := ⟨_, rfl⟩
  have HCV := Aside0.mk hcv
  rw [hcv] at S1 cc
  clear hg ok hcv
  go_enter Try.func48, Try.ntmps48
  go_upto_region 1 with (fail)
  refine start_ (n := 11) (S := fun w' => w'.cell? ⟨db, 8, none⟩ = some (.int .i64 cv)) (ds := [10]) #[F,F,F,F,F,F,F,F,F,F,F] (by kernel_rfl) rfl rfl (cc) (fun hHeld => ?_)
  refine pure_ (i := 0) (N := some 9) (v := ?_) (a' := ?_) #[T,F,F,F,F,F,F,F,F,F,F] rfl rfl (by kernel_rfl) (fun _ _ _ h => h) (Or.inl ⟨by rfl, ?_⟩) ?_ ?_
  rotate_left
  · intro w'
    go_simp
    with_reducible rfl
  rotate_left
  · simp only [Act.put, sA, s0_, sS, i64_w, i32_w]
    rfl
  refine pure_ (i := 1) (N := some 10) (v := ?_) (a' := ?_) #[T,T,F,F,F,F,F,F,F,F,F] rfl rfl (by kernel_rfl) (fun _ _ _ h => h) (Or.inl ⟨by rfl, ?_⟩) ?_ ?_
  rotate_left
  · intro w'
    go_simp
    with_reducible rfl
  rotate_left
  · simp only [Act.put, sA, s0_, sS, i64_w, i32_w]
    rfl
  refine pure_ (i := 2) (N := some 11) (v := ?_) (a' := ?_) #[T,T,T,F,F,F,F,F,F,F,F] rfl rfl (by kernel_rfl) (fun _ _ _ h => h) (Or.inl ⟨by rfl, ?_⟩) ?_ ?_
  rotate_left
  · intro w'
    go_simp
    with_reducible rfl
  rotate_left
  · simp only [Act.put, sA, s0_, sS, i64_w, i32_w]
    rfl
  refine pure_ (i := 3) (N := some 12) (v := ?_) (a' := ?_) #[T,T,T,T,F,F,F,F,F,F,F] rfl rfl (by kernel_rfl) (fun _ _ _ h => h) (Or.inl ⟨by rfl, ?_⟩) ?_ ?_
  rotate_left
  · intro w'
    go_simp
    with_reducible rfl
  rotate_left
  · simp only [Act.put, sA, s0_, sS, i64_w, i32_w]
    rfl
  refine pure_ (i := 4) (N := some 13) (v := ?_) (a' := ?_) #[T,T,T,T,T,F,F,F,F,F,F] rfl rfl (by kernel_rfl) (fun _ _ _ h => h) (Or.inl ⟨by rfl, ?_⟩) ?_ ?_
  rotate_left
  · intro w'
    go_simp
    with_reducible rfl
  rotate_left
  · simp only [Act.put, sA, s0_, sS, i64_w, i32_w]
    rfl
  refine take_ (i := 5) (N := some 14) (v := ?_) (a' := ?_) #[T,T,T,T,T,T,F,F,F,F,F] rfl rfl (by kernel_rfl) (fun _ _ _ h => h) (Or.inl ⟨by rfl, ?_⟩) hHeld ?_ ?_
  rotate_left
  · intro w' s0
    go_simp
    with_reducible rfl
  rotate_left
  · simp only [Act.put, sA, s0_, sS, i64_w, i32_w]
    rfl
  refine pure_ (i := 6) (N := some 15) (v := ?_) (a' := ?_) #[T,T,T,T,T,T,T,F,F,F,F] rfl rfl (by kernel_rfl) (fun _ _ _ h => h) (Or.inl ⟨by rfl, ?_⟩) ?_ ?_
  rotate_left
  · intro w'
    go_simp
    with_reducible rfl
  rotate_left
  · simp only [Act.put, sA, s0_, sS, i64_w, i32_w]
    rfl
  refine pure_ (i := 7) (N := some 16) (v := ?_) (a' := ?_) #[T,T,T,T,T,T,T,T,F,F,F] rfl rfl (by kernel_rfl) (fun _ _ _ h => h) (Or.inl ⟨by rfl, ?_⟩) ?_ ?_
  rotate_left
  · intro w'
    go_simp
    with_reducible rfl
  rotate_left
  · simp only [Act.put, sA, s0_, sS, i64_w, i32_w]
    rfl
  refine pure_ (i := 8) (N := some 17) (v := ?_) (a' := ?_) #[T,T,T,T,T,T,T,T,T,F,F] rfl rfl (by kernel_rfl) (fun _ _ _ h => h) (Or.inl ⟨by rfl, ?_⟩) ?_ ?_
  rotate_left
  · intro w'
    go_simp
    with_reducible rfl
  rotate_left
  · simp only [Act.put, sA, s0_, sS, i64_w, i32_w]
    rfl
  refine pure_ (i := 9) (N := some 18) (v := ?_) (a' := ?_) #[T,T,T,T,T,T,T,T,T,T,F] rfl rfl (by kernel_rfl) (fun _ _ _ h => h) (Or.inl ⟨by rfl, ?_⟩) ?_ ?_
  rotate_left
  · intro w'
    go_simp
    with_reducible rfl
  rotate_left
  · simp only [Act.put, sA, s0_, sS, i64_w, i32_w]
    rfl
  refine last_ (i := 10) (N := none) #[T,T,T,T,T,T,T,T,T,T,T] rfl rfl (by kernel_rfl) (by decide) (fun K hK => ?_)
  refine skip_ (w1 := ?_) (by rfl) rfl ?_ ?_
  rotate_left
  · go_simp
    rfl
  refine hK.out _ _ ?_
  clear hK K
  refine done_ (by kernel_rfl) ?_
  go_upto_region 2 with (fail)
  obtain ⟨w1, hw1⟩ : ∃ w1, (w.setCell ⟨db, 8, none⟩ (.int .i64 (wrap64 (cv + 1)))).drew = w1 := ⟨_, rfl⟩
  rw [hw1] at S1
  rw [hw1]
  clear hw1 cc hfr
  have GD : Aside0 (∃ Af cf, w1.cell? ⟨db, 6, none⟩ = some (.slice Af d.fl.length cf) ∧ k85.C w1 Af d.fl.length d.fl ∧ d.fl.length ≤ cf ∧ w1.cell? ⟨db, 8, none⟩ = some (.int .i64 (wrap64 (cv + 1)))) := ⟨by
    obtain ⟨f1, ⟨im1, imc1, vu1, vf1, vw1, g1⟩, m1⟩ := S1.out
    obtain ⟨Af, cf, ev, hle, hC⟩ := Kd.R_reads g1.fl
    subst ev
    refine ⟨Af, cf, g1.at_ 6, hC, hle, ?_⟩
    have e : (d.count 1).c 1 = wrap64 (cv + 1) := by rw [← HCV.out]; show (if (1 : Nat) = 1 then wrap64 (d.c 1 + 1) else d.c 1) = _; exact if_pos rfl
    rw [← e]
    exact g1.at_ 8⟩
  obtain ⟨Af, cf, c6, hC, hle, cc⟩ := GD.out
  have HFI : Aside0 (d.fault 1 = match findF d.fl 1 (wrap64 (cv + 1)) with | some f => f.f2 | none => 0) := ⟨by rw [← HCV.out]; rfl⟩
  obtain ⟨cn, hcn⟩ : ∃ cn, wrap64 (cv + 1) = cn := ⟨_, rfl⟩
  rw [hcn] at cc HFI
  have KF0 := fun (w' : World) (hb : Below w1.heap.size w1 w') => flash_faulty.calls (d.fl.length + 1) Af cf d.fl 1 cn _ _ _ _ w' (Kd.C_below hC hb) hle (faulty_eq d.fl 1 cn (Nat.lt_of_le_of_lt FL.out.1 (by decide)))
  obtain ⟨nf, hnf⟩ : ∃ nf, d.fl.length = nf := ⟨_, rfl⟩
  rw [hnf] at KF0 c6
  have HFD : Aside0 (∀ ft, findF d.fl 1 cn = some ft → ft.f2 = 1 ∨ ft.f2 = 2) := ⟨fun ft hF => FL.out.2 ft (List.mem_of_find?_eq_some hF)⟩
  clear GD hC hle hcn hnf FL
  cases hfind : findF d.fl 1 cn with
  | none =>
    rw [hfind] at KF0 HFI
    have HQ : Aside0 (d.op 1 act = (act (d.count 1), 0)) := ⟨by rw [OPE.out, HFI.out]; exact if_pos rfl⟩
    have KF := Aside0.mk (show ∀ (w' : World), Below w1.heap.size w1 w' → Calls Try.prog 67 #[.slice Af nf cf, .int .i64 1, .int .i64 cn] w' fun e w'_1 => e = .returned (.tuple #[.agg #[.int .i64 0, .int .i64 0, .int .i64 0], .bool false]) ∧ Below w'.heap.size w' w'_1 from KF0)
    clear KF0 hfind
    refine start_ (n := 18) (S := fun w' => w'.cell? ⟨db, 6, none⟩ = some (.slice Af nf cf) ∧ w'.cell? ⟨db, 8, none⟩ = some (.int .i64 cn)) (ds := [16]) #[F,F,F,F,F,F,F,F,F,F,F,F,F,F,F,F,F,F] (by kernel_rfl) rfl rfl (⟨c6, cc⟩) (fun hHeld => ?_)
    generalize hwd : w1.drew = wd at hHeld ⊢
    have BD : Aside0 (Below w1.heap.size w1 wd) := ⟨by rw [← hwd]; exact below_drew (Below.refl _ _)⟩
    clear hwd c6 cc
    obtain ⟨c6, cc⟩ := hHeld
    have hHeld : wd.cell? ⟨db, 6, none⟩ = some (.slice Af nf cf) ∧ wd.cell? ⟨db, 8, none⟩ = some (.int .i64 cn) := ⟨c6, cc⟩
    refine pure_ (i := 0) (N := some 20) (v := ?_) (a' := ?_) #[T,F,F,F,F,F,F,F,F,F,F,F,F,F,F,F,F,F] rfl rfl (by kernel_rfl) (fun _ _ _ h => h) (Or.inl ⟨by rfl, ?_⟩) ?_ ?_
    rotate_left
    · intro w'
      go_simp
      with_reducible rfl
    rotate_left
    · simp only [Act.put, sA, s0_, sS, i64_w, i32_w]
      rfl
    refine pure_ (i := 1) (N := some 21) (v := ?_) (a' := ?_) #[T,T,F,F,F,F,F,F,F,F,F,F,F,F,F,F,F,F] rfl rfl (by kernel_rfl) (fun _ _ _ h => h) (Or.inl ⟨by rfl, ?_⟩) ?_ ?_
    rotate_left
    · intro w'
      go_simp
      with_reducible rfl
    rotate_left
    · simp only [Act.put, sA, s0_, sS, i64_w, i32_w]
      rfl
    refine pure_ (i := 2) (N := some 22) (v := ?_) (a' := ?_) #[T,T,T,F,F,F,F,F,F,F,F,F,F,F,F,F,F,F] rfl rfl (by kernel_rfl) (fun _ _ _ h => h) (Or.inl ⟨by rfl, ?_⟩) ?_ ?_
    rotate_left
    · intro w'
      go_simp
      with_reducible rfl
    rotate_left
    · simp only [Act.put, sA, s0_, sS, i64_w, i32_w]
      rfl
    refine take_ (i := 3) (N := some 23) (v := ?_) (a' := ?_) #[T,T,T,T,F,F,F,F,F,F,F,F,F,F,F,F,F,F] rfl rfl (by kernel_rfl) (fun _ _ _ h => h) (Or.inl ⟨by rfl, ?_⟩) hHeld ?_ ?_
    rotate_left
    · intro w' s0
      obtain ⟨s1, s2⟩ := s0
      go_simp
      with_reducible rfl
    rotate_left
    · simp only [Act.put, sA, s0_, sS, i64_w, i32_w]
      rfl
    refine pure_ (i := 4) (N := some 24) (v := ?_) (a' := ?_) #[T,T,T,T,T,F,F,F,F,F,F,F,F,F,F,F,F,F] rfl rfl (by kernel_rfl) (fun _ _ _ h => h) (Or.inl ⟨by rfl, ?_⟩) ?_ ?_
    rotate_left
    · intro w'
      go_simp
      with_reducible rfl
    rotate_left
    · simp only [Act.put, sA, s0_, sS, i64_w, i32_w]
      rfl
    refine pure_ (i := 5) (N := some 25) (v := ?_) (a' := ?_) #[T,T,T,T,T,T,F,F,F,F,F,F,F,F,F,F,F,F] rfl rfl (by kernel_rfl) (fun _ _ _ h => h) (Or.inl ⟨by rfl, ?_⟩) ?_ ?_
    rotate_left
    · intro w'
      go_simp
      with_reducible rfl
    rotate_left
    · simp only [Act.put, sA, s0_, sS, i64_w, i32_w]
      rfl
    refine pure_ (i := 6) (N := some 26) (v := ?_) (a' := ?_) #[T,T,T,T,T,T,T,F,F,F,F,F,F,F,F,F,F,F] rfl rfl (by kernel_rfl) (fun _ _ _ h => h) (Or.inl ⟨by rfl, ?_⟩) ?_ ?_
    rotate_left
    · intro w'
      go_simp
      with_reducible rfl
    rotate_left
    · simp only [Act.put, sA, s0_, sS, i64_w, i32_w]
      rfl
    refine pure_ (i := 7) (N := some 27) (v := ?_) (a' := ?_) #[T,T,T,T,T,T,T,T,F,F,F,F,F,F,F,F,F,F] rfl rfl (by kernel_rfl) (fun _ _ _ h => h) (Or.inl ⟨by rfl, ?_⟩) ?_ ?_
    rotate_left
    · intro w'
      go_simp
      with_reducible rfl
    rotate_left
    · simp only [Act.put, sA, s0_, sS, i64_w, i32_w]
      rfl
    refine pure_ (i := 8) (N := some 28) (v := ?_) (a' := ?_) #[T,T,T,T,T,T,T,T,T,F,F,F,F,F,F,F,F,F] rfl rfl (by kernel_rfl) (fun _ _ _ h => h) (Or.inl ⟨by rfl, ?_⟩) ?_ ?_
    rotate_left
    · intro w'
      go_simp
      with_reducible rfl
    rotate_left
    · simp only [Act.put, sA, s0_, sS, i64_w, i32_w]
      rfl
    refine pure_ (i := 9) (N := some 29) (v := ?_) (a' := ?_) #[T,T,T,T,T,T,T,T,T,T,F,F,F,F,F,F,F,F] rfl rfl (by kernel_rfl) (fun _ _ _ h => h) (Or.inl ⟨by rfl, ?_⟩) ?_ ?_
    rotate_left
    · intro w'
      go_simp
      with_reducible rfl
    rotate_left
    · simp only [Act.put, sA, s0_, sS, i64_w, i32_w]
      rfl
    refine take_ (i := 10) (N := some 30) (v := ?_) (a' := ?_) #[T,T,T,T,T,T,T,T,T,T,T,F,F,F,F,F,F,F] rfl rfl (by kernel_rfl) (fun _ _ _ h => h) (Or.inl ⟨by rfl, ?_⟩) hHeld ?_ ?_
    rotate_left
    · intro w' s0
      obtain ⟨s1, s2⟩ := s0
      go_simp
      with_reducible rfl
    rotate_left
    · simp only [Act.put, sA, s0_, sS, i64_w, i32_w]
      rfl
    refine join_ (σ := Nat) 2 #[T,T,T,T,T,T,T,T,T,T,T,T,T,T,T,T,F,F] (fun s_ => [(31, .tuple #[.agg #[.int .i64 0, .int .i64 0, .int .i64 0], .bool false]), (7, .pointer (some ⟨s_, 0, none⟩)), (19, .tuple #[.agg #[.int .i64 0, .int .i64 0, .int .i64 0], .bool false]), (32, .agg #[.int .i64 0, .int .i64 0, .int .i64 0]), (33, .bool false)]) (fun s_ w' => Below wd.heap.size wd w' ∧ wd.heap.size ≤ s_ ∧ w'.heap[s_]? = some (.cells #[.int .i64 0, .int .i64 0, .int .i64 0] 85 (0, 0))) ?_ ?_
    rotate_left
    · intro hCont
      refine two_ (i := 11) (j := 15) (Ni := some 31) (Nj := some 7) #[T,T,T,T,T,T,T,T,T,T,T,T,F,F,F,F,F,F] #[T,T,T,T,T,T,T,T,T,T,T,F,F,F,F,T,F,F] rfl rfl rfl rfl (by kernel_rfl) (by decide) (by decide) (fun K hK => ?_) (fun K hK => ?_)
      · skip
        refine goes_ Try.func67 (by kernel_rfl) rfl #[.slice Af nf cf, .int .i64 1, .int .i64 cn] (by rfl) rfl rfl (by (try simp only [List.map_toArray, List.map_cons, List.map_nil]); first | done | rfl) ?_
        with_reducible refine (KF.out wd BD.out).mono ?_
        rintro e wq ⟨rfl, hq⟩
        refine ⟨_, rfl, ?_⟩
        refine hK.out _ _ (by exact ⟨pw_cell_below hq c6, pw_cell_below hq cc⟩) (fun hHeld => ?_)
        clear hK K
        refine norm_ (a' := ?_) ?_ ?_
        rotate_left
        · show Act.put _ (some 31) _ = _
          simp only [Act.put, sA, s0_, sS, i64_w, i32_w]
          rfl
        refine pure_ (i := 12) (N := some 19) (v := ?_) (a' := ?_) #[T,T,T,T,T,T,T,T,T,T,T,T,T,F,F,F,F,F] rfl rfl (by kernel_rfl) (fun _ _ _ h => h) (Or.inl ⟨by rfl, ?_⟩) ?_ ?_
        rotate_left
        · intro w'
          go_simp
          with_reducible rfl
        rotate_left
        · simp only [Act.put, sA, s0_, sS, i64_w, i32_w]
          rfl
        refine pure_ (i := 13) (N := some 32) (v := ?_) (a' := ?_) #[T,T,T,T,T,T,T,T,T,T,T,T,T,T,F,F,F,F] rfl rfl (by kernel_rfl) (fun _ _ _ h => h) (Or.inl ⟨by rfl, ?_⟩) ?_ ?_
        rotate_left
        · intro w'
          go_simp
          with_reducible rfl
        rotate_left
        · simp only [Act.put, sA, s0_, sS, i64_w, i32_w]
          rfl
        refine pure_ (i := 14) (N := some 33) (v := ?_) (a' := ?_) #[T,T,T,T,T,T,T,T,T,T,T,T,T,T,T,F,F,F] rfl rfl (by kernel_rfl) (fun _ _ _ h => h) (Or.inl ⟨by rfl, ?_⟩) ?_ ?_
        rotate_left
        · intro w'
          go_simp
          with_reducible rfl
        rotate_left
        · simp only [Act.put, sA, s0_, sS, i64_w, i32_w]
          rfl
        refine one_ (i := 15) (N := some 7) #[T,T,T,T,T,T,T,T,T,T,T,T,T,T,T,T,F,F] rfl rfl (by kernel_rfl) (by decide) (fun K hK => ?_)
        refine value_ (w1 := ?_) (v := ?_) (by rfl) rfl ?_ ?_
        rotate_left 2
        · go_simp
          constructor
          · rfl
          · rfl
        refine hK.out _ _ (by exact ⟨pw_cell_below (hq.alloc hq.size _) c6, pw_cell_below (hq.alloc hq.size _) cc⟩) (fun hHeld => ?_)
        clear hK K
        refine norm_ (a' := ?_) ?_ ?_
        rotate_left
        · show Act.put _ (some 7) _ = _
          simp only [Act.put, sA, s0_, sS, i64_w, i32_w]
          rfl
        exact norm_ (by simp only [putAll, Act.put, sA, s0_, sS]) (hCont wq.heap.size _ ⟨hq.alloc hq.size _, hq.size, blk_new wq _⟩)
      · skip
        refine value_ (w1 := ?_) (v := ?_) (by rfl) rfl ?_ ?_
        rotate_left 2
        · go_simp
          constructor
          · rfl
          · rfl
        refine hK.out _ _ (by exact ⟨pw_cell_below (below_alloc (Below.refl wd.heap.size wd) (.cells #[.int .i64 0, .int .i64 0, .int .i64 0] 85)) c6, pw_cell_below (below_alloc (Below.refl wd.heap.size wd) (.cells #[.int .i64 0, .int .i64 0, .int .i64 0] 85)) cc⟩) (fun hHeld => ?_)
        clear hK K
        refine norm_ (a' := ?_) ?_ ?_
        rotate_left
        · show Act.put _ (some 7) _ = _
          simp only [Act.put, sA, s0_, sS, i64_w, i32_w]
          rfl
        refine one_ (i := 11) (N := some 31) #[T,T,T,T,T,T,T,T,T,T,T,T,F,F,F,T,F,F] rfl rfl (by kernel_rfl) (by decide) (fun K hK => ?_)
        refine goes_ Try.func67 (by kernel_rfl) rfl #[.slice Af nf cf, .int .i64 1, .int .i64 cn] (by rfl) rfl rfl (by (try simp only [List.map_toArray, List.map_cons, List.map_nil]); first | done | rfl) ?_
        with_reducible refine (KF.out (wd.alloc (.cells #[.int .i64 0, .int .i64 0, .int .i64 0] 85)) (BD.out.alloc BD.out.size _)).mono ?_
        rintro e wq ⟨rfl, hq⟩
        refine ⟨_, rfl, ?_⟩
        have hq2 := (below_alloc (Below.refl wd.heap.size wd) (.cells #[.int .i64 0, .int .i64 0, .int .i64 0] 85)).trans (hq.mono (by simp))
        refine hK.out _ _ (by exact ⟨pw_cell_below hq2 c6, pw_cell_below hq2 cc⟩) (fun hHeld => ?_)
        clear hK K
        refine norm_ (a' := ?_) ?_ ?_
        rotate_left
        · show Act.put _ (some 31) _ = _
          simp only [Act.put, sA, s0_, sS, i64_w, i32_w]
          rfl
        refine pure_ (i := 12) (N := some 19) (v := ?_) (a' := ?_) #[T,T,T,T,T,T,T,T,T,T,T,T,T,F,F,T,F,F] rfl rfl (by kernel_rfl) (fun _ _ _ h => h) (Or.inl ⟨by rfl, ?_⟩) ?_ ?_
        rotate_left
        · intro w'
          go_simp
          with_reducible rfl
        rotate_left
        · simp only [Act.put, sA, s0_, sS, i64_w, i32_w]
          rfl
        refine pure_ (i := 13) (N := some 32) (v := ?_) (a' := ?_) #[T,T,T,T,T,T,T,T,T,T,T,T,T,T,F,T,F,F] rfl rfl (by kernel_rfl) (fun _ _ _ h => h) (Or.inl ⟨by rfl, ?_⟩) ?_ ?_
        rotate_left
        · intro w'
          go_simp
          with_reducible rfl
        rotate_left
        · simp only [Act.put, sA, s0_, sS, i64_w, i32_w]
          rfl
        refine pure_ (i := 14) (N := some 33) (v := ?_) (a' := ?_) #[T,T,T,T,T,T,T,T,T,T,T,T,T,T,T,T,F,F] rfl rfl (by kernel_rfl) (fun _ _ _ h => h) (Or.inl ⟨by rfl, ?_⟩) ?_ ?_
        rotate_left
        · intro w'
          go_simp
          with_reducible rfl
        rotate_left
        · simp only [Act.put, sA, s0_, sS, i64_w, i32_w]
          rfl
        exact norm_ (by simp only [putAll, Act.put, sA, s0_, sS]) (hCont wd.heap.size _ ⟨hq2, Nat.le_refl _, blk_below (blk_new wd _) hq⟩)
    intro bx w3 hF
    obtain ⟨hF1, hF2, hF3⟩ := hF
    have B3 := Aside0.mk hF1
    have S3 := Aside0.mk hF2
    have K3 := Aside0.mk hF3
    have j0 := blk_cell hF3 0
    have j1 := blk_cell hF3 1
    have j2 := blk_cell hF3 2
    have l0 := blk_frozen hF3 0
    have l1 := blk_frozen hF3 1
    have l2 := blk_frozen hF3 2
    clear hF1 hF2 hF3
    refine norm_ (a' := ?_) ?_ ?_
    rotate_left
    · simp only [putAll, Act.put, sA, s0_, sS]
      rfl
    refine last_ (i := 16) (N := none) #[T,T,T,T,T,T,T,T,T,T,T,T,T,T,T,T,T,F] rfl rfl (by kernel_rfl) (by decide) (fun K hK => ?_)
    refine skip_ (w1 := ?_) (by rfl) rfl ?_ ?_
    rotate_left
    · go_simp
      rfl
    refine hK.out _ _ ?_
    clear hK K
    refine pure_ (i := 17) (N := some 8) (v := ?_) (a' := ?_) #[T,T,T,T,T,T,T,T,T,T,T,T,T,T,T,T,T,T] rfl rfl (by kernel_rfl) (fun _ _ _ h => h) (Or.inl ⟨by rfl, ?_⟩) ?_ ?_
    rotate_left
    · intro w'
      go_simp
      with_reducible rfl
    rotate_left
    · simp only [Act.put, sA, s0_, sS, i64_w, i32_w]
      rfl
    refine done_ (by kernel_rfl) ?_
    obtain ⟨w4, hw4⟩ : ∃ w4, ((w3.setCell ⟨bx, 0, none⟩ (.int .i64 0)).setCell ⟨bx, 1, none⟩ (.int .i64 0)).setCell ⟨bx, 2, none⟩ (.int .i64 0) = w4 := ⟨_, rfl⟩
    rw [hw4]
    have S4 := Aside0.mk (S1.out.box (show Below w1.heap.size w1 w4 by rw [← hw4]; exact below3 (BD.out.trans (B3.out.mono BD.out.size)) (Nat.le_trans BD.out.size S3.out) _ _ _))
    clear hw4 c6 cc j0 j1 j2 l0 l1 l2
    go_wp2_with (go_at_call 49; refine (HA.out _ S4.out).mono ?_; rintro e w5 ⟨rfl, h5⟩; have S5 := Aside0.mk h5; clear h5)
    go_ret
    exact ⟨by rw [HQ.out]; rfl, by rw [HQ.out]; exact S5.out⟩
  | some ft =>
    rw [hfind] at KF0 HFI
    have HK := HFD.out ft hfind
    have HFK : Aside0 (d.fault 1 = ft.f2) := HFI
    have KF1 : ∀ (w' : World), Below w1.heap.size w1 w' → Calls Try.prog 67 #[.slice Af nf cf, .int .i64 1, .int .i64 cn] w' fun e w'_1 => e = .returned (.tuple #[.agg #[.int .i64 ft.f0, .int .i64 ft.f1, .int .i64 ft.f2], .bool true]) ∧ Below w'.heap.size w' w'_1 := KF0
    obtain ⟨g0, hg0⟩ : ∃ g0, ft.f0 = g0 := ⟨_, rfl⟩
    obtain ⟨g1, hg1⟩ : ∃ g1, ft.f1 = g1 := ⟨_, rfl⟩
    obtain ⟨g2, hg2⟩ : ∃ g2, ft.f2 = g2 := ⟨_, rfl⟩
    rw [hg0, hg1, hg2] at KF1
    rw [hg2] at HK HFK
    have KF := Aside0.mk KF1
    have HKK := Aside0.mk HK
    clear KF0 KF1 hfind hg0 hg1 hg2 HFI HK
    refine start_ (n := 18) (S := fun w' => w'.cell? ⟨db, 6, none⟩ = some (.slice Af nf cf) ∧ w'.cell? ⟨db, 8, none⟩ = some (.int .i64 cn)) (ds := [16]) #[F,F,F,F,F,F,F,F,F,F,F,F,F,F,F,F,F,F] (by kernel_rfl) rfl rfl (⟨c6, cc⟩) (fun hHeld => ?_)
    generalize hwd : w1.drew = wd at hHeld ⊢
    have BD : Aside0 (Below w1.heap.size w1 wd) := ⟨by rw [← hwd]; exact below_drew (Below.refl _ _)⟩
    clear hwd c6 cc
    obtain ⟨c6, cc⟩ := hHeld
    have hHeld : wd.cell? ⟨db, 6, none⟩ = some (.slice Af nf cf) ∧ wd.cell? ⟨db, 8, none⟩ = some (.int .i64 cn) := ⟨c6, cc⟩
    refine pure_ (i := 0) (N := some 20) (v := ?_) (a' := ?_) #[T,F,F,F,F,F,F,F,F,F,F,F,F,F,F,F,F,F] rfl rfl (by kernel_rfl) (fun _ _ _ h => h) (Or.inl ⟨by rfl, ?_⟩) ?_ ?_
    rotate_left
    · intro w'
      go_simp
      with_reducible rfl
    rotate_left
    · simp only [Act.put, sA, s0_, sS, i64_w, i32_w]
      rfl
    refine pure_ (i := 1) (N := some 21) (v := ?_) (a' := ?_) #[T,T,F,F,F,F,F,F,F,F,F,F,F,F,F,F,F,F] rfl rfl (by kernel_rfl) (fun _ _ _ h => h) (Or.inl ⟨by rfl, ?_⟩) ?_ ?_
    rotate_left
    · intro w'
      go_simp
      with_reducible rfl
    rotate_left
    · simp only [Act.put, sA, s0_, sS, i64_w, i32_w]
      rfl
    refine pure_ (i := 2) (N := some 22) (v := ?_) (a' := ?_) #[T,T,T,F,F,F,F,F,F,F,F,F,F,F,F,F,F,F] rfl rfl (by kernel_rfl) (fun _ _ _ h => h) (Or.inl ⟨by rfl, ?_⟩) ?_ ?_
    rotate_left
    · intro w'
      go_simp
      with_reducible rfl
    rotate_left
    · simp only [Act.put, sA, s0_, sS, i64_w, i32_w]
      rfl
    refine take_ (i := 3) (N := some 23) (v := ?_) (a' := ?_) #[T,T,T,T,F,F,F,F,F,F,F,F,F,F,F,F,F,F] rfl rfl (by kernel_rfl) (fun _ _ _ h => h) (Or.inl ⟨by rfl, ?_⟩) hHeld ?_ ?_
    rotate_left
    · intro w' s0
      obtain ⟨s1, s2⟩ := s0
      go_simp
      with_reducible rfl
    rotate_left
    · simp only [Act.put, sA, s0_, sS, i64_w, i32_w]
      rfl
    refine pure_ (i := 4) (N := some 24) (v := ?_) (a' := ?_) #[T,T,T,T,T,F,F,F,F,F,F,F,F,F,F,F,F,F] rfl rfl (by kernel_rfl) (fun _ _ _ h => h) (Or.inl ⟨by rfl, ?_⟩) ?_ ?_
    rotate_left
    · intro w'
      go_simp
      with_reducible rfl
    rotate_left
    · simp only [Act.put, sA, s0_, sS, i64_w, i32_w]
      rfl
    refine pure_ (i := 5) (N := some 25) (v := ?_) (a' := ?_) #[T,T,T,T,T,T,F,F,F,F,F,F,F,F,F,F,F,F] rfl rfl (by kernel_rfl) (fun _ _ _ h => h) (Or.inl ⟨by rfl, ?_⟩) ?_ ?_
    rotate_left
    · intro w'
      go_simp
      with_reducible rfl
    rotate_left
    · simp only [Act.put, sA, s0_, sS, i64_w, i32_w]
      rfl
    refine pure_ (i := 6) (N := some 26) (v := ?_) (a' := ?_) #[T,T,T,T,T,T,T,F,F,F,F,F,F,F,F,F,F,F] rfl rfl (by kernel_rfl) (fun _ _ _ h => h) (Or.inl ⟨by rfl, ?_⟩) ?_ ?_
    rotate_left
    · intro w'
      go_simp
      with_reducible rfl
    rotate_left
    · simp only [Act.put, sA, s0_, sS, i64_w, i32_w]
      rfl
    refine pure_ (i := 7) (N := some 27) (v := ?_) (a' := ?_) #[T,T,T,T,T,T,T,T,F,F,F,F,F,F,F,F,F,F] rfl rfl (by kernel_rfl) (fun _ _ _ h => h) (Or.inl ⟨by rfl, ?_⟩) ?_ ?_
    rotate_left
    · intro w'
      go_simp
      with_reducible rfl
    rotate_left
    · simp only [Act.put, sA, s0_, sS, i64_w, i32_w]
      rfl
    refine pure_ (i := 8) (N := some 28) (v := ?_) (a' := ?_) #[T,T,T,T,T,T,T,T,T,F,F,F,F,F,F,F,F,F] rfl rfl (by kernel_rfl) (fun _ _ _ h => h) (Or.inl ⟨by rfl, ?_⟩) ?_ ?_
    rotate_left
    · intro w'
      go_simp
      with_reducible rfl
    rotate_left
    · simp only [Act.put, sA, s0_, sS, i64_w, i32_w]
      rfl
    refine pure_ (i := 9) (N := some 29) (v := ?_) (a' := ?_) #[T,T,T,T,T,T,T,T,T,T,F,F,F,F,F,F,F,F] rfl rfl (by kernel_rfl) (fun _ _ _ h => h) (Or.inl ⟨by rfl, ?_⟩) ?_ ?_
    rotate_left
    · intro w'
      go_simp
      with_reducible rfl
    rotate_left
    · simp only [Act.put, sA, s0_, sS, i64_w, i32_w]
      rfl
    refine take_ (i := 10) (N := some 30) (v := ?_) (a' := ?_) #[T,T,T,T,T,T,T,T,T,T,T,F,F,F,F,F,F,F] rfl rfl (by kernel_rfl) (fun _ _ _ h => h) (Or.inl ⟨by rfl, ?_⟩) hHeld ?_ ?_
    rotate_left
    · intro w' s0
      obtain ⟨s1, s2⟩ := s0
      go_simp
      with_reducible rfl
    rotate_left
    · simp only [Act.put, sA, s0_, sS, i64_w, i32_w]
      rfl
    refine join_ (σ := Nat) 2 #[T,T,T,T,T,T,T,T,T,T,T,T,T,T,T,T,F,F] (fun s_ => [(31, .tuple #[.agg #[.int .i64 g0, .int .i64 g1, .int .i64 g2], .bool true]), (7, .pointer (some ⟨s_, 0, none⟩)), (19, .tuple #[.agg #[.int .i64 g0, .int .i64 g1, .int .i64 g2], .bool true]), (32, .agg #[.int .i64 g0, .int .i64 g1, .int .i64 g2]), (33, .bool true)]) (fun s_ w' => Below wd.heap.size wd w' ∧ wd.heap.size ≤ s_ ∧ w'.heap[s_]? = some (.cells #[.int .i64 0, .int .i64 0, .int .i64 0] 85 (0, 0))) ?_ ?_
    rotate_left
    · intro hCont
      refine two_ (i := 11) (j := 15) (Ni := some 31) (Nj := some 7) #[T,T,T,T,T,T,T,T,T,T,T,T,F,F,F,F,F,F] #[T,T,T,T,T,T,T,T,T,T,T,F,F,F,F,T,F,F] rfl rfl rfl rfl (by kernel_rfl) (by decide) (by decide) (fun K hK => ?_) (fun K hK => ?_)
      · skip
        refine goes_ Try.func67 (by kernel_rfl) rfl #[.slice Af nf cf, .int .i64 1, .int .i64 cn] (by rfl) rfl rfl (by (try simp only [List.map_toArray, List.map_cons, List.map_nil]); first | done | rfl) ?_
        with_reducible refine (KF.out wd BD.out).mono ?_
        rintro e wq ⟨rfl, hq⟩
        refine ⟨_, rfl, ?_⟩
        refine hK.out _ _ (by exact ⟨pw_cell_below hq c6, pw_cell_below hq cc⟩) (fun hHeld => ?_)
        clear hK K
        refine norm_ (a' := ?_) ?_ ?_
        rotate_left
        · show Act.put _ (some 31) _ = _
          simp only [Act.put, sA, s0_, sS, i64_w, i32_w]
          rfl
        refine pure_ (i := 12) (N := some 19) (v := ?_) (a' := ?_) #[T,T,T,T,T,T,T,T,T,T,T,T,T,F,F,F,F,F] rfl rfl (by kernel_rfl) (fun _ _ _ h => h) (Or.inl ⟨by rfl, ?_⟩) ?_ ?_
        rotate_left
        · intro w'
          go_simp
          with_reducible rfl
        rotate_left
        · simp only [Act.put, sA, s0_, sS, i64_w, i32_w]
          rfl
        refine pure_ (i := 13) (N := some 32) (v := ?_) (a' := ?_) #[T,T,T,T,T,T,T,T,T,T,T,T,T,T,F,F,F,F] rfl rfl (by kernel_rfl) (fun _ _ _ h => h) (Or.inl ⟨by rfl, ?_⟩) ?_ ?_
        rotate_left
        · intro w'
          go_simp
          with_reducible rfl
        rotate_left
        · simp only [Act.put, sA, s0_, sS, i64_w, i32_w]
          rfl
        refine pure_ (i := 14) (N := some 33) (v := ?_) (a' := ?_) #[T,T,T,T,T,T,T,T,T,T,T,T,T,T,T,F,F,F] rfl rfl (by kernel_rfl) (fun _ _ _ h => h) (Or.inl ⟨by rfl, ?_⟩) ?_ ?_
        rotate_left
        · intro w'
          go_simp
          with_reducible rfl
        rotate_left
        · simp only [Act.put, sA, s0_, sS, i64_w, i32_w]
          rfl
        refine one_ (i := 15) (N := some 7) #[T,T,T,T,T,T,T,T,T,T,T,T,T,T,T,T,F,F] rfl rfl (by kernel_rfl) (by decide) (fun K hK => ?_)
        refine value_ (w1 := ?_) (v := ?_) (by rfl) rfl ?_ ?_
        rotate_left 2
        · go_simp
          constructor
          · rfl
          · rfl
        refine hK.out _ _ (by exact ⟨pw_cell_below (hq.alloc hq.size _) c6, pw_cell_below (hq.alloc hq.size _) cc⟩) (fun hHeld => ?_)
        clear hK K
        refine norm_ (a' := ?_) ?_ ?_
        rotate_left
        · show Act.put _ (some 7) _ = _
          simp only [Act.put, sA, s0_, sS, i64_w, i32_w]
          rfl
        exact norm_ (by simp only [putAll, Act.put, sA, s0_, sS]) (hCont wq.heap.size _ ⟨hq.alloc hq.size _, hq.size, blk_new wq _⟩)
      · skip
        refine value_ (w1 := ?_) (v := ?_) (by rfl) rfl ?_ ?_
        rotate_left 2
        · go_simp
          constructor
          · rfl
          · rfl
        refine hK.out _ _ (by exact ⟨pw_cell_below (below_alloc (Below.refl wd.heap.size wd) (.cells #[.int .i64 0, .int .i64 0, .int .i64 0] 85)) c6, pw_cell_below (below_alloc (Below.refl wd.heap.size wd) (.cells #[.int .i64 0, .int .i64 0, .int .i64 0] 85)) cc⟩) (fun hHeld => ?_)
        clear hK K
        refine norm_ (a' := ?_) ?_ ?_
        rotate_left
        · show Act.put _ (some 7) _ = _
          simp only [Act.put, sA, s0_, sS, i64_w, i32_w]
          rfl
        refine one_ (i := 11) (N := some 31) #[T,T,T,T,T,T,T,T,T,T,T,T,F,F,F,T,F,F] rfl rfl (by kernel_rfl) (by decide) (fun K hK => ?_)
        refine goes_ Try.func67 (by kernel_rfl) rfl #[.slice Af nf cf, .int .i64 1, .int .i64 cn] (by rfl) rfl rfl (by (try simp only [List.map_toArray, List.map_cons, List.map_nil]); first | done | rfl) ?_
        with_reducible refine (KF.out (wd.alloc (.cells #[.int .i64 0, .int .i64 0, .int .i64 0] 85)) (BD.out.alloc BD.out.size _)).mono ?_
        rintro e wq ⟨rfl, hq⟩
        refine ⟨_, rfl, ?_⟩
        have hq2 := (below_alloc (Below.refl wd.heap.size wd) (.cells #[.int .i64 0, .int .i64 0, .int .i64 0] 85)).trans (hq.mono (by simp))
        refine hK.out _ _ (by exact ⟨pw_cell_below hq2 c6, pw_cell_below hq2 cc⟩) (fun hHeld => ?_)
        clear hK K
        refine norm_ (a' := ?_) ?_ ?_
        rotate_left
        · show Act.put _ (some 31) _ = _
          simp only [Act.put, sA, s0_, sS, i64_w, i32_w]
          rfl
        refine pure_ (i := 12) (N := some 19) (v := ?_) (a' := ?_) #[T,T,T,T,T,T,T,T,T,T,T,T,T,F,F,T,F,F] rfl rfl (by kernel_rfl) (fun _ _ _ h => h) (Or.inl ⟨by rfl, ?_⟩) ?_ ?_
        rotate_left
        · intro w'
          go_simp
          with_reducible rfl
        rotate_left
        · simp only [Act.put, sA, s0_, sS, i64_w, i32_w]
          rfl
        refine pure_ (i := 13) (N := some 32) (v := ?_) (a' := ?_) #[T,T,T,T,T,T,T,T,T,T,T,T,T,T,F,T,F,F] rfl rfl (by kernel_rfl) (fun _ _ _ h => h) (Or.inl ⟨by rfl, ?_⟩) ?_ ?_
        rotate_left
        · intro w'
          go_simp
          with_reducible rfl
        rotate_left
        · simp only [Act.put, sA, s0_, sS, i64_w, i32_w]
          rfl
        refine pure_ (i := 14) (N := some 33) (v := ?_) (a' := ?_) #[T,T,T,T,T,T,T,T,T,T,T,T,T,T,T,T,F,F] rfl rfl (by kernel_rfl) (fun _ _ _ h => h) (Or.inl ⟨by rfl, ?_⟩) ?_ ?_
        rotate_left
        · intro w'
          go_simp
          with_reducible rfl
        rotate_left
        · simp only [Act.put, sA, s0_, sS, i64_w, i32_w]
          rfl
        exact norm_ (by simp only [putAll, Act.put, sA, s0_, sS]) (hCont wd.heap.size _ ⟨hq2, Nat.le_refl _, blk_below (blk_new wd _) hq⟩)
    intro bx w3 hF
    obtain ⟨hF1, hF2, hF3⟩ := hF
    have B3 := Aside0.mk hF1
    have S3 := Aside0.mk hF2
    have K3 := Aside0.mk hF3
    have j0 := blk_cell hF3 0
    have j1 := blk_cell hF3 1
    have j2 := blk_cell hF3 2
    have l0 := blk_frozen hF3 0
    have l1 := blk_frozen hF3 1
    have l2 := blk_frozen hF3 2
    clear hF1 hF2 hF3
    refine norm_ (a' := ?_) ?_ ?_
    rotate_left
    · simp only [putAll, Act.put, sA, s0_, sS]
      rfl
    refine last_ (i := 16) (N := none) #[T,T,T,T,T,T,T,T,T,T,T,T,T,T,T,T,T,F] rfl rfl (by kernel_rfl) (by decide) (fun K hK => ?_)
    refine skip_ (w1 := ?_) (by rfl) rfl ?_ ?_
    rotate_left
    · go_simp
      rfl
    refine hK.out _ _ ?_
    clear hK K
    refine pure_ (i := 17) (N := some 8) (v := ?_) (a' := ?_) #[T,T,T,T,T,T,T,T,T,T,T,T,T,T,T,T,T,T] rfl rfl (by kernel_rfl) (fun _ _ _ h => h) (Or.inl ⟨by rfl, ?_⟩) ?_ ?_
    rotate_left
    · intro w'
      go_simp
      with_reducible rfl
    rotate_left
    · simp only [Act.put, sA, s0_, sS, i64_w, i32_w]
      rfl
    refine done_ (by kernel_rfl) ?_
    obtain ⟨w4, hw4⟩ : ∃ w4, ((w3.setCell ⟨bx, 0, none⟩ (.int .i64 g0)).setCell ⟨bx, 1, none⟩ (.int .i64 g1)).setCell ⟨bx, 2, none⟩ (.int .i64 g2) = w4 := ⟨_, rfl⟩
    rw [hw4]
    have S4 := Aside0.mk (S1.out.box (show Below w1.heap.size w1 w4 by rw [← hw4]; exact below3 (BD.out.trans (B3.out.mono BD.out.size)) (Nat.le_trans BD.out.size S3.out) _ _ _))
    have k2 : w4.cell? ⟨bx, 2, none⟩ = some (.int .i64 g2) := by rw [← hw4]; exact blk_cell (put3 K3.out _ _ _) 2
    clear hw4 c6 cc j0 j1 j2 l0 l1 l2
    rcases HKK.out with hk | hk
    · subst hk
      have HQ : Aside0 (d.op 1 act = ((d.count 1).flop, 5)) := ⟨by rw [OPE.out, HFK.out, if_neg (by decide)]; exact if_pos rfl⟩
      obtain ⟨g1, g2, g3⟩ := DevA.fail S4.out _ rfl
      have S6 := Aside0.mk g1
      obtain ⟨fa, hfa⟩ : ∃ fa, (d.count 1).failed = fa := ⟨_, rfl⟩
      rw [hfa] at S6 g2
      clear g1 hfa
      go_wp2
      go_ret
      exact ⟨by rw [HQ.out]; rfl, by rw [HQ.out]; exact S6.out⟩
    · subst hk
      have HQ : Aside0 (d.op 1 act = ((act (d.count 1)).flop, 5)) := ⟨by rw [OPE.out, HFK.out, if_neg (by decide)]; exact if_neg (by decide)⟩
      go_upto_region 5 with (go_at_call 49; refine (HA.out _ S4.out).mono ?_; rintro e w5 ⟨rfl, h5⟩; have S5 := Aside0.mk h5; clear h5)
      obtain ⟨g1, g2, g3⟩ := DevA.fail S5.out _ rfl
      have S6 := Aside0.mk g1
      obtain ⟨fa, hfa⟩ : ∃ fa, (act (d.count 1)).failed = fa := ⟨_, rfl⟩
      rw [hfa] at S6 g2
      clear g1 hfa k2
      go_wp2
      go_ret
      exact ⟨by rw [HQ.out]; rfl, by rw [HQ.out]; exact S6.out⟩
set_option maxHeartbeats 4000000 in
set_option maxRecDepth 100000 in
theorem op_62 {B : Nat} {f : Owner} {w : World} {db : Nat} {d : Dv} {bd bn bs : Addr} (h : DevX B f w db d) (ok : d.Ok) (act : Dv → Dv) (HA : Aside0 (∀ w1, DevA B f w db (d.count 2) w1 → Calls Try.prog 62 #[.pointer (some bd), .pointer (some bn), .pointer (some bs)] w1 (fun e w2 => e = .returned (.tuple #[]) ∧ DevA B f w db (act (d.count 2)) w2))) :
    Calls Try.prog 48 #[.pointer (some ⟨db, 0, none⟩), .int .i64 2, .func (.func 62) #[] #[.pointer (some bd), .pointer (some bn), .pointer (some bs)]] w (fun e w' => e = .returned (.int .i64 (d.op 2 act).2) ∧ DevA B f w db (d.op 2 act).1 w') := by
  obtain ⟨im, imc, vu, vf, vw, hg⟩ := h
  have S1 : Aside0 (DevA B f w db (d.count 2) (w.setCell ⟨db, 9, none⟩ (.int .i64 (wrap64 (d.c 2 + 1)))).drew) := ⟨by
    obtain ⟨g1, g2⟩ := hg.setC 2 (by decide) (wrap64 (d.c 2 + 1))
    exact DevA.box ⟨f, ⟨im, imc, vu, vf, vw, g1⟩, g2⟩ (below_drew (Below.refl _ _))⟩
  have hfr := blk_frozen hg.blk 9
  have cc : w.cell? ⟨db, 9, none⟩ = some (.int .i64 (d.c 2)) := hg.at_ 9
  have FL := Aside0.mk (And.intro ok.fll ok.flk)
  have OPE : Aside0 (d.op 2 act = if d.fault 2 = 0 then (act (d.count 2), 0) else if d.fault 2 = 1 then ((d.count 2).flop, 5) else ((act (d.count 2)).flop, 5)) := ⟨rfl⟩
  obtain ⟨cv, hcv⟩ : ∃ cv, d.c 2 = cv := ⟨_, rfl⟩
  have HCV := Aside0.mk hcv
  rw [hcv] at S1 cc
  clear hg ok hcv
  go_enter Try.func48, Try.ntmps48
  go_upto_region 1 with (fail)
  refine start_ (n := 11) (S := fun w' => w'.cell? ⟨db, 9, none⟩ = some (.int .i64 cv)) (ds := [10]) #[F,F,F,F,F,F,F,F,F,F,F] (by kernel_rfl) rfl rfl (cc) (fun hHeld => ?_)
  refine pure_ (i := 0) (N := some 9) (v := ?_) (a' := ?_) #[T,F,F,F,F,F,F,F,F,F,F] rfl rfl (by kernel_rfl) (fun _ _ _ h => h) (Or.inl ⟨by rfl, ?_⟩) ?_ ?_
  rotate_left
  · intro w'
    go_simp
    with_reducible rfl
  rotate_left
  · simp only [Act.put, sA, s0_, sS, i64_w, i32_w]
    rfl
  refine pure_ (i := 1) (N := some 10) (v := ?_) (a' := ?_) #[T,T,F,F,F,F,F,F,F,F,F] rfl rfl (by kernel_rfl) (fun _ _ _ h => h) (Or.inl ⟨by rfl, ?_⟩) ?_ ?_
  rotate_left
  · intro w'
    go_simp
    with_reducible rfl
  rotate_left
  · simp only [Act.put, sA, s0_, sS, i64_w, i32_w]
    rfl
  refine pure_ (i := 2) (N := some 11) (v := ?_) (a' := ?_) #[T,T,T,F,F,F,F,F,F,F,F] rfl rfl (by kernel_rfl) (fun _ _ _ h => h) (Or.inl ⟨by rfl, ?_⟩) ?_ ?_
  rotate_left
  · intro w'
    go_simp
    with_reducible rfl
  rotate_left
  · simp only [Act.put, sA, s0_, sS, i64_w, i32_w]
    rfl
  refine pure_ (i := 3) (N := some 12) (v := ?_) (a' := ?_) #[T,T,T,T,F,F,F,F,F,F,F] rfl rfl (by kernel_rfl) (fun _ _ _ h => h) (Or.inl ⟨by rfl, ?_⟩) ?_ ?_
  rotate_left
  · intro w'
    go_simp
    with_reducible rfl
  rotate_left
  · simp only [Act.put, sA, s0_, sS, i64_w, i32_w]
    rfl
  refine pure_ (i := 4) (N := some 13) (v := ?_) (a' := ?_) #[T,T,T,T,T,F,F,F,F,F,F] rfl rfl (by kernel_rfl) (fun _ _ _ h => h) (Or.inl ⟨by rfl, ?_⟩) ?_ ?_
  rotate_left
  · intro w'
    go_simp
    with_reducible rfl
  rotate_left
  · simp only [Act.put, sA, s0_, sS, i64_w, i32_w]
    rfl
  refine take_ (i := 5) (N := some 14) (v := ?_) (a' := ?_) #[T,T,T,T,T,T,F,F,F,F,F] rfl rfl (by kernel_rfl) (fun _ _ _ h => h) (Or.inl ⟨by rfl, ?_⟩) hHeld ?_ ?_
  rotate_left
  · intro w' s0
    go_simp
    with_reducible rfl
  rotate_left
  · simp only [Act.put, sA, s0_, sS, i64_w, i32_w]
    rfl
  refine pure_ (i := 6) (N := some 15) (v := ?_) (a' := ?_) #[T,T,T,T,T,T,T,F,F,F,F] rfl rfl (by kernel_rfl) (fun _ _ _ h => h) (Or.inl ⟨by rfl, ?_⟩) ?_ ?_
  rotate_left
  · intro w'
    go_simp
    with_reducible rfl
  rotate_left
  · simp only [Act.put, sA, s0_, sS, i64_w, i32_w]
    rfl
  refine pure_ (i := 7) (N := some 16) (v := ?_) (a' := ?_) #[T,T,T,T,T,T,T,T,F,F,F] rfl rfl (by kernel_rfl) (fun _ _ _ h => h) (Or.inl ⟨by rfl, ?_⟩) ?_ ?_
  rotate_left
  · intro w'
    go_simp
    with_reducible rfl
  rotate_left
  · simp only [Act.put, sA, s0_, sS, i64_w, i32_w]
    rfl
  refine pure_ (i := 8) (N := some 17) (v := ?_) (a' := ?_) #[T,T,T,T,T,T,T,T,T,F,F] rfl rfl (by kernel_rfl) (fun _ _ _ h => h) (Or.inl ⟨by rfl, ?_⟩) ?_ ?_
  rotate_left
  · intro w'
    go_simp
    with_reducible rfl
  rotate_left
  · simp only [Act.put, sA, s0_, sS, i64_w, i32_w]
    rfl
  refine pure_ (i := 9) (N := some 18) (v := ?_) (a' := ?_) #[T,T,T,T,T,T,T,T,T,T,F] rfl rfl (by kernel_rfl) (fun _ _ _ h => h) (Or.inl ⟨by rfl, ?_⟩) ?_ ?_
  rotate_left
  · intro w'
    go_simp
    with_reducible rfl
  rotate_left
  · simp only [Act.put, sA, s0_, sS, i64_w, i32_w]
    rfl
  refine last_ (i := 10) (N := none) #[T,T,T,T,T,T,T,T,T,T,T] rfl rfl (by kernel_rfl) (by decide) (fun K hK => ?_)
  refine skip_ (w1 := ?_) (by rfl) rfl ?_ ?_
  rotate_left
  · go_simp
    rfl
  refine hK.out _ _ ?_
  clear hK K
  refine done_ (by kernel_rfl) ?_
  go_upto_region 2 with (fail)
  obtain ⟨w1, hw1⟩ : ∃ w1, (w.setCell ⟨db, 9, none⟩ (.int .i64 (wrap64 (cv + 1)))).drew = w1 := ⟨_, rfl⟩
  rw [hw1] at S1
  rw [hw1]
  clear hw1 cc hfr
  have GD : Aside0 (∃ Af cf, w1.cell? ⟨db, 6, none⟩ = some (.slice Af d.fl.length cf) ∧ k85.C w1 Af d.fl.length d.fl ∧ d.fl.length ≤ cf ∧ w1.cell? ⟨db, 9, none⟩ = some (.int .i64 (wrap64 (cv + 1)))) := ⟨by
    obtain ⟨f1, ⟨im1, imc1, vu1, vf1, vw1, g1⟩, m1⟩ := S1.out
    obtain ⟨Af, cf, ev, hle, hC⟩ := Kd.R_reads g1.fl
    subst ev
    refine ⟨Af, cf, g1.at_ 6, hC, hle, ?_⟩
    have e : (d.count 2).c 2 = wrap64 (cv + 1) := by rw [← HCV.out]; show (if (2 : Nat) = 2 then wrap64 (d.c 2 + 1) else d.c 2) = _; exact if_pos rfl
    rw [← e]
    exact g1.at_ 9⟩
  obtain ⟨Af, cf, c6, hC, hle, cc⟩ := GD.out
  have HFI : Aside0 (d.fault 2 = match findF d.fl 2 (wrap64 (cv + 1)) with | some f => f.f2 | none => 0) := ⟨by rw [← HCV.out]; rfl⟩
  obtain ⟨cn, hcn⟩ : ∃ cn, wrap64 (cv + 1) = cn := ⟨_, rfl⟩
  rw [hcn] at cc HFI
  have KF0 := fun (w' : World) (hb : Below w1.heap.size w1 w') => flash_faulty.calls (d.fl.length + 1) Af cf d.fl 2 cn _ _ _ _ w' (Kd.C_below hC hb) hle (faulty_eq d.fl 2 cn (Nat.lt_of_le_of_lt FL.out.1 (by decide)))
  obtain ⟨nf, hnf⟩ : ∃ nf, d.fl.length = nf := ⟨_, rfl⟩
  rw [hnf] at KF0 c6
  have HFD : Aside0 (∀ ft, findF d.fl 2 cn = some ft → ft.f2 = 1 ∨ ft.f2 = 2) := ⟨fun ft hF => FL.out.2 ft (List.mem_of_find?_eq_some hF)⟩
  clear GD hC hle hcn hnf FL
  cases hfind : findF d.fl 2 cn with
  | none =>
    rw [hfind] at KF0 HFI
    have HQ : Aside0 (d.op 2 act = (act (d.count 2), 0)) := ⟨by rw [OPE.out, HFI.out]; exact if_pos rfl⟩
    have KF := Aside0.mk (show ∀ (w' : World), Below w1.heap.size w1 w' → Calls Try.prog 67 #[.slice Af nf cf, .int .i64 2, .int .i64 cn] w' fun e w'_1 => e = .returned (.tuple #[.agg #[.int .i64 0, .int .i64 0, .int .i64 0], .bool false]) ∧ Below w'.heap.size w' w'_1 from KF0)
    clear KF0 hfind
    refine start_ (n := 18) (S := fun w' => w'.cell? ⟨db, 6, none⟩ = some (.slice Af nf cf) ∧ w'.cell? ⟨db, 9, none⟩ = some (.int .i64 cn)) (ds := [16]) #[F,F,F,F,F,F,F,F,F,F,F,F,F,F,F,F,F,F] (by kernel_rfl) rfl rfl (⟨c6, cc⟩) (fun hHeld => ?_)
    generalize hwd : w1.drew = wd at hHeld ⊢
    have BD : Aside0 (Below w1.heap.size w1 wd) := ⟨by rw [← hwd]; exact below_drew (Below.refl _ _)⟩
    clear hwd c6 cc
    obtain ⟨c6, cc⟩ := hHeld
    have hHeld : wd.cell? ⟨db, 6, none⟩ = some (.slice Af nf cf) ∧ wd.cell? ⟨db, 9, none⟩ = some (.int .i64 cn) := ⟨c6, cc⟩
    refine pure_ (i := 0) (N := some 20) (v := ?_) (a' := ?_) #[T,F,F,F,F,F,F,F,F,F,F,F,F,F,F,F,F,F] rfl rfl (by kernel_rfl) (fun _ _ _ h => h) (Or.inl ⟨by rfl, ?_⟩) ?_ ?_
    rotate_left
    · intro w'
      go_simp
      with_reducible rfl
    rotate_left
    · simp only [Act.put, sA, s0_, sS, i64_w, i32_w]
      rfl
    refine pure_ (i := 1) (N := some 21) (v := ?_) (a' := ?_) #[T,T,F,F,F,F,F,F,F,F,F,F,F,F,F,F,F,F] rfl rfl (by kernel_rfl) (fun _ _ _ h => h) (Or.inl ⟨by rfl, ?_⟩) ?_ ?_
    rotate_left
    · intro w'
      go_simp
      with_reducible rfl
    rotate_left
    · simp only [Act.put, sA, s0_, sS, i64_w, i32_w]
      rfl
    refine pure_ (i := 2) (N := some 22) (v := ?_) (a' := ?_) #[T,T,T,F,F,F,F,F,F,F,F,F,F,F,F,F,F,F] rfl rfl (by kernel_rfl) (fun _ _ _ h => h) (Or.inl ⟨by rfl, ?_⟩) ?_ ?_
    rotate_left
    · intro w'
      go_simp
      with_reducible rfl
    rotate_left
    · simp only [Act.put, sA, s0_, sS, i64_w, i32_w]
      rfl
    refine take_ (i := 3) (N := some 23) (v := ?_) (a' := ?_) #[T,T,T,T,F,F,F,F,F,F,F,F,F,F,F,F,F,F] rfl rfl (by kernel_rfl) (fun _ _ _ h => h) (Or.inl ⟨by rfl, ?_⟩) hHeld ?_ ?_
    rotate_left
    · intro w' s0
      obtain ⟨s1, s2⟩ := s0
      go_simp
      with_reducible rfl
    rotate_left
    · simp only [Act.put, sA, s0_, sS, i64_w, i32_w]
      rfl
    refine pure_ (i := 4) (N := some 24) (v := ?_) (a' := ?_) #[T,T,T,T,T,F,F,F,F,F,F,F,F,F,F,F,F,F] rfl rfl (by kernel_rfl) (fun _ _ _ h => h) (Or.inl ⟨by rfl, ?_⟩) ?_ ?_
    rotate_left
    · intro w'
      go_simp
      with_reducible rfl
    rotate_left
    · simp only [Act.put, sA, s0_, sS, i64_w, i32_w]
      rfl
    refine pure_ (i := 5) (N := some 25) (v := ?_) (a' := ?_) #[T,T,T,T,T,T,F,F,F,F,F,F,F,F,F,F,F,F] rfl rfl (by kernel_rfl) (fun _ _ _ h => h) (Or.inl ⟨by rfl, ?_⟩) ?_ ?_
    rotate_left
    · intro w'
      go_simp
      with_reducible rfl
    rotate_left
    · simp only [Act.put, sA, s0_, sS, i64_w, i32_w]
      rfl
    refine pure_ (i := 6) (N := some 26) (v := ?_) (a' := ?_) #[T,T,T,T,T,T,T,F,F,F,F,F,F,F,F,F,F,F] rfl rfl (by kernel_rfl) (fun _ _ _ h => h) (Or.inl ⟨by rfl, ?_⟩) ?_ ?_
    rotate_left
    · intro w'
      go_simp
      with_reducible rfl
    rotate_left
    · simp only [Act.put, sA, s0_, sS, i64_w, i32_w]
      rfl
    refine pure_ (i := 7) (N := some 27) (v := ?_) (a' := ?_) #[T,T,T,T,T,T,T,T,F,F,F,F,F,F,F,F,F,F] rfl rfl (by kernel_rfl) (fun _ _ _ h => h) (Or.inl ⟨by rfl, ?_⟩) ?_ ?_
    rotate_left
    · intro w'
      go_simp
      with_reducible rfl
    rotate_left
    · simp only [Act.put, sA, s0_, sS, i64_w, i32_w]
      rfl
    refine pure_ (i := 8) (N := some 28) (v := ?_) (a' := ?_) #[T,T,T,T,T,T,T,T,T,F,F,F,F,F,F,F,F,F] rfl rfl (by kernel_rfl) (fun _ _ _ h => h) (Or.inl ⟨by rfl, ?_⟩) ?_ ?_
    rotate_left
    · intro w'
      go_simp
      with_reducible rfl
    rotate_left
    · simp only [Act.put, sA, s0_, sS, i64_w, i32_w]
      rfl
    refine pure_ (i := 9) (N := some 29) (v := ?_) (a' := ?_) #[T,T,T,T,T,T,T,T,T,T,F,F,F,F,F,F,F,F] rfl rfl (by kernel_rfl) (fun _ _ _ h => h) (Or.inl ⟨by rfl, ?_⟩) ?_ ?_
    rotate_left
    · intro w'
      go_simp
      with_reducible rfl
    rotate_left
    · simp only [Act.put, sA, s0_, sS, i64_w, i32_w]
      rfl
    refine take_ (i := 10) (N := some 30) (v := ?_) (a' := ?_) #[T,T,T,T,T,T,T,T,T,T,T,F,F,F,F,F,F,F] rfl rfl (by kernel_rfl) (fun _ _ _ h => h) (Or.inl ⟨by rfl, ?_⟩) hHeld ?_ ?_
    rotate_left
    · intro w' s0
      obtain ⟨s1, s2⟩ := s0
      go_simp
      with_reducible rfl
    rotate_left
    · simp only [Act.put, sA, s0_, sS, i64_w, i32_w]
      rfl
    refine join_ (σ := Nat) 2 #[T,T,T,T,T,T,T,T,T,T,T,T,T,T,T,T,F,F] (fun s_ => [(31, .tuple #[.agg #[.int .i64 0, .int .i64 0, .int .i64 0], .bool false]), (7, .pointer (some ⟨s_, 0, none⟩)), (19, .tuple #[.agg #[.int .i64 0, .int .i64 0, .int .i64 0], .bool false]), (32, .agg #[.int .i64 0, .int .i64 0, .int .i64 0]), (33, .bool false)]) (fun s_ w' => Below wd.heap.size wd w' ∧ wd.heap.size ≤ s_ ∧ w'.heap[s_]? = some (.cells #[.int .i64 0, .int .i64 0, .int .i64 0] 85 (0, 0))) ?_ ?_
    rotate_left
    · intro hCont
      refine two_ (i := 11) (j := 15) (Ni := some 31) (Nj := some 7) #[T,T,T,T,T,T,T,T,T,T,T,T,F,F,F,F,F,F] #[T,T,T,T,T,T,T,T,T,T,T,F,F,F,F,T,F,F] rfl rfl rfl rfl (by kernel_rfl) (by decide) (by decide) (fun K hK => ?_) (fun K hK => ?_)
      · skip
        refine goes_ Try.func67 (by kernel_rfl) rfl #[.slice Af nf cf, .int .i64 2, .int .i64 cn] (by rfl) rfl rfl (by (try simp only [List.map_toArray, List.map_cons, List.map_nil]); first | done | rfl) ?_
        with_reducible refine (KF.out wd BD.out).mono ?_
        rintro e wq ⟨rfl, hq⟩
        refine ⟨_, rfl, ?_⟩
        refine hK.out _ _ (by exact ⟨pw_cell_below hq c6, pw_cell_below hq cc⟩) (fun hHeld => ?_)
        clear hK K
        refine norm_ (a' := ?_) ?_ ?_
        rotate_left
        · show Act.put _ (some 31) _ = _
          simp only [Act.put, sA, s0_, sS, i64_w, i32_w]
          rfl
        refine pure_ (i := 12) (N := some 19) (v := ?_) (a' := ?_) #[T,T,T,T,T,T,T,T,T,T,T,T,T,F,F,F,F,F] rfl rfl (by kernel_rfl) (fun _ _ _ h => h) (Or.inl ⟨by rfl, ?_⟩) ?_ ?_
        rotate_left
        · intro w'
          go_simp
          with_reducible rfl
        rotate_left
        · simp only [Act.put, sA, s0_, sS, i64_w, i32_w]
          rfl
        refine pure_ (i := 13) (N := some 32) (v := ?_) (a' := ?_) #[T,T,T,T,T,T,T,T,T,T,T,T,T,T,F,F,F,F] rfl rfl (by kernel_rfl) (fun _ _ _ h => h) (Or.inl ⟨by rfl, ?_⟩) ?_ ?_
        rotate_left
        · intro w'
          go_simp
          with_reducible rfl
        rotate_left
        · simp only [Act.put, sA, s0_, sS, i64_w, i32_w]
          rfl
        refine pure_ (i := 14) (N := some 33) (v := ?_) (a' := ?_) #[T,T,T,T,T,T,T,T,T,T,T,T,T,T,T,F,F,F] rfl rfl (by kernel_rfl) (fun _ _ _ h => h) (Or.inl ⟨by rfl, ?_⟩) ?_ ?_
        rotate_left
        · intro w'
          go_simp
          with_reducible rfl
        rotate_left
        · simp only [Act.put, sA, s0_, sS, i64_w, i32_w]
          rfl
        refine one_ (i := 15) (N := some 7) #[T,T,T,T,T,T,T,T,T,T,T,T,T,T,T,T,F,F] rfl rfl (by kernel_rfl) (by decide) (fun K hK => ?_)
        refine value_ (w1 := ?_) (v := ?_) (by rfl) rfl ?_ ?_
        rotate_left 2
        · go_simp
          constructor
          · rfl
          · rfl
        refine hK.out _ _ (by exact ⟨pw_cell_below (hq.alloc hq.size _) c6, pw_cell_below (hq.alloc hq.size _) cc⟩) (fun hHeld => ?_)
        clear hK K
        refine norm_ (a' := ?_) ?_ ?_
        rotate_left
        · show Act.put _ (some 7) _ = _
          simp only [Act.put, sA, s0_, sS, i64_w, i32_w]
          rfl
        exact norm_ (by simp only [putAll, Act.put, sA, s0_, sS]) (hCont wq.heap.size _ ⟨hq.alloc hq.size _, hq.size, blk_new wq _⟩)
      · skip
        refine value_ (w1 := ?_) (v := ?_) (by rfl) rfl ?_ ?_
        rotate_left 2
        · go_simp
          constructor
          · rfl
          · rfl
        refine hK.out _ _ (by exact ⟨pw_cell_below (below_alloc (Below.refl wd.heap.size wd) (.cells #[.int .i64 0, .int .i64 0, .int .i64 0] 85)) c6, pw_cell_below (below_alloc (Below.refl wd.heap.size wd) (.cells #[.int .i64 0, .int .i64 0, .int .i64 0] 85)) cc⟩) (fun hHeld => ?_)
        clear hK K
        refine norm_ (a' := ?_) ?_ ?_
        rotate_left
        · show Act.put _ (some 7) _ = _
          simp only [Act.put, sA, s0_, sS, i64_w, i32_w]
          rfl
        refine one_ (i := 11) (N := some 31) #[T,T,T,T,T,T,T,T,T,T,T,T,F,F,F,T,F,F] rfl rfl (by kernel_rfl) (by decide) (fun K hK => ?_)
        refine goes_ Try.func67 (by kernel_rfl) rfl #[.slice Af nf cf, .int .i64 2, .int .i64 cn] (by rfl) rfl rfl (by (try simp only [List.map_toArray, List.map_cons, List.map_nil]); first | done | rfl) ?_
        with_reducible refine (KF.out (wd.alloc (.cells #[.int .i64 0, .int .i64 0, .int .i64 0] 85)) (BD.out.alloc BD.out.size _)).mono ?_
        rintro e wq ⟨rfl, hq⟩
        refine ⟨_, rfl, ?_⟩
        have hq2 := (below_alloc (Below.refl wd.heap.size wd) (.cells #[.int .i64 0, .int .i64 0, .int .i64 0] 85)).trans (hq.mono (by simp))
        refine hK.out _ _ (by exact ⟨pw_cell_below hq2 c6, pw_cell_below hq2 cc⟩) (fun hHeld => ?_)
        clear hK K
        refine norm_ (a' := ?_) ?_ ?_
        rotate_left
        · show Act.put _ (some 31) _ = _
          simp only [Act.put, sA, s0_, sS, i64_w, i32_w]
          rfl
        refine pure_ (i := 12) (N := some 19) (v := ?_) (a' := ?_) #[T,T,T,T,T,T,T,T,T,T,T,T,T,F,F,T,F,F] rfl rfl (by kernel_rfl) (fun _ _ _ h => h) (Or.inl ⟨by rfl, ?_⟩) ?_ ?_
        rotate_left
        · intro w'
          go_simp
          with_reducible rfl
        rotate_left
        · simp only [Act.put, sA, s0_, sS, i64_w, i32_w]
          rfl
        refine pure_ (i := 13) (N := some 32) (v := ?_) (a' := ?_) #[T,T,T,T,T,T,T,T,T,T,T,T,T,T,F,T,F,F] rfl rfl (by kernel_rfl) (fun _ _ _ h => h) (Or.inl ⟨by rfl, ?_⟩) ?_ ?_
        rotate_left
        · intro w'
          go_simp
          with_reducible rfl
        rotate_left
        · simp only [Act.put, sA, s0_, sS, i64_w, i32_w]
          rfl
        refine pure_ (i := 14) (N := some 33) (v := ?_) (a' := ?_) #[T,T,T,T,T,T,T,T,T,T,T,T,T,T,T,T,F,F] rfl rfl (by kernel_rfl) (fun _ _ _ h => h) (Or.inl ⟨by rfl, ?_⟩) ?_ ?_
        rotate_left
        · intro w'
          go_simp
          with_reducible rfl
        rotate_left
        · simp only [Act.put, sA, s0_, sS, i64_w, i32_w]
          rfl
        exact norm_ (by simp only [putAll, Act.put, sA, s0_, sS]) (hCont wd.heap.size _ ⟨hq2, Nat.le_refl _, blk_below (blk_new wd _) hq⟩)
    intro bx w3 hF
    obtain ⟨hF1, hF2, hF3⟩ := hF
    have B3 := Aside0.mk hF1
    have S3 := Aside0.mk hF2
    have K3 := Aside0.mk hF3
    have j0 := blk_cell hF3 0
    have j1 := blk_cell hF3 1
    have j2 := blk_cell hF3 2
    have l0 := blk_frozen hF3 0
    have l1 := blk_frozen hF3 1
    have l2 := blk_frozen hF3 2
    clear hF1 hF2 hF3
    refine norm_ (a' := ?_) ?_ ?_
    rotate_left
    · simp only [putAll, Act.put, sA, s0_, sS]
      rfl
    refine last_ (i := 16) (N := none) #[T,T,T,T,T,T,T,T,T,T,T,T,T,T,T,T,T,F] rfl rfl (by kernel_rfl) (by decide) (fun K hK => ?_)
    refine skip_ (w1 := ?_) (by rfl) rfl ?_ ?_
    rotate_left
    · go_simp
      rfl
    refine hK.out _ _ ?_
    clear hK K
    refine pure_ (i := 17) (N := some 8) (v := ?_) (a' := ?_) #[T,T,T,T,T,T,T,T,T,T,T,T,T,T,T,T,T,T] rfl rfl (by kernel_rfl) (fun _ _ _ h => h) (Or.inl ⟨by rfl, ?_⟩) ?_ ?_
    rotate_left
    · intro w'
      go_simp
      with_reducible rfl
    rotate_left
    · simp only [Act.put, sA, s0_, sS, i64_w, i32_w]
      rfl
    refine done_ (by kernel_rfl) ?_
    obtain ⟨w4, hw4⟩ : ∃ w4, ((w3.setCell ⟨bx, 0, none⟩ (.int .i64 0)).setCell ⟨bx, 1, none⟩ (.int .i64 0)).setCell ⟨bx, 2, none⟩ (.int .i64 0) = w4 := ⟨_, rfl⟩
    rw [hw4]
    have S4 := Aside0.mk (S1.out.box (show Below w1.heap.size w1 w4 by rw [← hw4]; exact below3 (BD.out.trans (B3.out.mono BD.out.size)) (Nat.le_trans BD.out.size S3.out) _ _ _))
    clear hw4 c6 cc j0 j1 j2 l0 l1 l2
    go_wp2_with (go_at_call 62; refine (HA.out _ S4.out).mono ?_; rintro e w5 ⟨rfl, h5⟩; have S5 := Aside0.mk h5; clear h5)
    go_ret
    exact ⟨by rw [HQ.out]; rfl, by rw [HQ.out]; exact S5.out⟩
  | some ft =>
    rw [hfind] at KF0 HFI
    have HK := HFD.out ft hfind
    have HFK : Aside0 (d.fault 2 = ft.f2) := HFI
    have KF1 : ∀ (w' : World), Below w1.heap.size w1 w' → Calls Try.prog 67 #[.slice Af nf cf, .int .i64 2, .int .i64 cn] w' fun e w'_1 => e = .returned (.tuple #[.agg #[.int .i64 ft.f0, .int .i64 ft.f1, .int .i64 ft.f2], .bool true]) ∧ Below w'.heap.size w' w'_1 := KF0
    obtain ⟨g0, hg0⟩ : ∃ g0, ft.f0 = g0 := ⟨_, rfl⟩
    obtain ⟨g1, hg1⟩ : ∃ g1, ft.f1 = g1 := ⟨_, rfl⟩
    obtain ⟨g2, hg2⟩ : ∃ g2, ft.f2 = g2 := ⟨_, rfl⟩
    rw [hg0, hg1, hg2] at KF1
    rw [hg2] at HK HFK
    have KF := Aside0.mk KF1
    have HKK := Aside0.mk HK
    clear KF0 KF1 hfind hg0 hg1 hg2 HFI HK
    refine start_ (n := 18) (S := fun w' => w'.cell? ⟨db, 6, none⟩ = some (.slice Af nf cf) ∧ w'.cell? ⟨db, 9, none⟩ = some (.int .i64 cn)) (ds := [16]) #[F,F,F,F,F,F,F,F,F,F,F,F,F,F,F,F,F,F] (by kernel_rfl) rfl rfl (⟨c6, cc⟩) (fun hHeld => ?_)
    generalize hwd : w1.drew = wd at hHeld ⊢
    have BD : Aside0 (Below w1.heap.size w1 wd) := ⟨by rw [← hwd]; exact below_drew (Below.refl _ _)⟩
    clear hwd c6 cc
    obtain ⟨c6, cc⟩ := hHeld
    have hHeld : wd.cell? ⟨db, 6, none⟩ = some (.slice Af nf cf) ∧ wd.cell? ⟨db, 9, none⟩ = some (.int .i64 cn) := ⟨c6, cc⟩
    refine pure_ (i := 0) (N := some 20) (v := ?_) (a' := ?_) #[T,F,F,F,F,F,F,F,F,F,F,F,F,F,F,F,F,F] rfl rfl (by kernel_rfl) (fun _ _ _ h => h) (Or.inl ⟨by rfl, ?_⟩) ?_ ?_
    rotate_left
    · intro w'
      go_simp
      with_reducible rfl
    rotate_left
    · simp only [Act.put, sA, s0_, sS, i64_w, i32_w]
      rfl
    refine pure_ (i := 1) (N := some 21) (v := ?_) (a' := ?_) #[T,T,F,F,F,F,F,F,F,F,F,F,F,F,F,F,F,F] rfl rfl (by kernel_rfl) (fun _ _ _ h => h) (Or.inl ⟨by rfl, ?_⟩) ?_ ?_
    rotate_left
    · intro w'
      go_simp
      with_reducible rfl
    rotate_left
    · simp only [Act.put, sA, s0_, sS, i64_w, i32_w]
      rfl
    refine pure_ (i := 2) (N := some 22) (v := ?_) (a' := ?_) #[T,T,T,F,F,F,F,F,F,F,F,F,F,F,F,F,F,F] rfl rfl (by kernel_rfl) (fun _ _ _ h => h) (Or.inl ⟨by rfl, ?_⟩) ?_ ?_
    rotate_left
    · intro w'
      go_simp
      with_reducible rfl
    rotate_left
    · simp only [Act.put, sA, s0_, sS, i64_w, i32_w]
      rfl
    refine take_ (i := 3) (N := some 23) (v := ?_) (a' := ?_) #[T,T,T,T,F,F,F,F,F,F,F,F,F,F,F,F,F,F] rfl rfl (by kernel_rfl) (fun _ _ _ h => h) (Or.inl ⟨by rfl, ?_⟩) hHeld ?_ ?_
    rotate_left
    · intro w' s0
      obtain ⟨s1, s2⟩ := s0
      go_simp
      with_reducible rfl
    rotate_left
    · simp only [Act.put, sA, s0_, sS, i64_w, i32_w]
      rfl
    refine pure_ (i := 4) (N := some 24) (v := ?_) (a' := ?_) #[T,T,T,T,T,F,F,F,F,F,F,F,F,F,F,F,F,F] rfl rfl (by kernel_rfl) (fun _ _ _ h => h) (Or.inl ⟨by rfl, ?_⟩) ?_ ?_
    rotate_left
    · intro w'
      go_simp
      with_reducible rfl
    rotate_left
    · simp only [Act.put, sA, s0_, sS, i64_w, i32_w]
      rfl
    refine pure_ (i := 5) (N := some 25) (v := ?_) (a' := ?_) #[T,T,T,T,T,T,F,F,F,F,F,F,F,F,F,F,F,F] rfl rfl (by kernel_rfl) (fun _ _ _ h => h) (Or.inl ⟨by rfl, ?_⟩) ?_ ?_
    rotate_left
    · intro w'
      go_simp
      with_reducible rfl
    rotate_left
    · simp only [Act.put, sA, s0_, sS, i64_w, i32_w]
      rfl
    refine pure_ (i := 6) (N := some 26) (v := ?_) (a' := ?_) #[T,T,T,T,T,T,T,F,F,F,F,F,F,F,F,F,F,F] rfl rfl (by kernel_rfl) (fun _ _ _ h => h) (Or.inl ⟨by rfl, ?_⟩) ?_ ?_
    rotate_left
    · intro w'
      go_simp
      with_reducible rfl
    rotate_left
    · simp only [Act.put, sA, s0_, sS, i64_w, i32_w]
      rfl
    refine pure_ (i := 7) (N := some 27) (v := ?_) (a' := ?_) #[T,T,T,T,T,T,T,T,F,F,F,F,F,F,F,F,F,F] rfl rfl (by kernel_rfl) (fun _ _ _ h => h) (Or.inl ⟨by rfl, ?_⟩) ?_ ?_
    rotate_left
    · intro w'
      go_simp
      with_reducible rfl
    rotate_left
    · simp only [Act.put, sA, s0_, sS, i64_w, i32_w]
      rfl
    refine pure_ (i := 8) (N := some 28) (v := ?_) (a' := ?_) #[T,T,T,T,T,T,T,T,T,F,F,F,F,F,F,F,F,F] rfl rfl (by kernel_rfl) (fun _ _ _ h => h) (Or.inl ⟨by rfl, ?_⟩) ?_ ?_
    rotate_left
    · intro w'
      go_simp
      with_reducible rfl
    rotate_left
    · simp only [Act.put, sA, s0_, sS, i64_w, i32_w]
      rfl
    refine pure_ (i := 9) (N := some 29) (v := ?_) (a' := ?_) #[T,T,T,T,T,T,T,T,T,T,F,F,F,F,F,F,F,F] rfl rfl (by kernel_rfl) (fun _ _ _ h => h) (Or.inl ⟨by rfl, ?_⟩) ?_ ?_
    rotate_left
    · intro w'
      go_simp
      with_reducible rfl
    rotate_left
    · simp only [Act.put, sA, s0_, sS, i64_w, i32_w]
      rfl
    refine take_ (i := 10) (N := some 30) (v := ?_) (a' := ?_) #[T,T,T,T,T,T,T,T,T,T,T,F,F,F,F,F,F,F] rfl rfl (by kernel_rfl) (fun _ _ _ h => h) (Or.inl ⟨by rfl, ?_⟩) hHeld ?_ ?_
    rotate_left
    · intro w' s0
      obtain ⟨s1, s2⟩ := s0
      go_simp
      with_reducible rfl
    rotate_left
    · simp only [Act.put, sA, s0_, sS, i64_w, i32_w]
      rfl
    refine join_ (σ := Nat) 2 #[T,T,T,T,T,T,T,T,T,T,T,T,T,T,T,T,F,F] (fun s_ => [(31, .tuple #[.agg #[.int .i64 g0, .int .i64 g1, .int .i64 g2], .bool true]), (7, .pointer (some ⟨s_, 0, none⟩)), (19, .tuple #[.agg #[.int .i64 g0, .int .i64 g1, .int .i64 g2], .bool true]), (32, .agg #[.int .i64 g0, .int .i64 g1, .int .i64 g2]), (33, .bool true)]) (fun s_ w' => Below wd.heap.size wd w' ∧ wd.heap.size ≤ s_ ∧ w'.heap[s_]? = some (.cells #[.int .i64 0, .int .i64 0, .int .i64 0] 85 (0, 0))) ?_ ?_
    rotate_left
    · intro hCont
      refine two_ (i := 11) (j := 15) (Ni := some 31) (Nj := some 7) #[T,T,T,T,T,T,T,T,T,T,T,T,F,F,F,F,F,F] #[T,T,T,T,T,T,T,T,T,T,T,F,F,F,F,T,F,F] rfl rfl rfl rfl (by kernel_rfl) (by decide) (by decide) (fun K hK => ?_) (fun K hK => ?_)
      · skip
        refine goes_ Try.func67 (by kernel_rfl) rfl #[.slice Af nf cf, .int .i64 2, .int .i64 cn] (by rfl) rfl rfl (by (try simp only [List.map_toArray, List.map_cons, List.map_nil]); first | done | rfl) ?_
        with_reducible refine (KF.out wd BD.out).mono ?_
        rintro e wq ⟨rfl, hq⟩
        refine ⟨_, rfl, ?_⟩
        refine hK.out _ _ (by exact ⟨pw_cell_below hq c6, pw_cell_below hq cc⟩) (fun hHeld => ?_)
        clear hK K
        refine norm_ (a' := ?_) ?_ ?_
        rotate_left
        · show Act.put _ (some 31) _ = _
          simp only [Act.put, sA, s0_, sS, i64_w, i32_w]
          rfl
        refine pure_ (i := 12) (N := some 19) (v := ?_) (a' := ?_) #[T,T,T,T,T,T,T,T,T,T,T,T,T,F,F,F,F,F] rfl rfl (by kernel_rfl) (fun _ _ _ h => h) (Or.inl ⟨by rfl, ?_⟩) ?_ ?_
        rotate_left
        · intro w'
          go_simp
          with_reducible rfl
        rotate_left
        · simp only [Act.put, sA, s0_, sS, i64_w, i32_w]
          rfl
        refine pure_ (i := 13) (N := some 32) (v := ?_) (a' := ?_) #[T,T,T,T,T,T,T,T,T,T,T,T,T,T,F,F,F,F] rfl rfl (by kernel_rfl) (fun _ _ _ h => h) (Or.inl ⟨by rfl, ?_⟩) ?_ ?_
        rotate_left
        · intro w'
          go_simp
          with_reducible rfl
        rotate_left
        · simp only [Act.put, sA, s0_, sS, i64_w, i32_w]
          rfl
        refine pure_ (i := 14) (N := some 33) (v := ?_) (a' := ?_) #[T,T,T,T,T,T,T,T,T,T,T,T,T,T,T,F,F,F] rfl rfl (by kernel_rfl) (fun _ _ _ h => h) (Or.inl ⟨by rfl, ?_⟩) ?_ ?_
        rotate_left
        · intro w'
          go_simp
          with_reducible rfl
        rotate_left
        · simp only [Act.put, sA, s0_, sS, i64_w, i32_w]
          rfl
        refine one_ (i := 15) (N := some 7) #[T,T,T,T,T,T,T,T,T,T,T,T,T,T,T,T,F,F] rfl rfl (by kernel_rfl) (by decide) (fun K hK => ?_)
        refine value_ (w1 := ?_) (v := ?_) (by rfl) rfl ?_ ?_
        rotate_left 2
        · go_simp
          constructor
          · rfl
          · rfl
        refine hK.out _ _ (by exact ⟨pw_cell_below (hq.alloc hq.size _) c6, pw_cell_below (hq.alloc hq.size _) cc⟩) (fun hHeld => ?_)
        clear hK K
        refine norm_ (a' := ?_) ?_ ?_
        rotate_left
        · show Act.put _ (some 7) _ = _
          simp only [Act.put, sA, s0_, sS, i64_w, i32_w]
          rfl
        exact norm_ (by simp only [putAll, Act.put, sA, s0_, sS]) (hCont wq.heap.size _ ⟨hq.alloc hq.size _, hq.size, blk_new wq _⟩)
      · skip
        refine value_ (w1 := ?_) (v := ?_) (by rfl) rfl ?_ ?_
        rotate_left 2
        · go_simp
          constructor
          · rfl
          · rfl
        refine hK.out _ _ (by exact ⟨pw_cell_below (below_alloc (Below.refl wd.heap.size wd) (.cells #[.int .i64 0, .int .i64 0, .int .i64 0] 85)) c6, pw_cell_below (below_alloc (Below.refl wd.heap.size wd) (.cells #[.int .i64 0, .int .i64 0, .int .i64 0] 85)) cc⟩) (fun hHeld => ?_)
        clear hK K
        refine norm_ (a' := ?_) ?_ ?_
        rotate_left
        · show Act.put _ (some 7) _ = _
          simp only [Act.put, sA, s0_, sS, i64_w, i32_w]
          rfl
        refine one_ (i := 11) (N := some 31) #[T,T,T,T,T,T,T,T,T,T,T,T,F,F,F,T,F,F] rfl rfl (by kernel_rfl) (by decide) (fun K hK => ?_)
        refine goes_ Try.func67 (by kernel_rfl) rfl #[.slice Af nf cf, .int .i64 2, .int .i64 cn] (by rfl) rfl rfl (by (try simp only [List.map_toArray, List.map_cons, List.map_nil]); first | done | rfl) ?_
        with_reducible refine (KF.out (wd.alloc (.cells #[.int .i64 0, .int .i64 0, .int .i64 0] 85)) (BD.out.alloc BD.out.size _)).mono ?_
        rintro e wq ⟨rfl, hq⟩
        refine ⟨_, rfl, ?_⟩
        have hq2 := (below_alloc (Below.refl wd.heap.size wd) (.cells #[.int .i64 0, .int .i64 0, .int .i64 0] 85)).trans (hq.mono (by simp))
        refine hK.out _ _ (by exact ⟨pw_cell_below hq2 c6, pw_cell_below hq2 cc⟩) (fun hHeld => ?_)
        clear hK K
        refine norm_ (a' := ?_) ?_ ?_
        rotate_left
        · show Act.put _ (some 31) _ = _
          simp only [Act.put, sA, s0_, sS, i64_w, i32_w]
          rfl
        refine pure_ (i := 12) (N := some 19) (v := ?_) (a' := ?_) #[T,T,T,T,T,T,T,T,T,T,T,T,T,F,F,T,F,F] rfl rfl (by kernel_rfl) (fun _ _ _ h => h) (Or.inl ⟨by rfl, ?_⟩) ?_ ?_
        rotate_left
        · intro w'
          go_simp
          with_reducible rfl
        rotate_left
        · simp only [Act.put, sA, s0_, sS, i64_w, i32_w]
          rfl
        refine pure_ (i := 13) (N := some 32) (v := ?_) (a' := ?_) #[T,T,T,T,T,T,T,T,T,T,T,T,T,T,F,T,F,F] rfl rfl (by kernel_rfl) (fun _ _ _ h => h) (Or.inl ⟨by rfl, ?_⟩) ?_ ?_
        rotate_left
        · intro w'
          go_simp
          with_reducible rfl
        rotate_left
        · simp only [Act.put, sA, s0_, sS, i64_w, i32_w]
          rfl
        refine pure_ (i := 14) (N := some 33) (v := ?_) (a' := ?_) #[T,T,T,T,T,T,T,T,T,T,T,T,T,T,T,T,F,F] rfl rfl (by kernel_rfl) (fun _ _ _ h => h) (Or.inl ⟨by rfl, ?_⟩) ?_ ?_
        rotate_left
        · intro w'
          go_simp
          with_reducible rfl
        rotate_left
        · simp only [Act.put, sA, s0_, sS, i64_w, i32_w]
          rfl
        exact norm_ (by simp only [putAll, Act.put, sA, s0_, sS]) (hCont wd.heap.size _ ⟨hq2, Nat.le_refl _, blk_below (blk_new wd _) hq⟩)
    intro bx w3 hF
    obtain ⟨hF1, hF2, hF3⟩ := hF
    have B3 := Aside0.mk hF1
    have S3 := Aside0.mk hF2
    have K3 := Aside0.mk hF3
    have j0 := blk_cell hF3 0
    have j1 := blk_cell hF3 1
    have j2 := blk_cell hF3 2
    have l0 := blk_frozen hF3 0
    have l1 := blk_frozen hF3 1
    have l2 := blk_frozen hF3 2
    clear hF1 hF2 hF3
    refine norm_ (a' := ?_) ?_ ?_
    rotate_left
    · simp only [putAll, Act.put, sA, s0_, sS]
      rfl
    refine last_ (i := 16) (N := none) #[T,T,T,T,T,T,T,T,T,T,T,T,T,T,T,T,T,F] rfl rfl (by kernel_rfl) (by decide) (fun K hK => ?_)
    refine skip_ (w1 := ?_) (by rfl) rfl ?_ ?_
    rotate_left
    · go_simp
      rfl
    refine hK.out _ _ ?_
    clear hK K
    refine pure_ (i := 17) (N := some 8) (v := ?_) (a' := ?_) #[T,T,T,T,T,T,T,T,T,T,T,T,T,T,T,T,T,T] rfl rfl (by kernel_rfl) (fun _ _ _ h => h) (Or.inl ⟨by rfl, ?_⟩) ?_ ?_
    rotate_left
    · intro w'
      go_simp
      with_reducible rfl
    rotate_left
    · simp only [Act.put, sA, s0_, sS, i64_w, i32_w]
      rfl
    refine done_ (by kernel_rfl) ?_
    obtain ⟨w4, hw4⟩ : ∃ w4, ((w3.setCell ⟨bx, 0, none⟩ (.int .i64 g0)).setCell ⟨bx, 1, none⟩ (.int .i64 g1)).setCell ⟨bx, 2, none⟩ (.int .i64 g2) = w4 := ⟨_, rfl⟩
    rw [hw4]
    have S4 := Aside0.mk (S1.out.box (show Below w1.heap.size w1 w4 by rw [← hw4]; exact below3 (BD.out.trans (B3.out.mono BD.out.size)) (Nat.le_trans BD.out.size S3.out) _ _ _))
    have k2 : w4.cell? ⟨bx, 2, none⟩ = some (.int .i64 g2) := by rw [← hw4]; exact blk_cell (put3 K3.out _ _ _) 2
    clear hw4 c6 cc j0 j1 j2 l0 l1 l2
    rcases HKK.out with hk | hk
    · subst hk
      have HQ : Aside0 (d.op 2 act = ((d.count 2).flop, 5)) := ⟨by rw [OPE.out, HFK.out, if_neg (by decide)]; exact if_pos rfl⟩
      obtain ⟨g1, g2, g3⟩ := DevA.fail S4.out _ rfl
      have S6 := Aside0.mk g1
      obtain ⟨fa, hfa⟩ : ∃ fa, (d.count 2).failed = fa := ⟨_, rfl⟩
      rw [hfa] at S6 g2
      clear g1 hfa
      go_wp2
      go_ret
      exact ⟨by rw [HQ.out]; rfl, by rw [HQ.out]; exact S6.out⟩
    · subst hk
      have HQ : Aside0 (d.op 2 act = ((act (d.count 2)).flop, 5)) := ⟨by rw [OPE.out, HFK.out, if_neg (by decide)]; exact if_neg (by decide)⟩
      go_upto_region 5 with (go_at_call 62; refine (HA.out _ S4.out).mono ?_; rintro e w5 ⟨rfl, h5⟩; have S5 := Aside0.mk h5; clear h5)
      obtain ⟨g1, g2, g3⟩ := DevA.fail S5.out _ rfl
      have S6 := Aside0.mk g1
      obtain ⟨fa, hfa⟩ : ∃ fa, (act (d.count 2)).failed = fa := ⟨_, rfl⟩
      rw [hfa] at S6 g2
      clear g1 hfa k2
      go_wp2
      go_ret
      exact ⟨by rw [HQ.out]; rfl, by rw [HQ.out]; exact S6.out⟩
/-! ### Sync, Read, Fail, Image, Unsynced -/
section
variable {B : Nat} {f : Owner} {w : World} {db : Nat} {d : Dv}
/-- Other new memory is nobody's. -/
theorem DevX.boxed (h : DevX B f w db d) {w1 : World} (hb : Below w.heap.size w w1) : DevX B (owns f w.heap.size w.heap.size) w1 db d ∧ (∀ k, w.heap.size ≤ k → owns f w.heap.size w.heap.size k ≠ db) ∧ Mv B (· = db) f w (owns f w.heap.size w.heap.size) w1 := by
  have hs := h.size
  have m : ∀ o : Nat → Prop, Mv B o f w (owns f w.heap.size w.heap.size) w1 := fun o => Mv.of_below hb hs.1 (fun k hk => owns_old _ _ _ _ hk)
  exact ⟨h.mv (m (fun _ => False)) id, fun k hk => by rw [owns_new _ _ _ _ hk]; omega, m _⟩
theorem DevA.under {f1 : Owner} {w1 w2 : World} {d' : Dv} (m : Mv B (· = db) f w f1 w1) (h : DevA B f1 w1 db d' w2) : DevA B f w db d' w2 := by
  obtain ⟨f2, h1, m2⟩ := h
  exact ⟨f2, h1, m.trans m2⟩
/-- What is not its own stays. -/
theorem DevA.blk {w1 : World} (h : DevA B f w db d w1) {g : Nat} {o : Obj} (hb : w.heap[g]? = some o) (hn : f g ≠ db) : w1.heap[g]? = some o := by
  obtain ⟨_, _, m⟩ := h
  exact m.blk hb hn
theorem DevA.setNil {w1 : World} (h : DevA B f w db d w1) : DevA B f w db { d with un := [] } (w1.setCell ⟨db, 5, none⟩ (.slice none 0 0)) ∧ w1.frozen? ⟨db, 5, none⟩ = false ∧ ∃ v, w1.cell? ⟨db, 5, none⟩ = some v := by
  obtain ⟨f', ⟨im, imc, vu, vf, vw, h1⟩, m⟩ := h
  obtain ⟨k1, k2, k3, k4, k5, k6⟩ := h1.put 5 (.slice none 0 0) rfl
  exact ⟨⟨f', ⟨im, imc, _, vf, vw, ⟨k1, h1.own, h1.base, k2, h1.imo, h1.imb, Kd.R_nil _ _ _ _ _, k4, k5, fun k hk => by simp [Value.ownBlock] at hk⟩⟩, m.trans k6⟩, blk_frozen h1.blk 5, _, h1.at_ 5⟩
end
section
variable {B : Nat} {f : Owner} {w : World} {db : Nat} {d : Dv}
theorem DevX.made (h : DevX B f w db d) (ok : d.Ok) : Calls Try.prog 39 #[.pointer (some ⟨db, 0, none⟩)] w (fun e w' => e = .returned (.bool true) ∧ w = w') := by
  obtain ⟨_, _, _, _, _, hg⟩ := h
  exact made_walk hg (DevG.pos ok)
set_option maxHeartbeats 2000000 in
set_option maxRecDepth 100000 in
theorem image_walk (h : DevX B f w db d) (ok : d.Ok) : Calls Try.prog 15 #[.pointer (some ⟨db, 0, none⟩)] w (Made (Kd.int .u8) 5 w d.b) := by
  have KM := Aside0.mk (h.made ok)
  obtain ⟨im, imc, vu, vf, vw, hg⟩ := h
  have hcap : d.b.length ≤ imc := by obtain ⟨cs, _, h2, _, _⟩ := hg.img; exact h2
  have hl : d.b.length ≤ 1048576 := by rw [ok.len]; exact ok.sz
  have hc := hg.img.cut 0 d.b.length (by omega) (by omega)
  have e : cutOf d.b 0 d.b.length = d.b := by unfold cutOf; rw [List.drop_zero, List.take_length]
  rw [e] at hc
  have KC := Aside0.mk (clone40 (c := imc) hc hcap (by omega))
  have c4 : w.cell? ⟨db, 4, none⟩ = some (.slice (some ⟨im, 0, none⟩) d.b.length imc) := hg.at_ 4
  obtain ⟨n, hn⟩ : ∃ n, d.b.length = n := ⟨_, rfl⟩
  rw [hn] at KC c4
  clear hg ok hcap hl hc e hn
  go_enter Try.func15, Try.ntmps15
  go_wp2_with (first
    | (go_at_call 39; refine KM.out.mono ?_; rintro e w' ⟨rfl, rfl⟩)
    | (go_at_call 40; refine KC.out.mono ?_; rintro e w2 ⟨v, rfl, hR, hb⟩; have HR := Aside0.mk hR; have HB := Aside0.mk hb; clear hR hb))
  go_ret
  exact ⟨_, rfl, HR.out, HB.out⟩
set_option maxHeartbeats 2000000 in
set_option maxRecDepth 100000 in
theorem unsynced_walk (h : DevX B f w db d) (ok : d.Ok) (hl : d.un.length ≤ 1099511627776) : Calls Try.prog 16 #[.pointer (some ⟨db, 0, none⟩)] w (Made (Kd.int .i64) 3 w d.un) := by
  have KM := Aside0.mk (h.made ok)
  obtain ⟨im, imc, vu, vf, vw, hg⟩ := h
  obtain ⟨Au, cu, ev, hle, hC⟩ := Kd.R_reads hg.un
  subst ev
  have KC := Aside0.mk (clone41 (c := cu) hC hle (by omega))
  have c5 : w.cell? ⟨db, 5, none⟩ = some (.slice Au d.un.length cu) := hg.at_ 5
  obtain ⟨n, hn⟩ : ∃ n, d.un.length = n := ⟨_, rfl⟩
  rw [hn] at KC c5
  clear hg ok hle hC hn hl
  go_enter Try.func16, Try.ntmps16
  go_wp2_with (first
    | (go_at_call 39; refine KM.out.mono ?_; rintro e w' ⟨rfl, rfl⟩)
    | (go_at_call 41; refine KC.out.mono ?_; rintro e w2 ⟨v, rfl, hR, hb⟩; have HR := Aside0.mk hR; have HB := Aside0.mk hb; clear hR hb))
  go_ret
  exact ⟨_, rfl, HR.out, HB.out⟩
theorem DevA.setFl {w1 : World} {v : Value} {l : List Fa} (h : DevX B f w db d) (hb : Below w.heap.size w w1) (hR : k85.R 85 w1 w.heap.size (fun k => w.heap.size ≤ k) v l) : DevA B f w db { d with fl := l } (w1.setCell ⟨db, 6, none⟩ v) ∧ w1.frozen? ⟨db, 6, none⟩ = false ∧ ∃ u, w1.cell? ⟨db, 6, none⟩ = some u := by
  have hs := h.size
  have m : ∀ o : Nat → Prop, Mv B o f w (owns f w.heap.size db) w1 := fun o => Mv.of_below hb hs.1 (fun k hk => owns_old _ _ _ _ hk)
  obtain ⟨im, imc, vu, vf, vw, h1⟩ := h.mv (m (fun _ => False)) id
  obtain ⟨k1, k2, k3, k4, k5, k6⟩ := h1.put 6 v rfl
  have hR2 : k85.R 85 w1 B (fun k => owns f w.heap.size db k = db) v l := Kd.R_mono (Kd.R_lower hR hs.1) (fun k hk => owns_new _ _ _ _ hk)
  exact ⟨⟨_, ⟨im, imc, vu, v, vw, ⟨k1, h1.own, h1.base, k2, h1.imo, h1.imb, k3, Kd.R_set hR2 h1.blk (by decide) 6 v, k5, h1.ne⟩⟩, (m _).trans k6⟩, blk_frozen h1.blk 6, _, h1.at_ 6⟩
def Dv.fail (d : Dv) (l : List Fa) : Dv × Int := if frB l = true then ({ d with fl := l }, 0) else (d, 40)
set_option maxHeartbeats 2000000 in
set_option maxRecDepth 100000 in
theorem fail_walk (h : DevX B f w db d) (ok : d.Ok) {A : Option Addr} {c : Nat} {l : List Fa} (hC : k85.C w A l.length l) (hle : l.length ≤ c) (hl : l.length * 24 ≤ 140737488355328) :
    Calls Try.prog 24 #[.pointer (some ⟨db, 0, none⟩), .slice A l.length c] w (fun e w' => e = .returned (.int .i64 (d.fail l).2) ∧ DevA B f w db (d.fail l).1 w') := by
  have KM := Aside0.mk (h.made ok)
  have H := Aside0.mk h
  have KR := Aside0.mk (flash_faultsRight.calls (2 * l.length + 1) A c l (frB l) w hC hle (right_eq l (by omega)))
  have KC := Aside0.mk (fun (w1 : World) (hb : Below w.heap.size w w1) => clone43 (c := c) (Kd.C_below hC hb) hle hl)
  have HF : Aside0 (d.fail l = if frB l = true then ({ d with fl := l }, 0) else (d, 40)) := ⟨rfl⟩
  obtain ⟨n, hn⟩ : ∃ n, l.length = n := ⟨_, rfl⟩
  rw [hn] at KR KC
  rw [hn]
  clear h ok hC hle hl hn
  cases hfr : frB l with
  | false =>
    rw [hfr] at KR HF
    clear hfr
    go_enter Try.func24, Try.ntmps24
    go_wp2_with (first
      | (go_at_call 39; refine KM.out.mono ?_; rintro e w' ⟨rfl, rfl⟩)
      | (go_at_call 42; refine KR.out.mono ?_; rintro e w2 ⟨rfl, hd⟩; have D2 := Aside0.mk hd; clear hd))
    go_ret
    exact ⟨by rw [HF.out]; rfl, by rw [HF.out]; exact DevA.of_below H.out D2.out⟩
  | true =>
    rw [hfr] at KR HF
    clear hfr
    go_enter Try.func24, Try.ntmps24
    go_upto_region 6 with (first
      | (go_at_call 39; refine KM.out.mono ?_; rintro e w' ⟨rfl, rfl⟩)
      | (go_at_call 42; refine KR.out.mono ?_; rintro e w2 ⟨rfl, hd⟩; have D2 := Aside0.mk hd; clear hd)
      | (go_at_call 43; refine (KC.out _ D2.out).mono ?_; rintro e w3 ⟨v, rfl, hR, hb⟩; obtain ⟨A1, c1, hv⟩ := Kd.R_slice hR; subst hv; have S3 := Aside0.mk (DevA.setFl (H.out.below D2.out) hb hR); obtain ⟨g1, g2, u, g3⟩ := S3.out; have T3 := Aside0.mk g1; clear g1 S3 hR hb))
    go_wp2
    go_ret
    exact ⟨by rw [HF.out]; rfl, by rw [HF.out]; exact T3.out.under (Mv.of_below D2.out H.out.size.1 (fun _ _ => rfl))⟩
set_option maxHeartbeats 2000000 in
set_option maxRecDepth 100000 in
theorem read_do {w1 : World} (h : DevA B f w db d w1) : Calls Try.prog 49 #[] w1 (fun e w2 => e = .returned (.tuple #[]) ∧ DevA B f w db (id d) w2) := by
  have S := Aside0.mk h
  clear h
  go_enter Try.func49, Try.ntmps49
  go_wp2
  go_end0
  exact ⟨rfl, S.out⟩
end
/-! ### Read -/
theorem op_id (d : Dv) (k : Nat) : ∃ c e, (d.op k id).1 = { d with c := c, failed := e } ∧ ((d.op k id).2 = 0 ∨ (d.op k id).2 = 5) := by
  unfold Dv.op
  by_cases h0 : d.fault k = 0
  · rw [if_pos h0]; exact ⟨_, _, rfl, .inl rfl⟩
  · rw [if_neg h0]
    by_cases h1 : d.fault k = 1
    · rw [if_pos h1]; exact ⟨_, _, rfl, .inr rfl⟩
    · rw [if_neg h1]; exact ⟨_, _, rfl, .inr rfl⟩
theorem Dv.Ok.cf {d : Dv} (h : d.Ok) (c : Nat → Int) (e : Int) : ({ d with c := c, failed := e } : Dv).Ok := ⟨h.p1, h.p2, h.s1, h.s2, h.r1, h.r2, h.sz, h.len, h.byte, h.wl, h.unr, h.flk, h.fll⟩
section
variable {B : Nat} {f : Owner} {w : World} {db : Nat} {d : Dv}
/-- Bytes of one's own, and the device. -/
def ReadSt (B : Nat) (f : Owner) (w : World) (db : Nat) (d' : Dv) (l : List Int) (er : Int) (en : Ending) (w' : World) : Prop :=
  ∃ v f', en = .returned (.tuple #[v, .int .i64 er]) ∧ DevX B f' w' db d' ∧ Mv B (· = db) f w f' w' ∧ (Kd.int .u8).R 5 w' w.heap.size (fun k => w.heap.size ≤ k ∧ f' k ≠ db) v l
theorem ReadSt.under {f1 : Owner} {w1 w2 : World} {d' : Dv} {l : List Int} {er : Int} {en : Ending} (m : Mv B (· = db) f w f1 w1) (h : ReadSt B f1 w1 db d' l er en w2) : ReadSt B f w db d' l er en w2 := by
  obtain ⟨v, f', he, hx, hm, hR⟩ := h
  exact ⟨v, f', he, hx, m.trans hm, Kd.R_mono (Kd.R_lower hR m.below.size) (fun k hk => ⟨Nat.le_trans m.below.size hk.1, hk.2⟩)⟩
set_option maxHeartbeats 2000000 in
set_option maxRecDepth 100000 in
theorem read_walk (h : DevX B f w db d) (ok : d.Ok) (n : Int) : Calls Try.prog 26 #[.pointer (some ⟨db, 0, none⟩), .int .i64 n] w (ReadSt B f w db (d.read n).1 (d.read n).2.1 (d.read n).2.2) := by
  have KM := Aside0.mk (h.made ok)
  have H := Aside0.mk h
  have KI : Aside0 (Calls Try.prog 47 #[.pointer (some ⟨db, 0, none⟩), .int .i64 n] w (Told w (.bool (decide (0 ≤ n) && decide (n < (d.pages : Int)))))) := ⟨by
    obtain ⟨_, _, _, _, _, hg⟩ := h
    exact isPage_walk hg ok n⟩
  by_cases hn : n < 0 ∨ (d.pages : Int) ≤ n
  · have hb : (decide (0 ≤ n) && decide (n < (d.pages : Int))) = false := by
      rcases hn with h1 | h1
      · rw [decide_eq_false (show ¬ 0 ≤ n by omega), Bool.false_and]
      · rw [decide_eq_false (show ¬ n < (d.pages : Int) by omega), Bool.and_false]
    have HR : Aside0 (d.read n = (d, [], 30)) := ⟨by unfold Dv.read; exact if_pos hn⟩
    rw [hb] at KI
    clear h ok hn hb
    go_enter Try.func26, Try.ntmps26
    go_wp2_with (first
      | (go_at_call 39; refine KM.out.mono ?_; rintro e w' ⟨rfl, rfl⟩)
      | (go_at_call 47; refine KI.out.mono ?_; rintro e w1 ⟨rfl, ⟨q, rfl⟩⟩))
    go_ret2
    rw [HR.out]
    have hb := pw_below_drewN (Below.refl w.heap.size w) q
    exact ⟨_, f, rfl, H.out.below hb, Mv.of_below hb H.out.size.1 (fun _ _ => rfl), Kd.R_nil _ _ _ _ _⟩
  · have hb : (decide (0 ≤ n) && decide (n < (d.pages : Int))) = true := by
      rw [decide_eq_true (show 0 ≤ n by omega), decide_eq_true (show n < (d.pages : Int) by omega)]; rfl
    rw [hb] at KI
    obtain ⟨m, rfl⟩ : ∃ m : Nat, n = (m : Int) := ⟨n.toNat, by omega⟩
    have hm : m < d.pages := by omega
    obtain ⟨er, her⟩ : ∃ er, (d.op 1 id).2 = er := ⟨_, rfl⟩
    obtain ⟨d', hd'⟩ : ∃ d', (d.op 1 id).1 = d' := ⟨_, rfl⟩
    have HR : Aside0 (d.read (m : Int) = (d', if er = 0 then d.page m else [], er)) := ⟨by unfold Dv.read; rw [if_neg hn, her, hd']; rfl⟩
    obtain ⟨c, e, h1, h2⟩ := op_id d 1
    rw [her] at h2
    rw [hd'] at h1
    have KO := Aside0.mk (fun (w1 : World) (hb : Below w.heap.size w w1) => op_49 (h.below hb) ok id ⟨fun w2 hw => read_do hw⟩)
    rw [her, hd'] at KO
    have OK' : Aside0 d'.Ok := ⟨by rw [h1]; exact ok.cf c e⟩
    have HD : Aside0 (d'.b = d.b ∧ d'.p = d.p ∧ d'.pages = d.pages) := ⟨by rw [h1]; exact ⟨rfl, rfl, rfl⟩⟩
    have HM := Aside0.mk hm
    clear h ok hn hb her hd' h1 hm
    rcases h2 with rfl | rfl
    · have KP := Aside0.mk (fun (w2 : World) (f2 : Owner) (hx : DevX B f2 w2 db d') => (show Calls Try.prog 46 #[.pointer (some ⟨db, 0, none⟩), .int .i64 (m : Int)] w2 (fun en w3 => ∃ im cp, en = .returned (.slice (some ⟨im, m * d.p, none⟩) d.p cp) ∧ Drawn0 w2 w3 ∧ d.p ≤ cp ∧ (Kd.int .u8).C w3 (some ⟨im, m * d.p, none⟩) d.p (d.page m)) from by
        obtain ⟨im, imc, vu, vf, vw, hg⟩ := hx
        have q := page_nums OK'.out m (by rw [HD.out.2.2]; exact HM.out)
        refine (page_walk hg OK'.out m (by rw [HD.out.2.2]; exact HM.out)).mono ?_
        rintro e w3 ⟨he, hd⟩
        rw [HD.out.2.1] at he q
        have hi := (hg.img.below hd.below).cut (m * d.p) d.p (by rw [q.1]; exact q.2.1) (Nat.le_trans q.2.2.1 (by decide))
        rw [HD.out.1] at hi
        have hcap : d'.b.length ≤ imc := by obtain ⟨cs, _, h2, _, _⟩ := hg.img; exact h2
        refine ⟨im, imc - m * d.p, he, hd, ?_, hi⟩
        have q1 := q.1
        have q2 := Nat.le_trans q.2.1 hcap
        rw [← q1] at q2
        omega))
      have HP4 : Aside0 (d.p ≤ 4096) := ⟨by rw [← HD.out.2.1]; exact OK'.out.p2⟩
      obtain ⟨p, hp⟩ : ∃ p, d.p = p := ⟨_, rfl⟩
      rw [hp] at KP HP4
      obtain ⟨off, hoff⟩ : ∃ off, m * p = off := ⟨_, rfl⟩
      rw [hoff] at KP
      clear hp hoff
      go_enter Try.func26, Try.ntmps26
      go_wp2_with (first
        | (go_at_call 39; refine KM.out.mono ?_; rintro e w' ⟨rfl, rfl⟩)
        | (go_at_call 47; refine KI.out.mono ?_; rintro e w1 ⟨rfl, ⟨q, rfl⟩⟩)
        | (go_at_call 48; refine (KO.out _ (pw_below_drewN (Below.refl w.heap.size w) q)).mono ?_; rintro e w2 ⟨rfl, h2⟩; have S2 := Aside0.mk h2; clear h2)
        | (go_at_call 46; refine (KP.out _ _ S2.out.choose_spec.1).mono ?_; rintro e w3 ⟨im, cp, rfl, hd, hle, hC⟩; have C3 := Aside0.mk (clone40 (c := cp) hC hle (Nat.le_trans (by have := HP4.out; omega) (Nat.le_refl _))); have D3 := Aside0.mk hd.below; clear hd hle hC)
        | (go_at_call 40; refine C3.out.mono ?_; rintro e w4 ⟨v, rfl, hR, hb⟩; have R4 := Aside0.mk hR; have B4 := Aside0.mk hb; clear hR hb))
      go_ret2
      rw [HR.out]
      obtain ⟨f2, hx, hm2⟩ := S2.out
      have hb34 := D3.out.trans (B4.out.mono D3.out.size)
      obtain ⟨g1, g2, g3⟩ := hx.boxed hb34
      have m0 := Mv.of_below (B := B) (o := (· = db)) (f := f) (f1 := f) (pw_below_drewN (Below.refl w.heap.size w) q) H.out.size.1 (fun _ _ => rfl)
      have mall := m0.trans (hm2.trans g3)
      refine ⟨v, _, rfl, g1, mall, ?_⟩
      have e : (if (0 : Int) = 0 then d.page m else []) = d.page m := if_pos rfl
      show (Kd.int .u8).R 5 _ _ _ v (if (0 : Int) = 0 then d.page m else [])
      rw [e]
      have hsz : w.heap.size ≤ _ := (m0.trans hm2).below.size
      exact Kd.R_mono (Kd.R_lower R4.out (Nat.le_trans hsz D3.out.size)) (fun k hk => ⟨Nat.le_trans (Nat.le_trans hsz D3.out.size) hk, g2 k (Nat.le_trans D3.out.size hk)⟩)
    · go_enter Try.func26, Try.ntmps26
      go_wp2_with (first
        | (go_at_call 39; refine KM.out.mono ?_; rintro e w' ⟨rfl, rfl⟩)
        | (go_at_call 47; refine KI.out.mono ?_; rintro e w1 ⟨rfl, ⟨q, rfl⟩⟩)
        | (go_at_call 48; refine (KO.out _ (pw_below_drewN (Below.refl w.heap.size w) q)).mono ?_; rintro e w2 ⟨rfl, h2⟩; have S2 := Aside0.mk h2; clear h2))
      go_ret2
      rw [HR.out]
      obtain ⟨f2, hx, hm2⟩ := S2.out
      have m0 := Mv.of_below (B := B) (o := (· = db)) (f := f) (f1 := f) (pw_below_drewN (Below.refl w.heap.size w) q) H.out.size.1 (fun _ _ => rfl)
      exact ⟨_, f2, rfl, hx, m0.trans hm2, Kd.R_nil _ _ _ _ _⟩
end
/-! ### Program -/
theorem R_apart {α β : Type} {d : Kd α} {d' : Kd β} {e e' : Nat} {w : World} {b b' : Nat} {ok ok' : Nat → Prop} {v v' : Value} {xs : List α} {ys : List β} (h : d.R e w b ok v xs) (h' : d'.R e' w b' ok' v' ys) (ht : ∀ q, q ∈ e :: d.E → q ≠ e') :
    d.R e w b (fun k => ok k ∧ some k ≠ v'.ownBlock) v xs :=
  Kd.R_mono (Kd.R_bound h) (fun k hk => ⟨hk.1, fun e2 => by
    obtain ⟨_, _, _, q, hq, cells, hc⟩ := hk
    obtain ⟨inner, ho⟩ := Kd.R_own h'
    obtain ⟨cells', hc'⟩ := own_typed ho k e2.symm
    rw [hc] at hc'
    injection hc' with hc'
    injection hc' with _ hc'
    exact ht q hq hc'⟩)
theorem R_C {α : Type} {d : Kd α} {e n c : Nat} {w : World} {base : Nat} {ok : Nat → Prop} {A : Option Addr} {xs : List α} (h : d.R e w base ok (.slice A n c) xs) : d.C w A n xs ∧ xs.length = n ∧ n ≤ c := by
  obtain ⟨A', c', e, hl, hC⟩ := Kd.R_reads h
  injection e with e1 e2 e3
  subst e1 e3
  rw [e2]
  exact ⟨hC, rfl, hl⟩
section
variable {B : Nat} {f : Owner} {w : World} {db : Nat} {d : Dv} {im imc : Nat} {vu vf vw : Value}
/-- A page is noted as unsynced. -/
theorem DevG.setUn (h : DevG B f w db d im imc vu vf vw) (q : Nat) {w1 : World} {v1 : Value} {us : List Int}
    (hR : (Kd.int .i64).R 3 w1 B (fun k => owns f w.heap.size db k = db) v1 us) (hg : (w.drewN q).grownBy w1 vu.ownBlock) (hat : v1.ownBlock = vu.ownBlock ∨ ∃ b, v1.ownBlock = some b ∧ (w.drewN q).heap.size ≤ b) :
    DevG B (owns f w.heap.size db) (w1.setCell ⟨db, 5, none⟩ v1) db { d with un := us } im imc v1 vf vw ∧ Mv B (· = db) f w (owns f w.heap.size db) (w1.setCell ⟨db, 5, none⟩ v1) := by
  have hlt := blk_lt h.blk
  have hdb := h.base
  have hBs : B ≤ w.heap.size := by omega
  have m0 : Mv B (· = db) f w (owns f w.heap.size db) (w.drewN q) := ((Mv.refl B (· = db) f w).drewN q).own (fun k hk => owns_old f _ _ k hk)
  have hun := Kd.R_bound h.un
  have m1 : Mv B (· = db) f w (owns f w.heap.size db) w1 := Mv.grown m0 hBs hg (fun k hk2 => ⟨(hun.1 k hk2).2.1, fun _ => (hun.1 k hk2).1⟩)
  have ho : owns f w.heap.size db db = db := (owns_old f _ _ db hlt).trans h.own
  refine ⟨?_, Mv.set m1 ⟨db, 5, none⟩ v1 hdb (fun _ => h.own)⟩
  have hb1 := blk_grown (blk_drewN h.blk q) hg (Kd.R_ne h.un h.blk (by decide))
  have himu : some im ≠ vu.ownBlock := fun e => (Kd.R_bound (h.imrow h.un (by decide))).1 im e.symm |>.1.2 rfl
  have row : ∀ {α : Type} {k : Kd α} {e : Nat} {v : Value} {xs : List α}, (∀ q, q ∈ e :: k.E → q ≠ 78) → k.R e w B (fun k => f k = db ∧ some k ≠ vu.ownBlock) v xs → k.R e (w1.setCell ⟨db, 5, none⟩ v1) B (fun k => owns f w.heap.size db k = db) v xs := by
    intro α k e v xs h78 hs
    have h2 : k.R e (w.drewN q) B (fun k => owns f w.heap.size db k = db ∧ some k ≠ vu.ownBlock) v xs :=
      Kd.R_below (Kd.R_mono (Kd.R_bound hs) (fun k hk => ⟨(owns_old f _ _ k hk.2.2.1).trans hk.1.1, hk.1.2⟩)) (pw_below_drewN (Below.refl _ _) q)
    exact Kd.R_set (Kd.R_mono (Kd.R_grown h2 hg (fun k hk => hk.2)) (fun k hk => hk.1)) hb1 h78 5 v1
  have hfl : k85.R 85 w B (fun k => f k = db ∧ some k ≠ vu.ownBlock) vf d.fl := Kd.R_mono (R_apart h.fl h.un (by decide)) (fun k hk => hk)
  have hwr : (Kd.int .i64).R 3 w B (fun k => f k = db ∧ some k ≠ vu.ownBlock) vw d.wear := ⟨fun k hk => ⟨h.wr.1 k hk, fun e => h.ne k e.symm hk⟩, by
    obtain ⟨_, inner, ho, hr⟩ := h.wr
    exact ⟨inner, ho, hr.1, fun i p hi => hr.2 i p hi⟩⟩
  exact
    { blk := blk_put hb1 5 v1 rfl
      own := ho
      base := hdb
      img := (h.img.below (pw_below_drewN (Below.refl _ _) q)).keep (by
        have e1 := hg.block im (blk_lt (blk_drewN h.blk q) |> fun _ => h.img.lt) himu
        rw [Below.heap_setCell w1 ⟨db, 5, none⟩ v1 im h.imdb]
        exact e1)
      imo := (owns_old f _ _ im h.img.lt).trans h.imo
      imb := h.imb
      un := Kd.R_set hR hb1 (by decide) 5 v1
      fl := row (by decide) hfl
      wr := row (by decide) hwr
      ne := fun k hk e => by
        rcases hat with h1 | ⟨b, h1, h2⟩
        · exact h.ne k (h1.symm.trans hk) e
        · have := ((Kd.R_bound h.wr).1 k e).2.2.1
          rw [h1] at hk
          injection hk with hk
          have h3 : (w.drewN q).heap.size = w.heap.size := by simp
          omega }
/-- What the closure of Program does: the bytes laid, the page noted. -/
theorem lay_facts (x : List Int) (n : Nat) (d : Dv) : (Dv.lay x n d).b = putAt d.b (n * d.p) x ∧ (Dv.lay x n d).un = (if isFF x then d.un else d.un ++ [(n : Int)]) := ⟨rfl, rfl⟩
theorem lay_ok {x : List Int} {n : Nat} {d : Dv} (ok : d.Ok) (hn : n < d.pages) (hx : x.length = d.p) (hb : ∀ y ∈ x, 0 ≤ y ∧ y < 256) : (Dv.lay x n d).Ok := by
  have q := page_nums ok n hn
  have hfit : n * d.p + x.length ≤ d.b.length := by rw [hx, q.1]; exact q.2.1
  refine ⟨ok.p1, ok.p2, ok.s1, ok.s2, ok.r1, ok.r2, ok.sz, ?_, ?_, ok.wl, ?_, ok.flk, ok.fll⟩
  · exact (putAt_length d.b (n * d.p) x hfit).trans ok.len
  · intro y hy
    have hy' : y ∈ d.b.take (n * d.p) ++ x ++ d.b.drop (n * d.p + x.length) := hy
    rcases List.mem_append.1 hy' with h | h
    · rcases List.mem_append.1 h with h | h
      · exact ok.byte y (List.mem_of_mem_take h)
      · exact hb y h
    · exact ok.byte y (List.mem_of_mem_drop h)
  · intro y hy
    have hy' : y ∈ (if isFF x then d.un else d.un ++ [(n : Int)]) := hy
    by_cases hf : isFF x = true
    · rw [if_pos hf] at hy'; exact ok.unr y hy'
    · rw [if_neg hf] at hy'
      rcases List.mem_append.1 hy' with h | h
      · exact ok.unr y h
      · rw [List.mem_singleton.1 h]
        exact ⟨Int.natCast_nonneg n, by show ((n : Nat) : Int) < (d.pages : Int); exact Int.ofNat_lt.2 hn⟩
theorem put_ok {x : List Int} {n : Nat} {d : Dv} (ok : d.Ok) (hn : n < d.pages) (hx : x.length = d.p) (hb : ∀ y ∈ x, 0 ≤ y ∧ y < 256) : ({ d with b := putAt d.b (n * d.p) x } : Dv).Ok := by
  have h := lay_ok ok hn hx hb
  exact ⟨h.p1, h.p2, h.s1, h.s2, h.r1, h.r2, h.sz, h.len, h.byte, h.wl, ok.unr, h.flk, h.fll⟩
theorem put_clean {x : List Int} {n : Nat} {d : Dv} (ok : d.Ok) (hn : n < d.pages) (hx : x.length = d.p) : ({ d with b := putAt d.b (n * d.p) x } : Dv).clean n = isFF x := by
  have q := page_nums ok n hn
  show isFF (cutOf (putAt d.b (n * d.p) x) (n * d.p) d.p) = _
  rw [← hx, cut_put_same d.b x (n * x.length) (by rw [hx, q.1]; exact q.2.1)]
/-- The bytes are laid. -/
theorem DevA.copied {w1 : World} (h : DevA B f w db d w1) {im cp : Nat} {vu vf vw : Value} {f1 : Owner} (hg : DevG B f1 w1 db d im cp vu vf vw) (m : Mv B (· = db) f w f1 w1) (ok : d.Ok) {n : Nat} (hn : n < d.pages) {A : Option Addr} {c : Nat} {x : List Int} (hx : x.length = d.p) (hC : (Kd.int .u8).C w1 A d.p x) (ty : TypeId) :
    ∃ w', (Builtin.copy_ #[24, 24] ty #[.slice (some ⟨im, n * d.p, none⟩) d.p (cp - n * d.p), .slice A d.p c]).run Try.prog w1 = .ok (goInt d.p) w' ∧ DevA B f w db { d with b := putAt d.b (n * d.p) x } w' ∧ w1.grownBy w' (some im) := by
  have q := page_nums ok n hn
  have hfit : n * d.p + x.length ≤ d.b.length := by rw [hx, q.1]; exact q.2.1
  obtain ⟨w', hr, hi, hgr, hs⟩ := hg.img.copy (n * d.p) x hfit (dLen := d.p) (dCap := cp - n * d.p) (sLen := d.p) (sCap := c) (A := A) (by rw [hx]; exact (Nat.min_self d.p).symm) (by rw [hx]; exact q.2.2.2.1) ⟨x, hC, by rw [List.take_length]⟩ ty
  rw [hx] at hr
  obtain ⟨g1, g2⟩ := hg.setImg (putAt_length d.b (n * d.p) x hfit) hi hgr
  exact ⟨w', hr, ⟨f1, ⟨im, cp, vu, vf, vw, g1⟩, m.trans g2⟩, hgr⟩
set_option maxHeartbeats 4000000 in
set_option maxRecDepth 100000 in
theorem prog_do {w1 : World} {bd bn bs : Nat} (h : DevA B f w db d w1) (ok : d.Ok) {n : Nat} (hn : n < d.pages) {A : Option Addr} {c : Nat} {x : List Int} (hx : x.length = d.p) (hxb : ∀ y ∈ x, 0 ≤ y ∧ y < 256) (hul : (d.un.length + 1) * 8 ≤ 140737488355328) (hbn : bn < w.heap.size) (hnb : f bn ≠ db)
    (HS : Aside0 (∀ (d2 : Dv) w2, DevA B f w db d2 w2 → (Kd.int .u8).C w2 A d.p x ∧ w2.heap[bd]? = some (.cells #[.pointer (some ⟨db, 0, none⟩)] 26 (0, 0)) ∧ w2.heap[bn]? = some (.cells #[.int .i64 (n : Int)] 3 (0, 0)) ∧ w2.heap[bs]? = some (.cells #[.slice A d.p c] 24 (0, 0)))) :
    Calls Try.prog 62 #[.pointer (some ⟨bd, 0, none⟩), .pointer (some ⟨bn, 0, none⟩), .pointer (some ⟨bs, 0, none⟩)] w1 (fun e w2 => e = .returned (.tuple #[]) ∧ DevA B f w db (Dv.lay x n d) w2) := by
  have S1 := Aside0.mk h
  have OK := Aside0.mk ok
  have HBN := Aside0.mk (And.intro hbn hnb)
  have HB := Aside0.mk (And.intro hn (And.intro hx (And.intro hxb hul)))
  obtain ⟨_, k0, k1, k2⟩ := HS.out d w1 h
  have c0 : w1.cell? ⟨bd, 0, none⟩ = some (.pointer (some ⟨db, 0, none⟩)) := blk_cell k0 0
  have c1 : w1.cell? ⟨bn, 0, none⟩ = some (.int .i64 (n : Int)) := blk_cell k1 0
  have c2 : w1.cell? ⟨bs, 0, none⟩ = some (.slice A d.p c) := blk_cell k2 0
  obtain ⟨d1, hd1⟩ : ∃ d1 : Dv, { d with b := putAt d.b (n * d.p) x } = d1 := ⟨_, rfl⟩
  have D1 : Aside0 (d1.Ok ∧ d1.clean n = isFF x ∧ n < d1.pages ∧ d1.un = d.un ∧ Dv.lay x n d = { d1 with un := if isFF x then d1.un else d1.un ++ [(n : Int)] }) := ⟨by
    obtain ⟨b1, b2, b3, b4⟩ := HB.out
    rw [← hd1]
    exact ⟨put_ok OK.out b1 b2 b3, put_clean OK.out b1 b2, b1, rfl, rfl⟩⟩
  have KP := Aside0.mk (fun (w2 : World) (hb : Below w1.heap.size w1 w2) => (show Calls Try.prog 46 #[.pointer (some ⟨db, 0, none⟩), .int .i64 (n : Int)] w2 (fun en w3 => ∃ im cp, en = .returned (.slice (some ⟨im, n * d.p, none⟩) d.p (cp - n * d.p)) ∧ Below w2.heap.size w2 w3 ∧ ∀ ty, ∃ w4, (Builtin.copy_ #[24, 24] ty #[.slice (some ⟨im, n * d.p, none⟩) d.p (cp - n * d.p), .slice A d.p c]).run Try.prog w3 = .ok (goInt d.p) w4 ∧ DevA B f w db d1 w4) from by
    obtain ⟨f1, ⟨im, cp, vu, vf, vw, hg⟩, m⟩ := S1.out
    have hg2 := hg.below hb
    refine (page_walk hg2 OK.out n HB.out.1).mono ?_
    rintro e w3 ⟨he, hd⟩
    have hg3 := hg2.below hd.below
    have hb3 := hb.trans (hd.below.mono hb.size)
    have A3 : DevA B f w db d w3 := S1.out.box hb3
    have m3 : Mv B (· = db) f w f1 w3 := m.trans (Mv.of_below hb3 (Nat.le_trans hg.base (Nat.le_of_lt (blk_lt hg.blk))) (fun _ _ => rfl))
    refine ⟨im, cp, he, hd.below, fun ty => ?_⟩
    obtain ⟨w4, hr, hA, _⟩ := DevA.copied A3 hg3 m3 OK.out HB.out.1 (c := c) HB.out.2.1 (HS.out d w3 A3).1 ty
    rw [hd1] at hA
    exact ⟨w4, hr, hA⟩))
  obtain ⟨p, hp⟩ : ∃ p, d.p = p := ⟨_, rfl⟩
  have HP := Aside0.mk hp
  rw [hp] at c2 KP
  clear h ok hn hx hxb hul hbn hnb k0 k1 k2 hp hd1
  go_enter Try.func62, Try.ntmps62
  go_upto_region 0 with (fail)
  refine start_ (n := 5) (S := fun w' => w'.cell? ⟨bd, 0, none⟩ = some (.pointer (some ⟨db, 0, none⟩)) ∧ w'.cell? ⟨bn, 0, none⟩ = some (.int .i64 (n : Int)) ∧ w'.cell? ⟨bs, 0, none⟩ = some (.slice A p c)) (ds := [4]) #[F,F,F,F,F] (by kernel_rfl) rfl rfl (⟨c0, c1, c2⟩) (fun hHeld => ?_)
  generalize hwd : w1.drew = wd at hHeld ⊢
  have BD : Aside0 (Below w1.heap.size w1 wd) := ⟨by rw [← hwd]; exact below_drew (Below.refl _ _)⟩
  clear hwd
  refine take_ (i := 0) (N := some 3) (v := ?_) (a' := ?_) #[T,F,F,F,F] rfl rfl (by kernel_rfl) (fun _ _ _ h => h) (Or.inl ⟨by rfl, ?_⟩) hHeld ?_ ?_
  rotate_left
  · intro w' s0
    obtain ⟨s1, s2, s3⟩ := s0
    go_simp
    with_reducible rfl
  rotate_left
  · simp only [Act.put, sA, s0_, sS, i64_w, i32_w]
    rfl
  refine take_ (i := 1) (N := some 4) (v := ?_) (a' := ?_) #[T,T,F,F,F] rfl rfl (by kernel_rfl) (fun _ _ _ h => h) (Or.inl ⟨by rfl, ?_⟩) hHeld ?_ ?_
  rotate_left
  · intro w' s0
    obtain ⟨s1, s2, s3⟩ := s0
    go_simp
    with_reducible rfl
  rotate_left
  · simp only [Act.put, sA, s0_, sS, i64_w, i32_w]
    rfl
  refine take_ (i := 3) (N := some 6) (v := ?_) (a' := ?_) #[T,T,F,T,F] rfl rfl (by kernel_rfl) (fun _ _ _ h => h) (Or.inl ⟨by rfl, ?_⟩) hHeld ?_ ?_
  rotate_left
  · intro w' s0
    obtain ⟨s1, s2, s3⟩ := s0
    go_simp
    with_reducible rfl
  rotate_left
  · simp only [Act.put, sA, s0_, sS, i64_w, i32_w]
    rfl
  refine one_ (i := 2) (N := some 5) #[T,T,T,T,F] rfl rfl (by kernel_rfl) (by decide) (fun K hK => ?_)
  refine goes_ Try.func46 (by kernel_rfl) rfl #[.pointer (some ⟨db, 0, none⟩), .int .i64 (n : Int)] (by rfl) rfl rfl (by (try simp only [List.map_toArray, List.map_cons, List.map_nil]); first | done | rfl) ?_
  with_reducible refine (KP.out wd BD.out).mono ?_
  rintro e w2 ⟨im, cp, rfl, hq, hrest⟩
  refine ⟨_, rfl, ?_⟩
  obtain ⟨w3, hrun, hD3⟩ := hrest 3
  have D3 := Aside0.mk hD3
  clear hrest hD3
  refine hK.out _ _ (by exact ⟨pw_cell_below (BD.out.trans (hq.mono BD.out.size)) c0, pw_cell_below (BD.out.trans (hq.mono BD.out.size)) c1, pw_cell_below (BD.out.trans (hq.mono BD.out.size)) c2⟩) (fun hHeld => ?_)
  clear hK K
  refine norm_ (a' := ?_) ?_ ?_
  rotate_left
  · show Act.put _ (some 5) _ = _
    simp only [Act.put, sA, s0_, sS, i64_w, i32_w]
    rfl
  refine last_ (i := 4) (N := some 7) #[T,T,T,T,T] rfl rfl (by kernel_rfl) (by decide) (fun K hK => ?_)
  refine value_ (w1 := w3) (v := .int .i64 (p : Int)) (by rfl) rfl (by simp [execOp, resolve, invoke, builtin, Act.eval, hrun, Result.andThen, goInt]) ?_
  refine hK.out _ _ ?_
  clear hK K
  refine norm_ (a' := ?_) ?_ ?_
  rotate_left
  · show Act.put _ (some 7) _ = _
    simp only [Act.put, sA, s0_, sS, i64_w, i32_w]
    rfl
  refine done_ (by kernel_rfl) ?_
  obtain ⟨_, k0, k1, _⟩ := HS.out d1 w3 D3.out
  have c0 : w3.cell? ⟨bd, 0, none⟩ = some (.pointer (some ⟨db, 0, none⟩)) := blk_cell k0 0
  have c1 : w3.cell? ⟨bn, 0, none⟩ = some (.int .i64 (n : Int)) := blk_cell k1 0
  have KC : Aside0 (Calls Try.prog 50 #[.pointer (some ⟨db, 0, none⟩), .int .i64 (n : Int)] w3 (fun e w' => e = .returned (.bool (isFF x)) ∧ Below w3.heap.size w3 w')) := ⟨by
    obtain ⟨f1, ⟨im, cp, vu, vf, vw, hg⟩, m⟩ := D3.out
    have h := clean_walk hg D1.out.1 n D1.out.2.2.1
    rw [D1.out.2.1] at h
    exact h⟩
  clear hrun hq k0 k1 BD KP c2
  cases hf : isFF x with
  | true =>
    rw [hf] at KC D1
    clear hf
    go_wp2_with (go_at_call 50; refine KC.out.mono ?_; rintro e w4 ⟨rfl, hb⟩; have D4 := Aside0.mk (D3.out.box hb); clear hb)
    go_end0
    refine ⟨rfl, ?_⟩
    rw [D1.out.2.2.2.2]
    exact D4.out
  | false =>
    rw [hf] at KC D1
    clear hf
    go_upto_region 2 with (go_at_call 50; refine KC.out.mono ?_; rintro e w4 ⟨rfl, hb⟩; have D4 := Aside0.mk (D3.out.box hb); clear hb)
    clear c0 c1
    obtain ⟨_, k0, k1, _⟩ := HS.out d1 w4 D4.out
    have c0 : w4.cell? ⟨bd, 0, none⟩ = some (.pointer (some ⟨db, 0, none⟩)) := blk_cell k0 0
    have c1 : w4.cell? ⟨bn, 0, none⟩ = some (.int .i64 (n : Int)) := blk_cell k1 0
    obtain ⟨f4, ⟨im, cp, vu, vf, vw, hg⟩, m⟩ := D4.out
    obtain ⟨Au, cu, ev⟩ := Kd.R_slice hg.un
    subst ev
    have c5 : w4.cell? ⟨db, 5, none⟩ = some (.slice Au d1.un.length cu) := hg.at_ 5
    have HG := Aside0.mk hg
    have HM := Aside0.mk m
    have HB4 : Aside0 (B ≤ w4.heap.size) := ⟨Nat.le_trans hg.base (Nat.le_of_lt (blk_lt hg.blk))⟩
    have HBK := Aside0.mk hg.blk
    have RE : Aside0 ((Kd.int .i64).R 3 w4.drew B (fun k => owns f4 w4.heap.size db k = db) (.slice Au d1.un.length cu) d1.un) := ⟨by
      exact Kd.R_mono (Kd.R_bound hg.un) (fun k hk => (owns_old f4 _ _ k hk.2.2.1).trans hk.1)⟩
    have HL : Aside0 ((d1.un.length + 1) * 8 ≤ 140737488355328) := ⟨by rw [D1.out.2.2.2.1]; exact HB.out.2.2.2⟩
    obtain ⟨us, hus⟩ : ∃ us, d1.un = us := ⟨_, rfl⟩
    have HUS := Aside0.mk hus
    rw [hus] at c5 RE HL
    obtain ⟨nu, hnu⟩ : ∃ nu, us.length = nu := ⟨_, rfl⟩
    rw [hus, hnu] at HBK HG
    rw [hnu] at c5 RE
    have HK0 := Aside0.mk k0
    have HK1 := Aside0.mk k1
    have HNE : Aside0 (f4 bn ≠ db) := ⟨by rw [HM.out.old bn HBN.out.1]; exact HBN.out.2⟩
    clear hg m k0 k1 hus hnu
    refine start_ (n := 11) (S := fun w' => w'.cell? ⟨bd, 0, none⟩ = some (.pointer (some ⟨db, 0, none⟩)) ∧ w'.cell? ⟨bn, 0, none⟩ = some (.int .i64 (n : Int)) ∧ w'.cell? ⟨db, 5, none⟩ = some (.slice Au nu cu)) (ds := [10]) #[F,F,F,F,F,F,F,F,F,F,F] (by kernel_rfl) rfl rfl (⟨c0, c1, c5⟩) (fun hHeld => ?_)
    generalize hwd : w4.drew = wd at hHeld ⊢
    have BD : Aside0 (Below w4.heap.size w4 wd) := ⟨by rw [← hwd]; exact below_drew (Below.refl _ _)⟩
    have HWD := Aside0.mk hwd
    have RED := Aside0.mk RE.out
    rw [hwd] at RED
    clear hwd
    refine take_ (i := 0) (N := some 12) (v := ?_) (a' := ?_) #[T,F,F,F,F,F,F,F,F,F,F] rfl rfl (by kernel_rfl) (fun _ _ _ h => h) (Or.inl ⟨by rfl, ?_⟩) hHeld ?_ ?_
    rotate_left
    · intro w' s0
      obtain ⟨s1, s2, s3⟩ := s0
      go_simp
      with_reducible rfl
    rotate_left
    · simp only [Act.put, sA, s0_, sS, i64_w, i32_w]
      rfl
    refine take_ (i := 1) (N := some 13) (v := ?_) (a' := ?_) #[T,T,F,F,F,F,F,F,F,F,F] rfl rfl (by kernel_rfl) (fun _ _ _ h => h) (Or.inl ⟨by rfl, ?_⟩) hHeld ?_ ?_
    rotate_left
    · intro w' s0
      obtain ⟨s1, s2, s3⟩ := s0
      go_simp
      with_reducible rfl
    rotate_left
    · simp only [Act.put, sA, s0_, sS, i64_w, i32_w]
      rfl
    refine pure_ (i := 2) (N := some 14) (v := ?_) (a' := ?_) #[T,T,T,F,F,F,F,F,F,F,F] rfl rfl (by kernel_rfl) (fun _ _ _ h => h) (Or.inl ⟨by rfl, ?_⟩) ?_ ?_
    rotate_left
    · intro w'
      go_simp
      with_reducible rfl
    rotate_left
    · simp only [Act.put, sA, s0_, sS, i64_w, i32_w]
      rfl
    refine pure_ (i := 3) (N := some 15) (v := ?_) (a' := ?_) #[T,T,T,T,F,F,F,F,F,F,F] rfl rfl (by kernel_rfl) (fun _ _ _ h => h) (Or.inl ⟨by rfl, ?_⟩) ?_ ?_
    rotate_left
    · intro w'
      go_simp
      with_reducible rfl
    rotate_left
    · simp only [Act.put, sA, s0_, sS, i64_w, i32_w]
      rfl
    refine take_ (i := 4) (N := some 16) (v := ?_) (a' := ?_) #[T,T,T,T,T,F,F,F,F,F,F] rfl rfl (by kernel_rfl) (fun _ _ _ h => h) (Or.inl ⟨by rfl, ?_⟩) hHeld ?_ ?_
    rotate_left
    · intro w' s0
      obtain ⟨s1, s2, s3⟩ := s0
      go_simp
      with_reducible rfl
    rotate_left
    · simp only [Act.put, sA, s0_, sS, i64_w, i32_w]
      rfl
    refine take_ (i := 5) (N := some 17) (v := ?_) (a' := ?_) #[T,T,T,T,T,T,F,F,F,F,F] rfl rfl (by kernel_rfl) (fun _ _ _ h => h) (Or.inl ⟨by rfl, ?_⟩) hHeld ?_ ?_
    rotate_left
    · intro w' s0
      obtain ⟨s1, s2, s3⟩ := s0
      go_simp
      with_reducible rfl
    rotate_left
    · simp only [Act.put, sA, s0_, sS, i64_w, i32_w]
      rfl
    refine one_ (i := 6) (N := some 18) #[T,T,T,T,T,T,T,F,F,F,F] rfl rfl (by kernel_rfl) (by decide) (fun K hK => ?_)
    refine value_ (w1 := ?_) (v := ?_) (by rfl) rfl ?_ ?_
    rotate_left 2
    · go_simp
      constructor
      · rfl
      · rfl
    refine hK.out _ _ (by exact ⟨pw_cell_below (below_alloc BD.out _) c0, pw_cell_below (below_alloc BD.out _) c1, pw_cell_below (below_alloc BD.out _) c5⟩) (fun hHeld => ?_)
    clear hK K
    refine norm_ (a' := ?_) ?_ ?_
    rotate_left
    · show Act.put _ (some 18) _ = _
      simp only [Act.put, sA, s0_, sS, i64_w, i32_w]
      rfl
    refine one_ (i := 7) (N := some 19) #[T,T,T,T,T,T,T,T,F,F,F] rfl rfl (by kernel_rfl) (by decide) (fun K hK => ?_)
    refine Kd.R_append_step (Kd.int .i64) (w0 := wd) B (by rfl) (.tmp 16) (.tmp 18) 35 3 (.int .i64 0) 8 rfl Try.underlying35 info3 rfl (by decide) (by decide) (.slice Au nu cu) us (n : Int) [.int .i64 (n : Int)] (fun k => owns f4 w4.heap.size db k = db) (fun _ => False) rfl rfl rfl (fun _ h => h.elim) (fun k hk => owns_new _ _ _ _ (Nat.le_trans BD.out.size hk)) RED.out (Below.refl _ _) (Nat.le_trans HB4.out BD.out.size) HL.out ?_
    intro v1 w5 hR5 hb5 hg5 hat5
    obtain ⟨A5, c5', hv5⟩ := Kd.R_slice hR5
    rw [List.length_append, List.length_singleton] at hv5
    subst hv5
    have R5 := Aside0.mk hR5
    have G5 := Aside0.mk (And.intro hg5 hat5)
    have b5 := blk_grown (blk_below HBK.out BD.out) hg5 (Kd.R_ne RED.out (blk_below HBK.out BD.out) (by decide))
    have y5 := blk_cell b5 5
    have f5 := blk_frozen b5 5
    have z0 : w5.cell? ⟨bd, 0, none⟩ = some (.pointer (some ⟨db, 0, none⟩)) := blk_cell (blk_grown (blk_below HK0.out BD.out) hg5 (Kd.R_ne RED.out (blk_below HK0.out BD.out) (by decide))) 0
    have z1 : w5.cell? ⟨bn, 0, none⟩ = some (.int .i64 (n : Int)) := blk_cell (blk_grown (blk_below HK1.out BD.out) hg5 (fun e => HNE.out (by have := ((Kd.R_bound RED.out).1 bn e.symm).1; rw [owns_old _ _ _ _ (blk_lt HK1.out)] at this; exact this))) 0
    clear hR5 hb5 hg5 hat5 b5
    refine hK.out _ _ (⟨z0, z1, y5⟩) (fun hHeld => ?_)
    clear hK K
    refine norm_ (a' := ?_) ?_ ?_
    rotate_left
    · show Act.put _ (some 19) _ = _
      simp only [Act.put, sA, s0_, sS, i64_w, i32_w]
      rfl
    clear z0 z1
    refine pure_ (i := 8) (N := some 20) (v := ?_) (a' := ?_) #[T,T,T,T,T,T,T,T,T,F,F] rfl rfl (by kernel_rfl) (fun _ _ _ h => h) (Or.inl ⟨by rfl, ?_⟩) ?_ ?_
    rotate_left
    · intro w'
      go_simp
      with_reducible rfl
    rotate_left
    · simp only [Act.put, sA, s0_, sS, i64_w, i32_w]
      rfl
    refine take_ (i := 9) (N := some 21) (v := ?_) (a' := ?_) #[T,T,T,T,T,T,T,T,T,T,F] rfl rfl (by kernel_rfl) (fun _ _ _ h => h) (Or.inl ⟨by rfl, ?_⟩) hHeld ?_ ?_
    rotate_left
    · intro w' s0
      obtain ⟨s1, s2, s3⟩ := s0
      go_simp
      with_reducible rfl
    rotate_left
    · simp only [Act.put, sA, s0_, sS, i64_w, i32_w]
      rfl
    refine last_ (i := 10) (N := none) #[T,T,T,T,T,T,T,T,T,T,T] rfl rfl (by kernel_rfl) (by decide) (fun K hK => ?_)
    refine skip_ (w1 := ?_) (by rfl) rfl ?_ ?_
    rotate_left
    · go_simp
      rfl
    refine hK.out _ _ ?_
    clear hK K
    refine done_ (by kernel_rfl) ?_
    have hgu := HG.out.setUn 1 R5.out (by have := G5.out.1; rw [← HWD.out] at this; exact this) (by have := G5.out.2; rw [← HWD.out] at this; exact this)
    have Z := Aside0.mk hgu
    clear hgu y5 f5 c0 c1 c5
    go_wp2
    go_end0
    refine ⟨rfl, ?_⟩
    rw [D1.out.2.2.2.2]
    obtain ⟨z1, z2⟩ := Z.out
    have e : (if false = true then d1.un else d1.un ++ [(n : Int)]) = us ++ [(n : Int)] := by rw [HUS.out]; exact if_neg (by decide)
    rw [e]
    exact ⟨_, ⟨_, _, _, _, _, z1⟩, HM.out.trans z2⟩
end
/-! ### Program, the call -/
theorem boxes3 (w : World) (v0 v1 v2 : Value) (t0 t1 t2 : TypeId) : Below w.heap.size w (((w.alloc (.cells #[v0] t0)).alloc (.cells #[v1] t1)).alloc (.cells #[v2] t2)) ∧ (((w.alloc (.cells #[v0] t0)).alloc (.cells #[v1] t1)).alloc (.cells #[v2] t2)).heap[w.heap.size]? = some (.cells #[v0] t0 (0, 0)) ∧ (((w.alloc (.cells #[v0] t0)).alloc (.cells #[v1] t1)).alloc (.cells #[v2] t2)).heap[w.heap.size + 1]? = some (.cells #[v1] t1 (0, 0)) ∧ (((w.alloc (.cells #[v0] t0)).alloc (.cells #[v1] t1)).alloc (.cells #[v2] t2)).heap[w.heap.size + 1 + 1]? = some (.cells #[v2] t2 (0, 0)) := by
  have e1 : (w.alloc (.cells #[v0] t0)).heap.size = w.heap.size + 1 := by simp
  have e2 : ((w.alloc (.cells #[v0] t0)).alloc (.cells #[v1] t1)).heap.size = w.heap.size + 1 + 1 := by simp
  have b1 := below_alloc (Below.refl w.heap.size w) (.cells #[v0] t0)
  have b2 := below_alloc (Below.refl _ (w.alloc (.cells #[v0] t0))) (.cells #[v1] t1)
  have b3 := below_alloc (Below.refl _ ((w.alloc (.cells #[v0] t0)).alloc (.cells #[v1] t1))) (.cells #[v2] t2)
  refine ⟨(b1.trans (b2.mono b1.size)).trans (b3.mono (Nat.le_trans b1.size b2.size)), blk_below (blk_below (blk_new w _) b2) b3, ?_, ?_⟩
  · have := blk_below (blk_new (w.alloc (.cells #[v0] t0)) (.cells #[v1] t1)) b3
    rw [e1] at this; exact this
  · have := blk_new ((w.alloc (.cells #[v0] t0)).alloc (.cells #[v1] t1)) (.cells #[v2] t2)
    rw [e2] at this; exact this
section
variable {B : Nat} {f : Owner} {w : World} {db : Nat} {d : Dv}
set_option maxHeartbeats 4000000 in
set_option maxRecDepth 100000 in
theorem program_walk (h : DevX B f w db d) (ok : d.Ok) (n : Int) {A : Option Addr} {c : Nat} {x : List Int} (hxb : ∀ y ∈ x, 0 ≤ y ∧ y < 256) (hul : (d.un.length + 1) * 8 ≤ 140737488355328) (HX : Aside0 (∀ d2 w2, DevA B f w db d2 w2 → (Kd.int .u8).C w2 A x.length x)) :
    Calls Try.prog 34 #[.pointer (some ⟨db, 0, none⟩), .int .i64 n, .slice A x.length c] w (fun e w' => e = .returned (.int .i64 (d.program n x).2) ∧ DevA B f w db (d.program n x).1 w') := by
  have H := Aside0.mk h
  have OK := Aside0.mk ok
  have KM := Aside0.mk (fun (w' : World) (hb : Below w.heap.size w w') => (h.below hb).made ok)
  have KI := Aside0.mk (fun (w' : World) (hb : Below w.heap.size w w') => (show Calls Try.prog 47 #[.pointer (some ⟨db, 0, none⟩), .int .i64 n] w' (Told w' (.bool (decide (0 ≤ n) && decide (n < (d.pages : Int))))) from by
    obtain ⟨_, _, _, _, _, hg⟩ := h.below hb
    exact isPage_walk hg ok n))
  obtain ⟨ln, hln⟩ : ∃ ln, x.length = ln := ⟨_, rfl⟩
  have HLN := Aside0.mk hln
  rw [hln] at HX
  rw [hln]
  by_cases hn : n < 0 ∨ (d.pages : Int) ≤ n
  · have hb : (decide (0 ≤ n) && decide (n < (d.pages : Int))) = false := by
      rcases hn with h1 | h1
      · rw [decide_eq_false (show ¬ 0 ≤ n by omega), Bool.false_and]
      · rw [decide_eq_false (show ¬ n < (d.pages : Int) by omega), Bool.and_false]
    have HR : Aside0 (d.program n x = (d, 30)) := ⟨by unfold Dv.program; exact if_pos (hn.elim .inl (fun h1 => .inr (.inl h1)))⟩
    rw [hb] at KI
    obtain ⟨p, hp⟩ : ∃ p, d.p = p := ⟨_, rfl⟩
    have C3 : w.cell? ⟨db, 0, none⟩ = some (.int .i64 (p : Int)) := by obtain ⟨_, _, _, _, _, hg⟩ := h; rw [← hp]; exact hg.at_ 0
    clear h ok hn hb hxb hul hln hp
    go_enter Try.func34, Try.ntmps34
    go_upto_region 1 with (fail)
    obtain ⟨HB', k0, k1, k2⟩ := boxes3 w (.pointer (some ⟨db, 0, none⟩)) (.int .i64 n) (.slice A ln c) 26 3 24
    generalize (((w.alloc (.cells #[.pointer (some ⟨db, 0, none⟩)] 26)).alloc (.cells #[.int .i64 n] 3)).alloc (.cells #[.slice A ln c] 24)) = wb at HB' k0 k1 k2 ⊢
    generalize hbs : w.heap.size + 1 + 1 = bs at k2 ⊢
    generalize hbn : w.heap.size + 1 = bn at k1 ⊢
    have HB := Aside0.mk HB'
    clear HB'
    generalize hbd : w.heap.size = bd at k0 ⊢
    have LB : Aside0 (w.heap.size ≤ bd ∧ w.heap.size ≤ bn ∧ w.heap.size ≤ bs) := ⟨by omega⟩
    have KB := Aside0.mk (And.intro k0 (And.intro k1 k2))
    clear hbs hbn hbd
    have c0 : wb.cell? ⟨bd, 0, none⟩ = some (.pointer (some ⟨db, 0, none⟩)) := blk_cell k0 0
    have c1 : wb.cell? ⟨bn, 0, none⟩ = some (.int .i64 n) := blk_cell k1 0
    have c2 : wb.cell? ⟨bs, 0, none⟩ = some (.slice A ln c) := blk_cell k2 0
    have c3 : wb.cell? ⟨db, 0, none⟩ = some (.int .i64 (p : Int)) := pw_cell_below HB.out C3
    clear C3 k0 k1 k2
    go_upto_region 3 with (go_at_call 39; refine (KM.out _ HB.out).mono ?_; rintro e w' ⟨rfl, rfl⟩)
    refine start_ (n := 15) (S := fun w' => w'.cell? ⟨bd, 0, none⟩ = some (.pointer (some ⟨db, 0, none⟩)) ∧ w'.cell? ⟨bn, 0, none⟩ = some (.int .i64 n) ∧ w'.cell? ⟨bs, 0, none⟩ = some (.slice A ln c) ∧ w'.cell? ⟨db, 0, none⟩ = some (.int .i64 (p : Int))) (ds := []) #[F,F,F,F,F,F,F,F,F,F,F,F,F,F,F] (by kernel_rfl) rfl rfl (⟨c0, c1, c2, c3⟩) (fun hHeld => ?_)
    generalize hwd : wb.drew = wd at hHeld ⊢
    have BD : Aside0 (Below wb.heap.size wb wd) := ⟨by rw [← hwd]; exact below_drew (Below.refl _ _)⟩
    clear hwd
    refine take_ (i := 0) (N := some 13) (v := ?_) (a' := ?_) #[T,F,F,F,F,F,F,F,F,F,F,F,F,F,F] rfl rfl (by kernel_rfl) (fun _ _ _ h => h) (Or.inl ⟨by rfl, ?_⟩) hHeld ?_ ?_
    rotate_left
    · intro w' s0
      obtain ⟨s1, s2, s3, s4⟩ := s0
      go_simp
      with_reducible rfl
    rotate_left
    · simp only [Act.put, sA, s0_, sS, i64_w, i32_w]
      rfl
    refine take_ (i := 1) (N := some 14) (v := ?_) (a' := ?_) #[T,T,F,F,F,F,F,F,F,F,F,F,F,F,F] rfl rfl (by kernel_rfl) (fun _ _ _ h => h) (Or.inl ⟨by rfl, ?_⟩) hHeld ?_ ?_
    rotate_left
    · intro w' s0
      obtain ⟨s1, s2, s3, s4⟩ := s0
      go_simp
      with_reducible rfl
    rotate_left
    · simp only [Act.put, sA, s0_, sS, i64_w, i32_w]
      rfl
    refine one_ (i := 2) (N := some 15) #[T,T,T,F,F,F,F,F,F,F,F,F,F,F,F] rfl rfl (by kernel_rfl) (by decide) (fun K hK => ?_)
    refine goes_ Try.func47 (by kernel_rfl) rfl #[.pointer (some ⟨db, 0, none⟩), .int .i64 n] (by rfl) rfl rfl (by (try simp only [List.map_toArray, List.map_cons, List.map_nil]); first | done | rfl) ?_
    with_reducible refine (KI.out wd (HB.out.trans (BD.out.mono HB.out.size))).mono ?_
    rintro e w1 ⟨rfl, hdr⟩
    refine ⟨_, rfl, ?_⟩
    have B1 : Aside0 (Below wb.heap.size wb w1) := ⟨BD.out.trans (hdr.below.mono BD.out.size)⟩
    clear hdr
    refine hK.out _ _ (by exact ⟨pw_cell_below B1.out c0, pw_cell_below B1.out c1, pw_cell_below B1.out c2, pw_cell_below B1.out c3⟩) (fun hHeld => ?_)
    clear hK K
    refine norm_ (a' := ?_) ?_ ?_
    rotate_left
    · show Act.put _ (some 15) _ = _
      simp only [Act.put, sA, s0_, sS, i64_w, i32_w]
      rfl
    refine pure_ (i := 3) (N := some 16) (v := ?_) (a' := ?_) #[T,T,T,T,F,F,F,F,F,F,F,F,F,F,F] rfl rfl (by kernel_rfl) (fun _ _ _ h => h) (Or.inl ⟨by rfl, ?_⟩) ?_ ?_
    rotate_left
    · intro w'
      go_simp
      with_reducible rfl
    rotate_left
    · simp only [Act.put, sA, s0_, sS, i64_w, i32_w]
      rfl
    refine pure_ (i := 4) (N := some 17) (v := ?_) (a' := ?_) #[T,T,T,T,T,F,F,F,F,F,F,F,F,F,F] rfl rfl (by kernel_rfl) (fun _ _ _ h => h) (Or.inl ⟨by rfl, ?_⟩) ?_ ?_
    rotate_left
    · intro w'
      go_simp
      with_reducible rfl
    rotate_left
    · simp only [Act.put, sA, s0_, sS, i64_w, i32_w]
      rfl
    refine pure_ (i := 5) (N := some 18) (v := undef) (a' := ?_) #[T,T,T,T,T,T,F,F,F,F,F,F,F,F,F] rfl rfl (by kernel_rfl) (fun _ _ _ h => h) (Or.inr ⟨by rfl, rfl⟩) ?_ ?_
    rotate_left
    · simp only [Act.put, sA, s0_, sS, i64_w, i32_w]
      rfl
    refine pure_ (i := 6) (N := some 19) (v := undef) (a' := ?_) #[T,T,T,T,T,T,T,F,F,F,F,F,F,F,F] rfl rfl (by kernel_rfl) (fun _ _ _ h => h) (Or.inr ⟨by rfl, rfl⟩) ?_ ?_
    rotate_left
    · simp only [Act.put, sA, s0_, sS, i64_w, i32_w]
      rfl
    refine pure_ (i := 7) (N := some 20) (v := undef) (a' := ?_) #[T,T,T,T,T,T,T,T,F,F,F,F,F,F,F] rfl rfl (by kernel_rfl) (fun _ _ _ h => h) (Or.inr ⟨by rfl, rfl⟩) ?_ ?_
    rotate_left
    · simp only [Act.put, sA, s0_, sS, i64_w, i32_w]
      rfl
    refine pure_ (i := 8) (N := some 21) (v := undef) (a' := ?_) #[T,T,T,T,T,T,T,T,T,F,F,F,F,F,F] rfl rfl (by kernel_rfl) (fun _ _ _ h => h) (Or.inr ⟨by rfl, rfl⟩) ?_ ?_
    rotate_left
    · simp only [Act.put, sA, s0_, sS, i64_w, i32_w]
      rfl
    refine pure_ (i := 9) (N := some 22) (v := undef) (a' := ?_) #[T,T,T,T,T,T,T,T,T,T,F,F,F,F,F] rfl rfl (by kernel_rfl) (fun _ _ _ h => h) (Or.inr ⟨by rfl, rfl⟩) ?_ ?_
    rotate_left
    · simp only [Act.put, sA, s0_, sS, i64_w, i32_w]
      rfl
    refine pure_ (i := 10) (N := some 23) (v := undef) (a' := ?_) #[T,T,T,T,T,T,T,T,T,T,T,F,F,F,F] rfl rfl (by kernel_rfl) (fun _ _ _ h => h) (Or.inr ⟨by rfl, rfl⟩) ?_ ?_
    rotate_left
    · simp only [Act.put, sA, s0_, sS, i64_w, i32_w]
      rfl
    refine pure_ (i := 11) (N := some 24) (v := undef) (a' := ?_) #[T,T,T,T,T,T,T,T,T,T,T,T,F,F,F] rfl rfl (by kernel_rfl) (fun _ _ _ h => h) (Or.inr ⟨by rfl, rfl⟩) ?_ ?_
    rotate_left
    · simp only [Act.put, sA, s0_, sS, i64_w, i32_w]
      rfl
    refine pure_ (i := 12) (N := some 25) (v := undef) (a' := ?_) #[T,T,T,T,T,T,T,T,T,T,T,T,T,F,F] rfl rfl (by kernel_rfl) (fun _ _ _ h => h) (Or.inr ⟨by rfl, rfl⟩) ?_ ?_
    rotate_left
    · simp only [Act.put, sA, s0_, sS, i64_w, i32_w]
      rfl
    refine pure_ (i := 13) (N := some 26) (v := ?_) (a' := ?_) #[T,T,T,T,T,T,T,T,T,T,T,T,T,T,F] rfl rfl (by kernel_rfl) (fun _ _ _ h => h) (Or.inl ⟨by rfl, ?_⟩) ?_ ?_
    rotate_left
    · intro w'
      go_simp
      with_reducible rfl
    rotate_left
    · simp only [Act.put, sA, s0_, sS, i64_w, i32_w]
      rfl
    refine pure_ (i := 14) (N := some 12) (v := ?_) (a' := ?_) #[T,T,T,T,T,T,T,T,T,T,T,T,T,T,T] rfl rfl (by kernel_rfl) (fun _ _ _ h => h) (Or.inl ⟨by rfl, ?_⟩) ?_ ?_
    rotate_left
    · intro w'
      go_simp
      with_reducible rfl
    rotate_left
    · simp only [Act.put, sA, s0_, sS, i64_w, i32_w]
      rfl
    refine done_ (by kernel_rfl) ?_
    go_wp2
    go_ret
    rw [HR.out]
    exact ⟨rfl, DevA.of_below H.out (HB.out.trans (B1.out.mono HB.out.size))⟩
  · have hb : (decide (0 ≤ n) && decide (n < (d.pages : Int))) = true := by
      rw [decide_eq_true (show 0 ≤ n by omega), decide_eq_true (show n < (d.pages : Int) by omega)]; rfl
    rw [hb] at KI
    by_cases hl : ln = d.p
    · obtain ⟨m, hm⟩ : ∃ m : Nat, n = (m : Int) := ⟨n.toNat, by omega⟩
      have HNM := Aside0.mk hm
      have HMP : Aside0 (m < d.pages) := ⟨by omega⟩
      have HLP : Aside0 (x.length = d.p) := ⟨hln.trans hl⟩
      have HXB := Aside0.mk (And.intro hxb hul)
      obtain ⟨y, hy⟩ : ∃ y, d.next ((m / d.s : Nat) : Int) = y := ⟨_, rfl⟩
      obtain ⟨s, hs⟩ : ∃ s, d.s = s := ⟨_, rfl⟩
      have KN := Aside0.mk (fun (w' : World) (hb : Below w.heap.size w w') => (show Calls Try.prog 28 #[.pointer (some ⟨db, 0, none⟩), .int .i64 ((m / d.s : Nat) : Int)] w' (fun e w'' => e = .returned (.int .i64 y) ∧ Below w'.heap.size w' w'') from by
        obtain ⟨_, _, _, _, _, hg⟩ := h.below hb
        rw [← hy]
        exact next_walk hg ok _))
      rw [hs] at KN
      obtain ⟨g, hgm⟩ : ∃ g, m / s = g := ⟨_, rfl⟩
      rw [hgm] at KN
      have C3 : w.cell? ⟨db, 0, none⟩ = some (.int .i64 (ln : Int)) := by obtain ⟨_, _, _, _, _, hg⟩ := h; rw [hl]; exact hg.at_ 0
      have C4 : w.cell? ⟨db, 1, none⟩ = some (.int .i64 (s : Int)) := by obtain ⟨_, _, _, _, _, hg⟩ := h; rw [← hs]; exact hg.at_ 1
      have hs1 : 1 ≤ s := by rw [← hs]; exact ok.s1
      have hs0 : (s : Int) ≠ 0 := by omega
      have hsn : ¬ s = 0 := by omega
      have hmb : m < 65536 := by have := pages_le ok; omega
      have eq1 : wrap64 (Int.tdiv n (s : Int)) = (g : Int) := by
        rw [hm, show Int.tdiv (m : Int) (s : Int) = ((m / s : Nat) : Int) from rfl, hgm]
        exact wN (Nat.le_trans (by rw [← hgm]; exact Nat.div_le_self _ _) (by omega))
      have HR0 : Aside0 (d.program n x = if y < 0 ∨ n < y then (d, 31) else d.op 2 (Dv.lay x m)) := ⟨by
        unfold Dv.program
        rw [if_neg (by rw [HLP.out]; omega), hm, Int.toNat_natCast, hy]⟩
      have hnr : 0 ≤ n ∧ n < 65536 := by omega
      obtain ⟨p, hp⟩ : ∃ p, ln = p := ⟨_, rfl⟩
      rw [hp] at C3
      have HP := Aside0.mk hp
      have hl2 : (ln : Int) = (p : Int) := by omega
      clear h ok hn hb hxb hul hln hl hy hs hs1 hmb hgm hm hp
      go_enter Try.func34, Try.ntmps34
      go_upto_region 1 with (fail)
      obtain ⟨HB', k0, k1, k2⟩ := boxes3 w (.pointer (some ⟨db, 0, none⟩)) (.int .i64 n) (.slice A ln c) 26 3 24
      generalize (((w.alloc (.cells #[.pointer (some ⟨db, 0, none⟩)] 26)).alloc (.cells #[.int .i64 n] 3)).alloc (.cells #[.slice A ln c] 24)) = wb at HB' k0 k1 k2 ⊢
      generalize hbs : w.heap.size + 1 + 1 = bs at k2 ⊢
      generalize hbn : w.heap.size + 1 = bn at k1 ⊢
      have HB := Aside0.mk HB'
      clear HB'
      generalize hbd : w.heap.size = bd at k0 ⊢
      have LB : Aside0 (w.heap.size ≤ bd ∧ w.heap.size ≤ bn ∧ w.heap.size ≤ bs) := ⟨by omega⟩
      have KB := Aside0.mk (And.intro k0 (And.intro k1 k2))
      clear hbs hbn hbd
      have c0 : wb.cell? ⟨bd, 0, none⟩ = some (.pointer (some ⟨db, 0, none⟩)) := blk_cell k0 0
      have c1 : wb.cell? ⟨bn, 0, none⟩ = some (.int .i64 n) := blk_cell k1 0
      have c2 : wb.cell? ⟨bs, 0, none⟩ = some (.slice A ln c) := blk_cell k2 0
      have c3 : wb.cell? ⟨db, 0, none⟩ = some (.int .i64 (p : Int)) := pw_cell_below HB.out C3
      clear C3 k0 k1 k2
      have c4 : wb.cell? ⟨db, 1, none⟩ = some (.int .i64 (s : Int)) := pw_cell_below HB.out C4
      clear C4
      go_upto_region 3 with (go_at_call 39; refine (KM.out _ HB.out).mono ?_; rintro e w' ⟨rfl, rfl⟩)
      refine start_ (n := 15) (S := fun w' => w'.cell? ⟨bd, 0, none⟩ = some (.pointer (some ⟨db, 0, none⟩)) ∧ w'.cell? ⟨bn, 0, none⟩ = some (.int .i64 n) ∧ w'.cell? ⟨bs, 0, none⟩ = some (.slice A ln c) ∧ w'.cell? ⟨db, 0, none⟩ = some (.int .i64 (p : Int))) (ds := []) #[F,F,F,F,F,F,F,F,F,F,F,F,F,F,F] (by kernel_rfl) rfl rfl (⟨c0, c1, c2, c3⟩) (fun hHeld => ?_)
      generalize hwd : wb.drew = wd at hHeld ⊢
      have BD : Aside0 (Below wb.heap.size wb wd) := ⟨by rw [← hwd]; exact below_drew (Below.refl _ _)⟩
      clear hwd
      refine take_ (i := 0) (N := some 13) (v := ?_) (a' := ?_) #[T,F,F,F,F,F,F,F,F,F,F,F,F,F,F] rfl rfl (by kernel_rfl) (fun _ _ _ h => h) (Or.inl ⟨by rfl, ?_⟩) hHeld ?_ ?_
      rotate_left
      · intro w' s0
        obtain ⟨s1, s2, s3, s4⟩ := s0
        go_simp
        with_reducible rfl
      rotate_left
      · simp only [Act.put, sA, s0_, sS, i64_w, i32_w]
        rfl
      refine take_ (i := 1) (N := some 14) (v := ?_) (a' := ?_) #[T,T,F,F,F,F,F,F,F,F,F,F,F,F,F] rfl rfl (by kernel_rfl) (fun _ _ _ h => h) (Or.inl ⟨by rfl, ?_⟩) hHeld ?_ ?_
      rotate_left
      · intro w' s0
        obtain ⟨s1, s2, s3, s4⟩ := s0
        go_simp
        with_reducible rfl
      rotate_left
      · simp only [Act.put, sA, s0_, sS, i64_w, i32_w]
        rfl
      refine one_ (i := 2) (N := some 15) #[T,T,T,F,F,F,F,F,F,F,F,F,F,F,F] rfl rfl (by kernel_rfl) (by decide) (fun K hK => ?_)
      refine goes_ Try.func47 (by kernel_rfl) rfl #[.pointer (some ⟨db, 0, none⟩), .int .i64 n] (by rfl) rfl rfl (by (try simp only [List.map_toArray, List.map_cons, List.map_nil]); first | done | rfl) ?_
      with_reducible refine (KI.out wd (HB.out.trans (BD.out.mono HB.out.size))).mono ?_
      rintro e w1 ⟨rfl, hdr⟩
      refine ⟨_, rfl, ?_⟩
      have B1 : Aside0 (Below wb.heap.size wb w1) := ⟨BD.out.trans (hdr.below.mono BD.out.size)⟩
      clear hdr
      refine hK.out _ _ (by exact ⟨pw_cell_below B1.out c0, pw_cell_below B1.out c1, pw_cell_below B1.out c2, pw_cell_below B1.out c3⟩) (fun hHeld => ?_)
      clear hK K
      refine norm_ (a' := ?_) ?_ ?_
      rotate_left
      · show Act.put _ (some 15) _ = _
        simp only [Act.put, sA, s0_, sS, i64_w, i32_w]
        rfl
      refine pure_ (i := 3) (N := some 16) (v := ?_) (a' := ?_) #[T,T,T,T,F,F,F,F,F,F,F,F,F,F,F] rfl rfl (by kernel_rfl) (fun _ _ _ h => h) (Or.inl ⟨by rfl, ?_⟩) ?_ ?_
      rotate_left
      · intro w'
        go_simp
        with_reducible rfl
      rotate_left
      · simp only [Act.put, sA, s0_, sS, i64_w, i32_w]
        rfl
      refine pure_ (i := 4) (N := some 17) (v := ?_) (a' := ?_) #[T,T,T,T,T,F,F,F,F,F,F,F,F,F,F] rfl rfl (by kernel_rfl) (fun _ _ _ h => h) (Or.inl ⟨by rfl, ?_⟩) ?_ ?_
      rotate_left
      · intro w'
        go_simp
        with_reducible rfl
      rotate_left
      · simp only [Act.put, sA, s0_, sS, i64_w, i32_w]
        rfl
      refine take_ (i := 5) (N := some 18) (v := ?_) (a' := ?_) #[T,T,T,T,T,T,F,F,F,F,F,F,F,F,F] rfl rfl (by kernel_rfl) (fun _ _ _ h => h) (Or.inl ⟨by rfl, ?_⟩) hHeld ?_ ?_
      rotate_left
      · intro w' s0
        obtain ⟨s1, s2, s3, s4⟩ := s0
        go_simp
        with_reducible rfl
      rotate_left
      · simp only [Act.put, sA, s0_, sS, i64_w, i32_w]
        rfl
      refine pure_ (i := 6) (N := some 19) (v := ?_) (a' := ?_) #[T,T,T,T,T,T,T,F,F,F,F,F,F,F,F] rfl rfl (by kernel_rfl) (fun _ _ _ h => h) (Or.inl ⟨by rfl, ?_⟩) ?_ ?_
      rotate_left
      · intro w'
        go_simp
        with_reducible rfl
      rotate_left
      · simp only [Act.put, sA, s0_, sS, i64_w, i32_w]
        rfl
      refine take_ (i := 7) (N := some 20) (v := ?_) (a' := ?_) #[T,T,T,T,T,T,T,T,F,F,F,F,F,F,F] rfl rfl (by kernel_rfl) (fun _ _ _ h => h) (Or.inl ⟨by rfl, ?_⟩) hHeld ?_ ?_
      rotate_left
      · intro w' s0
        obtain ⟨s1, s2, s3, s4⟩ := s0
        go_simp
        with_reducible rfl
      rotate_left
      · simp only [Act.put, sA, s0_, sS, i64_w, i32_w]
        rfl
      refine pure_ (i := 8) (N := some 21) (v := ?_) (a' := ?_) #[T,T,T,T,T,T,T,T,T,F,F,F,F,F,F] rfl rfl (by kernel_rfl) (fun _ _ _ h => h) (Or.inl ⟨by rfl, ?_⟩) ?_ ?_
      rotate_left
      · intro w'
        go_simp
        with_reducible rfl
      rotate_left
      · simp only [Act.put, sA, s0_, sS, i64_w, i32_w]
        rfl
      refine pure_ (i := 9) (N := some 22) (v := ?_) (a' := ?_) #[T,T,T,T,T,T,T,T,T,T,F,F,F,F,F] rfl rfl (by kernel_rfl) (fun _ _ _ h => h) (Or.inl ⟨by rfl, ?_⟩) ?_ ?_
      rotate_left
      · intro w'
        go_simp
        with_reducible rfl
      rotate_left
      · simp only [Act.put, sA, s0_, sS, i64_w, i32_w]
        rfl
      refine pure_ (i := 10) (N := some 23) (v := ?_) (a' := ?_) #[T,T,T,T,T,T,T,T,T,T,T,F,F,F,F] rfl rfl (by kernel_rfl) (fun _ _ _ h => h) (Or.inl ⟨by rfl, ?_⟩) ?_ ?_
      rotate_left
      · intro w'
        go_simp
        with_reducible rfl
      rotate_left
      · simp only [Act.put, sA, s0_, sS, i64_w, i32_w]
        rfl
      refine take_ (i := 11) (N := some 24) (v := ?_) (a' := ?_) #[T,T,T,T,T,T,T,T,T,T,T,T,F,F,F] rfl rfl (by kernel_rfl) (fun _ _ _ h => h) (Or.inl ⟨by rfl, ?_⟩) hHeld ?_ ?_
      rotate_left
      · intro w' s0
        obtain ⟨s1, s2, s3, s4⟩ := s0
        go_simp
        with_reducible rfl
      rotate_left
      · simp only [Act.put, sA, s0_, sS, i64_w, i32_w]
        rfl
      refine pure_ (i := 12) (N := some 25) (v := ?_) (a' := ?_) #[T,T,T,T,T,T,T,T,T,T,T,T,T,F,F] rfl rfl (by kernel_rfl) (fun _ _ _ h => h) (Or.inl ⟨by rfl, ?_⟩) ?_ ?_
      rotate_left
      · intro w'
        go_simp
        with_reducible rfl
      rotate_left
      · simp only [Act.put, sA, s0_, sS, i64_w, i32_w]
        rfl
      refine pure_ (i := 13) (N := some 26) (v := ?_) (a' := ?_) #[T,T,T,T,T,T,T,T,T,T,T,T,T,T,F] rfl rfl (by kernel_rfl) (fun _ _ _ h => h) (Or.inl ⟨by rfl, ?_⟩) ?_ ?_
      rotate_left
      · intro w'
        go_simp
        with_reducible rfl
      rotate_left
      · simp only [Act.put, sA, s0_, sS, i64_w, i32_w]
        rfl
      refine pure_ (i := 14) (N := some 12) (v := ?_) (a' := ?_) #[T,T,T,T,T,T,T,T,T,T,T,T,T,T,T] rfl rfl (by kernel_rfl) (fun _ _ _ h => h) (Or.inl ⟨by rfl, ?_⟩) ?_ ?_
      rotate_left
      · intro w'
        go_simp
        with_reducible rfl
      rotate_left
      · simp only [Act.put, sA, s0_, sS, i64_w, i32_w]
        rfl
      refine done_ (by kernel_rfl) ?_
      go_upto_region 5 with (fail)
      have B2 : Aside0 (Below w.heap.size w w1) := ⟨HB.out.trans (B1.out.mono HB.out.size)⟩
      replace c0 := pw_cell_below B1.out c0
      replace c1 := pw_cell_below B1.out c1
      replace c2 := pw_cell_below B1.out c2
      replace c4 := pw_cell_below B1.out c4
      clear c3 BD
      refine start_ (n := 10) (S := fun w' => w'.cell? ⟨bd, 0, none⟩ = some (.pointer (some ⟨db, 0, none⟩)) ∧ w'.cell? ⟨bn, 0, none⟩ = some (.int .i64 n) ∧ w'.cell? ⟨bs, 0, none⟩ = some (.slice A ln c) ∧ w'.cell? ⟨db, 1, none⟩ = some (.int .i64 (s : Int))) (ds := []) #[F,F,F,F,F,F,F,F,F,F] (by kernel_rfl) rfl rfl (⟨c0, c1, c2, c4⟩) (fun hHeld => ?_)
      generalize hwd : w1.drew = wd at hHeld ⊢
      have BD : Aside0 (Below w1.heap.size w1 wd) := ⟨by rw [← hwd]; exact below_drew (Below.refl _ _)⟩
      clear hwd
      refine take_ (i := 0) (N := some 27) (v := ?_) (a' := ?_) #[T,F,F,F,F,F,F,F,F,F] rfl rfl (by kernel_rfl) (fun _ _ _ h => h) (Or.inl ⟨by rfl, ?_⟩) hHeld ?_ ?_
      rotate_left
      · intro w' s0
        obtain ⟨s1, s2, s3, s4⟩ := s0
        go_simp
        with_reducible rfl
      rotate_left
      · simp only [Act.put, sA, s0_, sS, i64_w, i32_w]
        rfl
      refine take_ (i := 1) (N := some 28) (v := ?_) (a' := ?_) #[T,T,F,F,F,F,F,F,F,F] rfl rfl (by kernel_rfl) (fun _ _ _ h => h) (Or.inl ⟨by rfl, ?_⟩) hHeld ?_ ?_
      rotate_left
      · intro w' s0
        obtain ⟨s1, s2, s3, s4⟩ := s0
        go_simp
        with_reducible rfl
      rotate_left
      · simp only [Act.put, sA, s0_, sS, i64_w, i32_w]
        rfl
      refine take_ (i := 2) (N := some 29) (v := ?_) (a' := ?_) #[T,T,T,F,F,F,F,F,F,F] rfl rfl (by kernel_rfl) (fun _ _ _ h => h) (Or.inl ⟨by rfl, ?_⟩) hHeld ?_ ?_
      rotate_left
      · intro w' s0
        obtain ⟨s1, s2, s3, s4⟩ := s0
        go_simp
        with_reducible rfl
      rotate_left
      · simp only [Act.put, sA, s0_, sS, i64_w, i32_w]
        rfl
      refine pure_ (i := 3) (N := some 30) (v := ?_) (a' := ?_) #[T,T,T,T,F,F,F,F,F,F] rfl rfl (by kernel_rfl) (fun _ _ _ h => h) (Or.inl ⟨by rfl, ?_⟩) ?_ ?_
      rotate_left
      · intro w'
        go_simp
        with_reducible rfl
      rotate_left
      · simp only [Act.put, sA, s0_, sS, i64_w, i32_w]
        rfl
      refine pure_ (i := 4) (N := some 31) (v := ?_) (a' := ?_) #[T,T,T,T,T,F,F,F,F,F] rfl rfl (by kernel_rfl) (fun _ _ _ h => h) (Or.inl ⟨by rfl, ?_⟩) ?_ ?_
      rotate_left
      · intro w'
        go_simp
        with_reducible rfl
      rotate_left
      · simp only [Act.put, sA, s0_, sS, i64_w, i32_w]
        rfl
      refine pure_ (i := 5) (N := some 32) (v := ?_) (a' := ?_) #[T,T,T,T,T,T,F,F,F,F] rfl rfl (by kernel_rfl) (fun _ _ _ h => h) (Or.inl ⟨by rfl, ?_⟩) ?_ ?_
      rotate_left
      · intro w'
        go_simp
        with_reducible rfl
      rotate_left
      · simp only [Act.put, sA, s0_, sS, i64_w, i32_w]
        rfl
      refine take_ (i := 6) (N := some 33) (v := ?_) (a' := ?_) #[T,T,T,T,T,T,T,F,F,F] rfl rfl (by kernel_rfl) (fun _ _ _ h => h) (Or.inl ⟨by rfl, ?_⟩) hHeld ?_ ?_
      rotate_left
      · intro w' s0
        obtain ⟨s1, s2, s3, s4⟩ := s0
        go_simp
        with_reducible rfl
      rotate_left
      · simp only [Act.put, sA, s0_, sS, i64_w, i32_w]
        rfl
      refine pure_ (i := 7) (N := some 34) (v := ?_) (a' := ?_) #[T,T,T,T,T,T,T,T,F,F] rfl rfl (by kernel_rfl) (fun _ _ _ h => h) (Or.inl ⟨by rfl, ?_⟩) ?_ ?_
      rotate_left
      · intro w'
        go_simp
        rw [i64_w, eq1]
        done
      rotate_left
      · simp only [Act.put, sA, s0_, sS, i64_w, i32_w]
        rfl
      refine one_ (i := 8) (N := some 35) #[T,T,T,T,T,T,T,T,T,F] rfl rfl (by kernel_rfl) (by decide) (fun K hK => ?_)
      refine goes_ Try.func28 (by kernel_rfl) rfl #[.pointer (some ⟨db, 0, none⟩), .int .i64 (g : Int)] (by rfl) rfl rfl (by (try simp only [List.map_toArray, List.map_cons, List.map_nil]); first | done | rfl) ?_
      with_reducible refine (KN.out wd (B2.out.trans (BD.out.mono B2.out.size))).mono ?_
      rintro e w3 ⟨rfl, hdr⟩
      refine ⟨_, rfl, ?_⟩
      have B3 : Aside0 (Below w.heap.size w w3) := ⟨(B2.out.trans (BD.out.mono B2.out.size)).trans (hdr.mono (B2.out.trans (BD.out.mono B2.out.size)).size)⟩
      have B23 : Aside0 (Below w1.heap.size w1 w3) := ⟨BD.out.trans (hdr.mono BD.out.size)⟩
      clear hdr
      refine hK.out _ _ (by exact ⟨pw_cell_below B23.out c0, pw_cell_below B23.out c1, pw_cell_below B23.out c2, pw_cell_below B23.out c4⟩) (fun hHeld => ?_)
      clear hK K
      refine norm_ (a' := ?_) ?_ ?_
      rotate_left
      · show Act.put _ (some 35) _ = _
        simp only [Act.put, sA, s0_, sS, i64_w, i32_w]
        rfl
      refine pure_ (i := 9) (N := some 7) (v := ?_) (a' := ?_) #[T,T,T,T,T,T,T,T,T,T] rfl rfl (by kernel_rfl) (fun _ _ _ h => h) (Or.inl ⟨by rfl, ?_⟩) ?_ ?_
      rotate_left
      · intro w'
        go_simp
        with_reducible rfl
      rotate_left
      · simp only [Act.put, sA, s0_, sS, i64_w, i32_w]
        rfl
      refine done_ (by kernel_rfl) ?_
      clear c0 c1 c2 c4 hs0 hsn eq1
      obtain ⟨c0, c1, c2, c4⟩ := hHeld
      clear c4
      by_cases hy1 : y < 0
      · have HR : Aside0 (d.program n x = (d, 31)) := ⟨by rw [HR0.out]; exact if_pos (.inl hy1)⟩
        have g1 : decide (y < 0) = true := decide_eq_true hy1
        go_wp2
        go_ret
        rw [HR.out]
        exact ⟨rfl, DevA.of_below H.out B3.out⟩
      · by_cases hy2 : n < y
        · have HR : Aside0 (d.program n x = (d, 31)) := ⟨by rw [HR0.out]; exact if_pos (.inr hy2)⟩
          have g1 : decide (y < 0) = false := decide_eq_false hy1
          have g2 : decide (n < y) = true := decide_eq_true hy2
          go_wp2
          go_ret
          rw [HR.out]
          exact ⟨rfl, DevA.of_below H.out B3.out⟩
        · have HR : Aside0 (d.program n x = d.op 2 (Dv.lay x m)) := ⟨by rw [HR0.out]; exact if_neg (fun h => h.elim hy1 hy2)⟩
          have g1 : decide (y < 0) = false := decide_eq_false hy1
          have g2 : decide (n < y) = false := decide_eq_false hy2
          have KO : Aside0 (Calls Try.prog 48 #[.pointer (some ⟨db, 0, none⟩), .int .i64 2, .func (.func 62) #[] #[.pointer (some ⟨bd, 0, none⟩), .pointer (some ⟨bn, 0, none⟩), .pointer (some ⟨bs, 0, none⟩)]] w3 (fun e w' => e = .returned (.int .i64 (d.op 2 (Dv.lay x m)).2) ∧ DevA B f w db (d.op 2 (Dv.lay x m)).1 w')) := ⟨by
            obtain ⟨g1, g2, g3⟩ := H.out.boxed B3.out
            have hb3 := B1.out.trans (B23.out.mono B1.out.size)
            have e : ln = d.p := HLN.out.symm.trans HLP.out
            obtain ⟨l0, l1, l2⟩ := LB.out
            obtain ⟨q0, q1, q2⟩ := KB.out
            refine (op_62 g1 OK.out (Dv.lay x m) ⟨fun w4 h4 => ?_⟩).mono ?_
            · refine prog_do h4 (OK.out.cf (d.count 2).c d.failed) (n := m) HMP.out HLP.out HXB.out.1 HXB.out.2 (blk_lt (blk_below q1 hb3)) (g2 bn l1) (A := A) (c := c) ⟨fun d2 w2 hA => ⟨?_, ?_, ?_, ?_⟩⟩
              · show (Kd.int .u8).C w2 A d.p x
                rw [← e]
                exact HX.out d2 w2 (hA.under g3)
              · exact hA.blk (blk_below q0 hb3) (g2 bd l0)
              · rw [← HNM.out]
                exact hA.blk (blk_below q1 hb3) (g2 bn l1)
              · show w2.heap[bs]? = some (.cells #[.slice A d.p c] 24 (0, 0))
                rw [← e]
                exact hA.blk (blk_below q2 hb3) (g2 bs l2)
            · rintro e w5 ⟨he, h5⟩
              exact ⟨he, h5.under g3⟩⟩
          go_wp2_with (go_at_call 48; refine KO.out.mono ?_; rintro e w5 ⟨rfl, h5⟩; have D5 := Aside0.mk h5; clear h5)
          go_ret
          rw [HR.out]
          exact ⟨rfl, D5.out⟩
    · obtain ⟨p, hp⟩ : ∃ p, d.p = p := ⟨_, rfl⟩
      have HR : Aside0 (d.program n x = (d, 30)) := ⟨by unfold Dv.program; exact if_pos (.inr (.inr (by rw [hln]; exact hl)))⟩
      have C3 : w.cell? ⟨db, 0, none⟩ = some (.int .i64 (p : Int)) := by obtain ⟨_, _, _, _, _, hg⟩ := h; rw [← hp]; exact hg.at_ 0
      rw [hp] at hl
      have hl2 : (ln : Int) ≠ (p : Int) := by omega
      have hl3 : ¬ (ln : Int) = (p : Int) := hl2
      clear h ok hn hb hxb hul hln hp
      go_enter Try.func34, Try.ntmps34
      go_upto_region 1 with (fail)
      obtain ⟨HB', k0, k1, k2⟩ := boxes3 w (.pointer (some ⟨db, 0, none⟩)) (.int .i64 n) (.slice A ln c) 26 3 24
      generalize (((w.alloc (.cells #[.pointer (some ⟨db, 0, none⟩)] 26)).alloc (.cells #[.int .i64 n] 3)).alloc (.cells #[.slice A ln c] 24)) = wb at HB' k0 k1 k2 ⊢
      generalize hbs : w.heap.size + 1 + 1 = bs at k2 ⊢
      generalize hbn : w.heap.size + 1 = bn at k1 ⊢
      have HB := Aside0.mk HB'
      clear HB'
      generalize hbd : w.heap.size = bd at k0 ⊢
      have LB : Aside0 (w.heap.size ≤ bd ∧ w.heap.size ≤ bn ∧ w.heap.size ≤ bs) := ⟨by omega⟩
      have KB := Aside0.mk (And.intro k0 (And.intro k1 k2))
      clear hbs hbn hbd
      have c0 : wb.cell? ⟨bd, 0, none⟩ = some (.pointer (some ⟨db, 0, none⟩)) := blk_cell k0 0
      have c1 : wb.cell? ⟨bn, 0, none⟩ = some (.int .i64 n) := blk_cell k1 0
      have c2 : wb.cell? ⟨bs, 0, none⟩ = some (.slice A ln c) := blk_cell k2 0
      have c3 : wb.cell? ⟨db, 0, none⟩ = some (.int .i64 (p : Int)) := pw_cell_below HB.out C3
      clear C3 k0 k1 k2
      go_upto_region 3 with (go_at_call 39; refine (KM.out _ HB.out).mono ?_; rintro e w' ⟨rfl, rfl⟩)
      refine start_ (n := 15) (S := fun w' => w'.cell? ⟨bd, 0, none⟩ = some (.pointer (some ⟨db, 0, none⟩)) ∧ w'.cell? ⟨bn, 0, none⟩ = some (.int .i64 n) ∧ w'.cell? ⟨bs, 0, none⟩ = some (.slice A ln c) ∧ w'.cell? ⟨db, 0, none⟩ = some (.int .i64 (p : Int))) (ds := []) #[F,F,F,F,F,F,F,F,F,F,F,F,F,F,F] (by kernel_rfl) rfl rfl (⟨c0, c1, c2, c3⟩) (fun hHeld => ?_)
      generalize hwd : wb.drew = wd at hHeld ⊢
      have BD : Aside0 (Below wb.heap.size wb wd) := ⟨by rw [← hwd]; exact below_drew (Below.refl _ _)⟩
      clear hwd
      refine take_ (i := 0) (N := some 13) (v := ?_) (a' := ?_) #[T,F,F,F,F,F,F,F,F,F,F,F,F,F,F] rfl rfl (by kernel_rfl) (fun _ _ _ h => h) (Or.inl ⟨by rfl, ?_⟩) hHeld ?_ ?_
      rotate_left
      · intro w' s0
        obtain ⟨s1, s2, s3, s4⟩ := s0
        go_simp
        with_reducible rfl
      rotate_left
      · simp only [Act.put, sA, s0_, sS, i64_w, i32_w]
        rfl
      refine take_ (i := 1) (N := some 14) (v := ?_) (a' := ?_) #[T,T,F,F,F,F,F,F,F,F,F,F,F,F,F] rfl rfl (by kernel_rfl) (fun _ _ _ h => h) (Or.inl ⟨by rfl, ?_⟩) hHeld ?_ ?_
      rotate_left
      · intro w' s0
        obtain ⟨s1, s2, s3, s4⟩ := s0
        go_simp
        with_reducible rfl
      rotate_left
      · simp only [Act.put, sA, s0_, sS, i64_w, i32_w]
        rfl
      refine one_ (i := 2) (N := some 15) #[T,T,T,F,F,F,F,F,F,F,F,F,F,F,F] rfl rfl (by kernel_rfl) (by decide) (fun K hK => ?_)
      refine goes_ Try.func47 (by kernel_rfl) rfl #[.pointer (some ⟨db, 0, none⟩), .int .i64 n] (by rfl) rfl rfl (by (try simp only [List.map_toArray, List.map_cons, List.map_nil]); first | done | rfl) ?_
      with_reducible refine (KI.out wd (HB.out.trans (BD.out.mono HB.out.size))).mono ?_
      rintro e w1 ⟨rfl, hdr⟩
      refine ⟨_, rfl, ?_⟩
      have B1 : Aside0 (Below wb.heap.size wb w1) := ⟨BD.out.trans (hdr.below.mono BD.out.size)⟩
      clear hdr
      refine hK.out _ _ (by exact ⟨pw_cell_below B1.out c0, pw_cell_below B1.out c1, pw_cell_below B1.out c2, pw_cell_below B1.out c3⟩) (fun hHeld => ?_)
      clear hK K
      refine norm_ (a' := ?_) ?_ ?_
      rotate_left
      · show Act.put _ (some 15) _ = _
        simp only [Act.put, sA, s0_, sS, i64_w, i32_w]
        rfl
      refine pure_ (i := 3) (N := some 16) (v := ?_) (a' := ?_) #[T,T,T,T,F,F,F,F,F,F,F,F,F,F,F] rfl rfl (by kernel_rfl) (fun _ _ _ h => h) (Or.inl ⟨by rfl, ?_⟩) ?_ ?_
      rotate_left
      · intro w'
        go_simp
        with_reducible rfl
      rotate_left
      · simp only [Act.put, sA, s0_, sS, i64_w, i32_w]
        rfl
      refine pure_ (i := 4) (N := some 17) (v := ?_) (a' := ?_) #[T,T,T,T,T,F,F,F,F,F,F,F,F,F,F] rfl rfl (by kernel_rfl) (fun _ _ _ h => h) (Or.inl ⟨by rfl, ?_⟩) ?_ ?_
      rotate_left
      · intro w'
        go_simp
        with_reducible rfl
      rotate_left
      · simp only [Act.put, sA, s0_, sS, i64_w, i32_w]
        rfl
      refine take_ (i := 5) (N := some 18) (v := ?_) (a' := ?_) #[T,T,T,T,T,T,F,F,F,F,F,F,F,F,F] rfl rfl (by kernel_rfl) (fun _ _ _ h => h) (Or.inl ⟨by rfl, ?_⟩) hHeld ?_ ?_
      rotate_left
      · intro w' s0
        obtain ⟨s1, s2, s3, s4⟩ := s0
        go_simp
        with_reducible rfl
      rotate_left
      · simp only [Act.put, sA, s0_, sS, i64_w, i32_w]
        rfl
      refine pure_ (i := 6) (N := some 19) (v := ?_) (a' := ?_) #[T,T,T,T,T,T,T,F,F,F,F,F,F,F,F] rfl rfl (by kernel_rfl) (fun _ _ _ h => h) (Or.inl ⟨by rfl, ?_⟩) ?_ ?_
      rotate_left
      · intro w'
        go_simp
        with_reducible rfl
      rotate_left
      · simp only [Act.put, sA, s0_, sS, i64_w, i32_w]
        rfl
      refine take_ (i := 7) (N := some 20) (v := ?_) (a' := ?_) #[T,T,T,T,T,T,T,T,F,F,F,F,F,F,F] rfl rfl (by kernel_rfl) (fun _ _ _ h => h) (Or.inl ⟨by rfl, ?_⟩) hHeld ?_ ?_
      rotate_left
      · intro w' s0
        obtain ⟨s1, s2, s3, s4⟩ := s0
        go_simp
        with_reducible rfl
      rotate_left
      · simp only [Act.put, sA, s0_, sS, i64_w, i32_w]
        rfl
      refine pure_ (i := 8) (N := some 21) (v := ?_) (a' := ?_) #[T,T,T,T,T,T,T,T,T,F,F,F,F,F,F] rfl rfl (by kernel_rfl) (fun _ _ _ h => h) (Or.inl ⟨by rfl, ?_⟩) ?_ ?_
      rotate_left
      · intro w'
        go_simp
        with_reducible rfl
      rotate_left
      · simp only [Act.put, sA, s0_, sS, i64_w, i32_w]
        rfl
      refine pure_ (i := 9) (N := some 22) (v := ?_) (a' := ?_) #[T,T,T,T,T,T,T,T,T,T,F,F,F,F,F] rfl rfl (by kernel_rfl) (fun _ _ _ h => h) (Or.inl ⟨by rfl, ?_⟩) ?_ ?_
      rotate_left
      · intro w'
        go_simp
        with_reducible rfl
      rotate_left
      · simp only [Act.put, sA, s0_, sS, i64_w, i32_w]
        rfl
      refine pure_ (i := 10) (N := some 23) (v := ?_) (a' := ?_) #[T,T,T,T,T,T,T,T,T,T,T,F,F,F,F] rfl rfl (by kernel_rfl) (fun _ _ _ h => h) (Or.inl ⟨by rfl, ?_⟩) ?_ ?_
      rotate_left
      · intro w'
        go_simp
        with_reducible rfl
      rotate_left
      · simp only [Act.put, sA, s0_, sS, i64_w, i32_w]
        rfl
      refine take_ (i := 11) (N := some 24) (v := ?_) (a' := ?_) #[T,T,T,T,T,T,T,T,T,T,T,T,F,F,F] rfl rfl (by kernel_rfl) (fun _ _ _ h => h) (Or.inl ⟨by rfl, ?_⟩) hHeld ?_ ?_
      rotate_left
      · intro w' s0
        obtain ⟨s1, s2, s3, s4⟩ := s0
        go_simp
        with_reducible rfl
      rotate_left
      · simp only [Act.put, sA, s0_, sS, i64_w, i32_w]
        rfl
      refine pure_ (i := 12) (N := some 25) (v := ?_) (a' := ?_) #[T,T,T,T,T,T,T,T,T,T,T,T,T,F,F] rfl rfl (by kernel_rfl) (fun _ _ _ h => h) (Or.inl ⟨by rfl, ?_⟩) ?_ ?_
      rotate_left
      · intro w'
        go_simp
        with_reducible rfl
      rotate_left
      · simp only [Act.put, sA, s0_, sS, i64_w, i32_w]
        rfl
      refine pure_ (i := 13) (N := some 26) (v := ?_) (a' := ?_) #[T,T,T,T,T,T,T,T,T,T,T,T,T,T,F] rfl rfl (by kernel_rfl) (fun _ _ _ h => h) (Or.inl ⟨by rfl, ?_⟩) ?_ ?_
      rotate_left
      · intro w'
        go_simp
        with_reducible rfl
      rotate_left
      · simp only [Act.put, sA, s0_, sS, i64_w, i32_w]
        rfl
      refine pure_ (i := 14) (N := some 12) (v := ?_) (a' := ?_) #[T,T,T,T,T,T,T,T,T,T,T,T,T,T,T] rfl rfl (by kernel_rfl) (fun _ _ _ h => h) (Or.inl ⟨by rfl, ?_⟩) ?_ ?_
      rotate_left
      · intro w'
        go_simp
        with_reducible rfl
      rotate_left
      · simp only [Act.put, sA, s0_, sS, i64_w, i32_w]
        rfl
      refine done_ (by kernel_rfl) ?_
      go_wp2
      go_ret
      rw [HR.out]
      exact ⟨rfl, DevA.of_below H.out (HB.out.trans (B1.out.mono HB.out.size))⟩
end
end Go.Proofs.Ytnkbebdgkidbjaa.Flash
