/- Sync and Erase.
   No condition. -/
import Derived.Test.YtnkbebdgkidbjaaFlD
import Derived.ArgAppend
import Derived.BigRegion
import Derived.Deep.QuietTactic
import Derived.BigQuiet
import Derived.Deep.RegionHeld3
import Derived.ChangeAlike
import Derived.RegionTactic
import Derived.Deep.DeepCutAuto
import Derived.Deep.CutBlock
import Derived.Deep.RegionLaw
import Derived.StillTailTactics
import Derived.WalkSpells
import Derived.Lib.SliceRun
import Derived.Laws.CopyRow
import Derived.Lib.SlBuf
import Derived.Lib.MakeNoZero
import Derived.Laws.BitsLemmas
import Derived.Lib.Bytes
import Derived.Lib.SlBytesConst
namespace Go.Proofs.Ytnkbebdgkidbjaa.Flash
open Go.Proofs.Ytnkbebdgkidbjaa.QFlashPlays
open Go.RowKit Go.Proofs.YtnkbebdgkidbjaaW.PrintWords Go.Proofs.YtnkbebdgkidbjaaW.PrintLast Go.Proofs.YtnkbebdgkidbjaaW.PrintMore
attribute [local go_sem] max2_int min2_int max_two min_two   -- for this text's walks alone
set_option linter.unusedVariables false
set_option linter.unusedSimpArgs false
set_option maxHeartbeats 4000000 in
set_option maxRecDepth 100000 in
theorem op_54 {B : Nat} {f : Owner} {w : World} {db : Nat} {d : Dv} {bd : Addr} (h : DevX B f w db d) (ok : d.Ok) (act : Dv → Dv) (HA : Aside0 (∀ w1, DevA B f w db (d.count 4) w1 → Calls Try.prog 54 #[.pointer (some bd)] w1 (fun e w2 => e = .returned (.tuple #[]) ∧ DevA B f w db (act (d.count 4)) w2))) :
    Calls Try.prog 48 #[.pointer (some ⟨db, 0, none⟩), .int .i64 4, .func (.func 54) #[] #[.pointer (some bd)]] w (fun e w' => e = .returned (.int .i64 (d.op 4 act).2) ∧ DevA B f w db (d.op 4 act).1 w') := by
  obtain ⟨im, imc, vu, vf, vw, hg⟩ := h
  have S1 : Aside0 (DevA B f w db (d.count 4) (w.setCell ⟨db, 11, none⟩ (.int .i64 (wrap64 (d.c 4 + 1)))).drew) := ⟨by
    obtain ⟨g1, g2⟩ := hg.setC 4 (by decide) (wrap64 (d.c 4 + 1))
    exact DevA.box ⟨f, ⟨im, imc, vu, vf, vw, g1⟩, g2⟩ (below_drew (Below.refl _ _))⟩
  have hfr := blk_frozen hg.blk 11
  have cc : w.cell? ⟨db, 11, none⟩ = some (.int .i64 (d.c 4)) := hg.at_ 11
  have FL := Aside0.mk (And.intro ok.fll ok.flk)
  have OPE : Aside0 (d.op 4 act = if d.fault 4 = 0 then (act (d.count 4), 0) else if d.fault 4 = 1 then ((d.count 4).flop, 5) else ((act (d.count 4)).flop, 5)) := ⟨rfl⟩
  obtain ⟨cv, hcv⟩ : ∃ cv, d.c 4 = cv := ⟨_, rfl⟩
  have HCV := Aside0.mk hcv
  rw [hcv] at S1 cc
  clear hg ok hcv
  go_enter Try.func48, Try.ntmps48
  go_upto_region 1 with (fail)
  refine start_ (n := 11) (S := fun w' => w'.cell? ⟨db, 11, none⟩ = some (.int .i64 cv)) (ds := [10]) #[F,F,F,F,F,F,F,F,F,F,F] (by kernel_rfl) rfl rfl (cc) (fun hHeld => ?_)
  refine pure_ (i := 0) (N := some 9) (v := ?_) (a' := ?_) #[T,F,F,F,F,F,F,F,F,F,F] rfl rfl (by kernel_rfl) (fun _ _ _ h => h) (Or.inl ⟨by rfl, ?_⟩) ?_ ?_
  rotate_left
  · intro w'
    go_simp
    with_reducible rfl
  rotate_left
  · simp only [Act.put, sA, s0_, sS, i64_w, i32_w]
    rfl
  refine pure_ (i := 1) (N := some 10) (v := ?_) (a' := ?_) #[T,T,F,F,F,F,F,F,F,F,F] rfl rfl (by kernel_rfl) (fun _ _ _ h => h) (Or.inl ⟨by rfl, ?_⟩) ?_ ?_
  rotate_left
  · intro w'
    go_simp
    with_reducible rfl
  rotate_left
  · simp only [Act.put, sA, s0_, sS, i64_w, i32_w]
    rfl
  refine pure_ (i := 2) (N := some 11) (v := ?_) (a' := ?_) #[T,T,T,F,F,F,F,F,F,F,F] rfl rfl (by kernel_rfl) (fun _ _ _ h => h) (Or.inl ⟨by rfl, ?_⟩) ?_ ?_
  rotate_left
  · intro w'
    go_simp
    with_reducible rfl
  rotate_left
  · simp only [Act.put, sA, s0_, sS, i64_w, i32_w]
    rfl
  refine pure_ (i := 3) (N := some 12) (v := ?_) (a' := ?_) #[T,T,T,T,F,F,F,F,F,F,F] rfl rfl (by kernel_rfl) (fun _ _ _ h => h) (Or.inl ⟨by rfl, ?_⟩) ?_ ?_
  rotate_left
  · intro w'
    go_simp
    with_reducible rfl
  rotate_left
  · simp only [Act.put, sA, s0_, sS, i64_w, i32_w]
    rfl
  refine pure_ (i := 4) (N := some 13) (v := ?_) (a' := ?_) #[T,T,T,T,T,F,F,F,F,F,F] rfl rfl (by kernel_rfl) (fun _ _ _ h => h) (Or.inl ⟨by rfl, ?_⟩) ?_ ?_
  rotate_left
  · intro w'
    go_simp
    with_reducible rfl
  rotate_left
  · simp only [Act.put, sA, s0_, sS, i64_w, i32_w]
    rfl
  refine take_ (i := 5) (N := some 14) (v := ?_) (a' := ?_) #[T,T,T,T,T,T,F,F,F,F,F] rfl rfl (by kernel_rfl) (fun _ _ _ h => h) (Or.inl ⟨by rfl, ?_⟩) hHeld ?_ ?_
  rotate_left
  · intro w' s0
    go_simp
    with_reducible rfl
  rotate_left
  · simp only [Act.put, sA, s0_, sS, i64_w, i32_w]
    rfl
  refine pure_ (i := 6) (N := some 15) (v := ?_) (a' := ?_) #[T,T,T,T,T,T,T,F,F,F,F] rfl rfl (by kernel_rfl) (fun _ _ _ h => h) (Or.inl ⟨by rfl, ?_⟩) ?_ ?_
  rotate_left
  · intro w'
    go_simp
    with_reducible rfl
  rotate_left
  · simp only [Act.put, sA, s0_, sS, i64_w, i32_w]
    rfl
  refine pure_ (i := 7) (N := some 16) (v := ?_) (a' := ?_) #[T,T,T,T,T,T,T,T,F,F,F] rfl rfl (by kernel_rfl) (fun _ _ _ h => h) (Or.inl ⟨by rfl, ?_⟩) ?_ ?_
  rotate_left
  · intro w'
    go_simp
    with_reducible rfl
  rotate_left
  · simp only [Act.put, sA, s0_, sS, i64_w, i32_w]
    rfl
  refine pure_ (i := 8) (N := some 17) (v := ?_) (a' := ?_) #[T,T,T,T,T,T,T,T,T,F,F] rfl rfl (by kernel_rfl) (fun _ _ _ h => h) (Or.inl ⟨by rfl, ?_⟩) ?_ ?_
  rotate_left
  · intro w'
    go_simp
    with_reducible rfl
  rotate_left
  · simp only [Act.put, sA, s0_, sS, i64_w, i32_w]
    rfl
  refine pure_ (i := 9) (N := some 18) (v := ?_) (a' := ?_) #[T,T,T,T,T,T,T,T,T,T,F] rfl rfl (by kernel_rfl) (fun _ _ _ h => h) (Or.inl ⟨by rfl, ?_⟩) ?_ ?_
  rotate_left
  · intro w'
    go_simp
    with_reducible rfl
  rotate_left
  · simp only [Act.put, sA, s0_, sS, i64_w, i32_w]
    rfl
  refine last_ (i := 10) (N := none) #[T,T,T,T,T,T,T,T,T,T,T] rfl rfl (by kernel_rfl) (by decide) (fun K hK => ?_)
  refine skip_ (w1 := ?_) (by rfl) rfl ?_ ?_
  rotate_left
  · go_simp
    rfl
  refine hK.out _ _ ?_
  clear hK K
  refine done_ (by kernel_rfl) ?_
  go_upto_region 2 with (fail)
  obtain ⟨w1, hw1⟩ : ∃ w1, (w.setCell ⟨db, 11, none⟩ (.int .i64 (wrap64 (cv + 1)))).drew = w1 := ⟨_, rfl⟩
  rw [hw1] at S1
  rw [hw1]
  clear hw1 cc hfr
  have GD : Aside0 (∃ Af cf, w1.cell? ⟨db, 6, none⟩ = some (.slice Af d.fl.length cf) ∧ k85.C w1 Af d.fl.length d.fl ∧ d.fl.length ≤ cf ∧ w1.cell? ⟨db, 11, none⟩ = some (.int .i64 (wrap64 (cv + 1)))) := ⟨by
    obtain ⟨f1, ⟨im1, imc1, vu1, vf1, vw1, g1⟩, m1⟩ := S1.out
    obtain ⟨Af, cf, ev, hle, hC⟩ := Kd.R_reads g1.fl
    subst ev
    refine ⟨Af, cf, g1.at_ 6, hC, hle, ?_⟩
    have e : (d.count 4).c 4 = wrap64 (cv + 1) := by rw [← HCV.out]; show (if (4 : Nat) = 4 then wrap64 (d.c 4 + 1) else d.c 4) = _; exact if_pos rfl
    rw [← e]
    exact g1.at_ 11⟩
  obtain ⟨Af, cf, c6, hC, hle, cc⟩ := GD.out
  have HFI : Aside0 (d.fault 4 = match findF d.fl 4 (wrap64 (cv + 1)) with | some f => f.f2 | none => 0) := ⟨by rw [← HCV.out]; rfl⟩
  obtain ⟨cn, hcn⟩ : ∃ cn, wrap64 (cv + 1) = cn := ⟨_, rfl⟩
  rw [hcn] at cc HFI
  have KF0 := fun (w' : World) (hb : Below w1.heap.size w1 w') => flash_faulty.calls (d.fl.length + 1) Af cf d.fl 4 cn _ _ _ _ w' (Kd.C_below hC hb) hle (faulty_eq d.fl 4 cn (Nat.lt_of_le_of_lt FL.out.1 (by decide)))
  obtain ⟨nf, hnf⟩ : ∃ nf, d.fl.length = nf := ⟨_, rfl⟩
  rw [hnf] at KF0 c6
  have HFD : Aside0 (∀ ft, findF d.fl 4 cn = some ft → ft.f2 = 1 ∨ ft.f2 = 2) := ⟨fun ft hF => FL.out.2 ft (List.mem_of_find?_eq_some hF)⟩
  clear GD hC hle hcn hnf FL
  cases hfind : findF d.fl 4 cn with
  | none =>
    rw [hfind] at KF0 HFI
    have HQ : Aside0 (d.op 4 act = (act (d.count 4), 0)) := ⟨by rw [OPE.out, HFI.out]; exact if_pos rfl⟩
    have KF := Aside0.mk (show ∀ (w' : World), Below w1.heap.size w1 w' → Calls Try.prog 67 #[.slice Af nf cf, .int .i64 4, .int .i64 cn] w' fun e w'_1 => e = .returned (.tuple #[.agg #[.int .i64 0, .int .i64 0, .int .i64 0], .bool false]) ∧ Below w'.heap.size w' w'_1 from KF0)
    clear KF0 hfind
    refine start_ (n := 18) (S := fun w' => w'.cell? ⟨db, 6, none⟩ = some (.slice Af nf cf) ∧ w'.cell? ⟨db, 11, none⟩ = some (.int .i64 cn)) (ds := [16]) #[F,F,F,F,F,F,F,F,F,F,F,F,F,F,F,F,F,F] (by kernel_rfl) rfl rfl (⟨c6, cc⟩) (fun hHeld => ?_)
    generalize hwd : w1.drew = wd at hHeld ⊢
    have BD : Aside0 (Below w1.heap.size w1 wd) := ⟨by rw [← hwd]; exact below_drew (Below.refl _ _)⟩
    clear hwd c6 cc
    obtain ⟨c6, cc⟩ := hHeld
    have hHeld : wd.cell? ⟨db, 6, none⟩ = some (.slice Af nf cf) ∧ wd.cell? ⟨db, 11, none⟩ = some (.int .i64 cn) := ⟨c6, cc⟩
    refine pure_ (i := 0) (N := some 20) (v := ?_) (a' := ?_) #[T,F,F,F,F,F,F,F,F,F,F,F,F,F,F,F,F,F] rfl rfl (by kernel_rfl) (fun _ _ _ h => h) (Or.inl ⟨by rfl, ?_⟩) ?_ ?_
    rotate_left
    · intro w'
      go_simp
      with_reducible rfl
    rotate_left
    · simp only [Act.put, sA, s0_, sS, i64_w, i32_w]
      rfl
    refine pure_ (i := 1) (N := some 21) (v := ?_) (a' := ?_) #[T,T,F,F,F,F,F,F,F,F,F,F,F,F,F,F,F,F] rfl rfl (by kernel_rfl) (fun _ _ _ h => h) (Or.inl ⟨by rfl, ?_⟩) ?_ ?_
    rotate_left
    · intro w'
      go_simp
      with_reducible rfl
    rotate_left
    · simp only [Act.put, sA, s0_, sS, i64_w, i32_w]
      rfl
    refine pure_ (i := 2) (N := some 22) (v := ?_) (a' := ?_) #[T,T,T,F,F,F,F,F,F,F,F,F,F,F,F,F,F,F] rfl rfl (by kernel_rfl) (fun _ _ _ h => h) (Or.inl ⟨by rfl, ?_⟩) ?_ ?_
    rotate_left
    · intro w'
      go_simp
      with_reducible rfl
    rotate_left
    · simp only [Act.put, sA, s0_, sS, i64_w, i32_w]
      rfl
    refine take_ (i := 3) (N := some 23) (v := ?_) (a' := ?_) #[T,T,T,T,F,F,F,F,F,F,F,F,F,F,F,F,F,F] rfl rfl (by kernel_rfl) (fun _ _ _ h => h) (Or.inl ⟨by rfl, ?_⟩) hHeld ?_ ?_
    rotate_left
    · intro w' s0
      obtain ⟨s1, s2⟩ := s0
      go_simp
      with_reducible rfl
    rotate_left
    · simp only [Act.put, sA, s0_, sS, i64_w, i32_w]
      rfl
    refine pure_ (i := 4) (N := some 24) (v := ?_) (a' := ?_) #[T,T,T,T,T,F,F,F,F,F,F,F,F,F,F,F,F,F] rfl rfl (by kernel_rfl) (fun _ _ _ h => h) (Or.inl ⟨by rfl, ?_⟩) ?_ ?_
    rotate_left
    · intro w'
      go_simp
      with_reducible rfl
    rotate_left
    · simp only [Act.put, sA, s0_, sS, i64_w, i32_w]
      rfl
    refine pure_ (i := 5) (N := some 25) (v := ?_) (a' := ?_) #[T,T,T,T,T,T,F,F,F,F,F,F,F,F,F,F,F,F] rfl rfl (by kernel_rfl) (fun _ _ _ h => h) (Or.inl ⟨by rfl, ?_⟩) ?_ ?_
    rotate_left
    · intro w'
      go_simp
      with_reducible rfl
    rotate_left
    · simp only [Act.put, sA, s0_, sS, i64_w, i32_w]
      rfl
    refine pure_ (i := 6) (N := some 26) (v := ?_) (a' := ?_) #[T,T,T,T,T,T,T,F,F,F,F,F,F,F,F,F,F,F] rfl rfl (by kernel_rfl) (fun _ _ _ h => h) (Or.inl ⟨by rfl, ?_⟩) ?_ ?_
    rotate_left
    · intro w'
      go_simp
      with_reducible rfl
    rotate_left
    · simp only [Act.put, sA, s0_, sS, i64_w, i32_w]
      rfl
    refine pure_ (i := 7) (N := some 27) (v := ?_) (a' := ?_) #[T,T,T,T,T,T,T,T,F,F,F,F,F,F,F,F,F,F] rfl rfl (by kernel_rfl) (fun _ _ _ h => h) (Or.inl ⟨by rfl, ?_⟩) ?_ ?_
    rotate_left
    · intro w'
      go_simp
      with_reducible rfl
    rotate_left
    · simp only [Act.put, sA, s0_, sS, i64_w, i32_w]
      rfl
    refine pure_ (i := 8) (N := some 28) (v := ?_) (a' := ?_) #[T,T,T,T,T,T,T,T,T,F,F,F,F,F,F,F,F,F] rfl rfl (by kernel_rfl) (fun _ _ _ h => h) (Or.inl ⟨by rfl, ?_⟩) ?_ ?_
    rotate_left
    · intro w'
      go_simp
      with_reducible rfl
    rotate_left
    · simp only [Act.put, sA, s0_, sS, i64_w, i32_w]
      rfl
    refine pure_ (i := 9) (N := some 29) (v := ?_) (a' := ?_) #[T,T,T,T,T,T,T,T,T,T,F,F,F,F,F,F,F,F] rfl rfl (by kernel_rfl) (fun _ _ _ h => h) (Or.inl ⟨by rfl, ?_⟩) ?_ ?_
    rotate_left
    · intro w'
      go_simp
      with_reducible rfl
    rotate_left
    · simp only [Act.put, sA, s0_, sS, i64_w, i32_w]
      rfl
    refine take_ (i := 10) (N := some 30) (v := ?_) (a' := ?_) #[T,T,T,T,T,T,T,T,T,T,T,F,F,F,F,F,F,F] rfl rfl (by kernel_rfl) (fun _ _ _ h => h) (Or.inl ⟨by rfl, ?_⟩) hHeld ?_ ?_
    rotate_left
    · intro w' s0
      obtain ⟨s1, s2⟩ := s0
      go_simp
      with_reducible rfl
    rotate_left
    · simp only [Act.put, sA, s0_, sS, i64_w, i32_w]
      rfl
    refine join_ (σ := Nat) 2 #[T,T,T,T,T,T,T,T,T,T,T,T,T,T,T,T,F,F] (fun s_ => [(31, .tuple #[.agg #[.int .i64 0, .int .i64 0, .int .i64 0], .bool false]), (7, .pointer (some ⟨s_, 0, none⟩)), (19, .tuple #[.agg #[.int .i64 0, .int .i64 0, .int .i64 0], .bool false]), (32, .agg #[.int .i64 0, .int .i64 0, .int .i64 0]), (33, .bool false)]) (fun s_ w' => Below wd.heap.size wd w' ∧ wd.heap.size ≤ s_ ∧ w'.heap[s_]? = some (.cells #[.int .i64 0, .int .i64 0, .int .i64 0] 85 (0, 0))) ?_ ?_
    rotate_left
    · intro hCont
      refine two_ (i := 11) (j := 15) (Ni := some 31) (Nj := some 7) #[T,T,T,T,T,T,T,T,T,T,T,T,F,F,F,F,F,F] #[T,T,T,T,T,T,T,T,T,T,T,F,F,F,F,T,F,F] rfl rfl rfl rfl (by kernel_rfl) (by decide) (by decide) (fun K hK => ?_) (fun K hK => ?_)
      · skip
        refine goes_ Try.func67 (by kernel_rfl) rfl #[.slice Af nf cf, .int .i64 4, .int .i64 cn] (by rfl) rfl rfl (by (try simp only [List.map_toArray, List.map_cons, List.map_nil]); first | done | rfl) ?_
        with_reducible refine (KF.out wd BD.out).mono ?_
        rintro e wq ⟨rfl, hq⟩
        refine ⟨_, rfl, ?_⟩
        refine hK.out _ _ (by exact ⟨pw_cell_below hq c6, pw_cell_below hq cc⟩) (fun hHeld => ?_)
        clear hK K
        refine norm_ (a' := ?_) ?_ ?_
        rotate_left
        · show Act.put _ (some 31) _ = _
          simp only [Act.put, sA, s0_, sS, i64_w, i32_w]
          rfl
        refine pure_ (i := 12) (N := some 19) (v := ?_) (a' := ?_) #[T,T,T,T,T,T,T,T,T,T,T,T,T,F,F,F,F,F] rfl rfl (by kernel_rfl) (fun _ _ _ h => h) (Or.inl ⟨by rfl, ?_⟩) ?_ ?_
        rotate_left
        · intro w'
          go_simp
          with_reducible rfl
        rotate_left
        · simp only [Act.put, sA, s0_, sS, i64_w, i32_w]
          rfl
        refine pure_ (i := 13) (N := some 32) (v := ?_) (a' := ?_) #[T,T,T,T,T,T,T,T,T,T,T,T,T,T,F,F,F,F] rfl rfl (by kernel_rfl) (fun _ _ _ h => h) (Or.inl ⟨by rfl, ?_⟩) ?_ ?_
        rotate_left
        · intro w'
          go_simp
          with_reducible rfl
        rotate_left
        · simp only [Act.put, sA, s0_, sS, i64_w, i32_w]
          rfl
        refine pure_ (i := 14) (N := some 33) (v := ?_) (a' := ?_) #[T,T,T,T,T,T,T,T,T,T,T,T,T,T,T,F,F,F] rfl rfl (by kernel_rfl) (fun _ _ _ h => h) (Or.inl ⟨by rfl, ?_⟩) ?_ ?_
        rotate_left
        · intro w'
          go_simp
          with_reducible rfl
        rotate_left
        · simp only [Act.put, sA, s0_, sS, i64_w, i32_w]
          rfl
        refine one_ (i := 15) (N := some 7) #[T,T,T,T,T,T,T,T,T,T,T,T,T,T,T,T,F,F] rfl rfl (by kernel_rfl) (by decide) (fun K hK => ?_)
        refine value_ (w1 := ?_) (v := ?_) (by rfl) rfl ?_ ?_
        rotate_left 2
        · go_simp
          constructor
          · rfl
          · rfl
        refine hK.out _ _ (by exact ⟨pw_cell_below (hq.alloc hq.size _) c6, pw_cell_below (hq.alloc hq.size _) cc⟩) (fun hHeld => ?_)
        clear hK K
        refine norm_ (a' := ?_) ?_ ?_
        rotate_left
        · show Act.put _ (some 7) _ = _
          simp only [Act.put, sA, s0_, sS, i64_w, i32_w]
          rfl
        exact norm_ (by simp only [putAll, Act.put, sA, s0_, sS]) (hCont wq.heap.size _ ⟨hq.alloc hq.size _, hq.size, blk_new wq _⟩)
      · skip
        refine value_ (w1 := ?_) (v := ?_) (by rfl) rfl ?_ ?_
        rotate_left 2
        · go_simp
          constructor
          · rfl
          · rfl
        refine hK.out _ _ (by exact ⟨pw_cell_below (below_alloc (Below.refl wd.heap.size wd) (.cells #[.int .i64 0, .int .i64 0, .int .i64 0] 85)) c6, pw_cell_below (below_alloc (Below.refl wd.heap.size wd) (.cells #[.int .i64 0, .int .i64 0, .int .i64 0] 85)) cc⟩) (fun hHeld => ?_)
        clear hK K
        refine norm_ (a' := ?_) ?_ ?_
        rotate_left
        · show Act.put _ (some 7) _ = _
          simp only [Act.put, sA, s0_, sS, i64_w, i32_w]
          rfl
        refine one_ (i := 11) (N := some 31) #[T,T,T,T,T,T,T,T,T,T,T,T,F,F,F,T,F,F] rfl rfl (by kernel_rfl) (by decide) (fun K hK => ?_)
        refine goes_ Try.func67 (by kernel_rfl) rfl #[.slice Af nf cf, .int .i64 4, .int .i64 cn] (by rfl) rfl rfl (by (try simp only [List.map_toArray, List.map_cons, List.map_nil]); first | done | rfl) ?_
        with_reducible refine (KF.out (wd.alloc (.cells #[.int .i64 0, .int .i64 0, .int .i64 0] 85)) (BD.out.alloc BD.out.size _)).mono ?_
        rintro e wq ⟨rfl, hq⟩
        refine ⟨_, rfl, ?_⟩
        have hq2 := (below_alloc (Below.refl wd.heap.size wd) (.cells #[.int .i64 0, .int .i64 0, .int .i64 0] 85)).trans (hq.mono (by simp))
        refine hK.out _ _ (by exact ⟨pw_cell_below hq2 c6, pw_cell_below hq2 cc⟩) (fun hHeld => ?_)
        clear hK K
        refine norm_ (a' := ?_) ?_ ?_
        rotate_left
        · show Act.put _ (some 31) _ = _
          simp only [Act.put, sA, s0_, sS, i64_w, i32_w]
          rfl
        refine pure_ (i := 12) (N := some 19) (v := ?_) (a' := ?_) #[T,T,T,T,T,T,T,T,T,T,T,T,T,F,F,T,F,F] rfl rfl (by kernel_rfl) (fun _ _ _ h => h) (Or.inl ⟨by rfl, ?_⟩) ?_ ?_
        rotate_left
        · intro w'
          go_simp
          with_reducible rfl
        rotate_left
        · simp only [Act.put, sA, s0_, sS, i64_w, i32_w]
          rfl
        refine pure_ (i := 13) (N := some 32) (v := ?_) (a' := ?_) #[T,T,T,T,T,T,T,T,T,T,T,T,T,T,F,T,F,F] rfl rfl (by kernel_rfl) (fun _ _ _ h => h) (Or.inl ⟨by rfl, ?_⟩) ?_ ?_
        rotate_left
        · intro w'
          go_simp
          with_reducible rfl
        rotate_left
        · simp only [Act.put, sA, s0_, sS, i64_w, i32_w]
          rfl
        refine pure_ (i := 14) (N := some 33) (v := ?_) (a' := ?_) #[T,T,T,T,T,T,T,T,T,T,T,T,T,T,T,T,F,F] rfl rfl (by kernel_rfl) (fun _ _ _ h => h) (Or.inl ⟨by rfl, ?_⟩) ?_ ?_
        rotate_left
        · intro w'
          go_simp
          with_reducible rfl
        rotate_left
        · simp only [Act.put, sA, s0_, sS, i64_w, i32_w]
          rfl
        exact norm_ (by simp only [putAll, Act.put, sA, s0_, sS]) (hCont wd.heap.size _ ⟨hq2, Nat.le_refl _, blk_below (blk_new wd _) hq⟩)
    intro bx w3 hF
    obtain ⟨hF1, hF2, hF3⟩ := hF
    have B3 := Aside0.mk hF1
    have S3 := Aside0.mk hF2
    have K3 := Aside0.mk hF3
    have j0 := blk_cell hF3 0
    have j1 := blk_cell hF3 1
    have j2 := blk_cell hF3 2
    have l0 := blk_frozen hF3 0
    have l1 := blk_frozen hF3 1
    have l2 := blk_frozen hF3 2
    clear hF1 hF2 hF3
    refine norm_ (a' := ?_) ?_ ?_
    rotate_left
    · simp only [putAll, Act.put, sA, s0_, sS]
      rfl
    refine last_ (i := 16) (N := none) #[T,T,T,T,T,T,T,T,T,T,T,T,T,T,T,T,T,F] rfl rfl (by kernel_rfl) (by decide) (fun K hK => ?_)
    refine skip_ (w1 := ?_) (by rfl) rfl ?_ ?_
    rotate_left
    · go_simp
      rfl
    refine hK.out _ _ ?_
    clear hK K
    refine pure_ (i := 17) (N := some 8) (v := ?_) (a' := ?_) #[T,T,T,T,T,T,T,T,T,T,T,T,T,T,T,T,T,T] rfl rfl (by kernel_rfl) (fun _ _ _ h => h) (Or.inl ⟨by rfl, ?_⟩) ?_ ?_
    rotate_left
    · intro w'
      go_simp
      with_reducible rfl
    rotate_left
    · simp only [Act.put, sA, s0_, sS, i64_w, i32_w]
      rfl
    refine done_ (by kernel_rfl) ?_
    obtain ⟨w4, hw4⟩ : ∃ w4, ((w3.setCell ⟨bx, 0, none⟩ (.int .i64 0)).setCell ⟨bx, 1, none⟩ (.int .i64 0)).setCell ⟨bx, 2, none⟩ (.int .i64 0) = w4 := ⟨_, rfl⟩
    rw [hw4]
    have S4 := Aside0.mk (S1.out.box (show Below w1.heap.size w1 w4 by rw [← hw4]; exact below3 (BD.out.trans (B3.out.mono BD.out.size)) (Nat.le_trans BD.out.size S3.out) _ _ _))
    clear hw4 c6 cc j0 j1 j2 l0 l1 l2
    go_wp2_with (go_at_call 54; refine (HA.out _ S4.out).mono ?_; rintro e w5 ⟨rfl, h5⟩; have S5 := Aside0.mk h5; clear h5)
    go_ret
    exact ⟨by rw [HQ.out]; rfl, by rw [HQ.out]; exact S5.out⟩
  | some ft =>
    rw [hfind] at KF0 HFI
    have HK := HFD.out ft hfind
    have HFK : Aside0 (d.fault 4 = ft.f2) := HFI
    have KF1 : ∀ (w' : World), Below w1.heap.size w1 w' → Calls Try.prog 67 #[.slice Af nf cf, .int .i64 4, .int .i64 cn] w' fun e w'_1 => e = .returned (.tuple #[.agg #[.int .i64 ft.f0, .int .i64 ft.f1, .int .i64 ft.f2], .bool true]) ∧ Below w'.heap.size w' w'_1 := KF0
    obtain ⟨g0, hg0⟩ : ∃ g0, ft.f0 = g0 := ⟨_, rfl⟩
    obtain ⟨g1, hg1⟩ : ∃ g1, ft.f1 = g1 := ⟨_, rfl⟩
    obtain ⟨g2, hg2⟩ : ∃ g2, ft.f2 = g2 := ⟨_, rfl⟩
    rw [hg0, hg1, hg2] at KF1
    rw [hg2] at HK HFK
    have KF := Aside0.mk KF1
    have HKK := Aside0.mk HK
    clear KF0 KF1 hfind hg0 hg1 hg2 HFI HK
    refine start_ (n := 18) (S := fun w' => w'.cell? ⟨db, 6, none⟩ = some (.slice Af nf cf) ∧ w'.cell? ⟨db, 11, none⟩ = some (.int .i64 cn)) (ds := [16]) #[F,F,F,F,F,F,F,F,F,F,F,F,F,F,F,F,F,F] (by kernel_rfl) rfl rfl (⟨c6, cc⟩) (fun hHeld => ?_)
    generalize hwd : w1.drew = wd at hHeld ⊢
    have BD : Aside0 (Below w1.heap.size w1 wd) := ⟨by rw [← hwd]; exact below_drew (Below.refl _ _)⟩
    clear hwd c6 cc
    obtain ⟨c6, cc⟩ := hHeld
    have hHeld : wd.cell? ⟨db, 6, none⟩ = some (.slice Af nf cf) ∧ wd.cell? ⟨db, 11, none⟩ = some (.int .i64 cn) := ⟨c6, cc⟩
    refine pure_ (i := 0) (N := some 20) (v := ?_) (a' := ?_) #[T,F,F,F,F,F,F,F,F,F,F,F,F,F,F,F,F,F] rfl rfl (by kernel_rfl) (fun _ _ _ h => h) (Or.inl ⟨by rfl, ?_⟩) ?_ ?_
    rotate_left
    · intro w'
      go_simp
      with_reducible rfl
    rotate_left
    · simp only [Act.put, sA, s0_, sS, i64_w, i32_w]
      rfl
    refine pure_ (i := 1) (N := some 21) (v := ?_) (a' := ?_) #[T,T,F,F,F,F,F,F,F,F,F,F,F,F,F,F,F,F] rfl rfl (by kernel_rfl) (fun _ _ _ h => h) (Or.inl ⟨by rfl, ?_⟩) ?_ ?_
    rotate_left
    · intro w'
      go_simp
      with_reducible rfl
    rotate_left
    · simp only [Act.put, sA, s0_, sS, i64_w, i32_w]
      rfl
    refine pure_ (i := 2) (N := some 22) (v := ?_) (a' := ?_) #[T,T,T,F,F,F,F,F,F,F,F,F,F,F,F,F,F,F] rfl rfl (by kernel_rfl) (fun _ _ _ h => h) (Or.inl ⟨by rfl, ?_⟩) ?_ ?_
    rotate_left
    · intro w'
      go_simp
      with_reducible rfl
    rotate_left
    · simp only [Act.put, sA, s0_, sS, i64_w, i32_w]
      rfl
    refine take_ (i := 3) (N := some 23) (v := ?_) (a' := ?_) #[T,T,T,T,F,F,F,F,F,F,F,F,F,F,F,F,F,F] rfl rfl (by kernel_rfl) (fun _ _ _ h => h) (Or.inl ⟨by rfl, ?_⟩) hHeld ?_ ?_
    rotate_left
    · intro w' s0
      obtain ⟨s1, s2⟩ := s0
      go_simp
      with_reducible rfl
    rotate_left
    · simp only [Act.put, sA, s0_, sS, i64_w, i32_w]
      rfl
    refine pure_ (i := 4) (N := some 24) (v := ?_) (a' := ?_) #[T,T,T,T,T,F,F,F,F,F,F,F,F,F,F,F,F,F] rfl rfl (by kernel_rfl) (fun _ _ _ h => h) (Or.inl ⟨by rfl, ?_⟩) ?_ ?_
    rotate_left
    · intro w'
      go_simp
      with_reducible rfl
    rotate_left
    · simp only [Act.put, sA, s0_, sS, i64_w, i32_w]
      rfl
    refine pure_ (i := 5) (N := some 25) (v := ?_) (a' := ?_) #[T,T,T,T,T,T,F,F,F,F,F,F,F,F,F,F,F,F] rfl rfl (by kernel_rfl) (fun _ _ _ h => h) (Or.inl ⟨by rfl, ?_⟩) ?_ ?_
    rotate_left
    · intro w'
      go_simp
      with_reducible rfl
    rotate_left
    · simp only [Act.put, sA, s0_, sS, i64_w, i32_w]
      rfl
    refine pure_ (i := 6) (N := some 26) (v := ?_) (a' := ?_) #[T,T,T,T,T,T,T,F,F,F,F,F,F,F,F,F,F,F] rfl rfl (by kernel_rfl) (fun _ _ _ h => h) (Or.inl ⟨by rfl, ?_⟩) ?_ ?_
    rotate_left
    · intro w'
      go_simp
      with_reducible rfl
    rotate_left
    · simp only [Act.put, sA, s0_, sS, i64_w, i32_w]
      rfl
    refine pure_ (i := 7) (N := some 27) (v := ?_) (a' := ?_) #[T,T,T,T,T,T,T,T,F,F,F,F,F,F,F,F,F,F] rfl rfl (by kernel_rfl) (fun _ _ _ h => h) (Or.inl ⟨by rfl, ?_⟩) ?_ ?_
    rotate_left
    · intro w'
      go_simp
      with_reducible rfl
    rotate_left
    · simp only [Act.put, sA, s0_, sS, i64_w, i32_w]
      rfl
    refine pure_ (i := 8) (N := some 28) (v := ?_) (a' := ?_) #[T,T,T,T,T,T,T,T,T,F,F,F,F,F,F,F,F,F] rfl rfl (by kernel_rfl) (fun _ _ _ h => h) (Or.inl ⟨by rfl, ?_⟩) ?_ ?_
    rotate_left
    · intro w'
      go_simp
      with_reducible rfl
    rotate_left
    · simp only [Act.put, sA, s0_, sS, i64_w, i32_w]
      rfl
    refine pure_ (i := 9) (N := some 29) (v := ?_) (a' := ?_) #[T,T,T,T,T,T,T,T,T,T,F,F,F,F,F,F,F,F] rfl rfl (by kernel_rfl) (fun _ _ _ h => h) (Or.inl ⟨by rfl, ?_⟩) ?_ ?_
    rotate_left
    · intro w'
      go_simp
      with_reducible rfl
    rotate_left
    · simp only [Act.put, sA, s0_, sS, i64_w, i32_w]
      rfl
    refine take_ (i := 10) (N := some 30) (v := ?_) (a' := ?_) #[T,T,T,T,T,T,T,T,T,T,T,F,F,F,F,F,F,F] rfl rfl (by kernel_rfl) (fun _ _ _ h => h) (Or.inl ⟨by rfl, ?_⟩) hHeld ?_ ?_
    rotate_left
    · intro w' s0
      obtain ⟨s1, s2⟩ := s0
      go_simp
      with_reducible rfl
    rotate_left
    · simp only [Act.put, sA, s0_, sS, i64_w, i32_w]
      rfl
    refine join_ (σ := Nat) 2 #[T,T,T,T,T,T,T,T,T,T,T,T,T,T,T,T,F,F] (fun s_ => [(31, .tuple #[.agg #[.int .i64 g0, .int .i64 g1, .int .i64 g2], .bool true]), (7, .pointer (some ⟨s_, 0, none⟩)), (19, .tuple #[.agg #[.int .i64 g0, .int .i64 g1, .int .i64 g2], .bool true]), (32, .agg #[.int .i64 g0, .int .i64 g1, .int .i64 g2]), (33, .bool true)]) (fun s_ w' => Below wd.heap.size wd w' ∧ wd.heap.size ≤ s_ ∧ w'.heap[s_]? = some (.cells #[.int .i64 0, .int .i64 0, .int .i64 0] 85 (0, 0))) ?_ ?_
    rotate_left
    · intro hCont
      refine two_ (i := 11) (j := 15) (Ni := some 31) (Nj := some 7) #[T,T,T,T,T,T,T,T,T,T,T,T,F,F,F,F,F,F] #[T,T,T,T,T,T,T,T,T,T,T,F,F,F,F,T,F,F] rfl rfl rfl rfl (by kernel_rfl) (by decide) (by decide) (fun K hK => ?_) (fun K hK => ?_)
      · skip
        refine goes_ Try.func67 (by kernel_rfl) rfl #[.slice Af nf cf, .int .i64 4, .int .i64 cn] (by rfl) rfl rfl (by (try simp only [List.map_toArray, List.map_cons, List.map_nil]); first | done | rfl) ?_
        with_reducible refine (KF.out wd BD.out).mono ?_
        rintro e wq ⟨rfl, hq⟩
        refine ⟨_, rfl, ?_⟩
        refine hK.out _ _ (by exact ⟨pw_cell_below hq c6, pw_cell_below hq cc⟩) (fun hHeld => ?_)
        clear hK K
        refine norm_ (a' := ?_) ?_ ?_
        rotate_left
        · show Act.put _ (some 31) _ = _
          simp only [Act.put, sA, s0_, sS, i64_w, i32_w]
          rfl
        refine pure_ (i := 12) (N := some 19) (v := ?_) (a' := ?_) #[T,T,T,T,T,T,T,T,T,T,T,T,T,F,F,F,F,F] rfl rfl (by kernel_rfl) (fun _ _ _ h => h) (Or.inl ⟨by rfl, ?_⟩) ?_ ?_
        rotate_left
        · intro w'
          go_simp
          with_reducible rfl
        rotate_left
        · simp only [Act.put, sA, s0_, sS, i64_w, i32_w]
          rfl
        refine pure_ (i := 13) (N := some 32) (v := ?_) (a' := ?_) #[T,T,T,T,T,T,T,T,T,T,T,T,T,T,F,F,F,F] rfl rfl (by kernel_rfl) (fun _ _ _ h => h) (Or.inl ⟨by rfl, ?_⟩) ?_ ?_
        rotate_left
        · intro w'
          go_simp
          with_reducible rfl
        rotate_left
        · simp only [Act.put, sA, s0_, sS, i64_w, i32_w]
          rfl
        refine pure_ (i := 14) (N := some 33) (v := ?_) (a' := ?_) #[T,T,T,T,T,T,T,T,T,T,T,T,T,T,T,F,F,F] rfl rfl (by kernel_rfl) (fun _ _ _ h => h) (Or.inl ⟨by rfl, ?_⟩) ?_ ?_
        rotate_left
        · intro w'
          go_simp
          with_reducible rfl
        rotate_left
        · simp only [Act.put, sA, s0_, sS, i64_w, i32_w]
          rfl
        refine one_ (i := 15) (N := some 7) #[T,T,T,T,T,T,T,T,T,T,T,T,T,T,T,T,F,F] rfl rfl (by kernel_rfl) (by decide) (fun K hK => ?_)
        refine value_ (w1 := ?_) (v := ?_) (by rfl) rfl ?_ ?_
        rotate_left 2
        · go_simp
          constructor
          · rfl
          · rfl
        refine hK.out _ _ (by exact ⟨pw_cell_below (hq.alloc hq.size _) c6, pw_cell_below (hq.alloc hq.size _) cc⟩) (fun hHeld => ?_)
        clear hK K
        refine norm_ (a' := ?_) ?_ ?_
        rotate_left
        · show Act.put _ (some 7) _ = _
          simp only [Act.put, sA, s0_, sS, i64_w, i32_w]
          rfl
        exact norm_ (by simp only [putAll, Act.put, sA, s0_, sS]) (hCont wq.heap.size _ ⟨hq.alloc hq.size _, hq.size, blk_new wq _⟩)
      · skip
        refine value_ (w1 := ?_) (v := ?_) (by rfl) rfl ?_ ?_
        rotate_left 2
        · go_simp
          constructor
          · rfl
          · rfl
        refine hK.out _ _ (by exact ⟨pw_cell_below (below_alloc (Below.refl wd.heap.size wd) (.cells #[.int .i64 0, .int .i64 0, .int .i64 0] 85)) c6, pw_cell_below (below_alloc (Below.refl wd.heap.size wd) (.cells #[.int .i64 0, .int .i64 0, .int .i64 0] 85)) cc⟩) (fun hHeld => ?_)
        clear hK K
        refine norm_ (a' := ?_) ?_ ?_
        rotate_left
        · show Act.put _ (some 7) _ = _
          simp only [Act.put, sA, s0_, sS, i64_w, i32_w]
          rfl
        refine one_ (i := 11) (N := some 31) #[T,T,T,T,T,T,T,T,T,T,T,T,F,F,F,T,F,F] rfl rfl (by kernel_rfl) (by decide) (fun K hK => ?_)
        refine goes_ Try.func67 (by kernel_rfl) rfl #[.slice Af nf cf, .int .i64 4, .int .i64 cn] (by rfl) rfl rfl (by (try simp only [List.map_toArray, List.map_cons, List.map_nil]); first | done | rfl) ?_
        with_reducible refine (KF.out (wd.alloc (.cells #[.int .i64 0, .int .i64 0, .int .i64 0] 85)) (BD.out.alloc BD.out.size _)).mono ?_
        rintro e wq ⟨rfl, hq⟩
        refine ⟨_, rfl, ?_⟩
        have hq2 := (below_alloc (Below.refl wd.heap.size wd) (.cells #[.int .i64 0, .int .i64 0, .int .i64 0] 85)).trans (hq.mono (by simp))
        refine hK.out _ _ (by exact ⟨pw_cell_below hq2 c6, pw_cell_below hq2 cc⟩) (fun hHeld => ?_)
        clear hK K
        refine norm_ (a' := ?_) ?_ ?_
        rotate_left
        · show Act.put _ (some 31) _ = _
          simp only [Act.put, sA, s0_, sS, i64_w, i32_w]
          rfl
        refine pure_ (i := 12) (N := some 19) (v := ?_) (a' := ?_) #[T,T,T,T,T,T,T,T,T,T,T,T,T,F,F,T,F,F] rfl rfl (by kernel_rfl) (fun _ _ _ h => h) (Or.inl ⟨by rfl, ?_⟩) ?_ ?_
        rotate_left
        · intro w'
          go_simp
          with_reducible rfl
        rotate_left
        · simp only [Act.put, sA, s0_, sS, i64_w, i32_w]
          rfl
        refine pure_ (i := 13) (N := some 32) (v := ?_) (a' := ?_) #[T,T,T,T,T,T,T,T,T,T,T,T,T,T,F,T,F,F] rfl rfl (by kernel_rfl) (fun _ _ _ h => h) (Or.inl ⟨by rfl, ?_⟩) ?_ ?_
        rotate_left
        · intro w'
          go_simp
          with_reducible rfl
        rotate_left
        · simp only [Act.put, sA, s0_, sS, i64_w, i32_w]
          rfl
        refine pure_ (i := 14) (N := some 33) (v := ?_) (a' := ?_) #[T,T,T,T,T,T,T,T,T,T,T,T,T,T,T,T,F,F] rfl rfl (by kernel_rfl) (fun _ _ _ h => h) (Or.inl ⟨by rfl, ?_⟩) ?_ ?_
        rotate_left
        · intro w'
          go_simp
          with_reducible rfl
        rotate_left
        · simp only [Act.put, sA, s0_, sS, i64_w, i32_w]
          rfl
        exact norm_ (by simp only [putAll, Act.put, sA, s0_, sS]) (hCont wd.heap.size _ ⟨hq2, Nat.le_refl _, blk_below (blk_new wd _) hq⟩)
    intro bx w3 hF
    obtain ⟨hF1, hF2, hF3⟩ := hF
    have B3 := Aside0.mk hF1
    have S3 := Aside0.mk hF2
    have K3 := Aside0.mk hF3
    have j0 := blk_cell hF3 0
    have j1 := blk_cell hF3 1
    have j2 := blk_cell hF3 2
    have l0 := blk_frozen hF3 0
    have l1 := blk_frozen hF3 1
    have l2 := blk_frozen hF3 2
    clear hF1 hF2 hF3
    refine norm_ (a' := ?_) ?_ ?_
    rotate_left
    · simp only [putAll, Act.put, sA, s0_, sS]
      rfl
    refine last_ (i := 16) (N := none) #[T,T,T,T,T,T,T,T,T,T,T,T,T,T,T,T,T,F] rfl rfl (by kernel_rfl) (by decide) (fun K hK => ?_)
    refine skip_ (w1 := ?_) (by rfl) rfl ?_ ?_
    rotate_left
    · go_simp
      rfl
    refine hK.out _ _ ?_
    clear hK K
    refine pure_ (i := 17) (N := some 8) (v := ?_) (a' := ?_) #[T,T,T,T,T,T,T,T,T,T,T,T,T,T,T,T,T,T] rfl rfl (by kernel_rfl) (fun _ _ _ h => h) (Or.inl ⟨by rfl, ?_⟩) ?_ ?_
    rotate_left
    · intro w'
      go_simp
      with_reducible rfl
    rotate_left
    · simp only [Act.put, sA, s0_, sS, i64_w, i32_w]
      rfl
    refine done_ (by kernel_rfl) ?_
    obtain ⟨w4, hw4⟩ : ∃ w4, ((w3.setCell ⟨bx, 0, none⟩ (.int .i64 g0)).setCell ⟨bx, 1, none⟩ (.int .i64 g1)).setCell ⟨bx, 2, none⟩ (.int .i64 g2) = w4 := ⟨_, rfl⟩
    rw [hw4]
    have S4 := Aside0.mk (S1.out.box (show Below w1.heap.size w1 w4 by rw [← hw4]; exact below3 (BD.out.trans (B3.out.mono BD.out.size)) (Nat.le_trans BD.out.size S3.out) _ _ _))
    have k2 : w4.cell? ⟨bx, 2, none⟩ = some (.int .i64 g2) := by rw [← hw4]; exact blk_cell (put3 K3.out _ _ _) 2
    clear hw4 c6 cc j0 j1 j2 l0 l1 l2
    rcases HKK.out with hk | hk
    · subst hk
      have HQ : Aside0 (d.op 4 act = ((d.count 4).flop, 5)) := ⟨by rw [OPE.out, HFK.out, if_neg (by decide)]; exact if_pos rfl⟩
      obtain ⟨g1, g2, g3⟩ := DevA.fail S4.out _ rfl
      have S6 := Aside0.mk g1
      obtain ⟨fa, hfa⟩ : ∃ fa, (d.count 4).failed = fa := ⟨_, rfl⟩
      rw [hfa] at S6 g2
      clear g1 hfa
      go_wp2
      go_ret
      exact ⟨by rw [HQ.out]; rfl, by rw [HQ.out]; exact S6.out⟩
    · subst hk
      have HQ : Aside0 (d.op 4 act = ((act (d.count 4)).flop, 5)) := ⟨by rw [OPE.out, HFK.out, if_neg (by decide)]; exact if_neg (by decide)⟩
      go_upto_region 5 with (go_at_call 54; refine (HA.out _ S4.out).mono ?_; rintro e w5 ⟨rfl, h5⟩; have S5 := Aside0.mk h5; clear h5)
      obtain ⟨g1, g2, g3⟩ := DevA.fail S5.out _ rfl
      have S6 := Aside0.mk g1
      obtain ⟨fa, hfa⟩ : ∃ fa, (act (d.count 4)).failed = fa := ⟨_, rfl⟩
      rw [hfa] at S6 g2
      clear g1 hfa k2
      go_wp2
      go_ret
      exact ⟨by rw [HQ.out]; rfl, by rw [HQ.out]; exact S6.out⟩
section
variable {B : Nat} {f : Owner} {w : World} {db : Nat} {d : Dv}
set_option maxHeartbeats 1000000 in
theorem sync_do {w1 : World} {bx : Nat} (h : DevA B f w db d w1) (hb : w1.heap[bx]? = some (.cells #[.pointer (some ⟨db, 0, none⟩)] 26 (0, 0))) :
    Calls Try.prog 54 #[.pointer (some ⟨bx, 0, none⟩)] w1 (fun e w2 => e = .returned (.tuple #[]) ∧ DevA B f w db { d with un := [] } w2) := by
  have c0 : w1.cell? ⟨bx, 0, none⟩ = some (.pointer (some ⟨db, 0, none⟩)) := blk_cell hb 0
  obtain ⟨g1, g2, v, g3⟩ := h.setNil
  have S := Aside0.mk g1
  clear h hb g1
  go_enter Try.func54, Try.ntmps54
  go_wp2
  go_end0
  exact ⟨rfl, S.out⟩
set_option maxHeartbeats 2000000 in
set_option maxRecDepth 100000 in
theorem sync_walk (h : DevX B f w db d) (ok : d.Ok) : Calls Try.prog 31 #[.pointer (some ⟨db, 0, none⟩)] w (fun e w' => e = .returned (.int .i64 d.sync.2) ∧ DevA B f w db d.sync.1 w') := by
  obtain ⟨hx, hn, hm⟩ := h.boxed (below_alloc (Below.refl w.heap.size w) (.cells #[.pointer (some ⟨db, 0, none⟩)] 26))
  have bb := blk_new w (.cells #[.pointer (some ⟨db, 0, none⟩)] 26)
  have c0 : (w.alloc (.cells #[.pointer (some ⟨db, 0, none⟩)] 26)).cell? ⟨w.heap.size, 0, none⟩ = some (.pointer (some ⟨db, 0, none⟩)) := blk_cell bb 0
  have KO := Aside0.mk (op_54 (bd := ⟨w.heap.size, 0, none⟩) hx ok (fun d => { d with un := [] }) ⟨fun w1 h1 => sync_do h1 (h1.blk bb (hn _ (Nat.le_refl _)))⟩)
  have HM := Aside0.mk hm
  have KM : Aside0 (Calls Try.prog 39 #[.pointer (some ⟨db, 0, none⟩)] (w.alloc (.cells #[.pointer (some ⟨db, 0, none⟩)] 26)) (fun e w' => e = .returned (.bool true) ∧ (w.alloc (.cells #[.pointer (some ⟨db, 0, none⟩)] 26)) = w')) := ⟨by
    obtain ⟨_, _, _, _, _, hg⟩ := hx
    exact made_walk hg (DevG.pos ok)⟩
  have hmf : ∀ w : World, (Instr.makeFunc (.func 54) #[] #[.pointer (some ⟨w.heap.size, 0, none⟩)]).run Try.prog w = .ok (.func (.func 54) #[] #[.pointer (some ⟨w.heap.size, 0, none⟩)]) w := fun _ => rfl
  clear h ok hx hn hm bb hmf
  go_enter Try.func31, Try.ntmps31
  go_wp2_with (first
    | (go_at_call 39; refine KM.out.mono ?_; rintro e w' ⟨rfl, rfl⟩)
    | (go_at_call 48; refine KO.out.mono ?_; rintro e w2 ⟨rfl, h2⟩; have S2 := Aside0.mk h2; clear h2))
  go_ret
  exact ⟨rfl, S2.out.under HM.out⟩
end
set_option maxHeartbeats 4000000 in
set_option maxRecDepth 100000 in
theorem op_51 {B : Nat} {f : Owner} {w : World} {db : Nat} {d : Dv} {bd bn : Addr} (h : DevX B f w db d) (ok : d.Ok) (act : Dv → Dv) (HA : Aside0 (∀ w1, DevA B f w db (d.count 3) w1 → Calls Try.prog 51 #[.pointer (some bn), .pointer (some bd)] w1 (fun e w2 => e = .returned (.tuple #[]) ∧ DevA B f w db (act (d.count 3)) w2))) :
    Calls Try.prog 48 #[.pointer (some ⟨db, 0, none⟩), .int .i64 3, .func (.func 51) #[] #[.pointer (some bn), .pointer (some bd)]] w (fun e w' => e = .returned (.int .i64 (d.op 3 act).2) ∧ DevA B f w db (d.op 3 act).1 w') := by
  obtain ⟨im, imc, vu, vf, vw, hg⟩ := h
  have S1 : Aside0 (DevA B f w db (d.count 3) (w.setCell ⟨db, 10, none⟩ (.int .i64 (wrap64 (d.c 3 + 1)))).drew) := ⟨by
    obtain ⟨g1, g2⟩ := hg.setC 3 (by decide) (wrap64 (d.c 3 + 1))
    exact DevA.box ⟨f, ⟨im, imc, vu, vf, vw, g1⟩, g2⟩ (below_drew (Below.refl _ _))⟩
  have hfr := blk_frozen hg.blk 10
  have cc : w.cell? ⟨db, 10, none⟩ = some (.int .i64 (d.c 3)) := hg.at_ 10
  have FL := Aside0.mk (And.intro ok.fll ok.flk)
  have OPE : Aside0 (d.op 3 act = if d.fault 3 = 0 then (act (d.count 3), 0) else if d.fault 3 = 1 then ((d.count 3).flop, 5) else ((act (d.count 3)).flop, 5)) := ⟨rfl⟩
  obtain ⟨cv, hcv⟩ : ∃ cv, d.c 3 = cv := ⟨_, rfl⟩
  have HCV := Aside0.mk hcv
  rw [hcv] at S1 cc
  clear hg ok hcv
  go_enter Try.func48, Try.ntmps48
  go_upto_region 1 with (fail)
  refine start_ (n := 11) (S := fun w' => w'.cell? ⟨db, 10, none⟩ = some (.int .i64 cv)) (ds := [10]) #[F,F,F,F,F,F,F,F,F,F,F] (by kernel_rfl) rfl rfl (cc) (fun hHeld => ?_)
  refine pure_ (i := 0) (N := some 9) (v := ?_) (a' := ?_) #[T,F,F,F,F,F,F,F,F,F,F] rfl rfl (by kernel_rfl) (fun _ _ _ h => h) (Or.inl ⟨by rfl, ?_⟩) ?_ ?_
  rotate_left
  · intro w'
    go_simp
    with_reducible rfl
  rotate_left
  · simp only [Act.put, sA, s0_, sS, i64_w, i32_w]
    rfl
  refine pure_ (i := 1) (N := some 10) (v := ?_) (a' := ?_) #[T,T,F,F,F,F,F,F,F,F,F] rfl rfl (by kernel_rfl) (fun _ _ _ h => h) (Or.inl ⟨by rfl, ?_⟩) ?_ ?_
  rotate_left
  · intro w'
    go_simp
    with_reducible rfl
  rotate_left
  · simp only [Act.put, sA, s0_, sS, i64_w, i32_w]
    rfl
  refine pure_ (i := 2) (N := some 11) (v := ?_) (a' := ?_) #[T,T,T,F,F,F,F,F,F,F,F] rfl rfl (by kernel_rfl) (fun _ _ _ h => h) (Or.inl ⟨by rfl, ?_⟩) ?_ ?_
  rotate_left
  · intro w'
    go_simp
    with_reducible rfl
  rotate_left
  · simp only [Act.put, sA, s0_, sS, i64_w, i32_w]
    rfl
  refine pure_ (i := 3) (N := some 12) (v := ?_) (a' := ?_) #[T,T,T,T,F,F,F,F,F,F,F] rfl rfl (by kernel_rfl) (fun _ _ _ h => h) (Or.inl ⟨by rfl, ?_⟩) ?_ ?_
  rotate_left
  · intro w'
    go_simp
    with_reducible rfl
  rotate_left
  · simp only [Act.put, sA, s0_, sS, i64_w, i32_w]
    rfl
  refine pure_ (i := 4) (N := some 13) (v := ?_) (a' := ?_) #[T,T,T,T,T,F,F,F,F,F,F] rfl rfl (by kernel_rfl) (fun _ _ _ h => h) (Or.inl ⟨by rfl, ?_⟩) ?_ ?_
  rotate_left
  · intro w'
    go_simp
    with_reducible rfl
  rotate_left
  · simp only [Act.put, sA, s0_, sS, i64_w, i32_w]
    rfl
  refine take_ (i := 5) (N := some 14) (v := ?_) (a' := ?_) #[T,T,T,T,T,T,F,F,F,F,F] rfl rfl (by kernel_rfl) (fun _ _ _ h => h) (Or.inl ⟨by rfl, ?_⟩) hHeld ?_ ?_
  rotate_left
  · intro w' s0
    go_simp
    with_reducible rfl
  rotate_left
  · simp only [Act.put, sA, s0_, sS, i64_w, i32_w]
    rfl
  refine pure_ (i := 6) (N := some 15) (v := ?_) (a' := ?_) #[T,T,T,T,T,T,T,F,F,F,F] rfl rfl (by kernel_rfl) (fun _ _ _ h => h) (Or.inl ⟨by rfl, ?_⟩) ?_ ?_
  rotate_left
  · intro w'
    go_simp
    with_reducible rfl
  rotate_left
  · simp only [Act.put, sA, s0_, sS, i64_w, i32_w]
    rfl
  refine pure_ (i := 7) (N := some 16) (v := ?_) (a' := ?_) #[T,T,T,T,T,T,T,T,F,F,F] rfl rfl (by kernel_rfl) (fun _ _ _ h => h) (Or.inl ⟨by rfl, ?_⟩) ?_ ?_
  rotate_left
  · intro w'
    go_simp
    with_reducible rfl
  rotate_left
  · simp only [Act.put, sA, s0_, sS, i64_w, i32_w]
    rfl
  refine pure_ (i := 8) (N := some 17) (v := ?_) (a' := ?_) #[T,T,T,T,T,T,T,T,T,F,F] rfl rfl (by kernel_rfl) (fun _ _ _ h => h) (Or.inl ⟨by rfl, ?_⟩) ?_ ?_
  rotate_left
  · intro w'
    go_simp
    with_reducible rfl
  rotate_left
  · simp only [Act.put, sA, s0_, sS, i64_w, i32_w]
    rfl
  refine pure_ (i := 9) (N := some 18) (v := ?_) (a' := ?_) #[T,T,T,T,T,T,T,T,T,T,F] rfl rfl (by kernel_rfl) (fun _ _ _ h => h) (Or.inl ⟨by rfl, ?_⟩) ?_ ?_
  rotate_left
  · intro w'
    go_simp
    with_reducible rfl
  rotate_left
  · simp only [Act.put, sA, s0_, sS, i64_w, i32_w]
    rfl
  refine last_ (i := 10) (N := none) #[T,T,T,T,T,T,T,T,T,T,T] rfl rfl (by kernel_rfl) (by decide) (fun K hK => ?_)
  refine skip_ (w1 := ?_) (by rfl) rfl ?_ ?_
  rotate_left
  · go_simp
    rfl
  refine hK.out _ _ ?_
  clear hK K
  refine done_ (by kernel_rfl) ?_
  go_upto_region 2 with (fail)
  obtain ⟨w1, hw1⟩ : ∃ w1, (w.setCell ⟨db, 10, none⟩ (.int .i64 (wrap64 (cv + 1)))).drew = w1 := ⟨_, rfl⟩
  rw [hw1] at S1
  rw [hw1]
  clear hw1 cc hfr
  have GD : Aside0 (∃ Af cf, w1.cell? ⟨db, 6, none⟩ = some (.slice Af d.fl.length cf) ∧ k85.C w1 Af d.fl.length d.fl ∧ d.fl.length ≤ cf ∧ w1.cell? ⟨db, 10, none⟩ = some (.int .i64 (wrap64 (cv + 1)))) := ⟨by
    obtain ⟨f1, ⟨im1, imc1, vu1, vf1, vw1, g1⟩, m1⟩ := S1.out
    obtain ⟨Af, cf, ev, hle, hC⟩ := Kd.R_reads g1.fl
    subst ev
    refine ⟨Af, cf, g1.at_ 6, hC, hle, ?_⟩
    have e : (d.count 3).c 3 = wrap64 (cv + 1) := by rw [← HCV.out]; show (if (3 : Nat) = 3 then wrap64 (d.c 3 + 1) else d.c 3) = _; exact if_pos rfl
    rw [← e]
    exact g1.at_ 10⟩
  obtain ⟨Af, cf, c6, hC, hle, cc⟩ := GD.out
  have HFI : Aside0 (d.fault 3 = match findF d.fl 3 (wrap64 (cv + 1)) with | some f => f.f2 | none => 0) := ⟨by rw [← HCV.out]; rfl⟩
  obtain ⟨cn, hcn⟩ : ∃ cn, wrap64 (cv + 1) = cn := ⟨_, rfl⟩
  rw [hcn] at cc HFI
  have KF0 := fun (w' : World) (hb : Below w1.heap.size w1 w') => flash_faulty.calls (d.fl.length + 1) Af cf d.fl 3 cn _ _ _ _ w' (Kd.C_below hC hb) hle (faulty_eq d.fl 3 cn (Nat.lt_of_le_of_lt FL.out.1 (by decide)))
  obtain ⟨nf, hnf⟩ : ∃ nf, d.fl.length = nf := ⟨_, rfl⟩
  rw [hnf] at KF0 c6
  have HFD : Aside0 (∀ ft, findF d.fl 3 cn = some ft → ft.f2 = 1 ∨ ft.f2 = 2) := ⟨fun ft hF => FL.out.2 ft (List.mem_of_find?_eq_some hF)⟩
  clear GD hC hle hcn hnf FL
  cases hfind : findF d.fl 3 cn with
  | none =>
    rw [hfind] at KF0 HFI
    have HQ : Aside0 (d.op 3 act = (act (d.count 3), 0)) := ⟨by rw [OPE.out, HFI.out]; exact if_pos rfl⟩
    have KF := Aside0.mk (show ∀ (w' : World), Below w1.heap.size w1 w' → Calls Try.prog 67 #[.slice Af nf cf, .int .i64 3, .int .i64 cn] w' fun e w'_1 => e = .returned (.tuple #[.agg #[.int .i64 0, .int .i64 0, .int .i64 0], .bool false]) ∧ Below w'.heap.size w' w'_1 from KF0)
    clear KF0 hfind
    refine start_ (n := 18) (S := fun w' => w'.cell? ⟨db, 6, none⟩ = some (.slice Af nf cf) ∧ w'.cell? ⟨db, 10, none⟩ = some (.int .i64 cn)) (ds := [16]) #[F,F,F,F,F,F,F,F,F,F,F,F,F,F,F,F,F,F] (by kernel_rfl) rfl rfl (⟨c6, cc⟩) (fun hHeld => ?_)
    generalize hwd : w1.drew = wd at hHeld ⊢
    have BD : Aside0 (Below w1.heap.size w1 wd) := ⟨by rw [← hwd]; exact below_drew (Below.refl _ _)⟩
    clear hwd c6 cc
    obtain ⟨c6, cc⟩ := hHeld
    have hHeld : wd.cell? ⟨db, 6, none⟩ = some (.slice Af nf cf) ∧ wd.cell? ⟨db, 10, none⟩ = some (.int .i64 cn) := ⟨c6, cc⟩
    refine pure_ (i := 0) (N := some 20) (v := ?_) (a' := ?_) #[T,F,F,F,F,F,F,F,F,F,F,F,F,F,F,F,F,F] rfl rfl (by kernel_rfl) (fun _ _ _ h => h) (Or.inl ⟨by rfl, ?_⟩) ?_ ?_
    rotate_left
    · intro w'
      go_simp
      with_reducible rfl
    rotate_left
    · simp only [Act.put, sA, s0_, sS, i64_w, i32_w]
      rfl
    refine pure_ (i := 1) (N := some 21) (v := ?_) (a' := ?_) #[T,T,F,F,F,F,F,F,F,F,F,F,F,F,F,F,F,F] rfl rfl (by kernel_rfl) (fun _ _ _ h => h) (Or.inl ⟨by rfl, ?_⟩) ?_ ?_
    rotate_left
    · intro w'
      go_simp
      with_reducible rfl
    rotate_left
    · simp only [Act.put, sA, s0_, sS, i64_w, i32_w]
      rfl
    refine pure_ (i := 2) (N := some 22) (v := ?_) (a' := ?_) #[T,T,T,F,F,F,F,F,F,F,F,F,F,F,F,F,F,F] rfl rfl (by kernel_rfl) (fun _ _ _ h => h) (Or.inl ⟨by rfl, ?_⟩) ?_ ?_
    rotate_left
    · intro w'
      go_simp
      with_reducible rfl
    rotate_left
    · simp only [Act.put, sA, s0_, sS, i64_w, i32_w]
      rfl
    refine take_ (i := 3) (N := some 23) (v := ?_) (a' := ?_) #[T,T,T,T,F,F,F,F,F,F,F,F,F,F,F,F,F,F] rfl rfl (by kernel_rfl) (fun _ _ _ h => h) (Or.inl ⟨by rfl, ?_⟩) hHeld ?_ ?_
    rotate_left
    · intro w' s0
      obtain ⟨s1, s2⟩ := s0
      go_simp
      with_reducible rfl
    rotate_left
    · simp only [Act.put, sA, s0_, sS, i64_w, i32_w]
      rfl
    refine pure_ (i := 4) (N := some 24) (v := ?_) (a' := ?_) #[T,T,T,T,T,F,F,F,F,F,F,F,F,F,F,F,F,F] rfl rfl (by kernel_rfl) (fun _ _ _ h => h) (Or.inl ⟨by rfl, ?_⟩) ?_ ?_
    rotate_left
    · intro w'
      go_simp
      with_reducible rfl
    rotate_left
    · simp only [Act.put, sA, s0_, sS, i64_w, i32_w]
      rfl
    refine pure_ (i := 5) (N := some 25) (v := ?_) (a' := ?_) #[T,T,T,T,T,T,F,F,F,F,F,F,F,F,F,F,F,F] rfl rfl (by kernel_rfl) (fun _ _ _ h => h) (Or.inl ⟨by rfl, ?_⟩) ?_ ?_
    rotate_left
    · intro w'
      go_simp
      with_reducible rfl
    rotate_left
    · simp only [Act.put, sA, s0_, sS, i64_w, i32_w]
      rfl
    refine pure_ (i := 6) (N := some 26) (v := ?_) (a' := ?_) #[T,T,T,T,T,T,T,F,F,F,F,F,F,F,F,F,F,F] rfl rfl (by kernel_rfl) (fun _ _ _ h => h) (Or.inl ⟨by rfl, ?_⟩) ?_ ?_
    rotate_left
    · intro w'
      go_simp
      with_reducible rfl
    rotate_left
    · simp only [Act.put, sA, s0_, sS, i64_w, i32_w]
      rfl
    refine pure_ (i := 7) (N := some 27) (v := ?_) (a' := ?_) #[T,T,T,T,T,T,T,T,F,F,F,F,F,F,F,F,F,F] rfl rfl (by kernel_rfl) (fun _ _ _ h => h) (Or.inl ⟨by rfl, ?_⟩) ?_ ?_
    rotate_left
    · intro w'
      go_simp
      with_reducible rfl
    rotate_left
    · simp only [Act.put, sA, s0_, sS, i64_w, i32_w]
      rfl
    refine pure_ (i := 8) (N := some 28) (v := ?_) (a' := ?_) #[T,T,T,T,T,T,T,T,T,F,F,F,F,F,F,F,F,F] rfl rfl (by kernel_rfl) (fun _ _ _ h => h) (Or.inl ⟨by rfl, ?_⟩) ?_ ?_
    rotate_left
    · intro w'
      go_simp
      with_reducible rfl
    rotate_left
    · simp only [Act.put, sA, s0_, sS, i64_w, i32_w]
      rfl
    refine pure_ (i := 9) (N := some 29) (v := ?_) (a' := ?_) #[T,T,T,T,T,T,T,T,T,T,F,F,F,F,F,F,F,F] rfl rfl (by kernel_rfl) (fun _ _ _ h => h) (Or.inl ⟨by rfl, ?_⟩) ?_ ?_
    rotate_left
    · intro w'
      go_simp
      with_reducible rfl
    rotate_left
    · simp only [Act.put, sA, s0_, sS, i64_w, i32_w]
      rfl
    refine take_ (i := 10) (N := some 30) (v := ?_) (a' := ?_) #[T,T,T,T,T,T,T,T,T,T,T,F,F,F,F,F,F,F] rfl rfl (by kernel_rfl) (fun _ _ _ h => h) (Or.inl ⟨by rfl, ?_⟩) hHeld ?_ ?_
    rotate_left
    · intro w' s0
      obtain ⟨s1, s2⟩ := s0
      go_simp
      with_reducible rfl
    rotate_left
    · simp only [Act.put, sA, s0_, sS, i64_w, i32_w]
      rfl
    refine join_ (σ := Nat) 2 #[T,T,T,T,T,T,T,T,T,T,T,T,T,T,T,T,F,F] (fun s_ => [(31, .tuple #[.agg #[.int .i64 0, .int .i64 0, .int .i64 0], .bool false]), (7, .pointer (some ⟨s_, 0, none⟩)), (19, .tuple #[.agg #[.int .i64 0, .int .i64 0, .int .i64 0], .bool false]), (32, .agg #[.int .i64 0, .int .i64 0, .int .i64 0]), (33, .bool false)]) (fun s_ w' => Below wd.heap.size wd w' ∧ wd.heap.size ≤ s_ ∧ w'.heap[s_]? = some (.cells #[.int .i64 0, .int .i64 0, .int .i64 0] 85 (0, 0))) ?_ ?_
    rotate_left
    · intro hCont
      refine two_ (i := 11) (j := 15) (Ni := some 31) (Nj := some 7) #[T,T,T,T,T,T,T,T,T,T,T,T,F,F,F,F,F,F] #[T,T,T,T,T,T,T,T,T,T,T,F,F,F,F,T,F,F] rfl rfl rfl rfl (by kernel_rfl) (by decide) (by decide) (fun K hK => ?_) (fun K hK => ?_)
      · skip
        refine goes_ Try.func67 (by kernel_rfl) rfl #[.slice Af nf cf, .int .i64 3, .int .i64 cn] (by rfl) rfl rfl (by (try simp only [List.map_toArray, List.map_cons, List.map_nil]); first | done | rfl) ?_
        with_reducible refine (KF.out wd BD.out).mono ?_
        rintro e wq ⟨rfl, hq⟩
        refine ⟨_, rfl, ?_⟩
        refine hK.out _ _ (by exact ⟨pw_cell_below hq c6, pw_cell_below hq cc⟩) (fun hHeld => ?_)
        clear hK K
        refine norm_ (a' := ?_) ?_ ?_
        rotate_left
        · show Act.put _ (some 31) _ = _
          simp only [Act.put, sA, s0_, sS, i64_w, i32_w]
          rfl
        refine pure_ (i := 12) (N := some 19) (v := ?_) (a' := ?_) #[T,T,T,T,T,T,T,T,T,T,T,T,T,F,F,F,F,F] rfl rfl (by kernel_rfl) (fun _ _ _ h => h) (Or.inl ⟨by rfl, ?_⟩) ?_ ?_
        rotate_left
        · intro w'
          go_simp
          with_reducible rfl
        rotate_left
        · simp only [Act.put, sA, s0_, sS, i64_w, i32_w]
          rfl
        refine pure_ (i := 13) (N := some 32) (v := ?_) (a' := ?_) #[T,T,T,T,T,T,T,T,T,T,T,T,T,T,F,F,F,F] rfl rfl (by kernel_rfl) (fun _ _ _ h => h) (Or.inl ⟨by rfl, ?_⟩) ?_ ?_
        rotate_left
        · intro w'
          go_simp
          with_reducible rfl
        rotate_left
        · simp only [Act.put, sA, s0_, sS, i64_w, i32_w]
          rfl
        refine pure_ (i := 14) (N := some 33) (v := ?_) (a' := ?_) #[T,T,T,T,T,T,T,T,T,T,T,T,T,T,T,F,F,F] rfl rfl (by kernel_rfl) (fun _ _ _ h => h) (Or.inl ⟨by rfl, ?_⟩) ?_ ?_
        rotate_left
        · intro w'
          go_simp
          with_reducible rfl
        rotate_left
        · simp only [Act.put, sA, s0_, sS, i64_w, i32_w]
          rfl
        refine one_ (i := 15) (N := some 7) #[T,T,T,T,T,T,T,T,T,T,T,T,T,T,T,T,F,F] rfl rfl (by kernel_rfl) (by decide) (fun K hK => ?_)
        refine value_ (w1 := ?_) (v := ?_) (by rfl) rfl ?_ ?_
        rotate_left 2
        · go_simp
          constructor
          · rfl
          · rfl
        refine hK.out _ _ (by exact ⟨pw_cell_below (hq.alloc hq.size _) c6, pw_cell_below (hq.alloc hq.size _) cc⟩) (fun hHeld => ?_)
        clear hK K
        refine norm_ (a' := ?_) ?_ ?_
        rotate_left
        · show Act.put _ (some 7) _ = _
          simp only [Act.put, sA, s0_, sS, i64_w, i32_w]
          rfl
        exact norm_ (by simp only [putAll, Act.put, sA, s0_, sS]) (hCont wq.heap.size _ ⟨hq.alloc hq.size _, hq.size, blk_new wq _⟩)
      · skip
        refine value_ (w1 := ?_) (v := ?_) (by rfl) rfl ?_ ?_
        rotate_left 2
        · go_simp
          constructor
          · rfl
          · rfl
        refine hK.out _ _ (by exact ⟨pw_cell_below (below_alloc (Below.refl wd.heap.size wd) (.cells #[.int .i64 0, .int .i64 0, .int .i64 0] 85)) c6, pw_cell_below (below_alloc (Below.refl wd.heap.size wd) (.cells #[.int .i64 0, .int .i64 0, .int .i64 0] 85)) cc⟩) (fun hHeld => ?_)
        clear hK K
        refine norm_ (a' := ?_) ?_ ?_
        rotate_left
        · show Act.put _ (some 7) _ = _
          simp only [Act.put, sA, s0_, sS, i64_w, i32_w]
          rfl
        refine one_ (i := 11) (N := some 31) #[T,T,T,T,T,T,T,T,T,T,T,T,F,F,F,T,F,F] rfl rfl (by kernel_rfl) (by decide) (fun K hK => ?_)
        refine goes_ Try.func67 (by kernel_rfl) rfl #[.slice Af nf cf, .int .i64 3, .int .i64 cn] (by rfl) rfl rfl (by (try simp only [List.map_toArray, List.map_cons, List.map_nil]); first | done | rfl) ?_
        with_reducible refine (KF.out (wd.alloc (.cells #[.int .i64 0, .int .i64 0, .int .i64 0] 85)) (BD.out.alloc BD.out.size _)).mono ?_
        rintro e wq ⟨rfl, hq⟩
        refine ⟨_, rfl, ?_⟩
        have hq2 := (below_alloc (Below.refl wd.heap.size wd) (.cells #[.int .i64 0, .int .i64 0, .int .i64 0] 85)).trans (hq.mono (by simp))
        refine hK.out _ _ (by exact ⟨pw_cell_below hq2 c6, pw_cell_below hq2 cc⟩) (fun hHeld => ?_)
        clear hK K
        refine norm_ (a' := ?_) ?_ ?_
        rotate_left
        · show Act.put _ (some 31) _ = _
          simp only [Act.put, sA, s0_, sS, i64_w, i32_w]
          rfl
        refine pure_ (i := 12) (N := some 19) (v := ?_) (a' := ?_) #[T,T,T,T,T,T,T,T,T,T,T,T,T,F,F,T,F,F] rfl rfl (by kernel_rfl) (fun _ _ _ h => h) (Or.inl ⟨by rfl, ?_⟩) ?_ ?_
        rotate_left
        · intro w'
          go_simp
          with_reducible rfl
        rotate_left
        · simp only [Act.put, sA, s0_, sS, i64_w, i32_w]
          rfl
        refine pure_ (i := 13) (N := some 32) (v := ?_) (a' := ?_) #[T,T,T,T,T,T,T,T,T,T,T,T,T,T,F,T,F,F] rfl rfl (by kernel_rfl) (fun _ _ _ h => h) (Or.inl ⟨by rfl, ?_⟩) ?_ ?_
        rotate_left
        · intro w'
          go_simp
          with_reducible rfl
        rotate_left
        · simp only [Act.put, sA, s0_, sS, i64_w, i32_w]
          rfl
        refine pure_ (i := 14) (N := some 33) (v := ?_) (a' := ?_) #[T,T,T,T,T,T,T,T,T,T,T,T,T,T,T,T,F,F] rfl rfl (by kernel_rfl) (fun _ _ _ h => h) (Or.inl ⟨by rfl, ?_⟩) ?_ ?_
        rotate_left
        · intro w'
          go_simp
          with_reducible rfl
        rotate_left
        · simp only [Act.put, sA, s0_, sS, i64_w, i32_w]
          rfl
        exact norm_ (by simp only [putAll, Act.put, sA, s0_, sS]) (hCont wd.heap.size _ ⟨hq2, Nat.le_refl _, blk_below (blk_new wd _) hq⟩)
    intro bx w3 hF
    obtain ⟨hF1, hF2, hF3⟩ := hF
    have B3 := Aside0.mk hF1
    have S3 := Aside0.mk hF2
    have K3 := Aside0.mk hF3
    have j0 := blk_cell hF3 0
    have j1 := blk_cell hF3 1
    have j2 := blk_cell hF3 2
    have l0 := blk_frozen hF3 0
    have l1 := blk_frozen hF3 1
    have l2 := blk_frozen hF3 2
    clear hF1 hF2 hF3
    refine norm_ (a' := ?_) ?_ ?_
    rotate_left
    · simp only [putAll, Act.put, sA, s0_, sS]
      rfl
    refine last_ (i := 16) (N := none) #[T,T,T,T,T,T,T,T,T,T,T,T,T,T,T,T,T,F] rfl rfl (by kernel_rfl) (by decide) (fun K hK => ?_)
    refine skip_ (w1 := ?_) (by rfl) rfl ?_ ?_
    rotate_left
    · go_simp
      rfl
    refine hK.out _ _ ?_
    clear hK K
    refine pure_ (i := 17) (N := some 8) (v := ?_) (a' := ?_) #[T,T,T,T,T,T,T,T,T,T,T,T,T,T,T,T,T,T] rfl rfl (by kernel_rfl) (fun _ _ _ h => h) (Or.inl ⟨by rfl, ?_⟩) ?_ ?_
    rotate_left
    · intro w'
      go_simp
      with_reducible rfl
    rotate_left
    · simp only [Act.put, sA, s0_, sS, i64_w, i32_w]
      rfl
    refine done_ (by kernel_rfl) ?_
    obtain ⟨w4, hw4⟩ : ∃ w4, ((w3.setCell ⟨bx, 0, none⟩ (.int .i64 0)).setCell ⟨bx, 1, none⟩ (.int .i64 0)).setCell ⟨bx, 2, none⟩ (.int .i64 0) = w4 := ⟨_, rfl⟩
    rw [hw4]
    have S4 := Aside0.mk (S1.out.box (show Below w1.heap.size w1 w4 by rw [← hw4]; exact below3 (BD.out.trans (B3.out.mono BD.out.size)) (Nat.le_trans BD.out.size S3.out) _ _ _))
    clear hw4 c6 cc j0 j1 j2 l0 l1 l2
    go_wp2_with (go_at_call 51; refine (HA.out _ S4.out).mono ?_; rintro e w5 ⟨rfl, h5⟩; have S5 := Aside0.mk h5; clear h5)
    go_ret
    exact ⟨by rw [HQ.out]; rfl, by rw [HQ.out]; exact S5.out⟩
  | some ft =>
    rw [hfind] at KF0 HFI
    have HK := HFD.out ft hfind
    have HFK : Aside0 (d.fault 3 = ft.f2) := HFI
    have KF1 : ∀ (w' : World), Below w1.heap.size w1 w' → Calls Try.prog 67 #[.slice Af nf cf, .int .i64 3, .int .i64 cn] w' fun e w'_1 => e = .returned (.tuple #[.agg #[.int .i64 ft.f0, .int .i64 ft.f1, .int .i64 ft.f2], .bool true]) ∧ Below w'.heap.size w' w'_1 := KF0
    obtain ⟨g0, hg0⟩ : ∃ g0, ft.f0 = g0 := ⟨_, rfl⟩
    obtain ⟨g1, hg1⟩ : ∃ g1, ft.f1 = g1 := ⟨_, rfl⟩
    obtain ⟨g2, hg2⟩ : ∃ g2, ft.f2 = g2 := ⟨_, rfl⟩
    rw [hg0, hg1, hg2] at KF1
    rw [hg2] at HK HFK
    have KF := Aside0.mk KF1
    have HKK := Aside0.mk HK
    clear KF0 KF1 hfind hg0 hg1 hg2 HFI HK
    refine start_ (n := 18) (S := fun w' => w'.cell? ⟨db, 6, none⟩ = some (.slice Af nf cf) ∧ w'.cell? ⟨db, 10, none⟩ = some (.int .i64 cn)) (ds := [16]) #[F,F,F,F,F,F,F,F,F,F,F,F,F,F,F,F,F,F] (by kernel_rfl) rfl rfl (⟨c6, cc⟩) (fun hHeld => ?_)
    generalize hwd : w1.drew = wd at hHeld ⊢
    have BD : Aside0 (Below w1.heap.size w1 wd) := ⟨by rw [← hwd]; exact below_drew (Below.refl _ _)⟩
    clear hwd c6 cc
    obtain ⟨c6, cc⟩ := hHeld
    have hHeld : wd.cell? ⟨db, 6, none⟩ = some (.slice Af nf cf) ∧ wd.cell? ⟨db, 10, none⟩ = some (.int .i64 cn) := ⟨c6, cc⟩
    refine pure_ (i := 0) (N := some 20) (v := ?_) (a' := ?_) #[T,F,F,F,F,F,F,F,F,F,F,F,F,F,F,F,F,F] rfl rfl (by kernel_rfl) (fun _ _ _ h => h) (Or.inl ⟨by rfl, ?_⟩) ?_ ?_
    rotate_left
    · intro w'
      go_simp
      with_reducible rfl
    rotate_left
    · simp only [Act.put, sA, s0_, sS, i64_w, i32_w]
      rfl
    refine pure_ (i := 1) (N := some 21) (v := ?_) (a' := ?_) #[T,T,F,F,F,F,F,F,F,F,F,F,F,F,F,F,F,F] rfl rfl (by kernel_rfl) (fun _ _ _ h => h) (Or.inl ⟨by rfl, ?_⟩) ?_ ?_
    rotate_left
    · intro w'
      go_simp
      with_reducible rfl
    rotate_left
    · simp only [Act.put, sA, s0_, sS, i64_w, i32_w]
      rfl
    refine pure_ (i := 2) (N := some 22) (v := ?_) (a' := ?_) #[T,T,T,F,F,F,F,F,F,F,F,F,F,F,F,F,F,F] rfl rfl (by kernel_rfl) (fun _ _ _ h => h) (Or.inl ⟨by rfl, ?_⟩) ?_ ?_
    rotate_left
    · intro w'
      go_simp
      with_reducible rfl
    rotate_left
    · simp only [Act.put, sA, s0_, sS, i64_w, i32_w]
      rfl
    refine take_ (i := 3) (N := some 23) (v := ?_) (a' := ?_) #[T,T,T,T,F,F,F,F,F,F,F,F,F,F,F,F,F,F] rfl rfl (by kernel_rfl) (fun _ _ _ h => h) (Or.inl ⟨by rfl, ?_⟩) hHeld ?_ ?_
    rotate_left
    · intro w' s0
      obtain ⟨s1, s2⟩ := s0
      go_simp
      with_reducible rfl
    rotate_left
    · simp only [Act.put, sA, s0_, sS, i64_w, i32_w]
      rfl
    refine pure_ (i := 4) (N := some 24) (v := ?_) (a' := ?_) #[T,T,T,T,T,F,F,F,F,F,F,F,F,F,F,F,F,F] rfl rfl (by kernel_rfl) (fun _ _ _ h => h) (Or.inl ⟨by rfl, ?_⟩) ?_ ?_
    rotate_left
    · intro w'
      go_simp
      with_reducible rfl
    rotate_left
    · simp only [Act.put, sA, s0_, sS, i64_w, i32_w]
      rfl
    refine pure_ (i := 5) (N := some 25) (v := ?_) (a' := ?_) #[T,T,T,T,T,T,F,F,F,F,F,F,F,F,F,F,F,F] rfl rfl (by kernel_rfl) (fun _ _ _ h => h) (Or.inl ⟨by rfl, ?_⟩) ?_ ?_
    rotate_left
    · intro w'
      go_simp
      with_reducible rfl
    rotate_left
    · simp only [Act.put, sA, s0_, sS, i64_w, i32_w]
      rfl
    refine pure_ (i := 6) (N := some 26) (v := ?_) (a' := ?_) #[T,T,T,T,T,T,T,F,F,F,F,F,F,F,F,F,F,F] rfl rfl (by kernel_rfl) (fun _ _ _ h => h) (Or.inl ⟨by rfl, ?_⟩) ?_ ?_
    rotate_left
    · intro w'
      go_simp
      with_reducible rfl
    rotate_left
    · simp only [Act.put, sA, s0_, sS, i64_w, i32_w]
      rfl
    refine pure_ (i := 7) (N := some 27) (v := ?_) (a' := ?_) #[T,T,T,T,T,T,T,T,F,F,F,F,F,F,F,F,F,F] rfl rfl (by kernel_rfl) (fun _ _ _ h => h) (Or.inl ⟨by rfl, ?_⟩) ?_ ?_
    rotate_left
    · intro w'
      go_simp
      with_reducible rfl
    rotate_left
    · simp only [Act.put, sA, s0_, sS, i64_w, i32_w]
      rfl
    refine pure_ (i := 8) (N := some 28) (v := ?_) (a' := ?_) #[T,T,T,T,T,T,T,T,T,F,F,F,F,F,F,F,F,F] rfl rfl (by kernel_rfl) (fun _ _ _ h => h) (Or.inl ⟨by rfl, ?_⟩) ?_ ?_
    rotate_left
    · intro w'
      go_simp
      with_reducible rfl
    rotate_left
    · simp only [Act.put, sA, s0_, sS, i64_w, i32_w]
      rfl
    refine pure_ (i := 9) (N := some 29) (v := ?_) (a' := ?_) #[T,T,T,T,T,T,T,T,T,T,F,F,F,F,F,F,F,F] rfl rfl (by kernel_rfl) (fun _ _ _ h => h) (Or.inl ⟨by rfl, ?_⟩) ?_ ?_
    rotate_left
    · intro w'
      go_simp
      with_reducible rfl
    rotate_left
    · simp only [Act.put, sA, s0_, sS, i64_w, i32_w]
      rfl
    refine take_ (i := 10) (N := some 30) (v := ?_) (a' := ?_) #[T,T,T,T,T,T,T,T,T,T,T,F,F,F,F,F,F,F] rfl rfl (by kernel_rfl) (fun _ _ _ h => h) (Or.inl ⟨by rfl, ?_⟩) hHeld ?_ ?_
    rotate_left
    · intro w' s0
      obtain ⟨s1, s2⟩ := s0
      go_simp
      with_reducible rfl
    rotate_left
    · simp only [Act.put, sA, s0_, sS, i64_w, i32_w]
      rfl
    refine join_ (σ := Nat) 2 #[T,T,T,T,T,T,T,T,T,T,T,T,T,T,T,T,F,F] (fun s_ => [(31, .tuple #[.agg #[.int .i64 g0, .int .i64 g1, .int .i64 g2], .bool true]), (7, .pointer (some ⟨s_, 0, none⟩)), (19, .tuple #[.agg #[.int .i64 g0, .int .i64 g1, .int .i64 g2], .bool true]), (32, .agg #[.int .i64 g0, .int .i64 g1, .int .i64 g2]), (33, .bool true)]) (fun s_ w' => Below wd.heap.size wd w' ∧ wd.heap.size ≤ s_ ∧ w'.heap[s_]? = some (.cells #[.int .i64 0, .int .i64 0, .int .i64 0] 85 (0, 0))) ?_ ?_
    rotate_left
    · intro hCont
      refine two_ (i := 11) (j := 15) (Ni := some 31) (Nj := some 7) #[T,T,T,T,T,T,T,T,T,T,T,T,F,F,F,F,F,F] #[T,T,T,T,T,T,T,T,T,T,T,F,F,F,F,T,F,F] rfl rfl rfl rfl (by kernel_rfl) (by decide) (by decide) (fun K hK => ?_) (fun K hK => ?_)
      · skip
        refine goes_ Try.func67 (by kernel_rfl) rfl #[.slice Af nf cf, .int .i64 3, .int .i64 cn] (by rfl) rfl rfl (by (try simp only [List.map_toArray, List.map_cons, List.map_nil]); first | done | rfl) ?_
        with_reducible refine (KF.out wd BD.out).mono ?_
        rintro e wq ⟨rfl, hq⟩
        refine ⟨_, rfl, ?_⟩
        refine hK.out _ _ (by exact ⟨pw_cell_below hq c6, pw_cell_below hq cc⟩) (fun hHeld => ?_)
        clear hK K
        refine norm_ (a' := ?_) ?_ ?_
        rotate_left
        · show Act.put _ (some 31) _ = _
          simp only [Act.put, sA, s0_, sS, i64_w, i32_w]
          rfl
        refine pure_ (i := 12) (N := some 19) (v := ?_) (a' := ?_) #[T,T,T,T,T,T,T,T,T,T,T,T,T,F,F,F,F,F] rfl rfl (by kernel_rfl) (fun _ _ _ h => h) (Or.inl ⟨by rfl, ?_⟩) ?_ ?_
        rotate_left
        · intro w'
          go_simp
          with_reducible rfl
        rotate_left
        · simp only [Act.put, sA, s0_, sS, i64_w, i32_w]
          rfl
        refine pure_ (i := 13) (N := some 32) (v := ?_) (a' := ?_) #[T,T,T,T,T,T,T,T,T,T,T,T,T,T,F,F,F,F] rfl rfl (by kernel_rfl) (fun _ _ _ h => h) (Or.inl ⟨by rfl, ?_⟩) ?_ ?_
        rotate_left
        · intro w'
          go_simp
          with_reducible rfl
        rotate_left
        · simp only [Act.put, sA, s0_, sS, i64_w, i32_w]
          rfl
        refine pure_ (i := 14) (N := some 33) (v := ?_) (a' := ?_) #[T,T,T,T,T,T,T,T,T,T,T,T,T,T,T,F,F,F] rfl rfl (by kernel_rfl) (fun _ _ _ h => h) (Or.inl ⟨by rfl, ?_⟩) ?_ ?_
        rotate_left
        · intro w'
          go_simp
          with_reducible rfl
        rotate_left
        · simp only [Act.put, sA, s0_, sS, i64_w, i32_w]
          rfl
        refine one_ (i := 15) (N := some 7) #[T,T,T,T,T,T,T,T,T,T,T,T,T,T,T,T,F,F] rfl rfl (by kernel_rfl) (by decide) (fun K hK => ?_)
        refine value_ (w1 := ?_) (v := ?_) (by rfl) rfl ?_ ?_
        rotate_left 2
        · go_simp
          constructor
          · rfl
          · rfl
        refine hK.out _ _ (by exact ⟨pw_cell_below (hq.alloc hq.size _) c6, pw_cell_below (hq.alloc hq.size _) cc⟩) (fun hHeld => ?_)
        clear hK K
        refine norm_ (a' := ?_) ?_ ?_
        rotate_left
        · show Act.put _ (some 7) _ = _
          simp only [Act.put, sA, s0_, sS, i64_w, i32_w]
          rfl
        exact norm_ (by simp only [putAll, Act.put, sA, s0_, sS]) (hCont wq.heap.size _ ⟨hq.alloc hq.size _, hq.size, blk_new wq _⟩)
      · skip
        refine value_ (w1 := ?_) (v := ?_) (by rfl) rfl ?_ ?_
        rotate_left 2
        · go_simp
          constructor
          · rfl
          · rfl
        refine hK.out _ _ (by exact ⟨pw_cell_below (below_alloc (Below.refl wd.heap.size wd) (.cells #[.int .i64 0, .int .i64 0, .int .i64 0] 85)) c6, pw_cell_below (below_alloc (Below.refl wd.heap.size wd) (.cells #[.int .i64 0, .int .i64 0, .int .i64 0] 85)) cc⟩) (fun hHeld => ?_)
        clear hK K
        refine norm_ (a' := ?_) ?_ ?_
        rotate_left
        · show Act.put _ (some 7) _ = _
          simp only [Act.put, sA, s0_, sS, i64_w, i32_w]
          rfl
        refine one_ (i := 11) (N := some 31) #[T,T,T,T,T,T,T,T,T,T,T,T,F,F,F,T,F,F] rfl rfl (by kernel_rfl) (by decide) (fun K hK => ?_)
        refine goes_ Try.func67 (by kernel_rfl) rfl #[.slice Af nf cf, .int .i64 3, .int .i64 cn] (by rfl) rfl rfl (by (try simp only [List.map_toArray, List.map_cons, List.map_nil]); first | done | rfl) ?_
        with_reducible refine (KF.out (wd.alloc (.cells #[.int .i64 0, .int .i64 0, .int .i64 0] 85)) (BD.out.alloc BD.out.size _)).mono ?_
        rintro e wq ⟨rfl, hq⟩
        refine ⟨_, rfl, ?_⟩
        have hq2 := (below_alloc (Below.refl wd.heap.size wd) (.cells #[.int .i64 0, .int .i64 0, .int .i64 0] 85)).trans (hq.mono (by simp))
        refine hK.out _ _ (by exact ⟨pw_cell_below hq2 c6, pw_cell_below hq2 cc⟩) (fun hHeld => ?_)
        clear hK K
        refine norm_ (a' := ?_) ?_ ?_
        rotate_left
        · show Act.put _ (some 31) _ = _
          simp only [Act.put, sA, s0_, sS, i64_w, i32_w]
          rfl
        refine pure_ (i := 12) (N := some 19) (v := ?_) (a' := ?_) #[T,T,T,T,T,T,T,T,T,T,T,T,T,F,F,T,F,F] rfl rfl (by kernel_rfl) (fun _ _ _ h => h) (Or.inl ⟨by rfl, ?_⟩) ?_ ?_
        rotate_left
        · intro w'
          go_simp
          with_reducible rfl
        rotate_left
        · simp only [Act.put, sA, s0_, sS, i64_w, i32_w]
          rfl
        refine pure_ (i := 13) (N := some 32) (v := ?_) (a' := ?_) #[T,T,T,T,T,T,T,T,T,T,T,T,T,T,F,T,F,F] rfl rfl (by kernel_rfl) (fun _ _ _ h => h) (Or.inl ⟨by rfl, ?_⟩) ?_ ?_
        rotate_left
        · intro w'
          go_simp
          with_reducible rfl
        rotate_left
        · simp only [Act.put, sA, s0_, sS, i64_w, i32_w]
          rfl
        refine pure_ (i := 14) (N := some 33) (v := ?_) (a' := ?_) #[T,T,T,T,T,T,T,T,T,T,T,T,T,T,T,T,F,F] rfl rfl (by kernel_rfl) (fun _ _ _ h => h) (Or.inl ⟨by rfl, ?_⟩) ?_ ?_
        rotate_left
        · intro w'
          go_simp
          with_reducible rfl
        rotate_left
        · simp only [Act.put, sA, s0_, sS, i64_w, i32_w]
          rfl
        exact norm_ (by simp only [putAll, Act.put, sA, s0_, sS]) (hCont wd.heap.size _ ⟨hq2, Nat.le_refl _, blk_below (blk_new wd _) hq⟩)
    intro bx w3 hF
    obtain ⟨hF1, hF2, hF3⟩ := hF
    have B3 := Aside0.mk hF1
    have S3 := Aside0.mk hF2
    have K3 := Aside0.mk hF3
    have j0 := blk_cell hF3 0
    have j1 := blk_cell hF3 1
    have j2 := blk_cell hF3 2
    have l0 := blk_frozen hF3 0
    have l1 := blk_frozen hF3 1
    have l2 := blk_frozen hF3 2
    clear hF1 hF2 hF3
    refine norm_ (a' := ?_) ?_ ?_
    rotate_left
    · simp only [putAll, Act.put, sA, s0_, sS]
      rfl
    refine last_ (i := 16) (N := none) #[T,T,T,T,T,T,T,T,T,T,T,T,T,T,T,T,T,F] rfl rfl (by kernel_rfl) (by decide) (fun K hK => ?_)
    refine skip_ (w1 := ?_) (by rfl) rfl ?_ ?_
    rotate_left
    · go_simp
      rfl
    refine hK.out _ _ ?_
    clear hK K
    refine pure_ (i := 17) (N := some 8) (v := ?_) (a' := ?_) #[T,T,T,T,T,T,T,T,T,T,T,T,T,T,T,T,T,T] rfl rfl (by kernel_rfl) (fun _ _ _ h => h) (Or.inl ⟨by rfl, ?_⟩) ?_ ?_
    rotate_left
    · intro w'
      go_simp
      with_reducible rfl
    rotate_left
    · simp only [Act.put, sA, s0_, sS, i64_w, i32_w]
      rfl
    refine done_ (by kernel_rfl) ?_
    obtain ⟨w4, hw4⟩ : ∃ w4, ((w3.setCell ⟨bx, 0, none⟩ (.int .i64 g0)).setCell ⟨bx, 1, none⟩ (.int .i64 g1)).setCell ⟨bx, 2, none⟩ (.int .i64 g2) = w4 := ⟨_, rfl⟩
    rw [hw4]
    have S4 := Aside0.mk (S1.out.box (show Below w1.heap.size w1 w4 by rw [← hw4]; exact below3 (BD.out.trans (B3.out.mono BD.out.size)) (Nat.le_trans BD.out.size S3.out) _ _ _))
    have k2 : w4.cell? ⟨bx, 2, none⟩ = some (.int .i64 g2) := by rw [← hw4]; exact blk_cell (put3 K3.out _ _ _) 2
    clear hw4 c6 cc j0 j1 j2 l0 l1 l2
    rcases HKK.out with hk | hk
    · subst hk
      have HQ : Aside0 (d.op 3 act = ((d.count 3).flop, 5)) := ⟨by rw [OPE.out, HFK.out, if_neg (by decide)]; exact if_pos rfl⟩
      obtain ⟨g1, g2, g3⟩ := DevA.fail S4.out _ rfl
      have S6 := Aside0.mk g1
      obtain ⟨fa, hfa⟩ : ∃ fa, (d.count 3).failed = fa := ⟨_, rfl⟩
      rw [hfa] at S6 g2
      clear g1 hfa
      go_wp2
      go_ret
      exact ⟨by rw [HQ.out]; rfl, by rw [HQ.out]; exact S6.out⟩
    · subst hk
      have HQ : Aside0 (d.op 3 act = ((act (d.count 3)).flop, 5)) := ⟨by rw [OPE.out, HFK.out, if_neg (by decide)]; exact if_neg (by decide)⟩
      go_upto_region 5 with (go_at_call 51; refine (HA.out _ S4.out).mono ?_; rintro e w5 ⟨rfl, h5⟩; have S5 := Aside0.mk h5; clear h5)
      obtain ⟨g1, g2, g3⟩ := DevA.fail S5.out _ rfl
      have S6 := Aside0.mk g1
      obtain ⟨fa, hfa⟩ : ∃ fa, (act (d.count 3)).failed = fa := ⟨_, rfl⟩
      rw [hfa] at S6 g2
      clear g1 hfa k2
      go_wp2
      go_ret
      exact ⟨by rw [HQ.out]; rfl, by rw [HQ.out]; exact S6.out⟩
/-! ### What a region's wiping forgets -/
set_option maxHeartbeats 2000000 in
set_option maxRecDepth 100000 in
theorem del_walk {w : World} {bd bn db s g xn : Nat} (c0 : w.cell? ⟨bd, 0, none⟩ = some (.pointer (some ⟨db, 0, none⟩))) (c1 : w.cell? ⟨db, 1, none⟩ = some (.int .i64 (s : Int))) (c2 : w.cell? ⟨bn, 0, none⟩ = some (.int .i64 (g : Int))) (hs : 1 ≤ s) (hx : xn < 65536) :
    Calls Try.prog 53 #[.int .i64 (xn : Int), .pointer (some ⟨bd, 0, none⟩), .pointer (some ⟨bn, 0, none⟩)] w (Told w (.bool (decide (xn / s = g)))) := by
  have hsn : ¬ s = 0 := by omega
  obtain ⟨q, hq⟩ : ∃ q, xn / s = q := ⟨_, rfl⟩
  have eq1 : wrap64 ((xn : Int) / (s : Int)) = (q : Int) := by
    rw [show (xn : Int) / (s : Int) = ((xn / s : Nat) : Int) from rfl, hq]
    exact wN (Nat.le_trans (by rw [← hq]; exact Nat.div_le_self _ _) (by omega))
  have e : decide (q = g) = ((q : Int) == (g : Int)) := by rw [Bool.eq_iff_iff]; simp; omega
  rw [hq, e]
  clear hs hx hq
  go_enter Try.func53, Try.ntmps53
  go_upto_region 1 with (fail)
  refine start_ (n := 10) (S := fun w' => w'.cell? ⟨bd, 0, none⟩ = some (.pointer (some ⟨db, 0, none⟩)) ∧ w'.cell? ⟨db, 1, none⟩ = some (.int .i64 (s : Int)) ∧ w'.cell? ⟨bn, 0, none⟩ = some (.int .i64 (g : Int))) (ds := []) #[F,F,F,F,F,F,F,F,F,F] (by kernel_rfl) rfl rfl (⟨c0, c1, c2⟩) (fun hHeld => ?_)
  refine pure_ (i := 0) (N := some 5) (v := ?_) (a' := ?_) #[T,F,F,F,F,F,F,F,F,F] rfl rfl (by kernel_rfl) (fun _ _ _ h => h) (Or.inl ⟨by rfl, ?_⟩) ?_ ?_
  rotate_left
  · intro w'
    go_simp
    with_reducible rfl
  rotate_left
  · simp only [Act.put, sA, s0_, sS, i64_w, i32_w]
    rfl
  refine take_ (i := 1) (N := some 6) (v := ?_) (a' := ?_) #[T,T,F,F,F,F,F,F,F,F] rfl rfl (by kernel_rfl) (fun _ _ _ h => h) (Or.inl ⟨by rfl, ?_⟩) hHeld ?_ ?_
  rotate_left
  · intro w' s0
    obtain ⟨s1, s2, s3⟩ := s0
    go_simp
    with_reducible rfl
  rotate_left
  · simp only [Act.put, sA, s0_, sS, i64_w, i32_w]
    rfl
  refine pure_ (i := 2) (N := some 7) (v := ?_) (a' := ?_) #[T,T,T,F,F,F,F,F,F,F] rfl rfl (by kernel_rfl) (fun _ _ _ h => h) (Or.inl ⟨by rfl, ?_⟩) ?_ ?_
  rotate_left
  · intro w'
    go_simp
    with_reducible rfl
  rotate_left
  · simp only [Act.put, sA, s0_, sS, i64_w, i32_w]
    rfl
  refine pure_ (i := 3) (N := some 8) (v := ?_) (a' := ?_) #[T,T,T,T,F,F,F,F,F,F] rfl rfl (by kernel_rfl) (fun _ _ _ h => h) (Or.inl ⟨by rfl, ?_⟩) ?_ ?_
  rotate_left
  · intro w'
    go_simp
    with_reducible rfl
  rotate_left
  · simp only [Act.put, sA, s0_, sS, i64_w, i32_w]
    rfl
  refine pure_ (i := 4) (N := some 9) (v := ?_) (a' := ?_) #[T,T,T,T,T,F,F,F,F,F] rfl rfl (by kernel_rfl) (fun _ _ _ h => h) (Or.inl ⟨by rfl, ?_⟩) ?_ ?_
  rotate_left
  · intro w'
    go_simp
    with_reducible rfl
  rotate_left
  · simp only [Act.put, sA, s0_, sS, i64_w, i32_w]
    rfl
  refine take_ (i := 5) (N := some 10) (v := ?_) (a' := ?_) #[T,T,T,T,T,T,F,F,F,F] rfl rfl (by kernel_rfl) (fun _ _ _ h => h) (Or.inl ⟨by rfl, ?_⟩) hHeld ?_ ?_
  rotate_left
  · intro w' s0
    obtain ⟨s1, s2, s3⟩ := s0
    go_simp
    with_reducible rfl
  rotate_left
  · simp only [Act.put, sA, s0_, sS, i64_w, i32_w]
    rfl
  refine pure_ (i := 6) (N := some 11) (v := ?_) (a' := ?_) #[T,T,T,T,T,T,T,F,F,F] rfl rfl (by kernel_rfl) (fun _ _ _ h => h) (Or.inl ⟨by rfl, ?_⟩) ?_ ?_
  rotate_left
  · intro w'
    go_simp
    rw [i64_w, eq1]
    done
  rotate_left
  · simp only [Act.put, sA, s0_, sS, i64_w, i32_w]
    rfl
  refine take_ (i := 7) (N := some 12) (v := ?_) (a' := ?_) #[T,T,T,T,T,T,T,T,F,F] rfl rfl (by kernel_rfl) (fun _ _ _ h => h) (Or.inl ⟨by rfl, ?_⟩) hHeld ?_ ?_
  rotate_left
  · intro w' s0
    obtain ⟨s1, s2, s3⟩ := s0
    go_simp
    with_reducible rfl
  rotate_left
  · simp only [Act.put, sA, s0_, sS, i64_w, i32_w]
    rfl
  refine pure_ (i := 8) (N := some 13) (v := ?_) (a' := ?_) #[T,T,T,T,T,T,T,T,T,F] rfl rfl (by kernel_rfl) (fun _ _ _ h => h) (Or.inl ⟨by rfl, ?_⟩) ?_ ?_
  rotate_left
  · intro w'
    go_simp
    with_reducible rfl
  rotate_left
  · simp only [Act.put, sA, s0_, sS, i64_w, i32_w]
    rfl
  refine pure_ (i := 9) (N := some 4) (v := ?_) (a' := ?_) #[T,T,T,T,T,T,T,T,T,T] rfl rfl (by kernel_rfl) (fun _ _ _ h => h) (Or.inl ⟨by rfl, ?_⟩) ?_ ?_
  rotate_left
  · intro w'
    go_simp
    with_reducible rfl
  rotate_left
  · simp only [Act.put, sA, s0_, sS, i64_w, i32_w]
    rfl
  refine done_ (by kernel_rfl) ?_
  go_wp2
  go_ret
  exact ⟨rfl, ⟨1, rfl⟩⟩
/-! ### slices.IndexFunc over it -/
def Idx (P : Int → Bool) (l : List Int) (r : Int) : Prop := (r = -1 ∧ ∀ j, j < l.length → P (rd l (j : Int)) = false) ∨ ∃ i : Nat, r = (i : Int) ∧ i < l.length ∧ P (rd l (i : Int)) = true ∧ ∀ j, j < i → P (rd l (j : Int)) = false
set_option maxHeartbeats 2000000 in
set_option maxRecDepth 100000 in
theorem index_walk {w : World} {A : Option Addr} {c : Nat} {l : List Int} (hC : Kd.C (Kd.int .i64) w A l.length l) (P : Int → Bool) {bd bn : Addr} (hl : l.length < 17592186044416)
    (K : Aside0 (∀ w', Below w.heap.size w w' → ∀ j, j < l.length → Calls Try.prog 53 #[.int .i64 (rd l (j : Int)), .pointer (some bd), .pointer (some bn)] w' (Told w' (.bool (P (rd l (j : Int))))))) :
    Calls Try.prog 81 #[.slice A l.length c, .func (.func 53) #[] #[.pointer (some bd), .pointer (some bn)]] w (fun e w' => ∃ r, e = .returned (.int .i64 r) ∧ Below w.heap.size w w' ∧ Idx P l r) := by
  have HC := Aside0.mk hC
  obtain ⟨ln, hln⟩ : ∃ ln, l.length = ln := ⟨_, rfl⟩
  have HLN := Aside0.mk hln
  have HI := Aside0.mk (show ∀ r, Idx P l r ↔ (r = -1 ∧ ∀ j, j < ln → P (rd l (j : Int)) = false) ∨ ∃ i : Nat, r = (i : Int) ∧ i < ln ∧ P (rd l (i : Int)) = true ∧ ∀ j, j < i → P (rd l (j : Int)) = false from fun r => by unfold Idx; rw [hln])
  rw [hln] at K hl
  rw [hln]
  clear hC hln
  go_enter Try.func81, Try.ntmps81
  go_wp2
  go_loopw [8] (fun v wr => ∃ i : Nat, i ≤ ln ∧ v = .int .i64 (i : Int) ∧ Aside0 (Below w.heap.size w wr) ∧ Aside0 (∀ j, j < i → P (rd l (j : Int)) = false)) (fun v _ => ln - (intOf v).toNat)
  case atStart => exact ⟨0, Nat.zero_le _, rfl, ⟨Below.refl _ _⟩, ⟨fun j h => absurd h (by omega)⟩⟩
  case round =>
    rename_i v wr
    obtain ⟨i, hi, rfl, HB, HP⟩ := hrel
    by_cases hlt : i < ln
    · obtain ⟨ad, eA, k0⟩ := Kd.at_int (Kd.C_below HC.out HB.out) (i : Int) (by omega) (by rw [HLN.out]; omega)
      subst eA
      simp only [Int.toNat_natCast] at k0
      have m0 : (0 : Int) ≤ (i : Int) := by omega
      have m1 : (i : Int) < (ln : Int) := by omega
      have g1 : decide ((i : Int) < (ln : Int)) = true := decide_eq_true m1
      have KX := Aside0.mk (K.out wr HB.out i hlt)
      have LT := Aside0.mk hlt
      obtain ⟨b, hb⟩ : ∃ b, P (rd l (i : Int)) = b := ⟨_, rfl⟩
      have HBX := Aside0.mk hb
      rw [hb] at KX
      cases b with
      | true =>
        clear hb
        go_wp2_with (go_at_call 53; refine KX.out.mono ?_; rintro e w2 ⟨rfl, hd⟩; have B2 := Aside0.mk (HB.out.trans (hd.below.mono HB.out.size)); clear hd)
        go_ret
        exact ⟨_, rfl, B2.out, (HI.out _).2 (.inr ⟨i, rfl, LT.out, HBX.out, HP.out⟩)⟩
      | false =>
        clear hb
        go_wp2_with (go_at_call 53; refine KX.out.mono ?_; rintro e w2 ⟨rfl, hd⟩; have B2 := Aside0.mk (HB.out.trans (hd.below.mono HB.out.size)); clear hd)
        go_roundw
        case rel => exact ⟨i + 1, LT.out, by congr 1 <;> simp, B2, ⟨fun j hj => by
          by_cases e : j = i
          · rw [e]; exact HBX.out
          · exact HP.out j (by omega)⟩⟩
        case measure =>
          have := LT.out
          simp [intOf]
          omega
    · have g1 : decide ((i : Int) < (ln : Int)) = false := decide_eq_false (by omega)
      have e : i = ln := by omega
      have HE := Aside0.mk e
      clear e
      go_wp2
      go_ret
      exact ⟨_, rfl, HB.out, (HI.out _).2 (.inl ⟨rfl, fun j hj => HP.out j (by rw [HE.out]; exact hj)⟩)⟩
section
variable {B : Nat} {f : Owner} {w : World} {db : Nat} {d : Dv}
set_option maxHeartbeats 4000000 in
set_option maxRecDepth 100000 in
theorem erase_walk (h : DevX B f w db d) (ok : d.Ok) (n : Int)
    (HE : Aside0 (∀ (fb : Owner) (w3 : World) (bd bn : Nat), 0 ≤ n → n < (d.r : Int) → DevX B fb w3 db d → w3.heap[bd]? = some (.cells #[.pointer (some ⟨db, 0, none⟩)] 26 (0, 0)) → w3.heap[bn]? = some (.cells #[.int .i64 n] 3 (0, 0)) → fb bd ≠ db → fb bn ≠ db → ∀ w4, DevA B fb w3 db (d.count 3) w4 → Calls Try.prog 51 #[.pointer (some ⟨bn, 0, none⟩), .pointer (some ⟨bd, 0, none⟩)] w4 (fun e w5 => e = .returned (.tuple #[]) ∧ DevA B fb w3 db (Dv.wipe n.toNat (d.count 3)) w5))) :
    Calls Try.prog 30 #[.pointer (some ⟨db, 0, none⟩), .int .i64 n] w (fun e w' => e = .returned (.int .i64 (d.erase n).2) ∧ DevA B f w db (d.erase n).1 w') := by
  have H := Aside0.mk h
  have OK := Aside0.mk ok
  have KM := Aside0.mk (fun (w' : World) (hb : Below w.heap.size w w') => (h.below hb).made ok)
  obtain ⟨r, hr⟩ : ∃ r, d.r = r := ⟨_, rfl⟩
  have C3 : w.cell? ⟨db, 2, none⟩ = some (.int .i64 (r : Int)) := by obtain ⟨_, _, _, _, _, hg⟩ := h; rw [← hr]; exact hg.at_ 2
  have HRR := Aside0.mk hr
  by_cases h0 : n < 0
  · have HR : Aside0 (d.erase n = (d, 30)) := ⟨by unfold Dv.erase; exact if_pos (.inl h0)⟩
    have g0 : decide (n < 0) = true := decide_eq_true h0
    clear h ok h0 hr
    go_enter Try.func30, Try.ntmps30
    go_upto_region 1 with (fail)
    obtain ⟨HB', k0, k1⟩ := boxes2 w (.pointer (some ⟨db, 0, none⟩)) (.int .i64 n) 26 3
    generalize ((w.alloc (.cells #[.pointer (some ⟨db, 0, none⟩)] 26)).alloc (.cells #[.int .i64 n] 3)) = wb at HB' k0 k1 ⊢
    generalize hbn : w.heap.size + 1 = bn at k1 ⊢
    have HB := Aside0.mk HB'
    clear HB'
    generalize hbd : w.heap.size = bd at k0 ⊢
    have LB : Aside0 (w.heap.size ≤ bd ∧ w.heap.size ≤ bn) := ⟨by omega⟩
    have KB := Aside0.mk (And.intro k0 k1)
    clear hbn hbd
    have c0 : wb.cell? ⟨bd, 0, none⟩ = some (.pointer (some ⟨db, 0, none⟩)) := blk_cell k0 0
    have c1 : wb.cell? ⟨bn, 0, none⟩ = some (.int .i64 n) := blk_cell k1 0
    have c2 : wb.cell? ⟨db, 2, none⟩ = some (.int .i64 (r : Int)) := pw_cell_below HB.out C3
    clear C3 k0 k1
    go_upto_region 3 with (go_at_call 39; refine (KM.out _ HB.out).mono ?_; rintro e w' ⟨rfl, rfl⟩)
    refine start_ (n := 12) (S := fun w' => w'.cell? ⟨bd, 0, none⟩ = some (.pointer (some ⟨db, 0, none⟩)) ∧ w'.cell? ⟨bn, 0, none⟩ = some (.int .i64 n) ∧ w'.cell? ⟨db, 2, none⟩ = some (.int .i64 (r : Int))) (ds := []) #[F,F,F,F,F,F,F,F,F,F,F,F] (by kernel_rfl) rfl rfl (⟨c0, c1, c2⟩) (fun hHeld => ?_)
    generalize hwd : wb.drew = wd at hHeld ⊢
    have BD : Aside0 (Below wb.heap.size wb wd) := ⟨by rw [← hwd]; exact below_drew (Below.refl _ _)⟩
    clear hwd
    refine take_ (i := 0) (N := some 10) (v := ?_) (a' := ?_) #[T,F,F,F,F,F,F,F,F,F,F,F] rfl rfl (by kernel_rfl) (fun _ _ _ h => h) (Or.inl ⟨by rfl, ?_⟩) hHeld ?_ ?_
    rotate_left
    · intro w' s0
      obtain ⟨s1, s2, s3⟩ := s0
      go_simp
      with_reducible rfl
    rotate_left
    · simp only [Act.put, sA, s0_, sS, i64_w, i32_w]
      rfl
    refine pure_ (i := 1) (N := some 11) (v := ?_) (a' := ?_) #[T,T,F,F,F,F,F,F,F,F,F,F] rfl rfl (by kernel_rfl) (fun _ _ _ h => h) (Or.inl ⟨by rfl, ?_⟩) ?_ ?_
    rotate_left
    · intro w'
      go_simp
      with_reducible rfl
    rotate_left
    · simp only [Act.put, sA, s0_, sS, i64_w, i32_w]
      rfl
    refine pure_ (i := 2) (N := some 12) (v := ?_) (a' := ?_) #[T,T,T,F,F,F,F,F,F,F,F,F] rfl rfl (by kernel_rfl) (fun _ _ _ h => h) (Or.inl ⟨by rfl, ?_⟩) ?_ ?_
    rotate_left
    · intro w'
      go_simp
      with_reducible rfl
    rotate_left
    · simp only [Act.put, sA, s0_, sS, i64_w, i32_w]
      rfl
    refine pure_ (i := 3) (N := some 13) (v := undef) (a' := ?_) #[T,T,T,T,F,F,F,F,F,F,F,F] rfl rfl (by kernel_rfl) (fun _ _ _ h => h) (Or.inr ⟨by rfl, rfl⟩) ?_ ?_
    rotate_left
    · simp only [Act.put, sA, s0_, sS, i64_w, i32_w]
      rfl
    refine pure_ (i := 4) (N := some 14) (v := undef) (a' := ?_) #[T,T,T,T,T,F,F,F,F,F,F,F] rfl rfl (by kernel_rfl) (fun _ _ _ h => h) (Or.inr ⟨by rfl, rfl⟩) ?_ ?_
    rotate_left
    · simp only [Act.put, sA, s0_, sS, i64_w, i32_w]
      rfl
    refine pure_ (i := 5) (N := some 15) (v := undef) (a' := ?_) #[T,T,T,T,T,T,F,F,F,F,F,F] rfl rfl (by kernel_rfl) (fun _ _ _ h => h) (Or.inr ⟨by rfl, rfl⟩) ?_ ?_
    rotate_left
    · simp only [Act.put, sA, s0_, sS, i64_w, i32_w]
      rfl
    refine pure_ (i := 6) (N := some 16) (v := undef) (a' := ?_) #[T,T,T,T,T,T,T,F,F,F,F,F] rfl rfl (by kernel_rfl) (fun _ _ _ h => h) (Or.inr ⟨by rfl, rfl⟩) ?_ ?_
    rotate_left
    · simp only [Act.put, sA, s0_, sS, i64_w, i32_w]
      rfl
    refine pure_ (i := 7) (N := some 17) (v := undef) (a' := ?_) #[T,T,T,T,T,T,T,T,F,F,F,F] rfl rfl (by kernel_rfl) (fun _ _ _ h => h) (Or.inr ⟨by rfl, rfl⟩) ?_ ?_
    rotate_left
    · simp only [Act.put, sA, s0_, sS, i64_w, i32_w]
      rfl
    refine pure_ (i := 8) (N := some 18) (v := undef) (a' := ?_) #[T,T,T,T,T,T,T,T,T,F,F,F] rfl rfl (by kernel_rfl) (fun _ _ _ h => h) (Or.inr ⟨by rfl, rfl⟩) ?_ ?_
    rotate_left
    · simp only [Act.put, sA, s0_, sS, i64_w, i32_w]
      rfl
    refine pure_ (i := 9) (N := some 19) (v := undef) (a' := ?_) #[T,T,T,T,T,T,T,T,T,T,F,F] rfl rfl (by kernel_rfl) (fun _ _ _ h => h) (Or.inr ⟨by rfl, rfl⟩) ?_ ?_
    rotate_left
    · simp only [Act.put, sA, s0_, sS, i64_w, i32_w]
      rfl
    refine pure_ (i := 10) (N := some 20) (v := ?_) (a' := ?_) #[T,T,T,T,T,T,T,T,T,T,T,F] rfl rfl (by kernel_rfl) (fun _ _ _ h => h) (Or.inl ⟨by rfl, ?_⟩) ?_ ?_
    rotate_left
    · intro w'
      go_simp
      with_reducible rfl
    rotate_left
    · simp only [Act.put, sA, s0_, sS, i64_w, i32_w]
      rfl
    refine pure_ (i := 11) (N := some 9) (v := ?_) (a' := ?_) #[T,T,T,T,T,T,T,T,T,T,T,T] rfl rfl (by kernel_rfl) (fun _ _ _ h => h) (Or.inl ⟨by rfl, ?_⟩) ?_ ?_
    rotate_left
    · intro w'
      go_simp
      with_reducible rfl
    rotate_left
    · simp only [Act.put, sA, s0_, sS, i64_w, i32_w]
      rfl
    refine done_ (by kernel_rfl) ?_
    go_wp2
    go_ret
    rw [HR.out]
    exact ⟨rfl, DevA.of_below H.out (HB.out.trans (BD.out.mono HB.out.size))⟩
  · by_cases h1 : (r : Int) ≤ n
    · have HR : Aside0 (d.erase n = (d, 30)) := ⟨by unfold Dv.erase; exact if_pos (.inr (by rw [hr]; exact h1))⟩
      have g0 : decide (n < 0) = false := decide_eq_false h0
      have g1 : decide ((r : Int) ≤ n) = true := decide_eq_true h1
      clear h ok h0 hr
      go_enter Try.func30, Try.ntmps30
      go_upto_region 1 with (fail)
      obtain ⟨HB', k0, k1⟩ := boxes2 w (.pointer (some ⟨db, 0, none⟩)) (.int .i64 n) 26 3
      generalize ((w.alloc (.cells #[.pointer (some ⟨db, 0, none⟩)] 26)).alloc (.cells #[.int .i64 n] 3)) = wb at HB' k0 k1 ⊢
      generalize hbn : w.heap.size + 1 = bn at k1 ⊢
      have HB := Aside0.mk HB'
      clear HB'
      generalize hbd : w.heap.size = bd at k0 ⊢
      have LB : Aside0 (w.heap.size ≤ bd ∧ w.heap.size ≤ bn) := ⟨by omega⟩
      have KB := Aside0.mk (And.intro k0 k1)
      clear hbn hbd
      have c0 : wb.cell? ⟨bd, 0, none⟩ = some (.pointer (some ⟨db, 0, none⟩)) := blk_cell k0 0
      have c1 : wb.cell? ⟨bn, 0, none⟩ = some (.int .i64 n) := blk_cell k1 0
      have c2 : wb.cell? ⟨db, 2, none⟩ = some (.int .i64 (r : Int)) := pw_cell_below HB.out C3
      clear C3 k0 k1
      go_upto_region 3 with (go_at_call 39; refine (KM.out _ HB.out).mono ?_; rintro e w' ⟨rfl, rfl⟩)
      refine start_ (n := 12) (S := fun w' => w'.cell? ⟨bd, 0, none⟩ = some (.pointer (some ⟨db, 0, none⟩)) ∧ w'.cell? ⟨bn, 0, none⟩ = some (.int .i64 n) ∧ w'.cell? ⟨db, 2, none⟩ = some (.int .i64 (r : Int))) (ds := []) #[F,F,F,F,F,F,F,F,F,F,F,F] (by kernel_rfl) rfl rfl (⟨c0, c1, c2⟩) (fun hHeld => ?_)
      generalize hwd : wb.drew = wd at hHeld ⊢
      have BD : Aside0 (Below wb.heap.size wb wd) := ⟨by rw [← hwd]; exact below_drew (Below.refl _ _)⟩
      clear hwd
      refine take_ (i := 0) (N := some 10) (v := ?_) (a' := ?_) #[T,F,F,F,F,F,F,F,F,F,F,F] rfl rfl (by kernel_rfl) (fun _ _ _ h => h) (Or.inl ⟨by rfl, ?_⟩) hHeld ?_ ?_
      rotate_left
      · intro w' s0
        obtain ⟨s1, s2, s3⟩ := s0
        go_simp
        with_reducible rfl
      rotate_left
      · simp only [Act.put, sA, s0_, sS, i64_w, i32_w]
        rfl
      refine pure_ (i := 1) (N := some 11) (v := ?_) (a' := ?_) #[T,T,F,F,F,F,F,F,F,F,F,F] rfl rfl (by kernel_rfl) (fun _ _ _ h => h) (Or.inl ⟨by rfl, ?_⟩) ?_ ?_
      rotate_left
      · intro w'
        go_simp
        with_reducible rfl
      rotate_left
      · simp only [Act.put, sA, s0_, sS, i64_w, i32_w]
        rfl
      refine pure_ (i := 2) (N := some 12) (v := ?_) (a' := ?_) #[T,T,T,F,F,F,F,F,F,F,F,F] rfl rfl (by kernel_rfl) (fun _ _ _ h => h) (Or.inl ⟨by rfl, ?_⟩) ?_ ?_
      rotate_left
      · intro w'
        go_simp
        with_reducible rfl
      rotate_left
      · simp only [Act.put, sA, s0_, sS, i64_w, i32_w]
        rfl
      refine take_ (i := 3) (N := some 13) (v := ?_) (a' := ?_) #[T,T,T,T,F,F,F,F,F,F,F,F] rfl rfl (by kernel_rfl) (fun _ _ _ h => h) (Or.inl ⟨by rfl, ?_⟩) hHeld ?_ ?_
      rotate_left
      · intro w' s0
        obtain ⟨s1, s2, s3⟩ := s0
        go_simp
        with_reducible rfl
      rotate_left
      · simp only [Act.put, sA, s0_, sS, i64_w, i32_w]
        rfl
      refine take_ (i := 4) (N := some 14) (v := ?_) (a' := ?_) #[T,T,T,T,T,F,F,F,F,F,F,F] rfl rfl (by kernel_rfl) (fun _ _ _ h => h) (Or.inl ⟨by rfl, ?_⟩) hHeld ?_ ?_
      rotate_left
      · intro w' s0
        obtain ⟨s1, s2, s3⟩ := s0
        go_simp
        with_reducible rfl
      rotate_left
      · simp only [Act.put, sA, s0_, sS, i64_w, i32_w]
        rfl
      refine pure_ (i := 5) (N := some 15) (v := ?_) (a' := ?_) #[T,T,T,T,T,T,F,F,F,F,F,F] rfl rfl (by kernel_rfl) (fun _ _ _ h => h) (Or.inl ⟨by rfl, ?_⟩) ?_ ?_
      rotate_left
      · intro w'
        go_simp
        with_reducible rfl
      rotate_left
      · simp only [Act.put, sA, s0_, sS, i64_w, i32_w]
        rfl
      refine pure_ (i := 6) (N := some 16) (v := ?_) (a' := ?_) #[T,T,T,T,T,T,T,F,F,F,F,F] rfl rfl (by kernel_rfl) (fun _ _ _ h => h) (Or.inl ⟨by rfl, ?_⟩) ?_ ?_
      rotate_left
      · intro w'
        go_simp
        with_reducible rfl
      rotate_left
      · simp only [Act.put, sA, s0_, sS, i64_w, i32_w]
        rfl
      refine pure_ (i := 7) (N := some 17) (v := ?_) (a' := ?_) #[T,T,T,T,T,T,T,T,F,F,F,F] rfl rfl (by kernel_rfl) (fun _ _ _ h => h) (Or.inl ⟨by rfl, ?_⟩) ?_ ?_
      rotate_left
      · intro w'
        go_simp
        with_reducible rfl
      rotate_left
      · simp only [Act.put, sA, s0_, sS, i64_w, i32_w]
        rfl
      refine take_ (i := 8) (N := some 18) (v := ?_) (a' := ?_) #[T,T,T,T,T,T,T,T,T,F,F,F] rfl rfl (by kernel_rfl) (fun _ _ _ h => h) (Or.inl ⟨by rfl, ?_⟩) hHeld ?_ ?_
      rotate_left
      · intro w' s0
        obtain ⟨s1, s2, s3⟩ := s0
        go_simp
        with_reducible rfl
      rotate_left
      · simp only [Act.put, sA, s0_, sS, i64_w, i32_w]
        rfl
      refine pure_ (i := 9) (N := some 19) (v := ?_) (a' := ?_) #[T,T,T,T,T,T,T,T,T,T,F,F] rfl rfl (by kernel_rfl) (fun _ _ _ h => h) (Or.inl ⟨by rfl, ?_⟩) ?_ ?_
      rotate_left
      · intro w'
        go_simp
        with_reducible rfl
      rotate_left
      · simp only [Act.put, sA, s0_, sS, i64_w, i32_w]
        rfl
      refine pure_ (i := 10) (N := some 20) (v := ?_) (a' := ?_) #[T,T,T,T,T,T,T,T,T,T,T,F] rfl rfl (by kernel_rfl) (fun _ _ _ h => h) (Or.inl ⟨by rfl, ?_⟩) ?_ ?_
      rotate_left
      · intro w'
        go_simp
        with_reducible rfl
      rotate_left
      · simp only [Act.put, sA, s0_, sS, i64_w, i32_w]
        rfl
      refine pure_ (i := 11) (N := some 9) (v := ?_) (a' := ?_) #[T,T,T,T,T,T,T,T,T,T,T,T] rfl rfl (by kernel_rfl) (fun _ _ _ h => h) (Or.inl ⟨by rfl, ?_⟩) ?_ ?_
      rotate_left
      · intro w'
        go_simp
        with_reducible rfl
      rotate_left
      · simp only [Act.put, sA, s0_, sS, i64_w, i32_w]
        rfl
      refine done_ (by kernel_rfl) ?_
      go_wp2
      go_ret
      rw [HR.out]
      exact ⟨rfl, DevA.of_below H.out (HB.out.trans (BD.out.mono HB.out.size))⟩
    · have HR : Aside0 (d.erase n = d.op 3 (Dv.wipe n.toNat)) := ⟨by unfold Dv.erase; exact if_neg (by rw [hr]; exact fun h => h.elim h0 h1)⟩
      have g0 : decide (n < 0) = false := decide_eq_false h0
      have g1 : decide ((r : Int) ≤ n) = false := decide_eq_false h1
      have HN : Aside0 (0 ≤ n ∧ n < (d.r : Int)) := ⟨by omega⟩
      clear h ok h0 hr
      go_enter Try.func30, Try.ntmps30
      go_upto_region 1 with (fail)
      obtain ⟨HB', k0, k1⟩ := boxes2 w (.pointer (some ⟨db, 0, none⟩)) (.int .i64 n) 26 3
      generalize ((w.alloc (.cells #[.pointer (some ⟨db, 0, none⟩)] 26)).alloc (.cells #[.int .i64 n] 3)) = wb at HB' k0 k1 ⊢
      generalize hbn : w.heap.size + 1 = bn at k1 ⊢
      have HB := Aside0.mk HB'
      clear HB'
      generalize hbd : w.heap.size = bd at k0 ⊢
      have LB : Aside0 (w.heap.size ≤ bd ∧ w.heap.size ≤ bn) := ⟨by omega⟩
      have KB := Aside0.mk (And.intro k0 k1)
      clear hbn hbd
      have c0 : wb.cell? ⟨bd, 0, none⟩ = some (.pointer (some ⟨db, 0, none⟩)) := blk_cell k0 0
      have c1 : wb.cell? ⟨bn, 0, none⟩ = some (.int .i64 n) := blk_cell k1 0
      have c2 : wb.cell? ⟨db, 2, none⟩ = some (.int .i64 (r : Int)) := pw_cell_below HB.out C3
      clear C3 k0 k1
      go_upto_region 3 with (go_at_call 39; refine (KM.out _ HB.out).mono ?_; rintro e w' ⟨rfl, rfl⟩)
      refine start_ (n := 12) (S := fun w' => w'.cell? ⟨bd, 0, none⟩ = some (.pointer (some ⟨db, 0, none⟩)) ∧ w'.cell? ⟨bn, 0, none⟩ = some (.int .i64 n) ∧ w'.cell? ⟨db, 2, none⟩ = some (.int .i64 (r : Int))) (ds := []) #[F,F,F,F,F,F,F,F,F,F,F,F] (by kernel_rfl) rfl rfl (⟨c0, c1, c2⟩) (fun hHeld => ?_)
      generalize hwd : wb.drew = wd at hHeld ⊢
      have BD : Aside0 (Below wb.heap.size wb wd) := ⟨by rw [← hwd]; exact below_drew (Below.refl _ _)⟩
      clear hwd
      refine take_ (i := 0) (N := some 10) (v := ?_) (a' := ?_) #[T,F,F,F,F,F,F,F,F,F,F,F] rfl rfl (by kernel_rfl) (fun _ _ _ h => h) (Or.inl ⟨by rfl, ?_⟩) hHeld ?_ ?_
      rotate_left
      · intro w' s0
        obtain ⟨s1, s2, s3⟩ := s0
        go_simp
        with_reducible rfl
      rotate_left
      · simp only [Act.put, sA, s0_, sS, i64_w, i32_w]
        rfl
      refine pure_ (i := 1) (N := some 11) (v := ?_) (a' := ?_) #[T,T,F,F,F,F,F,F,F,F,F,F] rfl rfl (by kernel_rfl) (fun _ _ _ h => h) (Or.inl ⟨by rfl, ?_⟩) ?_ ?_
      rotate_left
      · intro w'
        go_simp
        with_reducible rfl
      rotate_left
      · simp only [Act.put, sA, s0_, sS, i64_w, i32_w]
        rfl
      refine pure_ (i := 2) (N := some 12) (v := ?_) (a' := ?_) #[T,T,T,F,F,F,F,F,F,F,F,F] rfl rfl (by kernel_rfl) (fun _ _ _ h => h) (Or.inl ⟨by rfl, ?_⟩) ?_ ?_
      rotate_left
      · intro w'
        go_simp
        with_reducible rfl
      rotate_left
      · simp only [Act.put, sA, s0_, sS, i64_w, i32_w]
        rfl
      refine take_ (i := 3) (N := some 13) (v := ?_) (a' := ?_) #[T,T,T,T,F,F,F,F,F,F,F,F] rfl rfl (by kernel_rfl) (fun _ _ _ h => h) (Or.inl ⟨by rfl, ?_⟩) hHeld ?_ ?_
      rotate_left
      · intro w' s0
        obtain ⟨s1, s2, s3⟩ := s0
        go_simp
        with_reducible rfl
      rotate_left
      · simp only [Act.put, sA, s0_, sS, i64_w, i32_w]
        rfl
      refine take_ (i := 4) (N := some 14) (v := ?_) (a' := ?_) #[T,T,T,T,T,F,F,F,F,F,F,F] rfl rfl (by kernel_rfl) (fun _ _ _ h => h) (Or.inl ⟨by rfl, ?_⟩) hHeld ?_ ?_
      rotate_left
      · intro w' s0
        obtain ⟨s1, s2, s3⟩ := s0
        go_simp
        with_reducible rfl
      rotate_left
      · simp only [Act.put, sA, s0_, sS, i64_w, i32_w]
        rfl
      refine pure_ (i := 5) (N := some 15) (v := ?_) (a' := ?_) #[T,T,T,T,T,T,F,F,F,F,F,F] rfl rfl (by kernel_rfl) (fun _ _ _ h => h) (Or.inl ⟨by rfl, ?_⟩) ?_ ?_
      rotate_left
      · intro w'
        go_simp
        with_reducible rfl
      rotate_left
      · simp only [Act.put, sA, s0_, sS, i64_w, i32_w]
        rfl
      refine pure_ (i := 6) (N := some 16) (v := ?_) (a' := ?_) #[T,T,T,T,T,T,T,F,F,F,F,F] rfl rfl (by kernel_rfl) (fun _ _ _ h => h) (Or.inl ⟨by rfl, ?_⟩) ?_ ?_
      rotate_left
      · intro w'
        go_simp
        with_reducible rfl
      rotate_left
      · simp only [Act.put, sA, s0_, sS, i64_w, i32_w]
        rfl
      refine pure_ (i := 7) (N := some 17) (v := ?_) (a' := ?_) #[T,T,T,T,T,T,T,T,F,F,F,F] rfl rfl (by kernel_rfl) (fun _ _ _ h => h) (Or.inl ⟨by rfl, ?_⟩) ?_ ?_
      rotate_left
      · intro w'
        go_simp
        with_reducible rfl
      rotate_left
      · simp only [Act.put, sA, s0_, sS, i64_w, i32_w]
        rfl
      refine take_ (i := 8) (N := some 18) (v := ?_) (a' := ?_) #[T,T,T,T,T,T,T,T,T,F,F,F] rfl rfl (by kernel_rfl) (fun _ _ _ h => h) (Or.inl ⟨by rfl, ?_⟩) hHeld ?_ ?_
      rotate_left
      · intro w' s0
        obtain ⟨s1, s2, s3⟩ := s0
        go_simp
        with_reducible rfl
      rotate_left
      · simp only [Act.put, sA, s0_, sS, i64_w, i32_w]
        rfl
      refine pure_ (i := 9) (N := some 19) (v := ?_) (a' := ?_) #[T,T,T,T,T,T,T,T,T,T,F,F] rfl rfl (by kernel_rfl) (fun _ _ _ h => h) (Or.inl ⟨by rfl, ?_⟩) ?_ ?_
      rotate_left
      · intro w'
        go_simp
        with_reducible rfl
      rotate_left
      · simp only [Act.put, sA, s0_, sS, i64_w, i32_w]
        rfl
      refine pure_ (i := 10) (N := some 20) (v := ?_) (a' := ?_) #[T,T,T,T,T,T,T,T,T,T,T,F] rfl rfl (by kernel_rfl) (fun _ _ _ h => h) (Or.inl ⟨by rfl, ?_⟩) ?_ ?_
      rotate_left
      · intro w'
        go_simp
        with_reducible rfl
      rotate_left
      · simp only [Act.put, sA, s0_, sS, i64_w, i32_w]
        rfl
      refine pure_ (i := 11) (N := some 9) (v := ?_) (a' := ?_) #[T,T,T,T,T,T,T,T,T,T,T,T] rfl rfl (by kernel_rfl) (fun _ _ _ h => h) (Or.inl ⟨by rfl, ?_⟩) ?_ ?_
      rotate_left
      · intro w'
        go_simp
        with_reducible rfl
      rotate_left
      · simp only [Act.put, sA, s0_, sS, i64_w, i32_w]
        rfl
      refine done_ (by kernel_rfl) ?_
      have c0' := pw_cell_below BD.out c0
      clear c0 c1 c2
      have KO : Aside0 (Calls Try.prog 48 #[.pointer (some ⟨db, 0, none⟩), .int .i64 3, .func (.func 51) #[] #[.pointer (some ⟨bn, 0, none⟩), .pointer (some ⟨bd, 0, none⟩)]] wd (fun e w' => e = .returned (.int .i64 (d.op 3 (Dv.wipe n.toNat)).2) ∧ DevA B f w db (d.op 3 (Dv.wipe n.toNat)).1 w')) := ⟨by
        have B3 := HB.out.trans (BD.out.mono HB.out.size)
        obtain ⟨g1, g2, g3⟩ := H.out.boxed B3
        obtain ⟨l0, l1⟩ := LB.out
        obtain ⟨q0, q1⟩ := KB.out
        refine (op_51 g1 OK.out (Dv.wipe n.toNat) ⟨fun w4 h4 => HE.out _ wd bd bn HN.out.1 HN.out.2 g1 (blk_below q0 BD.out) (blk_below q1 BD.out) (g2 bd l0) (g2 bn l1) w4 h4⟩).mono ?_
        rintro e w5 ⟨he, h5⟩
        exact ⟨he, h5.under g3⟩⟩
      go_wp2_with (go_at_call 48; refine KO.out.mono ?_; rintro e w5 ⟨rfl, h5⟩; have D5 := Aside0.mk h5; clear h5)
      go_ret
      rw [HR.out]
      exact ⟨rfl, D5.out⟩
end
/-! ### What the wiping forgets is what the closure says -/
theorem wipe_del {s g q : Nat} (hs : 1 ≤ s) : (decide ((q : Int) < ((g * s : Nat) : Int)) || decide (((g * s + s : Nat) : Int) ≤ (q : Int))) = !decide (q / s = g) := by
  have h1 := Nat.le_div_iff_mul_le (x := g) (y := q) (show 0 < s by omega)
  have h2 := Nat.div_lt_iff_lt_mul (x := q) (y := g + 1) (show 0 < s by omega)
  rw [Nat.add_mul, Nat.one_mul] at h2
  obtain ⟨m, hm⟩ : ∃ m, g * s = m := ⟨_, rfl⟩
  obtain ⟨k, hk⟩ : ∃ k, q / s = k := ⟨_, rfl⟩
  rw [hm, hk] at h1 h2
  rw [hm, hk]
  clear hm hk
  by_cases e : k = g
  · have a1 : decide ((q : Int) < (m : Int)) = false := decide_eq_false (by omega)
    have a2 : decide (((m + s : Nat) : Int) ≤ (q : Int)) = false := decide_eq_false (by omega)
    rw [a1, a2, decide_eq_true e]; rfl
  · rw [decide_eq_false e]
    by_cases f : q < m
    · rw [decide_eq_true (show (q : Int) < (m : Int) by omega)]; rfl
    · rw [decide_eq_true (show ((m + s : Nat) : Int) ≤ (q : Int) by omega)]; simp
/-! ### slices.DeleteFunc over the closure -/
theorem run_tail35 {W : World} {g n c k : Nat} (hk : k < n) (hc : n ≤ c) : (Instr.slice 35 (.slice (some ⟨g, 0, none⟩) n c) (some (.int .i64 (k : Int))) none none).run Try.prog W = .ok (.slice (some ⟨g, k, none⟩) (n - k) (c - k)) W := by
  have hz : ∀ w, (Go.sizeOf 3).run Try.prog w = .ok 1 w := fun w => by kernel_rfl
  have ht' : Try.prog.underlying 35 = some (.slice (Try.prog.elem 35)) := by simp [Program.elem, Try.underlying35]
  have he : Try.prog.elem 35 = 3 := by simp [Program.elem, Try.underlying35]
  rw [run_slice_l W 35 _ _ _ ht' .i64 _ (by omega) (by omega), he, hz]
  have e2 : ¬ c = k := by omega
  by_cases h0 : k = 0
  · subst h0; simp [Result.andThen, sliced, Addr.add, e2]
  · simp [Result.andThen, sliced, Addr.add, h0, e2]
theorem run_head35 {W : World} {g n c k : Nat} (hk : k < n) (hc : n ≤ c) : (Instr.slice 35 (.slice (some ⟨g, 0, none⟩) n c) none (some (.int .i64 (k : Int))) none).run Try.prog W = .ok (.slice (some ⟨g, 0, none⟩) k c) W := by
  have hz : ∀ w, (Go.sizeOf 3).run Try.prog w = .ok 1 w := fun w => by kernel_rfl
  have ht' : Try.prog.underlying 35 = some (.slice (Try.prog.elem 35)) := by simp [Program.elem, Try.underlying35]
  have he : Try.prog.elem 35 = 3 := by simp [Program.elem, Try.underlying35]
  rw [run_slice_h W 35 _ _ _ ht' .i64 _ (by omega) (by omega), he, hz]
  have e2 : ¬ c = 0 := by omega
  simp [Result.andThen, sliced, Addr.add, e2]
theorem R_there {w : World} {B g n cap : Nat} {ok : Nat → Prop} {l : List Int} (h : (Kd.int .i64).R 3 w B ok (.slice (some ⟨g, 0, none⟩) n cap) l) (j : Nat) (hj : j < n) : (w.cell? ⟨g, j, none⟩).isSome = true ∧ w.frozen? ⟨g, j, none⟩ = false := by
  obtain ⟨h1, h2⟩ := Kd.R_celln (0 : Int) h (j : Int) (by omega) (by omega)
  rw [Int.toNat_natCast] at h1 h2
  exact ⟨by rw [h1]; rfl, h2⟩
theorem run_clear35 {W : World} {B g n cap k : Nat} {ok : Nat → Prop} {l : List Int} (h : (Kd.int .i64).R 3 W B ok (.slice (some ⟨g, 0, none⟩) n cap) l) (hk : k < n) (ty : TypeId) (c : Nat) :
    (Builtin.clear_ #[35] ty #[.slice (some ⟨g, k, none⟩) (n - k) c]).run Try.prog W = .ok (.tuple #[]) (W.setCells g k (List.replicate (n - k) (.int .i64 0))) :=
  Lib.run_clear_slice (P := Try.prog) W 35 3 ty (.int .i64 0) Try.underlying35 (fun w => by kernel_rfl) rfl rfl g k (n - k) c (by omega) (fun j hj => (R_there h (k + j) (by omega)).1) (fun j hj => (R_there h (k + j) (by omega)).2)
def Deleted (w : World) (B : Nat) (ok : Nat → Prop) (g : Option Nat) (l : List Int) (en : Ending) (w' : World) : Prop :=
  ∃ v, en = .returned v ∧ (Kd.int .i64).R 3 w' B ok v l ∧ Only B g w w' ∧ v.ownBlock = g
theorem filter_none (P : Int → Bool) (l : List Int) (m : Nat) (h : ∀ j, j < m → P (rd l (j : Int)) = false) (hm : m ≤ l.length) : (l.take m).filter (fun q => !P q) = l.take m := by
  rw [List.filter_eq_self]
  intro x hx
  obtain ⟨j, hj, e⟩ := List.mem_iff_getElem.1 hx
  rw [List.length_take] at hj
  have h1 := rd_get l j (by omega)
  rw [List.getElem_take] at e
  rw [List.getElem?_eq_getElem (by omega), e] at h1
  injection h1 with h1
  rw [h1, h j (by omega)]
  rfl
set_option maxHeartbeats 4000000 in
set_option maxRecDepth 100000 in
theorem delete_walk {w : World} {A : Option Addr} {c B : Nat} {ok : Nat → Prop} {l : List Int} (hR : (Kd.int .i64).R 3 w B ok (.slice A l.length c) l) (hB : B ≤ w.heap.size) (P : Int → Bool) {bd bn : Addr} (hl : l.length < 17592186044416)
    (K : Aside0 (∀ w', Only B (Value.slice A l.length c).ownBlock w w' → ∀ j, j < l.length → Calls Try.prog 53 #[.int .i64 (rd l (j : Int)), .pointer (some bd), .pointer (some bn)] w' (Told w' (.bool (P (rd l (j : Int))))))) :
    Calls Try.prog 69 #[.slice A l.length c, .func (.func 53) #[] #[.pointer (some bd), .pointer (some bn)]] w (Deleted w B ok (Value.slice A l.length c).ownBlock (l.filter fun q => !P q)) := by
  have HR := Aside0.mk hR
  have KI := Aside0.mk (index_walk (R_C hR).1 P (bd := bd) (bn := bn) (c := c) hl ⟨fun w' hb j hj => K.out w' (Only.of_below hb hB) j hj⟩)
  have HBB := Aside0.mk hB
  obtain ⟨n, hn⟩ : ∃ n, l.length = n := ⟨_, rfl⟩
  have HN := Aside0.mk hn
  rw [hn] at K HR KI hl
  rw [hn]
  clear hR hB hn
  obtain ⟨Q, hQ⟩ : ∃ Q : Ending → World → Prop, Deleted w B ok (Value.slice A n c).ownBlock (l.filter fun q => !P q) = Q := ⟨_, rfl⟩
  have HQ := Aside0.mk hQ
  rw [hQ]
  clear hQ
  go_enter Try.func69, Try.ntmps69
  go_upto_region 2 with (go_at_call 81; refine KI.out.mono ?_; rintro e w1 ⟨r, rfl, hb, hi⟩; have B1 := Aside0.mk hb; have I1 := Aside0.mk hi; clear hb hi)
  rcases I1.out with ⟨hr, hall⟩ | ⟨i0, hr, hi0, hP0, hall⟩
  · subst hr
    have HA := Aside0.mk hall
    clear hall
    go_wp2
    rw [← HQ.out]
    have e : (l.filter fun q => !P q) = l := by
      have := filter_none P l l.length HA.out (Nat.le_refl _)
      rw [List.take_length] at this
      exact this
    rw [e]
    exact ⟨_, rfl, Kd.R_below HR.out B1.out, Only.of_below B1.out HBB.out, rfl⟩
  · subst hr
    have hi0' : i0 < n := by rw [← HN.out]; exact hi0
    have HA := Aside0.mk (And.intro hi0 (And.intro hP0 hall))
    obtain ⟨g, hg⟩ : ∃ g, A = some ⟨g, 0, none⟩ := by
      obtain ⟨_, hn | ⟨g, cap', cur, e, _⟩⟩ := Kd.own_of_R HR.out
      · rw [hn.2] at hi0; exact absurd hi0 (by omega)
      · injection e with e1
        exact ⟨g, e1⟩
    subst hg
    have g1 : ((i0 : Int) == -1) = false := by rw [beq_eq_false_iff_ne]; omega
    have hi1 : i0 < 17592186044416 := by omega
    clear hi0 hP0 hall
    have S1 : Aside0 (∃ ys, (Kd.int .i64).R 3 w1 B ok (.slice (some ⟨g, 0, none⟩) n c) ys ∧ ys.take i0 = (l.take (i0 + 1)).filter (fun q => !P q) ∧ ys.drop (i0 + 1) = l.drop (i0 + 1) ∧ Only B (some g) w w1) := ⟨l, Kd.R_below HR.out B1.out, by
      rw [filter_step P l i0 _ (rd_get l i0 HA.out.1), filter_none P l i0 HA.out.2.2 (by have := HA.out.1; omega), HA.out.2.1]
      simp, rfl, Only.of_below B1.out HBB.out⟩
    go_wp2
    go_loopw [5, 6] (fun vi vj wr => ∃ i j : Nat, i < j ∧ j ≤ n ∧ vi = .int .i64 (i : Int) ∧ vj = .int .i64 (j : Int) ∧ Aside0 (∃ ys, (Kd.int .i64).R 3 wr B ok (.slice (some ⟨g, 0, none⟩) n c) ys ∧ ys.take i = (l.take j).filter (fun q => !P q) ∧ ys.drop j = l.drop j ∧ Only B (some g) w wr)) (fun _ vj _ => n - (intOf vj).toNat)
    case atStart => exact ⟨i0, i0 + 1, by omega, by omega, rfl, by congr 1 <;> simp, S1⟩
    case round =>
      obtain ⟨i, j, hij, hjn, rfl, rfl, S⟩ := hrel
      obtain ⟨ys, hR, h1, h2, hO⟩ := S.out
      have SO := Aside0.mk hO
      have SR := Aside0.mk hR
      have S12 := Aside0.mk (And.intro h1 h2)
      have hlen : ys.length = n := (R_C hR).2.1
      by_cases hlt : j < n
      · have HX : rd ys (j : Int) = rd l (j : Int) := by
          have e1 := rd_get ys j (by omega)
          have e2 := rd_get l j (by rw [HN.out]; exact hlt)
          have e3 : (ys.drop j)[0]? = (l.drop j)[0]? := by rw [h2]
          rw [List.getElem?_drop, List.getElem?_drop, Nat.add_zero, e1, e2] at e3
          injection e3
        obtain ⟨k0, k1⟩ := Kd.R_celln (0 : Int) hR (j : Int) (by omega) (by omega)
        rw [Int.toNat_natCast, show rdOf (0 : Int) ys (j : Int) = rd ys (j : Int) from rfl, HX] at k0
        obtain ⟨k2, k3⟩ := Kd.R_celln (0 : Int) hR (i : Int) (by omega) (by omega)
        rw [Int.toNat_natCast] at k2 k3
        have m0 : (0 : Int) ≤ (j : Int) := by omega
        have m1 : (j : Int) < (n : Int) := by omega
        have m2 : (0 : Int) ≤ (i : Int) := by omega
        have m3 : (i : Int) < (n : Int) := by omega
        have g2 : decide ((j : Int) < (n : Int)) = true := decide_eq_true m1
        have KX := Aside0.mk (K.out _ hO j hlt)
        have HXG := Aside0.mk (rd_get l j (by rw [HN.out]; exact hlt))
        have LT := Aside0.mk (And.intro hij hlt)
        have F5 := fun (W : World) (h : (Kd.int .i64).R 3 W B ok (.slice (some ⟨g, 0, none⟩) n c) ys) => (R_there h i (by omega)).2
        obtain ⟨x, hx⟩ : ∃ x, rd l (j : Int) = x := ⟨_, rfl⟩
        rw [hx] at KX HXG k0
        obtain ⟨b, hb⟩ : ∃ b, P x = b := ⟨_, rfl⟩
        have HBX := Aside0.mk hb
        rw [hb] at KX
        clear hR h1 h2 hO HX hx hb S
        cases b with
        | true =>
          go_wp2_with (go_at_call 53; refine KX.out.mono ?_; rintro e w2 ⟨rfl, hd⟩; have D2 := Aside0.mk hd.below; clear hd)
          go_roundw
          case rel => exact ⟨i, j + 1, by have := LT.out; omega, by have := LT.out; omega, rfl, by congr 1 <;> simp, ⟨ys, Kd.R_below SR.out D2.out, by
            rw [filter_step P l j x HXG.out, HBX.out, if_pos rfl, List.append_nil]; exact S12.out.1, by
            have := congrArg (List.drop 1) S12.out.2
            rw [List.drop_drop, List.drop_drop] at this
            exact this, SO.out.trans (Only.of_below D2.out (Nat.le_trans HBB.out SO.out.below.size))⟩⟩
          case measure =>
            have := LT.out
            simp [intOf]
            omega
        | false =>
          go_wp2_with (go_at_call 53; refine KX.out.mono ?_; rintro e w2 ⟨rfl, hd⟩; have D2 := Aside0.mk hd.below; have k4 := pw_cell_below hd.below k2; have k5 := F5 _ (Kd.R_below SR.out hd.below); clear hd)
          go_roundw
          case rel => exact ⟨i + 1, j + 1, by have := LT.out; omega, by have := LT.out; omega, by congr 1 <;> simp, by congr 1 <;> simp, ⟨ys.set i x, by
            have h := Kd.R_putn (Kd.R_below SR.out D2.out) (i : Int) x
            rw [Int.toNat_natCast] at h
            exact h, by
            rw [filter_step P l j x HXG.out, HBX.out, if_neg (by decide), ← S12.out.1, List.take_add_one, List.take_set_of_le (Nat.le_refl i), List.getElem?_set_self (by have := LT.out; rw [(R_C SR.out).2.1]; omega)]; rfl, by
            rw [List.drop_set_of_lt (by have := LT.out; omega)]
            have := congrArg (List.drop 1) S12.out.2
            rw [List.drop_drop, List.drop_drop] at this
            exact this, (SO.out.trans (Only.of_below D2.out (Nat.le_trans HBB.out SO.out.below.size))).trans (Only.set _ ((Kd.R_bound SR.out).1 g rfl).2.1 i _)⟩⟩
          case measure =>
            have := LT.out
            simp [intOf]
            omega
      · have hjn2 : j = n := by omega
        have g2 : decide ((j : Int) < (n : Int)) = false := decide_eq_false (by omega)
        have hin : i < n := by omega
        have hnc : n ≤ c := (R_C hR).2.2
        have hcut := fun W : World => run_tail35 (W := W) (g := g) hin hnc
        have hhead := fun W : World => run_head35 (W := W) (g := g) hin hnc
        have hclr := fun ty : TypeId => run_clear35 hR hin ty (c - i)
        have JN := Aside0.mk hjn2
        have HIN := Aside0.mk hin
        have HBG := Aside0.mk ((Kd.R_bound hR).1 g rfl).2.1
        clear hR h1 h2 hO S hjn2
        go_wp2
        rw [← HQ.out]
        have htk : ys.take i = l.filter (fun q => !P q) := by
          have := S12.out.1
          rw [JN.out, ← HN.out, List.take_length] at this
          exact this
        have hcl := R_cleared SR.out i (Nat.le_of_lt HIN.out) (List.replicate (n - i) (.int .i64 0))
        rw [htk] at hcl
        exact ⟨_, rfl, hcl, SO.out.trans (Only.sets HBG.out _ i _), rfl⟩
/-! ### What is unsynced is cut down -/
section
variable {B : Nat} {f : Owner} {w : World} {db : Nat} {d : Dv} {im imc : Nat} {vu vf vw : Value}
theorem DevG.cutUn (h : DevG B f w db d im imc vu vf vw) {w1 : World} {v1 : Value} {us : List Int}
    (hR : (Kd.int .i64).R 3 w1 B (fun k => f k = db) v1 us) (ho : Only B vu.ownBlock w w1) (hat : v1.ownBlock = vu.ownBlock) :
    DevG B f (w1.setCell ⟨db, 5, none⟩ v1) db { d with un := us } im imc v1 vf vw ∧ Mv B (· = db) f w f (w1.setCell ⟨db, 5, none⟩ v1) := by
  have hlt := blk_lt h.blk
  have hun := Kd.R_bound h.un
  have hndb : some db ≠ vu.ownBlock := Kd.R_ne h.un h.blk (by decide)
  have hb1 : w1.heap[db]? = _ := (ho.keep db hlt hndb).trans h.blk
  have himu : some im ≠ vu.ownBlock := fun e => (Kd.R_bound (h.imrow h.un (by decide))).1 im e.symm |>.1.2 rfl
  have m1 : Mv B (· = db) f w f w1 := ⟨ho.below, fun k hk hn => ho.keep k hk (fun e => hn ((hun.1 k e.symm).1)), fun _ _ => rfl⟩
  have row : ∀ {α : Type} {k : Kd α} {e : Nat} {v : Value} {xs : List α}, (∀ q, q ∈ e :: k.E → q ≠ 78) → k.R e w B (fun k => f k = db ∧ some k ≠ vu.ownBlock) v xs → k.R e (w1.setCell ⟨db, 5, none⟩ v1) B (fun k => f k = db) v xs := by
    intro α k e v xs h78 hs
    exact Kd.R_set (Kd.R_mono (Kd.R_step hs (fun q hq hl => ho.keep q hl hq.2)) (fun q hq => hq.1)) hb1 h78 5 v1
  have hfl : k85.R 85 w B (fun k => f k = db ∧ some k ≠ vu.ownBlock) vf d.fl := Kd.R_mono (R_apart h.fl h.un (by decide)) (fun k hk => hk)
  have hwr : (Kd.int .i64).R 3 w B (fun k => f k = db ∧ some k ≠ vu.ownBlock) vw d.wear := ⟨fun k hk => ⟨h.wr.1 k hk, fun e => h.ne k e.symm hk⟩, by
    obtain ⟨_, inner, ho, hr⟩ := h.wr
    exact ⟨inner, ho, hr.1, fun i p hi => hr.2 i p hi⟩⟩
  refine ⟨?_, Mv.set m1 ⟨db, 5, none⟩ v1 h.base (fun _ => h.own)⟩
  exact
    { blk := blk_put hb1 5 v1 rfl
      own := h.own
      base := h.base
      img := h.img.keep (by
        rw [Below.heap_setCell w1 ⟨db, 5, none⟩ v1 im h.imdb]
        exact ho.keep im h.img.lt himu)
      imo := h.imo
      imb := h.imb
      un := Kd.R_set hR hb1 (by decide) 5 v1
      fl := row (by decide) hfl
      wr := row (by decide) hwr
      ne := fun k hk e => h.ne k (hat.symm.trans hk) e }
end
section
variable {B : Nat} {f : Owner} {w : World} {db : Nat} {d : Dv}
/-- Is a page one of this region? -/
def delP (s g : Nat) (q : Int) : Bool := decide (q.toNat / s = g)
theorem wipe_un {d : Dv} (ok : d.Ok) (g : Nat) : (d.un.filter fun q => !delP d.s g q) = (Dv.wipe g d).un := by
  show _ = d.un.filter _
  apply List.filter_congr
  intro q hq
  obtain ⟨h1, h2⟩ := ok.unr q hq
  obtain ⟨m, rfl⟩ : ∃ m : Nat, q = (m : Int) := ⟨q.toNat, by omega⟩
  have h := wipe_del (s := d.s) (g := g) (q := m) ok.s1
  unfold delP
  rw [Int.toNat_natCast, ← h]
set_option maxHeartbeats 4000000 in
set_option maxRecDepth 100000 in
theorem forget_walk (h : DevX B f w db d) (ok : d.Ok) (hul : d.un.length < 17592186044416) {bd bn g : Nat} (q0 : w.heap[bd]? = some (.cells #[.pointer (some ⟨db, 0, none⟩)] 26 (0, 0))) (q1 : w.heap[bn]? = some (.cells #[.int .i64 (g : Int)] 3 (0, 0))) (n1 : f bn ≠ db) :
    Calls Try.prog 52 #[.pointer (some ⟨db, 0, none⟩), .func (.func 53) #[] #[.pointer (some ⟨bd, 0, none⟩), .pointer (some ⟨bn, 0, none⟩)]] w (fun e w' => e = .returned (.tuple #[]) ∧ DevA B f w db { d with un := (Dv.wipe g d).un } w') := by
  obtain ⟨im, imc, vu, vf, vw, hg⟩ := h
  have HG := Aside0.mk hg
  have hB : B ≤ w.heap.size := Nat.le_trans hg.base (Nat.le_of_lt (blk_lt hg.blk))
  obtain ⟨Au, cu, ev⟩ := Kd.R_slice hg.un
  subst ev
  have c5 : w.cell? ⟨db, 5, none⟩ = some (.slice Au d.un.length cu) := hg.at_ 5
  have KD := Aside0.mk (delete_walk hg.un hB (delP d.s g) (bd := ⟨bd, 0, none⟩) (bn := ⟨bn, 0, none⟩) hul ⟨fun w' ho j hj => by
    have hrow := Kd.R_bound hg.un
    have e1 : w'.heap[bd]? = _ := (ho.keep bd (blk_lt q0) (Kd.R_ne hg.un q0 (by decide))).trans q0
    have e2 : w'.heap[bn]? = _ := (ho.keep bn (blk_lt q1) (fun e => n1 ((hrow.1 bn e.symm).1))).trans q1
    have e3 : w'.heap[db]? = _ := (ho.keep db (blk_lt hg.blk) (Kd.R_ne hg.un hg.blk (by decide))).trans hg.blk
    have hmem : rd d.un (j : Int) ∈ d.un := by
      have := rd_get d.un j hj
      exact List.mem_of_getElem? this
    obtain ⟨h1, h2⟩ := ok.unr _ hmem
    obtain ⟨m, hm⟩ : ∃ m : Nat, rd d.un (j : Int) = (m : Int) := ⟨(rd d.un (j : Int)).toNat, by omega⟩
    have hp := pages_le ok
    rw [hm]
    rw [hm] at h2
    unfold delP
    rw [Int.toNat_natCast]
    exact del_walk (blk_cell e1 0) (blk_cell e3 1) (blk_cell e2 0) ok.s1 (by omega)⟩)
  rw [wipe_un ok] at KD
  obtain ⟨us, hus⟩ : ∃ us, (Dv.wipe g d).un = us := ⟨_, rfl⟩
  rw [hus] at KD
  rw [hus]
  have HBK := Aside0.mk hg.blk
  have HN := Aside0.mk (Kd.R_ne hg.un hg.blk (by decide))
  obtain ⟨nu, hnu⟩ : ∃ nu, d.un.length = nu := ⟨_, rfl⟩
  rw [hnu] at KD c5 HG HN
  clear hg ok hul q0 q1 n1 hus hnu hB HBK
  go_enter Try.func52, Try.ntmps52
  go_wp2_with (go_at_call 69; refine KD.out.mono ?_; rintro e w1 ⟨v, rfl, hR, ho, hat⟩; have b1 := (ho.keep db (blk_lt HG.out.blk) HN.out).trans HG.out.blk; have y5 := blk_cell b1 5; have f5 := blk_frozen b1 5; obtain ⟨A1, c1, ev⟩ := Kd.R_slice hR; have Z := Aside0.mk (HG.out.cutUn hR ho hat); subst ev; clear hR ho hat b1)
  go_end0
  exact ⟨rfl, f, ⟨_, _, _, _, _, Z.out.1⟩, Z.out.2⟩
end
/-! ### A region wiped: the closure of Erase -/
section
variable {B : Nat} {f : Owner} {w : World} {db : Nat} {d : Dv} {im imc : Nat} {vu vf vw : Value}
/-- A region's wear is written. -/
theorem DevG.setWr {gw nw cw : Nat} (h : DevG B f w db d im imc vu vf (.slice (some ⟨gw, 0, none⟩) nw cw)) (i : Nat) (x : Int) :
    DevG B f (w.setCell ⟨gw, i, none⟩ (.int .i64 x)) db { d with wear := d.wear.set i x } im imc vu vf (.slice (some ⟨gw, 0, none⟩) nw cw) ∧ Mv B (· = db) f w f (w.setCell ⟨gw, i, none⟩ (.int .i64 x)) := by
  have hwr := Kd.R_bound h.wr
  have hgw := hwr.1 gw rfl
  have hndb : db ≠ gw := fun e => (Kd.R_ne h.wr h.blk (by decide)) (by rw [e]; rfl)
  have himw : im ≠ gw := fun e => (Kd.R_bound (h.imrow h.wr (by decide))).1 gw rfl |>.1.2 e.symm
  have hs := fun (k : Nat) (hk : k ≠ gw) => Below.heap_setCell w ⟨gw, i, none⟩ (.int .i64 x) k hk
  have hun : (Kd.int .i64).R 3 w B (fun k => f k = db ∧ k ≠ gw) vu d.un := ⟨fun k hk => ⟨h.un.1 k hk, fun e => h.ne k hk (by rw [e]; rfl)⟩, by
    obtain ⟨_, inner, ho, hr⟩ := h.un
    exact ⟨inner, ho, hr.1, fun i p hi => hr.2 i p hi⟩⟩
  have hfl : k85.R 85 w B (fun k => f k = db ∧ k ≠ gw) vf d.fl := Kd.R_mono (R_apart h.fl h.wr (by decide)) (fun k hk => ⟨hk.1, fun e => hk.2 (by rw [e]; rfl)⟩)
  have hput := Kd.R_putn h.wr (i : Int) x
  rw [Int.toNat_natCast] at hput
  exact ⟨{ blk := (hs db hndb).trans h.blk
           own := h.own
           base := h.base
           img := h.img.keep (hs im himw)
           imo := h.imo
           imb := h.imb
           un := Kd.R_mono (Kd.R_far hun (p := ⟨gw, i, none⟩) (fun k hk => hk.2) _) (fun k hk => hk.1)
           fl := Kd.R_mono (Kd.R_far hfl (p := ⟨gw, i, none⟩) (fun k hk => hk.2) _) (fun k hk => hk.1)
           wr := hput
           ne := h.ne }, Mv.set (Mv.refl B (· = db) f w) ⟨gw, i, none⟩ _ hgw.2.1 (fun _ => hgw.1)⟩
end
section
variable {B : Nat} {f : Owner} {w : World} {db : Nat} {d : Dv}
theorem wAdd (a b s : Nat) (h : a + s ≤ 65536) (hb : b < s) : wrap64 ((a : Int) + (b : Int)) = ((a + b : Nat) : Int) := by unfold wrap64; omega
/-- The first pages of a region wiped. -/
def Dv.swept (d : Dv) (g i : Nat) : Dv := { d with b := putAt d.b (g * d.s * d.p) (List.replicate (i * d.p) 255) }
theorem swept_fits {d : Dv} (ok : d.Ok) {g i : Nat} (hg : g < d.r) (hi : i ≤ d.s) : g * d.s * d.p + i * d.p ≤ d.b.length :=
  Nat.le_trans (Nat.add_le_add_left (Nat.mul_le_mul_right _ hi) _) (region_fits ok hg)
theorem swept_ok {d : Dv} (ok : d.Ok) {g i : Nat} (hg : g < d.r) (hi : i ≤ d.s) : (d.swept g i).Ok := by
  have hf := swept_fits ok hg hi
  refine ⟨ok.p1, ok.p2, ok.s1, ok.s2, ok.r1, ok.r2, ok.sz, ?_, ?_, ok.wl, ok.unr, ok.flk, ok.fll⟩
  · exact (putAt_length d.b _ _ (by rw [List.length_replicate]; exact hf)).trans ok.len
  · intro y hy
    rcases put_mem hy with h | h
    · exact ok.byte y h
    · rw [List.eq_of_mem_replicate h]; decide
theorem swept_zero (d : Dv) (g : Nat) : d.swept g 0 = d := by
  unfold Dv.swept
  rw [Nat.zero_mul, show List.replicate 0 (255 : Int) = [] from rfl, put_nil]
theorem swept_next {d : Dv} (ok : d.Ok) {g i : Nat} (hg : g < d.r) (hi : i < d.s) : ({ d.swept g i with b := putAt (d.swept g i).b ((g * d.s + i) * d.p) (List.replicate d.p 255) } : Dv) = d.swept g (i + 1) := by
  have hf := swept_fits ok hg (show i + 1 ≤ d.s from hi)
  have h := wipe_step d.b g d.s d.p i (by
    have e : (g * d.s + i + 1) * d.p = g * d.s * d.p + (i + 1) * d.p := by rw [Nat.add_assoc, Nat.add_mul]
    rw [e]; exact hf)
  unfold Dv.swept
  rw [h]
theorem wipe_of {d : Dv} (g : Nat) : ({ d.swept g d.s with un := (Dv.wipe g (d.swept g d.s)).un, wear := d.wear.set g (wrap64 (d.wear.getD g 0 + 1)) } : Dv) = Dv.wipe g d := rfl
set_option maxHeartbeats 4000000 in
set_option maxRecDepth 100000 in
theorem wipe_do {bd bn g : Nat} (q0 : w.heap[bd]? = some (.cells #[.pointer (some ⟨db, 0, none⟩)] 26 (0, 0))) (q1 : w.heap[bn]? = some (.cells #[.int .i64 (g : Int)] 3 (0, 0))) (n0 : f bd ≠ db) (n1 : f bn ≠ db) (ok : d.Ok) (hg : g < d.r) (hul : d.un.length < 17592186044416) {w1 : World} (h : DevA B f w db d w1) :
    Calls Try.prog 51 #[.pointer (some ⟨bn, 0, none⟩), .pointer (some ⟨bd, 0, none⟩)] w1 (fun e w2 => e = .returned (.tuple #[]) ∧ DevA B f w db (Dv.wipe g d) w2) := by
  have OK := Aside0.mk ok
  have HG := Aside0.mk (And.intro hg hul)
  have BX := Aside0.mk (fun (d2 : Dv) (w2 : World) (h2 : DevA B f w db d2 w2) => And.intro (h2.blk q0 n0) (h2.blk q1 n1))
  have HL := Aside0.mk (And.intro (blk_lt q1) n1)
  have S1 := Aside0.mk h
  have c0 : w1.cell? ⟨bd, 0, none⟩ = some (.pointer (some ⟨db, 0, none⟩)) := blk_cell (h.blk q0 n0) 0
  have c2 : w1.cell? ⟨bn, 0, none⟩ = some (.int .i64 (g : Int)) := blk_cell (h.blk q1 n1) 0
  obtain ⟨s, hs⟩ : ∃ s, d.s = s := ⟨_, rfl⟩
  obtain ⟨p, hp⟩ : ∃ p, d.p = p := ⟨_, rfl⟩
  have HSP := Aside0.mk (And.intro hs hp)
  have CW := Aside0.mk (fun (i : Nat) (w2 : World) (h2 : DevA B f w db (d.swept g i) w2) => (show w2.cell? ⟨bd, 0, none⟩ = some (.pointer (some ⟨db, 0, none⟩)) ∧ w2.cell? ⟨bn, 0, none⟩ = some (.int .i64 (g : Int)) ∧ w2.cell? ⟨db, 0, none⟩ = some (.int .i64 (p : Int)) ∧ w2.cell? ⟨db, 1, none⟩ = some (.int .i64 (s : Int)) from by
    refine ⟨blk_cell (h2.blk q0 n0) 0, blk_cell (h2.blk q1 n1) 0, ?_, ?_⟩
    · obtain ⟨_, ⟨_, _, _, _, _, hg2⟩, _⟩ := h2; rw [← hp]; exact hg2.at_ 0
    · obtain ⟨_, ⟨_, _, _, _, _, hg2⟩, _⟩ := h2; rw [← hs]; exact hg2.at_ 1))
  have c1 : w1.cell? ⟨db, 1, none⟩ = some (.int .i64 (s : Int)) := by
    obtain ⟨_, ⟨_, _, _, _, _, hg2⟩, _⟩ := h; rw [← hs]; exact hg2.at_ 1
  obtain ⟨ft, hft⟩ : ∃ ft, g * s = ft := ⟨_, rfl⟩
  have HFT := Aside0.mk hft
  have hpl := pages_le ok
  have hfb : ft + s ≤ 65536 := by
    have e : d.pages = d.s * d.r := rfl
    have h2 : (g + 1) * s ≤ d.s * d.r := by rw [← hs, Nat.mul_comm]; exact Nat.mul_le_mul_left _ hg
    rw [Nat.add_mul, Nat.one_mul, hft] at h2
    omega
  have eq0 : wrap64 ((g : Int) * (s : Int)) = (ft : Int) := by
    have e : (g : Int) * (s : Int) = (ft : Int) := by rw [← hft]; simp
    rw [e]; exact wN (by omega)
  have SW : Aside0 (DevA B f w db (d.swept g 0) w1) := ⟨by rw [swept_zero]; exact h⟩
  have KP : Aside0 (∀ (i : Nat) (wr w2 : World), i < s → DevA B f w db (d.swept g i) wr → Below wr.heap.size wr w2 → Calls Try.prog 46 #[.pointer (some ⟨db, 0, none⟩), .int .i64 (wrap64 ((ft : Int) + (i : Int)))] w2 (fun en w3 => ∃ im off cp, en = .returned (.slice (some ⟨im, off, none⟩) p cp) ∧ Below w2.heap.size w2 w3 ∧ ∀ (w4 : World) (gb : Nat), Below w3.heap.size w3 w4 → Im w4 gb p (List.replicate p 255) → ∀ ty, ∃ w5, (Builtin.copy_ #[24, 24] ty #[.slice (some ⟨im, off, none⟩) p cp, .slice (some ⟨gb, 0, none⟩) p p]).run Try.prog w4 = .ok (goInt p) w5 ∧ DevA B f w db (d.swept g (i + 1)) w5)) := ⟨by
    intro i wr w2 hi hA hb
    rw [show wrap64 ((ft : Int) + (i : Int)) = ((ft + i : Nat) : Int) from wAdd ft i s hfb hi]
    have oki := swept_ok OK.out HG.out.1 (show i ≤ d.s by rw [hs]; omega)
    obtain ⟨f1, ⟨im, cp, vu, vf, vw, hg1⟩, m⟩ := hA
    have hg2 := hg1.below hb
    have hn : ft + i < (d.swept g i).pages := by
      rw [← hft, ← hs]
      exact page_in (d := d) HG.out.1 (by omega)
    refine (page_walk hg2 oki (ft + i) hn).mono ?_
    rintro e w3 ⟨he, hd⟩
    have hb3 := hb.trans (hd.below.mono hb.size)
    refine ⟨im, (ft + i) * p, cp - (ft + i) * p, by rw [he]; show Ending.returned (.slice (some ⟨im, (ft + i) * d.p, none⟩) d.p (cp - (ft + i) * d.p)) = _; rw [hp], hd.below, fun w4 gb hb4 hI ty => ?_⟩
    have hb34 := hb3.trans (hb4.mono hb3.size)
    have hg4 := hg1.below hb34
    have A4 : DevA B f w db (d.swept g i) w4 := DevA.box ⟨f1, ⟨im, cp, vu, vf, vw, hg1⟩, m⟩ hb34
    have m4 : Mv B (· = db) f w f1 w4 := m.trans (Mv.of_below hb34 (Nat.le_trans hg1.base (Nat.le_of_lt (blk_lt hg1.blk))) (fun _ _ => rfl))
    have hC : (Kd.int .u8).C w4 (some ⟨gb, 0, none⟩) (d.swept g i).p (List.replicate p 255) := by
      have hc := hI.cut 0 p (by rw [List.length_replicate]; omega) (by rw [List.length_replicate, ← hp]; have := OK.out.p2; omega)
      show (Kd.int .u8).C w4 (some ⟨gb, 0, none⟩) d.p _
      rw [hp]
      have e : cutOf (List.replicate p (255 : Int)) 0 p = List.replicate p 255 := by unfold cutOf; rw [List.drop_zero, List.take_of_length_le (by rw [List.length_replicate]; omega)]
      rw [e] at hc
      exact hc
    obtain ⟨w5, hr, h5, _⟩ := DevA.copied A4 hg4 m4 oki hn (c := p) (x := List.replicate p 255) (by rw [List.length_replicate]; exact hp.symm) hC ty
    refine ⟨w5, ?_, ?_⟩
    · have hr' : (Builtin.copy_ #[24, 24] ty #[.slice (some ⟨im, (ft + i) * d.p, none⟩) d.p (cp - (ft + i) * d.p), .slice (some ⟨gb, 0, none⟩) d.p p]).run Try.prog w4 = .ok (goInt d.p) w5 := hr
      rw [hp] at hr'
      exact hr'
    · have e := swept_next OK.out HG.out.1 (show i < d.s by omega)
      rw [hs, hft, hp] at e
      have h5' : DevA B f w db { d.swept g i with b := putAt (d.swept g i).b ((ft + i) * d.p) (List.replicate p 255) } w5 := h5
      rw [hp, e] at h5'
      exact h5'⟩
  have KB := Aside0.mk (fun (w' : World) => blank_walk (w := w') (n := p) (by rw [← hp]; have := ok.p1; omega) (by rw [← hp]; have := ok.p2; omega))
  have hs64 : s ≤ 64 := by rw [← hs]; exact ok.s2
  clear h q0 q1 n0 n1 ok hg hul hft hpl hs hp
  go_enter Try.func51, Try.ntmps51
  go_upto_region 0 with (fail)
  refine start_ (n := 8) (S := fun w' => w'.cell? ⟨bd, 0, none⟩ = some (.pointer (some ⟨db, 0, none⟩)) ∧ w'.cell? ⟨bn, 0, none⟩ = some (.int .i64 (g : Int)) ∧ w'.cell? ⟨db, 1, none⟩ = some (.int .i64 (s : Int))) (ds := []) #[F,F,F,F,F,F,F,F] (by kernel_rfl) rfl rfl (⟨c0, c2, c1⟩) (fun hHeld => ?_)
  generalize hwd : w1.drew = wd at hHeld ⊢
  have BD : Aside0 (Below w1.heap.size w1 wd) := ⟨by rw [← hwd]; exact below_drew (Below.refl _ _)⟩
  clear hwd
  refine take_ (i := 0) (N := some 4) (v := ?_) (a' := ?_) #[T,F,F,F,F,F,F,F] rfl rfl (by kernel_rfl) (fun _ _ _ h => h) (Or.inl ⟨by rfl, ?_⟩) hHeld ?_ ?_
  rotate_left
  · intro w' s0
    obtain ⟨s1, s2, s3⟩ := s0
    go_simp
    with_reducible rfl
  rotate_left
  · simp only [Act.put, sA, s0_, sS, i64_w, i32_w]
    rfl
  refine take_ (i := 1) (N := some 5) (v := ?_) (a' := ?_) #[T,T,F,F,F,F,F,F] rfl rfl (by kernel_rfl) (fun _ _ _ h => h) (Or.inl ⟨by rfl, ?_⟩) hHeld ?_ ?_
  rotate_left
  · intro w' s0
    obtain ⟨s1, s2, s3⟩ := s0
    go_simp
    with_reducible rfl
  rotate_left
  · simp only [Act.put, sA, s0_, sS, i64_w, i32_w]
    rfl
  refine pure_ (i := 2) (N := some 6) (v := ?_) (a' := ?_) #[T,T,T,F,F,F,F,F] rfl rfl (by kernel_rfl) (fun _ _ _ h => h) (Or.inl ⟨by rfl, ?_⟩) ?_ ?_
  rotate_left
  · intro w'
    go_simp
    with_reducible rfl
  rotate_left
  · simp only [Act.put, sA, s0_, sS, i64_w, i32_w]
    rfl
  refine pure_ (i := 3) (N := some 7) (v := ?_) (a' := ?_) #[T,T,T,T,F,F,F,F] rfl rfl (by kernel_rfl) (fun _ _ _ h => h) (Or.inl ⟨by rfl, ?_⟩) ?_ ?_
  rotate_left
  · intro w'
    go_simp
    with_reducible rfl
  rotate_left
  · simp only [Act.put, sA, s0_, sS, i64_w, i32_w]
    rfl
  refine pure_ (i := 4) (N := some 8) (v := ?_) (a' := ?_) #[T,T,T,T,T,F,F,F] rfl rfl (by kernel_rfl) (fun _ _ _ h => h) (Or.inl ⟨by rfl, ?_⟩) ?_ ?_
  rotate_left
  · intro w'
    go_simp
    with_reducible rfl
  rotate_left
  · simp only [Act.put, sA, s0_, sS, i64_w, i32_w]
    rfl
  refine take_ (i := 5) (N := some 9) (v := ?_) (a' := ?_) #[T,T,T,T,T,T,F,F] rfl rfl (by kernel_rfl) (fun _ _ _ h => h) (Or.inl ⟨by rfl, ?_⟩) hHeld ?_ ?_
  rotate_left
  · intro w' s0
    obtain ⟨s1, s2, s3⟩ := s0
    go_simp
    with_reducible rfl
  rotate_left
  · simp only [Act.put, sA, s0_, sS, i64_w, i32_w]
    rfl
  refine pure_ (i := 6) (N := some 10) (v := ?_) (a' := ?_) #[T,T,T,T,T,T,T,F] rfl rfl (by kernel_rfl) (fun _ _ _ h => h) (Or.inl ⟨by rfl, ?_⟩) ?_ ?_
  rotate_left
  · intro w'
    go_simp
    with_reducible rfl
  rotate_left
  · simp only [Act.put, sA, s0_, sS, i64_w, i32_w]
    rfl
  refine pure_ (i := 7) (N := some 2) (v := ?_) (a' := ?_) #[T,T,T,T,T,T,T,T] rfl rfl (by kernel_rfl) (fun _ _ _ h => h) (Or.inl ⟨by rfl, ?_⟩) ?_ ?_
  rotate_left
  · intro w'
    go_simp
    with_reducible rfl
  rotate_left
  · simp only [Act.put, sA, s0_, sS, i64_w, i32_w]
    rfl
  refine done_ (by kernel_rfl) ?_
  go_upto_region 1 with (fail)
  clear c0 c1 c2
  obtain ⟨c0, c2, c1⟩ := hHeld
  have SW2 := Aside0.mk (SW.out.box BD.out)
  clear SW BD eq0
  go_wp2
  go_loopw [16] (fun v wr => ∃ i : Nat, i ≤ s ∧ v = .int .i64 (i : Int) ∧ Aside0 (DevA B f w db (d.swept g i) wr)) (fun v _ => s - (intOf v).toNat)
  case atStart => exact ⟨0, Nat.zero_le _, rfl, SW2⟩
  case round =>
    obtain ⟨i, hi, rfl, S⟩ := hrel
    obtain ⟨c0, c2, c3, c1⟩ := CW.out i _ S.out
    by_cases hlt : i < s
    · have m0 : (0 : Int) ≤ (i : Int) := by omega
      have g2 : decide ((i : Int) < (s : Int)) = true := decide_eq_true (by omega)
      go_upto_region 4 with (fail)
      refine start_ (n := 12) (S := fun w' => w'.cell? ⟨bd, 0, none⟩ = some (.pointer (some ⟨db, 0, none⟩)) ∧ w'.cell? ⟨db, 0, none⟩ = some (.int .i64 (p : Int))) (ds := [11]) #[F,F,F,F,F,F,F,F,F,F,F,F] (by kernel_rfl) rfl rfl (⟨c0, c3⟩) (fun hHeld => ?_)
      generalize hwd : wr.drew = wd at hHeld ⊢
      have BD : Aside0 (Below wr.heap.size wr wd) := ⟨by rw [← hwd]; exact below_drew (Below.refl _ _)⟩
      clear hwd c0 c3
      obtain ⟨c0, c3⟩ := hHeld
      have hHeld : wd.cell? ⟨bd, 0, none⟩ = some (.pointer (some ⟨db, 0, none⟩)) ∧ wd.cell? ⟨db, 0, none⟩ = some (.int .i64 (p : Int)) := ⟨c0, c3⟩
      refine take_ (i := 0) (N := some 19) (v := ?_) (a' := ?_) #[T,F,F,F,F,F,F,F,F,F,F,F] rfl rfl (by kernel_rfl) (fun _ _ _ h => h) (Or.inl ⟨by rfl, ?_⟩) hHeld ?_ ?_
      rotate_left
      · intro w' s0
        obtain ⟨s1, s2⟩ := s0
        go_simp
        with_reducible rfl
      rotate_left
      · simp only [Act.put, sA, s0_, sS, i64_w, i32_w]
        rfl
      refine pure_ (i := 1) (N := some 20) (v := ?_) (a' := ?_) #[T,T,F,F,F,F,F,F,F,F,F,F] rfl rfl (by kernel_rfl) (fun _ _ _ h => h) (Or.inl ⟨by rfl, ?_⟩) ?_ ?_
      rotate_left
      · intro w'
        go_simp
        with_reducible rfl
      rotate_left
      · simp only [Act.put, sA, s0_, sS, i64_w, i32_w]
        rfl
      refine pure_ (i := 2) (N := some 21) (v := ?_) (a' := ?_) #[T,T,T,F,F,F,F,F,F,F,F,F] rfl rfl (by kernel_rfl) (fun _ _ _ h => h) (Or.inl ⟨by rfl, ?_⟩) ?_ ?_
      rotate_left
      · intro w'
        go_simp
        with_reducible rfl
      rotate_left
      · simp only [Act.put, sA, s0_, sS, i64_w, i32_w]
        rfl
      refine pure_ (i := 3) (N := some 22) (v := ?_) (a' := ?_) #[T,T,T,T,F,F,F,F,F,F,F,F] rfl rfl (by kernel_rfl) (fun _ _ _ h => h) (Or.inl ⟨by rfl, ?_⟩) ?_ ?_
      rotate_left
      · intro w'
        go_simp
        with_reducible rfl
      rotate_left
      · simp only [Act.put, sA, s0_, sS, i64_w, i32_w]
        rfl
      refine take_ (i := 5) (N := some 24) (v := ?_) (a' := ?_) #[T,T,T,T,F,T,F,F,F,F,F,F] rfl rfl (by kernel_rfl) (fun _ _ _ h => h) (Or.inl ⟨by rfl, ?_⟩) hHeld ?_ ?_
      rotate_left
      · intro w' s0
        obtain ⟨s1, s2⟩ := s0
        go_simp
        with_reducible rfl
      rotate_left
      · simp only [Act.put, sA, s0_, sS, i64_w, i32_w]
        rfl
      refine pure_ (i := 6) (N := some 25) (v := ?_) (a' := ?_) #[T,T,T,T,F,T,T,F,F,F,F,F] rfl rfl (by kernel_rfl) (fun _ _ _ h => h) (Or.inl ⟨by rfl, ?_⟩) ?_ ?_
      rotate_left
      · intro w'
        go_simp
        with_reducible rfl
      rotate_left
      · simp only [Act.put, sA, s0_, sS, i64_w, i32_w]
        rfl
      refine pure_ (i := 7) (N := some 26) (v := ?_) (a' := ?_) #[T,T,T,T,F,T,T,T,F,F,F,F] rfl rfl (by kernel_rfl) (fun _ _ _ h => h) (Or.inl ⟨by rfl, ?_⟩) ?_ ?_
      rotate_left
      · intro w'
        go_simp
        with_reducible rfl
      rotate_left
      · simp only [Act.put, sA, s0_, sS, i64_w, i32_w]
        rfl
      refine pure_ (i := 8) (N := some 27) (v := ?_) (a' := ?_) #[T,T,T,T,F,T,T,T,T,F,F,F] rfl rfl (by kernel_rfl) (fun _ _ _ h => h) (Or.inl ⟨by rfl, ?_⟩) ?_ ?_
      rotate_left
      · intro w'
        go_simp
        with_reducible rfl
      rotate_left
      · simp only [Act.put, sA, s0_, sS, i64_w, i32_w]
        rfl
      refine take_ (i := 9) (N := some 28) (v := ?_) (a' := ?_) #[T,T,T,T,F,T,T,T,T,T,F,F] rfl rfl (by kernel_rfl) (fun _ _ _ h => h) (Or.inl ⟨by rfl, ?_⟩) hHeld ?_ ?_
      rotate_left
      · intro w' s0
        obtain ⟨s1, s2⟩ := s0
        go_simp
        with_reducible rfl
      rotate_left
      · simp only [Act.put, sA, s0_, sS, i64_w, i32_w]
        rfl
      refine one_ (i := 4) (N := some 23) #[T,T,T,T,T,T,T,T,T,T,F,F] rfl rfl (by kernel_rfl) (by decide) (fun K hK => ?_)
      refine goes_ Try.func46 (by kernel_rfl) rfl #[.pointer (some ⟨db, 0, none⟩), .int .i64 (wrap64 ((ft : Int) + (i : Int)))] (by rfl) rfl rfl (by (try simp only [List.map_toArray, List.map_cons, List.map_nil]); first | done | rfl) ?_
      with_reducible refine (KP.out i wr wd hlt S.out BD.out).mono ?_
      rintro e w2 ⟨im, off, cp, rfl, hq, hrest⟩
      refine ⟨_, rfl, ?_⟩
      have HRS := Aside0.mk hrest
      clear hrest
      refine hK.out _ _ (by exact ⟨pw_cell_below hq c0, pw_cell_below hq c3⟩) (fun hHeld => ?_)
      clear hK K
      refine norm_ (a' := ?_) ?_ ?_
      rotate_left
      · show Act.put _ (some 23) _ = _
        simp only [Act.put, sA, s0_, sS, i64_w, i32_w]
        rfl
      refine one_ (i := 10) (N := some 29) #[T,T,T,T,T,T,T,T,T,T,T,F] rfl rfl (by kernel_rfl) (by decide) (fun K hK => ?_)
      refine goes_ Try.func37 (by kernel_rfl) rfl #[.int .i64 (p : Int)] (by rfl) rfl rfl (by (try simp only [List.map_toArray, List.map_cons, List.map_nil]); first | done | rfl) ?_
      with_reducible refine (KB.out w2).mono ?_
      rintro e w3 ⟨gb, rfl, hI, hgb, hb3⟩
      refine ⟨_, rfl, ?_⟩
      obtain ⟨w5, hrun, hD5⟩ := HRS.out w3 gb hb3 hI 3
      have D5 := Aside0.mk hD5
      clear hD5 hI
      refine hK.out _ _ (by exact ⟨pw_cell_below (hq.trans (hb3.mono hq.size)) c0, pw_cell_below (hq.trans (hb3.mono hq.size)) c3⟩) (fun hHeld => ?_)
      clear hK K
      refine norm_ (a' := ?_) ?_ ?_
      rotate_left
      · show Act.put _ (some 29) _ = _
        simp only [Act.put, sA, s0_, sS, i64_w, i32_w]
        rfl
      refine last_ (i := 11) (N := some 30) #[T,T,T,T,T,T,T,T,T,T,T,T] rfl rfl (by kernel_rfl) (by decide) (fun K hK => ?_)
      refine value_ (w1 := w5) (v := .int .i64 (p : Int)) (by rfl) rfl (by simp [execOp, resolve, invoke, builtin, Act.eval, hrun, Result.andThen, goInt]) ?_
      refine hK.out _ _ ?_
      clear hK K
      refine norm_ (a' := ?_) ?_ ?_
      rotate_left
      · show Act.put _ (some 30) _ = _
        simp only [Act.put, sA, s0_, sS, i64_w, i32_w]
        rfl
      refine done_ (by kernel_rfl) ?_
      clear hrun hq hgb hb3 HRS
      have LT := Aside0.mk hlt
      go_wp2
      go_roundw
      case rel => exact ⟨i + 1, LT.out, by congr 1 <;> simp, D5⟩
      case measure =>
        have := LT.out
        simp [intOf]
        omega
    · have hi2 : i = s := by omega
      have IS := Aside0.mk hi2
      have g2 : decide ((i : Int) < (s : Int)) = false := decide_eq_false (by omega)
      have SS : Aside0 (DevA B f w db (d.swept g d.s) wr) := ⟨by rw [HSP.out.1, ← hi2]; exact S.out⟩
      clear hi2 S
      have oks := swept_ok OK.out HG.out.1 (Nat.le_refl d.s)
      have KF : Aside0 (Calls Try.prog 52 #[.pointer (some ⟨db, 0, none⟩), .func (.func 53) #[] #[.pointer (some ⟨bd, 0, none⟩), .pointer (some ⟨bn, 0, none⟩)]] wr (fun e w' => e = .returned (.tuple #[]) ∧ DevA B f w db { d.swept g d.s with un := (Dv.wipe g (d.swept g d.s)).un } w')) := ⟨by
        obtain ⟨f1, hx, m⟩ := SS.out
        obtain ⟨b0, b1⟩ := BX.out _ _ SS.out
        refine (forget_walk hx oks HG.out.2 b0 b1 (by have e := m.old bn HL.out.1; rw [e]; exact HL.out.2)).mono ?_
        rintro e w' ⟨he, h2⟩
        exact ⟨he, h2.under m⟩⟩
      have hmf : ∀ w : World, (Instr.makeFunc (.func 53) #[] #[.pointer (some ⟨bd, 0, none⟩), .pointer (some ⟨bn, 0, none⟩)]).run Try.prog w = .ok (.func (.func 53) #[] #[.pointer (some ⟨bd, 0, none⟩), .pointer (some ⟨bn, 0, none⟩)]) w := fun _ => rfl
      clear c1 c3 oks
      go_upto_region 7 with (go_at_call 52; refine KF.out.mono ?_; rintro e w6 ⟨rfl, h6⟩; have S6 := Aside0.mk h6; clear h6)
      clear c0 c2 hmf
      obtain ⟨d2, hd2⟩ : ∃ d2 : Dv, { d.swept g d.s with un := (Dv.wipe g (d.swept g d.s)).un } = d2 := ⟨_, rfl⟩
      have HD2 := Aside0.mk hd2
      rw [hd2] at S6
      clear hd2 KF
      obtain ⟨b0, b1⟩ := BX.out _ _ S6.out
      have c0 : w6.cell? ⟨bd, 0, none⟩ = some (.pointer (some ⟨db, 0, none⟩)) := blk_cell b0 0
      have c2 : w6.cell? ⟨bn, 0, none⟩ = some (.int .i64 (g : Int)) := blk_cell b1 0
      obtain ⟨f6, ⟨im, imc, vu, vf, vw, hg6⟩, m6⟩ := S6.out
      have hwl : d2.wear.length = d.r := by rw [← HD2.out]; exact OK.out.wl
      have hgr : g < d2.wear.length := by rw [hwl]; exact HG.out.1
      obtain ⟨gw, nw, cw, ew⟩ : ∃ gw nw cw, vw = .slice (some ⟨gw, 0, none⟩) nw cw := by
        obtain ⟨_, hn | ⟨gw, cap', cur, e, _⟩⟩ := Kd.own_of_R hg6.wr
        · rw [hn.2] at hgr; exact absurd hgr (by omega)
        · exact ⟨gw, _, _, e⟩
      subst ew
      have hnw := (R_C hg6.wr).2.1
      have c13 : w6.cell? ⟨db, 13, none⟩ = some (.slice (some ⟨gw, 0, none⟩) nw cw) := hg6.at_ 13
      obtain ⟨k0, k1⟩ := Kd.R_celln (0 : Int) hg6.wr (g : Int) (by omega) (by omega)
      rw [Int.toNat_natCast] at k0 k1
      have hxv : rdOf (0 : Int) d2.wear (g : Int) = d.wear.getD g 0 := by rw [← HD2.out]; rfl
      rw [hxv] at k0
      obtain ⟨x, hx⟩ : ∃ x, d.wear.getD g 0 = x := ⟨_, rfl⟩
      have HX := Aside0.mk hx
      rw [hx] at k0
      have bdr : Below w6.heap.size w6 w6.drew := below_drew (Below.refl _ _)
      have Z := Aside0.mk ((hg6.below bdr).setWr g (wrap64 (x + 1)))
      have M6 := Aside0.mk (m6.trans (Mv.of_below (B := B) (o := (· = db)) (f := f6) (f1 := f6) bdr (Nat.le_trans hg6.base (Nat.le_of_lt (blk_lt hg6.blk))) (fun _ _ => rfl)))
      have m0 : (0 : Int) ≤ (g : Int) := by omega
      have m1 : (g : Int) < (nw : Int) := by omega
      clear hg6 m6 hwl hgr hnw hxv hx b0 b1
      clear bdr
      refine start_ (n := 10) (S := fun w' => w'.cell? ⟨bd, 0, none⟩ = some (.pointer (some ⟨db, 0, none⟩)) ∧ w'.cell? ⟨bn, 0, none⟩ = some (.int .i64 (g : Int)) ∧ w'.cell? ⟨db, 13, none⟩ = some (.slice (some ⟨gw, 0, none⟩) nw cw) ∧ w'.cell? ⟨gw, g, none⟩ = some (.int .i64 x)) (ds := [9]) #[F,F,F,F,F,F,F,F,F,F] (by kernel_rfl) rfl rfl (⟨c0, c2, c13, k0⟩) (fun hHeld => ?_)
      refine take_ (i := 0) (N := some 35) (v := ?_) (a' := ?_) #[T,F,F,F,F,F,F,F,F,F] rfl rfl (by kernel_rfl) (fun _ _ _ h => h) (Or.inl ⟨by rfl, ?_⟩) hHeld ?_ ?_
      rotate_left
      · intro w' s0
        obtain ⟨s1, s2, s3, s4⟩ := s0
        go_simp
        with_reducible rfl
      rotate_left
      · simp only [Act.put, sA, s0_, sS, i64_w, i32_w]
        rfl
      refine pure_ (i := 1) (N := some 36) (v := ?_) (a' := ?_) #[T,T,F,F,F,F,F,F,F,F] rfl rfl (by kernel_rfl) (fun _ _ _ h => h) (Or.inl ⟨by rfl, ?_⟩) ?_ ?_
      rotate_left
      · intro w'
        go_simp
        with_reducible rfl
      rotate_left
      · simp only [Act.put, sA, s0_, sS, i64_w, i32_w]
        rfl
      refine pure_ (i := 2) (N := some 37) (v := ?_) (a' := ?_) #[T,T,T,F,F,F,F,F,F,F] rfl rfl (by kernel_rfl) (fun _ _ _ h => h) (Or.inl ⟨by rfl, ?_⟩) ?_ ?_
      rotate_left
      · intro w'
        go_simp
        with_reducible rfl
      rotate_left
      · simp only [Act.put, sA, s0_, sS, i64_w, i32_w]
        rfl
      refine take_ (i := 3) (N := some 38) (v := ?_) (a' := ?_) #[T,T,T,T,F,F,F,F,F,F] rfl rfl (by kernel_rfl) (fun _ _ _ h => h) (Or.inl ⟨by rfl, ?_⟩) hHeld ?_ ?_
      rotate_left
      · intro w' s0
        obtain ⟨s1, s2, s3, s4⟩ := s0
        go_simp
        with_reducible rfl
      rotate_left
      · simp only [Act.put, sA, s0_, sS, i64_w, i32_w]
        rfl
      refine take_ (i := 4) (N := some 39) (v := ?_) (a' := ?_) #[T,T,T,T,T,F,F,F,F,F] rfl rfl (by kernel_rfl) (fun _ _ _ h => h) (Or.inl ⟨by rfl, ?_⟩) hHeld ?_ ?_
      rotate_left
      · intro w' s0
        obtain ⟨s1, s2, s3, s4⟩ := s0
        go_simp
        with_reducible rfl
      rotate_left
      · simp only [Act.put, sA, s0_, sS, i64_w, i32_w]
        rfl
      refine pure_ (i := 5) (N := some 40) (v := ?_) (a' := ?_) #[T,T,T,T,T,T,F,F,F,F] rfl rfl (by kernel_rfl) (fun _ _ _ h => h) (Or.inl ⟨by rfl, ?_⟩) ?_ ?_
      rotate_left
      · intro w'
        go_simp
        with_reducible rfl
      rotate_left
      · simp only [Act.put, sA, s0_, sS, i64_w, i32_w]
        rfl
      refine take_ (i := 6) (N := some 41) (v := ?_) (a' := ?_) #[T,T,T,T,T,T,T,F,F,F] rfl rfl (by kernel_rfl) (fun _ _ _ h => h) (Or.inl ⟨by rfl, ?_⟩) hHeld ?_ ?_
      rotate_left
      · intro w' s0
        obtain ⟨s1, s2, s3, s4⟩ := s0
        go_simp
        with_reducible rfl
      rotate_left
      · simp only [Act.put, sA, s0_, sS, i64_w, i32_w]
        rfl
      refine pure_ (i := 7) (N := some 42) (v := ?_) (a' := ?_) #[T,T,T,T,T,T,T,T,F,F] rfl rfl (by kernel_rfl) (fun _ _ _ h => h) (Or.inl ⟨by rfl, ?_⟩) ?_ ?_
      rotate_left
      · intro w'
        go_simp
        with_reducible rfl
      rotate_left
      · simp only [Act.put, sA, s0_, sS, i64_w, i32_w]
        rfl
      refine pure_ (i := 8) (N := some 43) (v := ?_) (a' := ?_) #[T,T,T,T,T,T,T,T,T,F] rfl rfl (by kernel_rfl) (fun _ _ _ h => h) (Or.inl ⟨by rfl, ?_⟩) ?_ ?_
      rotate_left
      · intro w'
        go_simp
        with_reducible rfl
      rotate_left
      · simp only [Act.put, sA, s0_, sS, i64_w, i32_w]
        rfl
      refine last_ (i := 9) (N := none) #[T,T,T,T,T,T,T,T,T,T] rfl rfl (by kernel_rfl) (by decide) (fun K hK => ?_)
      refine skip_ (w1 := ?_) (by rfl) rfl ?_ ?_
      rotate_left
      · go_simp
        rfl
      refine hK.out _ _ ?_
      clear hK K
      refine done_ (by kernel_rfl) ?_
      go_wp2
      go_end0
      have e : Dv.wipe g d = { d2 with wear := d2.wear.set g (wrap64 (x + 1)) } := by rw [← HD2.out, ← HX.out]; exact (wipe_of g).symm
      rw [e]
      exact ⟨rfl, f6, ⟨im, imc, vu, vf, _, Z.out.1⟩, M6.out.trans Z.out.2⟩
end
/-! ### Erase, whole -/
section
variable {B : Nat} {f : Owner} {w : World} {db : Nat} {d : Dv}
/-- Erase. -/
theorem erase_full (h : DevX B f w db d) (ok : d.Ok) (hul : d.un.length < 17592186044416) (n : Int) :
    Calls Try.prog 30 #[.pointer (some ⟨db, 0, none⟩), .int .i64 n] w (fun e w' => e = .returned (.int .i64 (d.erase n).2) ∧ DevA B f w db (d.erase n).1 w') := by
  refine erase_walk h ok n ⟨fun fb w3 bd bn h0 h1 hx b0 b1 n0 n1 w4 h4 => ?_⟩
  obtain ⟨g, rfl⟩ : ∃ g : Nat, n = (g : Int) := ⟨n.toNat, by omega⟩
  exact wipe_do b0 b1 n0 n1 (ok.cf (d.count 3).c d.failed) (by show g < d.r; omega) hul h4
end
end Go.Proofs.Ytnkbebdgkidbjaa.Flash
